/-
  What the proof of one law needs: rules of the program logic, functions as Lean functions, contracts. No condition but what each says. Written by a program (pack.py) out of my own texts.
-/
import Derived.Test.YtpmejlbgjkiobaaGreatKRecomputeRoutes5
open Go.IntKind (i64)
set_option linter.unusedVariables false
set_option linter.unusedSimpArgs false
namespace Go.Proofs.YtpmejlbgjkiobaaGreat
open Go.Stp
open Go.Stp.GoT (ok)
variable {w : World} (n : Nat) {K0 K1 : Option Addr} {M0 M1 : Nat}
theorem f442 (hn : n + 0 ≤ 9) {x_ : Str} (a0 : ok n x_) :
 DP 442 #[.string x_] w (pB (afu x_)) := by
 refine EN Tryz.func442 Z adb ?_
 exact R4r Z Z (by simp only [afu, cT, cF])
theorem f401 (hn : n + 0 ≤ 9) {x_ : Str} {y : Str} (a0 : ok n x_) (a1 : ok n y) :
 DP 401 #[.string x_, .string y] w (pI n (adl x_ y)) := by
 have hb := bS0 hn
 refine EN Tryz.func401 Z adb ?_
 refine KV Z Z Z Z Z Z O Z (fun w γ => f442 n τ0 a0) fun a3 => ?_
 refine KV Z Z Z Z Z Z O Z (fun w γ => f442 n τ0 a1) fun a2 => ?_
 refine yKA 11 ?_ ?_ <;> intro h1
 refine yKA 12 ?_ ?_ <;> intro h2
 rw [show adl x_ y = 0 by simp only [adl, h1, h2, cT, cF]]
 exact R6r Z Z (i6 0)
 rw [show adl x_ y = (-1) by simp only [adl, h1, h2, cT, cF]]
 exact R6r Z Z (i6 (-1))
 refine yKA 13 ?_ ?_ <;> intro h3
 rw [show adl x_ y = 1 by simp only [adl, h1, h3, cT, cF]]
 exact R6r Z Z (i6 1)
 refine yKA 16 ?_ ?_ <;> intro h4
 rw [show adl x_ y = (-1) by simp only [adl, h1, h3, h4, cT, cF]]
 exact R6r Z Z (i6 (-1))
 refine yKA 19 ?_ ?_ <;> intro h5
 rw [show adl x_ y = 1 by first | (simp only [adl, h1, h3, h4, h5, cT, cF]; done) | (unfold adl; rw [h5, h4, h1, h3]; simp only [cT, cF])]
 exact R6r Z Z (i6 1)
 rw [show adl x_ y = 0 by first | (simp only [adl, h1, h3, h4, h5, cT, cF]; done) | (unfold adl; rw [h5, h4, h1, h3]; simp only [cT, cF])]
 exact R6r Z Z (i6 0)
theorem f365 (hn : n + 0 ≤ 9) {s1 : List Str} (N0 : Rd w K0 M0 s1) {s2 : List Str} (N1 : Rd w K1 M1 s2) (a0 : ok n s1) (a1 : ok n s2) :
 DP 365 #[vS K0 s1 M0, vS K1 s2 M1] w (pI n (ae4 s1 s2)) := by
 have hb := bS0 hn
 refine EN Tryz.func365 Z (aS2 N0 N1) ?_
 have r1 := (okl a0).1
 refine LM Z 0 (fun i => ((i ≤ s1.length) ∧ (aee s2 s1 0 = aee s2 (s1.drop i) i), s1.length - i, [(11, .v (vI i))], [], [], [])) ⟨zl, Z⟩ [10, 9, 0, 1] [] [0, 1] [0, 1] ?_
 rintro i ⟨v1, v2⟩
 refine yKD 12 ?_ ?_ <;> intro h1 ac
 have a4 : i < s1.length := τ0
 obtain ⟨e1, a2⟩ := gE a4
 have ab := okE a0 a2
 refine yI 0 i a4 ?_
 rintro ad rfl
 refine zL 0 2 e1 a2 ?_
 rintro ⟨⟩
 refine yKD 19 ?_ ?_ <;> intro h2 ah
 have a9 := v2.trans (show _ = (some 1) by rw [acx a2]; simp only [aee, h2, cT, cF])
 rw [show ae4 s1 s2 = 1 by simp only [ae4, a9, cT, cF]]
 exact R6r Z Z (i6 1)
 have a5 : i < s2.length := τ3
 obtain ⟨e2, a3⟩ := gE a5
 have a8 := okE a1 a3
 refine yI 1 i a5 ?_
 rintro ae rfl
 refine zL 1 2 e2 a3 ?_
 rintro ⟨⟩
 refine KV Z Z Z Z Z Z O Z (fun w γ => f401 n τ0 ab a8) fun aa => ?_
 refine yKM 28 ?_ ?_ <;> intro h3 af
 have a7 := v2.trans (show _ = (some (adl e1 e2)) by rw [acx a2]; simp only [aee, h2, a3, h3, cT, cF])
 rw [show ae4 s1 s2 = (adl e1 e2) by simp only [ae4, a7, cT, cF]]
 exact R6r Z Z aa
 refine SA ?_
 exact ITr Z (i + 1) ⟨τ0, (by rw [v2, acx a2]; simp only [aee, h2, a3, h3, cT, cF])⟩ τ1 [0, 1]
 have a6 := v2.trans (show _ = none by rw [dn (show s1.length ≤ i by omega)]; simp only [aee, cT, cF])
 refine yKD 35 ?_ ?_ <;> intro h4 ag
 rw [show ae4 s1 s2 = (-1) by simp only [ae4, a6, h4, cT, cF]]
 exact R6r Z Z (i6 (-1))
 rw [show ae4 s1 s2 = 0 by simp only [ae4, a6, h4, cT, cF]]
 exact R6r Z Z (i6 0)
theorem f293 (hn : n + 0 ≤ 9) (a : Name) (N0 : Rd w K0 M0 a.parts) (b : Name) (N1 : Rd w K1 M1 b.parts) (a0 : ok n a) (a1 : ok n b) :
 DP 293 #[.agg #[vS K0 a.parts M0], .agg #[vS K1 b.parts M1]] w (pI n (ack a b)) := by
 have hb := bS0 hn
 refine EN Tryz.func293 Z (aS2 N0 N1) ?_
 refine KV Z Z Z Z Z Z O Z (fun w γ => f365 n τ0 (γ.q 0 Z) (γ.q 1 Z) (ae6 a0) (ae6 a1)) fun a2 => ?_
 rw [show ack a b = (ae4 a.parts b.parts) by simp only [ack, cT, cF]]
 exact R6r Z Z a2
theorem f191 (hn : n + 0 ≤ 9) {l : List TableEntry} (N0 : Rd w K0 M0 l) (a0 : ok n l) :
 DP 191 #[vS K0 l M0] w (pB (acf l)) := by
 have hb := bS0 hn
 refine EN Tryz.func191 Z (aS1 N0) ?_
 have r1 := (okl a0).1
 refine LM Z 0 (fun i => ((i ≤ l.length) ∧ (a65 l l 0 = a65 l (l.drop i) i), l.length - i, [(7, .v (vI i))], [], [], [])) ⟨zl, Z⟩ [6, 5, 0] [] [0] [0] ?_
 rintro i ⟨v1, v2⟩
 refine yKD 8 ?_ ?_ <;> intro h1 ad
 have a3 : i < l.length := τ0
 obtain ⟨e1, a1⟩ := gE a3
 have a6 := okE a0 a1
 refine yI 0 i a3 ?_
 rintro af rfl
 refine zL 0 1 e1 a1 ?_
 rintro ⟨⟨p1, c1⟩, ⟨⟩⟩
 refine R0 ?_
 refine WX.draw [] mixed fun bs G0 a5 => ?_
 refine dT 18 [1, 2] ?_
 refine DXV 2 Z J Z Z Z Z Z Z O Z (fun w γ => f287 n τ0 e1.name (γ.q 1 Z) ((ads a6).1)) fun ah => ?_
 refine dT 15 [7, 9] ?_
 refine zDC 16 ?_ ?_ <;> intro h2
 have ab := B.nt h2
 refine dT 0 [11, 13, 15, 17, 19, 21, 23, 25, 27, 29, 31, 33, 35, 37, 39] ?_
 refine DX.tail2 [] Z Z J ?_
 have aa := v2.trans (show _ = (some false) by rw [acx a1]; simp only [a65, h2, cT, cF])
 exact R4r Z Z (by simp only [acf, aa, cT, cF])
 have ab := B.nf h2
 refine dT 12 [11, 13, 15] ?_
 refine zDC 19 ?_ ?_ <;> intro h3
 have a9 := B.dt h3
 refine dT 10 [17, 19] ?_
 refine DX.seeP 10 J Z Z Z Z (ahj Z Z Z Z τ9) ?_
 refine DX.slot 22 (y := .v (.int .i64 (((((i : Nat) : Int) - 1).toNat : Nat) : Int))) Z (fun _ => congrArg (Value.int .i64) (show ((i : Nat) : Int) - 1 = (((((i : Nat) : Int) - 1).toNat : Nat) : Int) from by omega)) ?_
 have a4 : (((i : Nat) : Int) - 1).toNat < l.length := τ3
 obtain ⟨e2, a2⟩ := gE a4
 have a8 := okE a0 a2
 refine zDI 11 0 ((((i : Nat) : Int) - 1).toNat) a5 Z a4 ?_
 rintro ag ⟨⟩
 refine dT 7 [25] ?_
 refine zDL 13 0 2 e2 a5 a2 ?_
 rintro ⟨⟨p2, c2⟩, ⟨⟩⟩
 refine dT 4 [29, 30] ?_
 refine DXV 16 Z J Z Z Z Z Z Z O Z (fun w γ => f293 n τ0 e2.name (γ.q 2 Z) e1.name (γ.q 1 Z) ((ads a8).1) ((ads a6).1)) fun ae => ?_
 refine dT 0 [35, 37, 39] ?_
 refine DX.tail2 [] Z Z J ?_
 refine yKD 31 ?_ ?_ <;> intro h4 ai
 have a7 := v2.trans (show _ = (some false) by rw [acx a1]; simp only [a65, h2, h3, a2, h4, cT, cF])
 exact R4r Z Z (by simp only [acf, a7, cT, cF])
 refine SA ?_
 exact ITr Z (i + 1) ⟨τ0, (by rw [v2, acx a1]; simp only [a65, h2, h3, a2, h4, cT, cF])⟩ τ1 [0]
 have a9 := B.df h3
 refine dT 0 [17, 19, 21, 23, 25, 27, 29, 31, 33, 35, 37, 39] ?_
 refine DX.tail2 [] Z Z J ?_
 refine SA ?_
 exact ITr Z (i + 1) ⟨τ0, (by rw [v2, acx a1]; simp only [a65, h2, h3, cT, cF])⟩ τ1 [0]
 have ac := v2.trans (show _ = none by rw [dn (show l.length ≤ i by omega)]; simp only [a65, cT, cF])
 exact R4r Z Z (by simp only [acf, ac, cT, cF])
theorem f177 (hn : n + 0 ≤ 9) {l : List TableEntry} (N0 : Rd w K0 M0 l) (a0 : ok n l) :
 DP 177 #[vS K0 l M0] w (pB (acg l)) := by
 have hb := bS0 hn
 refine EN Tryz.func177 Z (aS1 N0) ?_
 have r1 := (okl a0).1
 refine LM Z 0 (fun i => ((i ≤ l.length) ∧ (a66 l l 0 = a66 l (l.drop i) i), l.length - i, [(3, .v (vI i))], [], [], [])) ⟨zl, Z⟩ [0] [] [0] [0] ?_
 rintro i ⟨v1, v2⟩
 refine yKD 7 ?_ ?_ <;> intro h1 ad
 have a4 : i < l.length := τ0
 obtain ⟨e1, a1⟩ := gE a4
 have a6 := okE a0 a1
 refine R0 ?_
 refine WX.draw [] mixed fun bs G0 a2 => ?_
 refine dT 24 [1, 3] ?_
 refine zDI 2 0 i a2 Z a4 ?_
 rintro af rfl
 refine dT 22 [7] ?_
 refine zDL 4 0 1 e1 a2 a1 ?_
 rintro ⟨⟨p1, c1⟩, ⟨⟩⟩
 refine DXV 5 Z J Z Z Z Z Z Z O Z (fun w γ => f278 n τ0 e1.name (γ.q 1 Z) ((ads a6).1)) fun ah => ?_
 refine dT 18 [13, 15] ?_
 refine zDC 17 ?_ ?_ <;> intro h2
 have ab := B.nt h2
 refine dT 0 [17, 19, 21, 23, 25, 27, 29, 31, 33, 35, 37, 39, 41, 43, 45, 47, 49, 51] ?_
 refine DX.tail2 [] Z Z J ?_
 have aa := v2.trans (show _ = (some false) by rw [acx a1]; simp only [a66, h2, cT, cF])
 exact R4r Z Z (by simp only [acg, aa, cT, cF])
 have ab := B.nf h2
 refine dT 15 [17, 19, 21] ?_
 refine zDC 20 ?_ ?_ <;> intro h3
 have a9 := B.dt h3
 refine dT 13 [23, 25] ?_
 refine DX.seeP 13 J Z Z Z Z (ahj Z Z Z Z τ9) ?_
 refine DX.slot 23 (y := .v (.int .i64 (((((i : Nat) : Int) - 1).toNat : Nat) : Int))) Z (fun _ => congrArg (Value.int .i64) (show ((i : Nat) : Int) - 1 = (((((i : Nat) : Int) - 1).toNat : Nat) : Int) from by omega)) ?_
 have a5 : (((i : Nat) : Int) - 1).toNat < l.length := τ3
 obtain ⟨e2, a3⟩ := gE a5
 have a8 := okE a0 a3
 refine zDI 14 0 ((((i : Nat) : Int) - 1).toNat) a2 Z a5 ?_
 rintro ag ⟨⟩
 refine dT 10 [31] ?_
 refine zDL 16 0 2 e2 a2 a3 ?_
 rintro ⟨⟨p2, c2⟩, ⟨⟩⟩
 refine dT 7 [35, 37] ?_
 refine zDI 19 0 i a2 Z a4 ?_
 rintro aj ⟨⟩
 refine dT 5 [41] ?_
 refine zDL 21 0 3 e1 a2 a1 ?_
 rintro ⟨⟨p3, c3⟩, ⟨⟩⟩
 refine DXV 22 Z J Z Z Z Z Z Z O Z (fun w γ => f282 n τ0 e2.name (γ.q 2 Z) e1.name (γ.q 3 Z) ((ads a8).1) ((ads a6).1)) fun ae => ?_
 refine dT 0 [47, 49, 51] ?_
 refine DX.tail2 [] Z Z J ?_
 refine yKD 35 ?_ ?_ <;> intro h4 ai
 have a7 := v2.trans (show _ = (some false) by rw [acx a1]; simp only [a66, h2, h3, a3, h4, cT, cF])
 exact R4r Z Z (by simp only [acg, a7, cT, cF])
 refine SA ?_
 exact ITr Z (i + 1) ⟨τ0, (by rw [v2, acx a1]; simp only [a66, h2, h3, a3, h4, cT, cF])⟩ τ1 [0]
 have a9 := B.df h3
 refine dT 0 [23, 25, 27, 29, 31, 33, 35, 37, 39, 41, 43, 45, 47, 49, 51] ?_
 refine DX.tail2 [] Z Z J ?_
 refine SA ?_
 exact ITr Z (i + 1) ⟨τ0, (by rw [v2, acx a1]; simp only [a66, h2, h3, cT, cF])⟩ τ1 [0]
 have ac := v2.trans (show _ = none by rw [dn (show l.length ≤ i by omega)]; simp only [a66, cT, cF])
 exact R4r Z Z (by simp only [acg, ac, cT, cF])
theorem f294 (hn : n + 0 ≤ 9) {s : List TableEntry} (N0 : Rd w K0 M0 s) (fg : FuncId) (fc : List Value) (fq : TableEntry → Bool) (ff : ∀ w1, Kp emp w w1 → ∀ (e0 : TableEntry) (x0 : GoT.X TableEntry), ok n e0 → All (hp w1) (GoT.fa .der e0 x0) → Does Tryz.prog fg ([Value.agg ⟨GoT.sh e0 x0⟩] ++ fc).toArray w1 emp (fun rv _ => rv = .bool (fq e0) ∧ True)) (a0 : ok n s) :
 DP 294 #[vS K0 s M0, .func (.func fg) #[] fc.toArray] w (pI n (ae5 s fq)) := by
 have hb := bS0 hn
 refine EN Tryz.func294 Z (aS1 N0) ?_
 have r1 := (okl a0).1
 refine LM Z 0 (fun i => ((i ≤ s.length) ∧ (adn fq s 0 = adn fq (s.drop i) i), s.length - i, [(8, .v (vI i))], [], [], [])) ⟨zl, Z⟩ [7, 0, 1] [] [0] [0] ?_
 rintro i ⟨v1, v2⟩
 refine yKD 9 ?_ ?_ <;> intro h1 a6
 have a2 : i < s.length := τ0
 obtain ⟨e1, a1⟩ := gE a2
 have a4 := okE a0 a1
 refine yI 0 i a2 ?_
 rintro a7 rfl
 refine zL 0 1 e1 a1 ?_
 rintro ⟨⟨p1, c1⟩, ⟨⟩⟩
 refine WX.callV Z Z Z Z Z O Z (fun w G bs hI hΓ => ff w hI.keep e1 ((p1, c1), ()) a4 (All.cons (hΓ.get 1 Z : RdSl _ _ _ _) All.nil)) fun a8 => ?_
 refine yKA 16 ?_ ?_ <;> intro h2
 have a3 := v2.trans (show _ = (some ((i : Nat) : Int)) by rw [acx a1]; simp only [adn, h2, cT, cF])
 rw [show ae5 s fq = ((i : Nat) : Int) by simp only [ae5, a3, cT, cF]]
 exact R6r Z Z (i6 ((i : Nat) : Int))
 refine SA ?_
 exact ITr Z (i + 1) ⟨τ0, (by rw [v2, acx a1]; simp only [adn, h2, cT, cF])⟩ τ1 [0]
 have a5 := v2.trans (show _ = none by rw [dn (show s.length ≤ i by omega)]; simp only [adn, cT, cF])
 rw [show ae5 s fq = (-1) by simp only [ae5, a5, cT, cF]]
 exact R6r Z Z (i6 (-1))
theorem afn : ∀ (f : TableEntry → Bool) (l : List TableEntry) (i : Nat) (j : Int), adn f l i = some j → j < ((i + l.length : Nat) : Int)
 | f, [], i, j, h => by cases h
 | f, x :: l, i, j, h => by
  simp only [adn] at h
  cases hx : f x
  ·rw [hx, cond_false] at h
   have := afn f l (i + 1) j h
   simp only [List.length_cons]; omega
  ·rw [hx, cond_true] at h
   cases h
   simp only [List.length_cons]; omega
theorem agv (l : List TableEntry) (f : TableEntry → Bool) : ae5 l f < ((l.length : Nat) : Int) := by
 unfold ae5
 cases h : adn f l 0 with
 | none => show (-1 : Int) < _; omega
 | some j => have := afn f l 0 j h; show j < _; omega
theorem f192 (hn : n + 0 ≤ 9) {s : List TableEntry} (N0 : Rd w K0 M0 s) (fg : FuncId) (fc : List Value) (fq : TableEntry → Bool) (ff : ∀ w1, Kp emp w w1 → ∀ (e0 : TableEntry) (x0 : GoT.X TableEntry), ok n e0 → All (hp w1) (GoT.fa .der e0 x0) → Does Tryz.prog fg ([Value.agg ⟨GoT.sh e0 x0⟩] ++ fc).toArray w1 emp (fun rv _ => rv = .bool (fq e0) ∧ True)) (a0 : ok n s) :
 DP 192 #[vS K0 s M0, .func (.func fg) #[] fc.toArray] w (pB (afb s fq)) := by
 have hb := bS0 hn
 refine EN Tryz.func192 Z (aS1 N0) ?_
 refine KW Z Z Z Z Z Z O Z (fun w G bs hI hΓ => f294 n τ0 (hΓ.get 0 Z) fg fc fq (fun a2 a1 => ff a2 (hI.keep.trans a1)) a0) fun a3 => ?_
 have q1 := agv s fq
 exact R4r Z Z (by simp only [afb, cT, cF])
end Go.Proofs.YtpmejlbgjkiobaaGreat
namespace Go.Stp
def af8 (x_ : Int) : Bool := (x_ != x_)
def ad5 (x_ : Int) (y : Int) : Int := bif (af8 x_) then bif (af8 y) then 0 else (-1) else bif (af8 y) then 1 else bif decide (x_ < y) then (-1) else bif decide (x_ > y) then 1 else 0
def afp : List Int → Option (Int) | [] => none | e1 :: rest_ => bif (e1 != 0) then (some e1) else afp rest_
def agy (vals : (List Int)) : Int := match afp vals with | some r_ => r_ | none => 0
def abt (a : Link) (b : Link) : Int := (agy ([(ad5 a.a b.a), (ad5 a.b b.b)]))
def a2e (n_ : Topology) : List Link → Nat → Option (Bool) | [], i => none | e1 :: rest_, i => bif (!(a0u e1.a 0 (i64.wrap (n_.size - 1)))) then (some false) else bif (!(a0u e1.b (i64.wrap (e1.a + 1)) (i64.wrap (n_.size - 1)))) then (some false) else bif decide (((i : Nat) : Int) > 0) then match (n_.links)[(((i : Nat) : Int) - 1).toNat]? with | none => default | some e2 => bif decide ((abt e2 e1) ≥ 0) then (some false) else a2e n_ rest_ (i + 1) else a2e n_ rest_ (i + 1)
def a3l (n_ : Topology) : Bool := match a2e n_ n_.links 0 with | some r_ => r_ | none => (a0u n_.size 1 6)
def aaw (a : Link) (b : Link) : Bool := bif decide (a.a < b.a) then true else bif (a.a == b.a) then (decide (a.b < b.b)) else false
def a2o (n_ : Topology) : List Link → Nat → Option (Bool) | [], i => none | e1 :: rest_, i => bif (!(a0m e1.a 0 (i64.wrap (n_.size - 1)))) then (some false) else bif (!(a0m e1.b 0 (i64.wrap (n_.size - 1)))) then (some false) else bif decide (e1.a ≥ e1.b) then (some false) else bif decide (((i : Nat) : Int) > 0) then match (n_.links)[(((i : Nat) : Int) - 1).toNat]? with | none => default | some e2 => bif (!(aaw e2 e1)) then (some false) else a2o n_ rest_ (i + 1) else a2o n_ rest_ (i + 1)
def a3m (n_ : Topology) : Bool := match a2o n_ n_.links 0 with | some r_ => r_ | none => (a0m n_.size 1 6)
def NT (o : Option Bool) : Prop := o = none ∨ o = some false
theorem NT.no : NT none := .inl rfl
theorem NT.sf : NT (some false) := .inr rfl
theorem ntc {c : Bool} {a b : Option Bool} (ha : NT a) (hb : NT b) : NT (bif c then a else b) := by
 cases c
 ·exact hb
 ·exact ha
theorem vtN (n_ : Topology) : ∀ (l : List Link) (i : Nat), NT (a2o n_ l i)
 | [], i => NT.no
 | x :: l, i => by
  have ih := vtN n_ l (i + 1)
  simp only [a2o]
  refine ntc .sf (ntc .sf (ntc .sf (ntc ?_ ih)))
  cases (n_.links)[(((i : Nat) : Int) - 1).toNat]? with
  | none => exact .no
  | some e2 => exact ntc .sf ih
def acl (size : Int) (e_ : TableEntry) : Bool := (!(a0u e_.value 0 (i64.wrap (size - 1))))
def acm (h_ : (List TableEntry)) (size : Int) : Bool := bif (acf h_) then (!(afb h_ (fun e0_ => (acl size e0_)))) else false
def aax (size : Int) : List TableEntry → Option (Bool) | [] => none | e1 :: rest_ => bif (!(a0m e1.value 0 (i64.wrap (size - 1)))) then (some false) else aax size rest_
def acn (h_ : (List TableEntry)) (size : Int) : Bool := match aax size h_ with | some r_ => r_ | none => (acg h_)
def a4l (a : Int) (b : Int) (k : Link) : Bool := bif (k.a == a) then bif (k.b == b) then true else bif (k.a == b) then (k.b == a) else false else bif (k.a == b) then (k.b == a) else false
def adq (fq : Link → Bool) : List Link → Nat → Option (Int) | [], i => none | e1 :: rest_, i => bif fq e1 then (some ((i : Nat) : Int)) else adq fq rest_ (i + 1)
def aea (s : (List Link)) (fq : Link → Bool) : Int := match adq fq s 0 with | some r_ => r_ | none => (-1)
def abu (n_ : Topology) (a : Int) (b : Int) : Int := (aea n_.links (fun e0_ => (a4l a b e0_)))
def a27 (a : Int) (b : Int) : List Link → Nat → Option (Int) | [], i => none | e1 :: rest_, i => bif (e1.a == a) then bif (e1.b == b) then (some ((i : Nat) : Int)) else bif (e1.a == b) then bif (e1.b == a) then (some ((i : Nat) : Int)) else a27 a b rest_ (i + 1) else a27 a b rest_ (i + 1) else bif (e1.a == b) then bif (e1.b == a) then (some ((i : Nat) : Int)) else a27 a b rest_ (i + 1) else a27 a b rest_ (i + 1)
def a42 (n_ : Topology) (a : Int) (b : Int) : Int := match a27 a b n_.links 0 with | some r_ => r_ | none => (-1)
def a54 (n_ : Topology) (a : Int) : Nat → Nat → (List Int) → (List Int) | 0, i, out => ((out) : List Int) | m_ + 1, i, out => bif decide ((abu n_ a ((i : Nat) : Int)) ≥ 0) then a54 n_ a m_ (i + 1) (((out ++ [((i : Nat) : Int)])) : List Int) else a54 n_ a m_ (i + 1) ((out) : List Int)
def a4m (n_ : Topology) (a : Int) : (List Int) := match a54 n_ a ((max 0 (min n_.size 6)).toNat) 0 ([] : List Int) with | out => out
def a38 (n_ : Topology) (a : Int) : Nat → Nat → (List Int) → (List Int) | 0, i, out => ((out) : List Int) | m_ + 1, i, out => bif decide (((i : Nat) : Int) < 6) then bif decide ((a42 n_ a ((i : Nat) : Int)) ≥ 0) then a38 n_ a m_ (i + 1) (((out ++ [((i : Nat) : Int)])) : List Int) else a38 n_ a m_ (i + 1) ((out) : List Int) else ((out) : List Int)
def a17 (n_ : Topology) (a : Int) : (List Int) := match a38 n_ a ((n_.size).toNat) 0 ([] : List Int) with | out => out
end Go.Stp
namespace Go.Proofs.YtpmejlbgjkiobaaGreat
open Go.Stp
open Go.Stp.GoT (ok)
variable {w : World} (n : Nat) {K0 : Option Addr} {M0 : Nat}
theorem f269 (hn : n + 0 ≤ 9) {x_ : Int} (a0 : ok n x_) :
 DP 269 #[vI x_] w (pB (af8 x_)) := by
 refine EN Tryz.func269 Z adb ?_
 exact R4r Z Z (by simp only [af8, cT, cF])
theorem f158 (hn : n + 0 ≤ 9) {x_ : Int} {y : Int} (a0 : ok n x_) (a1 : ok n y) :
 DP 158 #[vI x_, vI y] w (pI n (ad5 x_ y)) := by
 have hb := bS0 hn
 refine EN Tryz.func158 Z adb ?_
 refine KV Z Z Z Z Z Z O Z (fun w γ => f269 n τ0 a0) fun a2 => ?_
 refine KV Z Z Z Z Z Z O Z (fun w γ => f269 n τ0 a1) fun a4 => ?_
 refine yKA 11 ?_ ?_ <;> intro h1
 refine yKA 12 ?_ ?_ <;> intro h2
 rw [show ad5 x_ y = 0 by simp only [ad5, h1, h2, cT, cF]]
 exact R6r Z Z (i6 0)
 rw [show ad5 x_ y = (-1) by simp only [ad5, h1, h2, cT, cF]]
 exact R6r Z Z (i6 (-1))
 refine yKA 13 ?_ ?_ <;> intro h3
 rw [show ad5 x_ y = 1 by simp only [ad5, h1, h3, cT, cF]]
 exact R6r Z Z (i6 1)
 refine yKD 16 ?_ ?_ <;> intro h4 a5
 rw [show ad5 x_ y = (-1) by simp only [ad5, h1, h3, h4, cT, cF]]
 exact R6r Z Z (i6 (-1))
 refine yKD 19 ?_ ?_ <;> intro h5 a3
 rw [show ad5 x_ y = 1 by simp only [ad5, h1, h3, h4, h5, cT, cF]]
 exact R6r Z Z (i6 1)
 rw [show ad5 x_ y = 0 by simp only [ad5, h1, h3, h4, h5, cT, cF]]
 exact R6r Z Z (i6 0)
theorem f157 (hn : n + 0 ≤ 9) {vals : List Int} (N0 : Rd w K0 M0 vals) (a0 : ok n vals) :
 DP 157 #[vS K0 vals M0] w (pI n (agy vals)) := by
 have hb := bS0 hn
 refine EN Tryz.func157 Z (aS1 N0) ?_
 have r1 := (okl a0).1
 refine LM Z 0 (fun i => ((i ≤ vals.length) ∧ (afp vals = afp (vals.drop i)), vals.length - i, [(8, .v (vI i))], [], [], [])) ⟨zl, Z⟩ [7, 6, 3] [] [0] [0] ?_
 rintro i ⟨v1, v2⟩
 refine yKD 9 ?_ ?_ <;> intro h1 a8
 have a2 : i < vals.length := τ0
 obtain ⟨e1, a1⟩ := gE a2
 have a3 := okE a0 a1
 refine yI 0 i a2 ?_
 rintro a6 rfl
 refine zL 0 1 e1 a1 ?_
 rintro ⟨⟩
 refine yKM 14 ?_ ?_ <;> intro h2 a7
 have a4 := v2.trans (show _ = (some e1) by rw [acx a1]; simp only [afp, h2, cT, cF])
 rw [show agy vals = e1 by simp only [agy, a4, cT, cF]]
 exact R6r Z Z a3
 refine SA ?_
 exact ITr Z (i + 1) ⟨τ0, (by rw [v2, acx a1]; simp only [afp, h2, cT, cF])⟩ τ1 [0]
 have a5 := v2.trans (show _ = none by rw [dn (show vals.length ≤ i by omega)]; simp only [afp, cT, cF])
 rw [show agy vals = 0 by simp only [agy, a5, cT, cF]]
 exact R6r Z Z (i6 0)
theorem f148 (hn : n + 0 ≤ 9) (a : Link) (b : Link) (a0 : ok n a) (a1 : ok n b) :
 DP 148 #[.agg #[vI a.a, vI a.b], .agg #[vI b.a, vI b.b]] w (pI n (abt a b)) := by
 have hb := bS0 hn
 refine EN Tryz.func148 Z adb ?_
 refine R0 ?_
 refine WX.draw [11, 12] mixed fun bs G0 a5 => ?_
 refine dT 5 [1, 2, 5, 6, 11, 12, 15, 16] ?_
 refine DXV 4 Z J Z Z Z Z Z Z O Z (fun w γ => f158 n τ0 (x_ := a.a) (y := b.a) ((ag8 a0).1) ((ag8 a1).1)) fun a2 => ?_
 refine DXV 9 Z J Z Z Z Z Z Z O Z (fun w γ => f158 n τ0 (x_ := a.b) (y := b.b) ((ag8 a0).2) ((ag8 a1).2)) fun a3 => ?_
 refine DX.tail2 [10, 11, 12] Z Z J ?_
 refine zB fun p1 => ?_
 refine WX.turn [] 0 Z (fun h hs => aj0 (⟨(), _, emp, _, Z, aew _, Le.refl _, ag7 _, trivial, ⟨(), _, emp, _, Z, aew _, Le.refl _, ag7 _, trivial, Z⟩⟩ : OwL _ _ ([(ad5 a.a b.a), (ad5 a.b b.b)] : List Int))) (gs := [MF.ol [.int .i64 ((ad5 a.a b.a)), .int .i64 ((ad5 a.b b.b))] ([(ad5 a.a b.a), (ad5 a.b b.b)] : List Int)]) Z ?_
 refine zE 15 0 1 ?_
 have r1 := i8 ((ag8 a0).1)
 have r2 := i8 ((ag8 a0).2)
 have r3 := i8 ((ag8 a1).1)
 have r4 := i8 ((ag8 a1).2)
 have r5 := i8 a2
 have r6 := i8 a3
 refine CV Z Z Z Z Z O Z (fun w γ => f157 n τ0 (vals := ([(ad5 a.a b.a), (ad5 a.b b.b)])) (γ.q 1 Z) (ada τ6 (all_cons (α := Int) a2 (all_cons (α := Int) a3 nA)) : ok n ([(ad5 a.a b.a), (ad5 a.b b.b)] : List Int))) fun a4 => ?_
 rw [show abt a b = (agy ([(ad5 a.a b.a), (ad5 a.b b.b)])) by simp only [abt, cT, cF]]
 exact R6r Z Z a4
theorem f53 (hn : n + 0 ≤ 9) (n_ : Topology) (N0 : Rd w K0 M0 n_.links) (a0 : ok n n_) :
 DP 53 #[aeu n_ K0 M0] w (pB (a3l n_)) := by
 have hb := bS0 hn
 refine EN Tryz.func53 Z (aS1 N0) ?_
 have r1 := (okl (ad0 a0).2).1
 refine LM Z 0 (fun i => ((i ≤ n_.links.length) ∧ (a2e n_ n_.links 0 = a2e n_ (n_.links.drop i) i), n_.links.length - i, [(8, .v (vI i))], [], [], [])) ⟨zl, Z⟩ [7, 6, 1] [1] [0] [0] ?_
 rintro i ⟨v1, v2⟩
 refine yKD 9 ?_ ?_ <;> intro h1 af
 have a4 : i < n_.links.length := τ0
 obtain ⟨e1, a1⟩ := gE a4
 have a3 := okE (ad0 a0).2 a1
 refine yI 0 i a4 ?_
 rintro aj rfl
 refine zL 0 1 e1 a1 ?_
 rintro ⟨⟨⟩, ⟨⟩⟩
 refine R0 ?_
 refine WX.draw [] mixed fun bs G0 a6 => ?_
 refine dT 30 [1, 2, 5, 6] ?_
 refine DX.seeP 4 J Z Z Z Z (ahb Z Z Z Z) ?_
 refine DXV 5 Z J Z Z Z Z Z Z O Z (fun w γ => f54 n τ0 ((ag8 a3).1) (i6 0) (ad3 _)) fun am => ?_
 refine dT 26 [13, 15] ?_
 refine zDC 20 ?_ ?_ <;> intro h2
 have ad := B.nt h2
 refine dT 0 [17, 19, 21, 23, 25, 27, 29, 31, 33, 35, 37, 39, 41, 43, 45, 47, 49, 51, 53, 55, 57, 59, 61, 63, 65, 67] ?_
 refine DX.tail2 [] Z Z J ?_
 have ab := v2.trans (show _ = (some false) by rw [acx a1]; simp only [a2e, h2, cT, cF])
 exact R4r Z Z (by simp only [a3l, ab, cT, cF])
 have ad := B.nf h2
 have ao := agm (B.nf h2)
 refine dT 22 [17, 18, 21, 22] ?_
 refine DX.seeP 12 J Z Z Z Z (ahb Z Z Z Z) ?_
 refine dT 19 [27, 28] ?_
 refine DX.seeP 15 J Z Z Z Z (ahb Z Z Z Z) ?_
 refine DXV 16 Z J Z Z Z Z Z Z O Z (fun w γ => f54 n τ0 ((ag8 a3).2) (ad3 _) (ad3 _)) fun ah => ?_
 refine dT 14 [35, 37, 39] ?_
 refine zDC 32 ?_ ?_ <;> intro h3
 have a9 := B.nt h3
 refine dT 0 [41, 43, 45, 47, 49, 51, 53, 55, 57, 59, 61, 63, 65, 67] ?_
 refine DX.tail2 [] Z Z J ?_
 have a7 := v2.trans (show _ = (some false) by rw [acx a1]; simp only [a2e, h2, h3, cT, cF])
 exact R4r Z Z (by simp only [a3l, a7, cT, cF])
 have a9 := B.nf h3
 have an := agm (B.nf h3)
 refine dT 11 [41, 43, 45] ?_
 refine zDC 35 ?_ ?_ <;> intro h4
 have ac := B.dt h4
 refine dT 8 [47, 48, 51] ?_
 refine DX.seeP 26 J Z Z Z Z (ahj Z Z Z Z τ9) ?_
 refine DX.slot 39 (y := .v (.int .i64 (((((i : Nat) : Int) - 1).toNat : Nat) : Int))) Z (fun _ => congrArg (Value.int .i64) (show ((i : Nat) : Int) - 1 = (((((i : Nat) : Int) - 1).toNat : Nat) : Int) from by omega)) ?_
 have a5 : (((i : Nat) : Int) - 1).toNat < n_.links.length := τ3
 obtain ⟨e2, a2⟩ := gE a5
 have a8 := okE (ad0 a0).2 a2
 refine zDI 27 0 ((((i : Nat) : Int) - 1).toNat) a6 Z a5 ?_
 rintro al ⟨⟩
 refine zDL 28 0 1 e2 a6 a2 ?_
 rintro ⟨⟨⟩, ⟨⟩⟩
 refine dT 4 [58] ?_
 refine DXV 30 Z J Z Z Z Z Z Z O Z (fun w γ => f148 n τ0 e2 e1 a8 a3) fun ak => ?_
 refine dT 0 [63, 65, 67] ?_
 refine DX.tail2 [] Z Z J ?_
 refine yKD 46 ?_ ?_ <;> intro h5 ag
 have aa := v2.trans (show _ = (some false) by rw [acx a1]; simp only [a2e, h2, h3, h4, a2, h5, cT, cF])
 exact R4r Z Z (by simp only [a3l, aa, cT, cF])
 refine SA ?_
 exact ITr Z (i + 1) ⟨τ0, (by rw [v2, acx a1]; simp only [a2e, h2, h3, h4, a2, h5, cT, cF])⟩ τ1 [0]
 have ac := B.df h4
 refine dT 0 [47, 49, 51, 53, 55, 57, 59, 61, 63, 65, 67] ?_
 refine DX.tail2 [] Z Z J ?_
 refine SA ?_
 exact ITr Z (i + 1) ⟨τ0, (by rw [v2, acx a1]; simp only [a2e, h2, h3, h4, cT, cF])⟩ τ1 [0]
 have ae := v2.trans (show _ = none by rw [dn (show n_.links.length ≤ i by omega)]; simp only [a2e, cT, cF])
 refine KV Z Z Z Z Z Z O Z (fun w γ => f54 n τ0 ((ad0 a0).1) (i6 1) (i6 6)) fun ai => ?_
 exact R4r Z Z (by simp only [a3l, ae, cT, cF])
theorem f172 (hn : n + 0 ≤ 9) (a : Link) (b : Link) (a1 : ok n a) (a0 : ok n b) :
 DP 172 #[.agg #[vI a.a, vI a.b], .agg #[vI b.a, vI b.b]] w (pB (aaw a b)) := by
 refine EN Tryz.func172 Z adb ?_
 refine yKD 10 ?_ ?_ <;> intro h1 a3
 exact R4r Z Z (by simp only [aaw, h1, cT, cF])
 refine yKE 16 ?_ ?_ <;> intro h2 a2
 exact R4r Z Z (by simp only [aaw, h1, h2, cT, cF])
 exact R4r Z Z (by simp only [aaw, h1, h2, cT, cF])
theorem f72 (hn : n + 0 ≤ 9) (n_ : Topology) (N0 : Rd w K0 M0 n_.links) (a0 : ok n n_) :
 DP 72 #[aeu n_ K0 M0] w (pB (a3m n_)) := by
 have hb := bS0 hn
 refine EN Tryz.func72 Z (aS1 N0) ?_
 have r1 := (okl (ad0 a0).2).1
 refine LM Z 0 (fun i => ((i ≤ n_.links.length) ∧ (a2o n_ n_.links 0 = a2o n_ (n_.links.drop i) i), n_.links.length - i, [(3, .v (vI i))], [], [], [])) ⟨zl, Z⟩ [1] [1] [0] [0] ?_
 rintro i ⟨v1, v2⟩
 refine yKD 9 ?_ ?_ <;> intro h1 ah
 have a4 : i < n_.links.length := τ0
 obtain ⟨e1, a1⟩ := gE a4
 have a3 := okE (ad0 a0).2 a1
 refine yI 0 i a4 ?_
 rintro ak rfl
 refine zL 0 1 e1 a1 ?_
 rintro ⟨⟨⟩, ⟨⟩⟩
 refine R0 ?_
 refine WX.draw [] mixed fun bs G0 a6 => ?_
 refine dT 34 [1, 2, 5, 6] ?_
 refine DX.seeP 4 J Z Z Z Z (ahb Z Z Z Z) ?_
 refine DXV 5 Z J Z Z Z Z Z Z O Z (fun w γ => f171 n τ0 ((ag8 a3).1) (i6 0) (ad3 _)) fun an => ?_
 refine dT 30 [13, 15] ?_
 refine zDC 24 ?_ ?_ <;> intro h2
 have ae := B.nt h2
 refine dT 0 [17, 19, 21, 23, 25, 27, 29, 31, 33, 35, 37, 39, 41, 43, 45, 47, 49, 51, 53, 55, 57, 59, 61, 63, 65, 67, 69, 71, 73, 75] ?_
 refine DX.tail2 [] Z Z J ?_
 have ac := v2.trans (show _ = (some false) by rw [acx a1]; simp only [a2o, h2, cT, cF])
 exact R4r Z Z (by simp only [a3m, ac, cT, cF])
 have ae := B.nf h2
 have aq := ag0 (B.nf h2)
 refine dT 26 [17, 18, 21, 22] ?_
 refine DX.seeP 12 J Z Z Z Z (ahb Z Z Z Z) ?_
 refine DXV 13 Z J Z Z Z Z Z Z O Z (fun w γ => f171 n τ0 ((ag8 a3).2) (i6 0) (ad3 _)) fun ai => ?_
 refine dT 21 [29, 31, 33] ?_
 refine zDC 33 ?_ ?_ <;> intro h3
 have aa := B.nt h3
 refine dT 0 [35, 37, 39, 41, 43, 45, 47, 49, 51, 53, 55, 57, 59, 61, 63, 65, 67, 69, 71, 73, 75] ?_
 refine DX.tail2 [] Z Z J ?_
 have a7 := v2.trans (show _ = (some false) by rw [acx a1]; simp only [a2o, h2, h3, cT, cF])
 exact R4r Z Z (by simp only [a3m, a7, cT, cF])
 have aa := B.nf h3
 have ap := ag0 (B.nf h3)
 refine dT 14 [35, 36, 39, 40, 43, 45, 47] ?_
 refine zDC 40 ?_ ?_ <;> intro h4
 have ad := B.dt h4
 refine dT 0 [49, 51, 53, 55, 57, 59, 61, 63, 65, 67, 69, 71, 73, 75] ?_
 refine DX.tail2 [] Z Z J ?_
 have ab := v2.trans (show _ = (some false) by rw [acx a1]; simp only [a2o, h2, h3, h4, cT, cF])
 exact R4r Z Z (by simp only [a3m, ab, cT, cF])
 have ad := B.df h4
 refine dT 11 [49, 51, 53] ?_
 refine zDC 43 ?_ ?_ <;> intro h5
 have a8 := B.dt h5
 refine dT 8 [55, 56, 59] ?_
 refine DX.seeP 30 J Z Z Z Z (ahj Z Z Z Z τ9) ?_
 refine DX.slot 47 (y := .v (.int .i64 (((((i : Nat) : Int) - 1).toNat : Nat) : Int))) Z (fun _ => congrArg (Value.int .i64) (show ((i : Nat) : Int) - 1 = (((((i : Nat) : Int) - 1).toNat : Nat) : Int) from by omega)) ?_
 have a5 : (((i : Nat) : Int) - 1).toNat < n_.links.length := τ3
 obtain ⟨e2, a2⟩ := gE a5
 have a9 := okE (ad0 a0).2 a2
 refine zDI 31 0 ((((i : Nat) : Int) - 1).toNat) a6 Z a5 ?_
 rintro am ⟨⟩
 refine zDL 32 0 1 e2 a6 a2 ?_
 rintro ⟨⟨⟩, ⟨⟩⟩
 refine dT 4 [66] ?_
 refine DXV 34 Z J Z Z Z Z Z Z O Z (fun w γ => f172 n τ0 e2 e1 a9 a3) fun al => ?_
 refine dT 0 [71, 73, 75] ?_
 refine DX.tail2 [] Z Z J ?_
 refine yKN 54 ?_ ?_ <;> intro h6 ao
 have af := v2.trans (show _ = (some false) by rw [acx a1]; simp only [a2o, h2, h3, h4, h5, a2, h6, cT, cF])
 exact R4r Z Z (by simp only [a3m, af, cT, cF])
 refine SA ?_
 exact ITr Z (i + 1) ⟨τ0, (by rw [v2, acx a1]; simp only [a2o, h2, h3, h4, h5, a2, h6, cT, cF])⟩ τ1 [0]
 have a8 := B.df h5
 refine dT 0 [55, 57, 59, 61, 63, 65, 67, 69, 71, 73, 75] ?_
 refine DX.tail2 [] Z Z J ?_
 refine SA ?_
 exact ITr Z (i + 1) ⟨τ0, (by rw [v2, acx a1]; simp only [a2o, h2, h3, h4, h5, cT, cF])⟩ τ1 [0]
 have ag := v2.trans (show _ = none by rw [dn (show n_.links.length ≤ i by omega)]; simp only [a2o, cT, cF])
 refine KV Z Z Z Z Z Z O Z (fun w γ => f171 n τ0 ((ad0 a0).1) (i6 1) (i6 6)) fun aj => ?_
 exact R4r Z Z (by simp only [a3m, ag, cT, cF])
theorem f193 (hn : n + 0 ≤ 9) (e_ : TableEntry) (N0 : Rd w K0 M0 e_.name.parts) (size : Int) (bsize : Addr) (hsize : RdSl (hp w) (some bsize) 1 [size]) (a0 : ok n e_) (a2 : ok n size) :
 DP 193 #[.agg #[vS K0 e_.name.parts M0, vI e_.value], .pointer (some bsize)] w (pB (acl size e_)) := by
 have hb := bS0 hn
 refine EN Tryz.func193 Z (aS2 N0 hsize) ?_
 have a1 : ([size] : List Int)[0]? = some size := rfl
 refine WX.slot 1 (y := .e (some bsize) 0 1 0) Z (fun _ => anb) ?_
 refine yL 1 2 size a1 ?_
 rintro ⟨⟩
 refine SW0 ?_
 refine CV Z Z Z Z Z O Z (fun w γ => f54 n τ0 ((ads a0).2) (i6 0) (ad3 _)) fun a3 => ?_
 exact R4r Z Z (by simp only [acl, cT, cF])
theorem f83 (hn : n + 0 ≤ 9) {h_ : List TableEntry} (N0 : Rd w K0 M0 h_) {size : Int} (a1 : ok n h_) (a0 : ok n size) :
 DP 83 #[vS K0 h_ M0, vI size] w (pB (acm h_ size)) := by
 have hb := bS0 hn
 refine EN Tryz.func83 Z (aS1 N0) ?_
 refine KV Z Z Z Z Z Z O Z (fun w γ => f191 n τ0 (γ.q 0 Z) a1) fun a7 => ?_
 refine yKA 7 ?_ ?_ <;> intro h1
 refine KW Z Z Z Z Z Z O Z (fun w G bs hI hΓ => f192 n τ0 (hΓ.get 0 Z) 193 [Value.pointer (some ⟨bs 3, 0, none⟩)] (fun a2 => (acl size a2)) (fun a6 a5 a2 a9 a3 a4 => f193 n τ0 a2 (a4 _ List.mem_cons_self) size ⟨bs 3, 0, none⟩ ((an1 (α := Int) (a := size) (x := ()) (hI.loc 3 _ Z).1 All.nil).mono (asw a5)) a3 a0) a1) fun a8 => ?_
 exact R4r Z Z (by simp only [acm, h1, cT, cF])
 exact R4r Z Z (by simp only [acm, h1, cT, cF])
theorem f74 (hn : n + 0 ≤ 9) {h_ : List TableEntry} (N0 : Rd w K0 M0 h_) {size : Int} (a0 : ok n h_) (a1 : ok n size) :
 DP 74 #[vS K0 h_ M0, vI size] w (pB (acn h_ size)) := by
 have hb := bS0 hn
 refine EN Tryz.func74 Z (aS1 N0) ?_
 have r1 := (okl a0).1
 refine LM Z 0 (fun i => ((i ≤ h_.length) ∧ (aax size h_ = aax size (h_.drop i)), h_.length - i, [(5, .v (vI i))], [], [], [])) ⟨zl, Z⟩ [0, 1] [] [0] [0] ?_
 rintro i ⟨v1, v2⟩
 refine yKD 9 ?_ ?_ <;> intro h1 a7
 have a3 : i < h_.length := τ0
 obtain ⟨e1, a2⟩ := gE a3
 have a5 := okE a0 a2
 refine yI 0 i a3 ?_
 rintro a9 rfl
 refine yL 0 1 e1 a2 ?_
 rintro ⟨⟨p1, c1⟩, ⟨⟩⟩
 refine SW ?_
 refine CV Z Z Z Z Z O Z (fun w γ => f171 n τ0 ((ads a5).2) (i6 0) (ad3 _)) fun aa => ?_
 refine yKN 20 ?_ ?_ <;> intro h2 ab
 have a4 := v2.trans (show _ = (some false) by rw [acx a2]; simp only [aax, h2, cT, cF])
 exact R4r Z Z (by simp only [acn, a4, cT, cF])
 have ac := ag0 (B.nf h2)
 refine SA ?_
 exact ITr Z (i + 1) ⟨τ0, (by rw [v2, acx a2]; simp only [aax, h2, cT, cF])⟩ τ1 [0]
 have a6 := v2.trans (show _ = none by rw [dn (show h_.length ≤ i by omega)]; simp only [aax, cT, cF])
 refine KV Z Z Z Z Z Z O Z (fun w γ => f177 n τ0 (γ.q 0 Z) a0) fun a8 => ?_
 exact R4r Z Z (by simp only [acn, a6, cT, cF])
theorem f65 (hn : n + 0 ≤ 9) (k : Link) (a : Int) (ba : Addr) (ha : RdSl (hp w) (some ba) 1 [a]) (b : Int) (bb : Addr) (hb : RdSl (hp w) (some bb) 1 [b]) (a0 : ok n k) (a2 : ok n a) (a1 : ok n b) :
 DP 65 #[.agg #[vI k.a, vI k.b], .pointer (some ba), .pointer (some bb)] w (pB (a4l a b k)) := by
 refine EN Tryz.func65 Z (aS2 ha hb) ?_
 have ah : ([a] : List Int)[0]? = some a := rfl
 refine WX.slot 1 (y := .e (some ba) 0 1 0) Z (fun _ => anb) ?_
 have bh : ([b] : List Int)[0]? = some b := rfl
 refine WX.slot 2 (y := .e (some bb) 0 1 0) Z (fun _ => anb) ?_
 refine yL 0 2 a ah ?_
 rintro ⟨⟩
 refine yKE 9 ?_ ?_ <;> intro h1 a4
 refine yL 1 2 b bh ?_
 rintro ⟨⟩
 refine yKE 15 ?_ ?_ <;> intro h2 a3
 exact R4r Z Z (by simp only [a4l, h1, h2, cT, cF])
 refine yL 1 2 b bh ?_
 rintro ⟨⟩
 refine yKE 20 ?_ ?_ <;> intro h3 a5
 refine yL 0 2 a ah ?_
 rintro ⟨⟩
 exact R4r Z Z (by simp only [a4l, h1, h2, h3, cT, cF])
 exact R4r Z Z (by simp only [a4l, h1, h2, h3, cT, cF])
 refine yL 1 2 b bh ?_
 rintro ⟨⟩
 refine yKE 20 ?_ ?_ <;> intro h4 a6
 refine yL 0 2 a ah ?_
 rintro ⟨⟩
 exact R4r Z Z (by simp only [a4l, h1, h4, cT, cF])
 exact R4r Z Z (by simp only [a4l, h1, h4, cT, cF])
theorem f64 (hn : n + 0 ≤ 9) {s : List Link} (N0 : Rd w K0 M0 s) (fg : FuncId) (fc : List Value) (fq : Link → Bool) (ff : ∀ w1, Kp emp w w1 → ∀ (e0 : Link) (x0 : GoT.X Link), ok n e0 → All (hp w1) (GoT.fa .der e0 x0) → Does Tryz.prog fg ([Value.agg ⟨GoT.sh e0 x0⟩] ++ fc).toArray w1 emp (fun rv _ => rv = .bool (fq e0) ∧ True)) (a0 : ok n s) :
 DP 64 #[vS K0 s M0, .func (.func fg) #[] fc.toArray] w (pI n (aea s fq)) := by
 have hb := bS0 hn
 refine EN Tryz.func64 Z (aS1 N0) ?_
 have r1 := (okl a0).1
 refine LM Z 0 (fun i => ((i ≤ s.length) ∧ (adq fq s 0 = adq fq (s.drop i) i), s.length - i, [(8, .v (vI i))], [], [], [])) ⟨zl, Z⟩ [7, 0, 1] [] [0] [0] ?_
 rintro i ⟨v1, v2⟩
 refine yKD 9 ?_ ?_ <;> intro h1 a6
 have a2 : i < s.length := τ0
 obtain ⟨e1, a1⟩ := gE a2
 have a4 := okE a0 a1
 refine yI 0 i a2 ?_
 rintro a7 rfl
 refine zL 0 1 e1 a1 ?_
 rintro ⟨⟨⟩, ⟨⟩⟩
 refine WX.callV Z Z Z Z Z O Z (fun w G bs hI hΓ => ff w hI.keep e1 ((), ()) a4 All.nil) fun a8 => ?_
 refine yKA 16 ?_ ?_ <;> intro h2
 have a3 := v2.trans (show _ = (some ((i : Nat) : Int)) by rw [acx a1]; simp only [adq, h2, cT, cF])
 rw [show aea s fq = ((i : Nat) : Int) by simp only [aea, a3, cT, cF]]
 exact R6r Z Z (i6 ((i : Nat) : Int))
 refine SA ?_
 exact ITr Z (i + 1) ⟨τ0, (by rw [v2, acx a1]; simp only [adq, h2, cT, cF])⟩ τ1 [0]
 have a5 := v2.trans (show _ = none by rw [dn (show s.length ≤ i by omega)]; simp only [adq, cT, cF])
 rw [show aea s fq = (-1) by simp only [aea, a5, cT, cF]]
 exact R6r Z Z (i6 (-1))
theorem ag9 : ∀ (f : Link → Bool) (l : List Link) (i : Nat) (j : Int), adq f l i = some j → j < ((i + l.length : Nat) : Int)
 | f, [], i, j, h => by cases h
 | f, x :: l, i, j, h => by
  simp only [adq] at h
  cases hx : f x
  ·rw [hx, cond_false] at h
   have := ag9 f l (i + 1) j h
   simp only [List.length_cons]; omega
  ·rw [hx, cond_true] at h
   cases h
   simp only [List.length_cons]; omega
theorem ahr (l : List Link) (f : Link → Bool) : aea l f < ((l.length : Nat) : Int) := by
 unfold aea
 cases h : adq f l 0 with
 | none => show (-1 : Int) < _; omega
 | some j => have := ag9 f l 0 j h; show j < _; omega
theorem f18 (hn : n + 0 ≤ 9) (n_ : Topology) (N0 : Rd w K0 M0 n_.links) {a : Int} {b : Int} (a1 : ok n n_) (a2 : ok n a) (a4 : ok n b) :
 DP 18 #[aeu n_ K0 M0, vI a, vI b] w (pI n (abu n_ a b)) := by
 have hb := bS0 hn
 refine EN Tryz.func18 Z (aS1 N0) ?_
 refine KW Z Z Z Z Z Z O Z (fun w G bs hI hΓ => f64 n τ0 (hΓ.get 0 Z) 65 [Value.pointer (some ⟨bs 4, 0, none⟩), Value.pointer (some ⟨bs 5, 0, none⟩)] (fun a0 => (a4l a b a0)) (fun a8 a5 a0 a9 a3 a6 => f65 n τ0 a0 a ⟨bs 4, 0, none⟩ ((an1 (α := Int) (a := a) (x := ()) (hI.loc 4 _ Z).1 All.nil).mono (asw a5)) b ⟨bs 5, 0, none⟩ ((an1 (α := Int) (a := b) (x := ()) (hI.loc 5 _ Z).1 All.nil).mono (asw a5)) a3 a2 a4) ((ad0 a1).2)) fun a7 => ?_
 have q1 := ahr n_.links (fun a0 => (a4l a b a0))
 rw [show abu n_ a b = (aea n_.links (fun a0 => (a4l a b a0))) by simp only [abu, cT, cF]]
 exact R6r Z Z a7
theorem f344 (hn : n + 0 ≤ 9) (n_ : Topology) (N0 : Rd w K0 M0 n_.links) {a : Int} {b : Int} (a1 : ok n n_) (a4 : ok n a) (a7 : ok n b) :
 DP 344 #[aeu n_ K0 M0, vI a, vI b] w (pI n (a42 n_ a b)) := by
 have hb := bS0 hn
 refine EN Tryz.func344 Z (aS1 N0) ?_
 have r1 := (okl (ad0 a1).2).1
 refine LM Z 0 (fun i => ((i ≤ n_.links.length) ∧ (a27 a b n_.links 0 = a27 a b (n_.links.drop i) i), n_.links.length - i, [(7, .v (vI i))], [], [], [])) ⟨zl, Z⟩ [3, 1, 2] [3] [0] [0] ?_
 rintro i ⟨v1, v2⟩
 refine yKD 12 ?_ ?_ <;> intro h1 aa
 have a2 : i < n_.links.length := τ0
 obtain ⟨e1, a0⟩ := gE a2
 have aj := okE (ad0 a1).2 a0
 refine yI 0 i a2 ?_
 rintro ad rfl
 refine yL 0 1 e1 a0 ?_
 rintro ⟨⟨⟩, ⟨⟩⟩
 refine yKE 23 ?_ ?_ <;> intro h2 al
 refine yI 0 i a2 ?_
 rintro ae ⟨⟩
 refine yL 0 1 e1 a0 ?_
 rintro ⟨⟨⟩, ⟨⟩⟩
 refine yKE 33 ?_ ?_ <;> intro h3 af
 have a6 := v2.trans (show _ = (some ((i : Nat) : Int)) by rw [acx a0]; simp only [a27, h2, h3, cT, cF])
 rw [show a42 n_ a b = ((i : Nat) : Int) by simp only [a42, a6, cT, cF]]
 exact R6r Z Z (i6 ((i : Nat) : Int))
 refine yI 0 i a2 ?_
 rintro ak ⟨⟩
 refine yL 0 1 e1 a0 ?_
 rintro ⟨⟨⟩, ⟨⟩⟩
 refine yKE 42 ?_ ?_ <;> intro h4 ai
 refine yI 0 i a2 ?_
 rintro am ⟨⟩
 refine yL 0 1 e1 a0 ?_
 rintro ⟨⟨⟩, ⟨⟩⟩
 refine yKE 52 ?_ ?_ <;> intro h5 ac
 have a3 := v2.trans (show _ = (some ((i : Nat) : Int)) by rw [acx a0]; simp only [a27, h2, h3, h4, h5, cT, cF])
 rw [show a42 n_ a b = ((i : Nat) : Int) by simp only [a42, a3, cT, cF]]
 exact R6r Z Z (i6 ((i : Nat) : Int))
 refine SA ?_
 exact ITr Z (i + 1) ⟨τ0, (by rw [v2, acx a0]; simp only [a27, h2, h3, h4, h5, cT, cF])⟩ τ1 [0]
 refine SA ?_
 exact ITr Z (i + 1) ⟨τ0, (by rw [v2, acx a0]; simp only [a27, h2, h3, h4, cT, cF])⟩ τ1 [0]
 refine yI 0 i a2 ?_
 rintro ab ⟨⟩
 refine yL 0 1 e1 a0 ?_
 rintro ⟨⟨⟩, ⟨⟩⟩
 refine yKE 42 ?_ ?_ <;> intro h6 ah
 refine yI 0 i a2 ?_
 rintro a9 ⟨⟩
 refine yL 0 1 e1 a0 ?_
 rintro ⟨⟨⟩, ⟨⟩⟩
 refine yKE 52 ?_ ?_ <;> intro h7 ag
 have a5 := v2.trans (show _ = (some ((i : Nat) : Int)) by rw [acx a0]; simp only [a27, h2, h6, h7, cT, cF])
 rw [show a42 n_ a b = ((i : Nat) : Int) by simp only [a42, a5, cT, cF]]
 exact R6r Z Z (i6 ((i : Nat) : Int))
 refine SA ?_
 exact ITr Z (i + 1) ⟨τ0, (by rw [v2, acx a0]; simp only [a27, h2, h6, h7, cT, cF])⟩ τ1 [0]
 refine SA ?_
 exact ITr Z (i + 1) ⟨τ0, (by rw [v2, acx a0]; simp only [a27, h2, h6, cT, cF])⟩ τ1 [0]
 have a8 := v2.trans (show _ = none by rw [dn (show n_.links.length ≤ i by omega)]; simp only [a27, cT, cF])
 rw [show a42 n_ a b = (-1) by simp only [a42, a8, cT, cF]]
 exact R6r Z Z (i6 (-1))
theorem f55 (hn : n + 0 ≤ 9) (n_ : Topology) (N0 : Rd w K0 M0 n_.links) {a : Int} (a4 : ok n n_) (a5 : ok n a) :
 DP 55 #[aeu n_ K0 M0, vI a] w (pS w n (a4m n_ a)) := by
 have hb := bS0 hn
 refine EN Tryz.func55 Z (aS1 N0) ?_
 refine yB fun p1 => ?_
 refine KS Z Z Z Z (fun _ hΓ => avq Z Z Z) ?_
 refine WX.see Z Z Z (fun _ hΓ => av6 Z Z Z) ?_
 refine F0 1 Int ?_
 have r1 := i8 ((ad0 a4).1)
 refine LM Z (p1, 0, [], ([] : List Int), 0) (fun | (a2, a3, a0, a1, i) => ((i ≤ (max 0 (min n_.size 6)).toNat) ∧ JE n a1 ∧ (a1.length ≤ i) ∧ (a54 n_ a ((max 0 (min n_.size 6)).toNat) 0 ([] : List Int) = a54 n_ a ((max 0 (min n_.size 6)).toNat - i) i a1), (max 0 (min n_.size 6)).toNat - i, [(5, .v (vS a2 a1 a3)), (12, .v (vI i))], [], [(7, ⟨1, a2, a1.length, a3, a0⟩)], [(1, MF.ol a0 (a1 : List Int))])) ⟨zl, nA, τ7, Z⟩ [11, 2, 1] [2] [0] [0, 1] ?_
 rintro ⟨a2, a3, a0, a1, i⟩ ⟨v1, v2, v3, v4⟩
 refine yKD 13 ?_ ?_ <;> intro h1 a8
 refine KV Z Z Z Z Z Z O Z (fun w γ => f18 n τ0 n_ (γ.q 0 Z) a4 a5 (i6 ((i : Nat) : Int))) fun a9 => ?_
 refine yKD 19 ?_ ?_ <;> intro h2 aa
 refine yB fun p2 => ?_
 refine zT (α := Int) [] 2 ((i : Nat) : Int) () fun a6 => ?_
 refine zP 7 22 ((a1 ++ [((i : Nat) : Int)]) : List Int).length a6 fun p3 c1 => ?_
 refine zV [1, 2] 3 ?_
 refine SA ?_
 refine zU [3] 1 ?_
 exact ITr Z (p3, c1, _, ((a1 ++ [((i : Nat) : Int)]) : List Int), i + 1) ⟨τ0, (aec v2 (all_cons (α := Int) (i6 ((i : Nat) : Int)) nA)), τ2, (by rw [v4, show (max 0 (min n_.size 6)).toNat - i = ((max 0 (min n_.size 6)).toNat - (i + 1)) + 1 by omega]; simp only [a54, h2, cT, cF])⟩ τ1 [0, 1]
 refine SA ?_
 exact ITr Z (a2, a3, a0, (a1 : List Int), i + 1) ⟨τ0, v2, τ2, (by rw [v4, show (max 0 (min n_.size 6)).toNat - i = ((max 0 (min n_.size 6)).toNat - (i + 1)) + 1 by omega]; simp only [a54, h2, cT, cF])⟩ τ1 [0, 1]
 have a7 := v4.trans (show _ = (a1 : List Int) by rw [show (max 0 (min n_.size 6)).toNat - i = 0 by omega]; simp only [a54, cT, cF])
 refine yE 7 1 4 ?_
 rw [show a4m n_ a = a1 by simp only [a4m, a7, cT, cF]]
 exact zX [5] (a2, a3) (ada τ0 v2 : ok n (a1 : List Int))
theorem f255 (hn : n + 0 ≤ 9) (n_ : Topology) (N0 : Rd w K0 M0 n_.links) {a : Int} (a4 : ok n n_) (a5 : ok n a) :
 DP 255 #[aeu n_ K0 M0, vI a] w (pS w n (a17 n_ a)) := by
 have hb := bS0 hn
 refine EN Tryz.func255 Z (aS1 N0) ?_
 refine yB fun p1 => ?_
 refine F0 1 Int ?_
 have r1 := i8 ((ad0 a4).1)
 refine LM Z (p1, 0, [], ([] : List Int), 0) (fun | (a2, a3, a1, a0, i) => ((i ≤ n_.size.toNat) ∧ JE n a0 ∧ (a0.length ≤ i) ∧ (a0.length ≤ 6) ∧ (a38 n_ a (n_.size.toNat) 0 ([] : List Int) = a38 n_ a (n_.size.toNat - i) i a0), n_.size.toNat - i, [(5, .v (vS a2 a0 a3)), (6, .v (vI i))], [], [(7, ⟨1, a2, a0.length, a3, a1⟩)], [(1, MF.ol a1 (a0 : List Int))])) ⟨zl, nA, τ7, τ7, Z⟩ [2, 1] [2] [0] [0, 1] ?_
 rintro ⟨a2, a3, a1, a0, i⟩ ⟨v1, v2, v3, v4, v5⟩
 refine yKD 12 ?_ ?_ <;> intro h1 a9
 refine yKD 15 ?_ ?_ <;> intro h2 ac
 refine KV Z Z Z Z Z Z O Z (fun w γ => f344 n τ0 n_ (γ.q 0 Z) a4 a5 (i6 ((i : Nat) : Int))) fun ab => ?_
 refine yKD 22 ?_ ?_ <;> intro h3 aa
 refine yB fun p2 => ?_
 refine zT (α := Int) [] 2 ((i : Nat) : Int) () fun a6 => ?_
 refine zP 7 25 ((a0 ++ [((i : Nat) : Int)]) : List Int).length a6 fun p3 c1 => ?_
 refine zV [1, 2] 3 ?_
 refine SA ?_
 refine zU [3] 1 ?_
 exact ITr Z (p3, c1, _, ((a0 ++ [((i : Nat) : Int)]) : List Int), i + 1) ⟨τ0, (aec v2 (all_cons (α := Int) (i6 ((i : Nat) : Int)) nA)), τ2, τ2, (by rw [v5, show n_.size.toNat - i = (n_.size.toNat - (i + 1)) + 1 by omega]; simp only [a38, h2, h3, cT, cF])⟩ τ1 [0, 1]
 refine SA ?_
 exact ITr Z (a2, a3, a1, (a0 : List Int), i + 1) ⟨τ0, v2, τ2, τ2, (by rw [v5, show n_.size.toNat - i = (n_.size.toNat - (i + 1)) + 1 by omega]; simp only [a38, h2, h3, cT, cF])⟩ τ1 [0, 1]
 have a8 := v5.trans (show _ = (a0 : List Int) by rw [show n_.size.toNat - i = (n_.size.toNat - (i + 1)) + 1 by omega]; simp only [a38, h2, cT, cF])
 refine yE 7 1 4 ?_
 rw [show a17 n_ a = a0 by simp only [a17, a8, cT, cF]]
 exact zX [5] (a2, a3) (ada τ0 v2 : ok n (a0 : List Int))
 have a7 := v5.trans (show _ = (a0 : List Int) by rw [show n_.size.toNat - i = 0 by omega]; simp only [a38, cT, cF])
 refine yE 7 1 6 ?_
 rw [show a17 n_ a = a0 by simp only [a17, a7, cT, cF]]
 exact zX [7] (a2, a3) (ada τ0 v2 : ok n (a0 : List Int))
end Go.Proofs.YtpmejlbgjkiobaaGreat
namespace Go.Stp
def aet (v : Str) : List Str → Nat → Option (Int) | [], i => none | e1 :: rest_, i => bif ((v).toList == (e1).toList) then (some ((i : Nat) : Int)) else aet v rest_ (i + 1)
def afa (s : (List Str)) (v : Str) : Int := match aet v s 0 with | some r_ => r_ | none => (-1)
def afw (s : (List Str)) (v : Str) : Bool := (decide ((afa s v) ≥ 0))
def acv (secret : Int) : Bool := (a0u secret 1 2147483646)
def acw (secret : Int) : Bool := (a0m secret 1 2147483646)
def aay (s : Str) : Bool := bif ((((s).size : Nat) : Int) == 2) then match ((s).data.toList)[0]? with | none => default | some e1 => bif (((e1).toNat : Int) == 63) then match ((s).data.toList)[1]? with | none => default | some e2 => bif decide (((e2).toNat : Int) ≥ 97) then (decide (((e2).toNat : Int) ≤ 122)) else false else false else false
def abv (s : Str) : Bool := bif ((((s).size : Nat) : Int) == 2) then match ((s).data.toList)[0]? with | none => default | some e1 => bif (((e1).toNat : Int) == 63) then match ((s).data.toList)[1]? with | none => default | some e2 => (a0m ((e2).toNat : Int) 97 122) else false else false
def a3n (p_ : Pattern) : List Str → Nat → Option (Bool) | [], i => none | e1 :: rest_, i => bif (!(a64 e1)) then bif (!((e1).toList == ((⟨#[42]⟩ : Str)).toList)) then bif (!(aay e1)) then bif (!((e1).toList == ((⟨#[42, 42]⟩ : Str)).toList)) then (some false) else bif (((i : Nat) : Int) != i64.wrap ((((p_.parts).length : Nat) : Int) - 1)) then (some false) else a3n p_ rest_ (i + 1) else a3n p_ rest_ (i + 1) else a3n p_ rest_ (i + 1) else a3n p_ rest_ (i + 1)
def abw (p_ : Pattern) : Bool := match a3n p_ p_.parts 0 with | some r_ => r_ | none => (decide ((((p_.parts).length : Nat) : Int) ≤ 6))
def a3o (p_ : Pattern) : List Str → Nat → Option (Bool) | [], i => none | e1 :: rest_, i => bif (!(a51 e1)) then bif (!((e1).toList == ((⟨#[42]⟩ : Str)).toList)) then bif (!(abv e1)) then bif (!((e1).toList == ((⟨#[42, 42]⟩ : Str)).toList)) then (some false) else bif decide (((i : Nat) : Int) < i64.wrap ((((p_.parts).length : Nat) : Int) - 1)) then (some false) else a3o p_ rest_ (i + 1) else a3o p_ rest_ (i + 1) else a3o p_ rest_ (i + 1) else a3o p_ rest_ (i + 1)
def abx (p_ : Pattern) : Bool := match a3o p_ p_.parts 0 with | some r_ => r_ | none => (decide ((((p_.parts).length : Nat) : Int) ≤ 6))
def aaz (s : Str) : List Str → Option (Bool) | [] => none | e1 :: rest_ => bif ((e1).toList == (s).toList) then (some true) else aaz s rest_
def aco (p_ : Pattern) (s : Str) : Bool := match aaz s p_.parts with | some r_ => r_ | none => false
def a7i (r : Rule) : List Str → Option (Bool) | [] => none | e1 :: rest_ => bif (aay e1) then bif (!(afw r.dataPattern.parts e1)) then (some false) else a7i r rest_ else a7i r rest_
def aby (r : Rule) : Bool := bif (!(abw r.dataPattern)) then false else bif (!(abw r.keyPattern)) then false else match a7i r r.keyPattern.parts with | some r_ => r_ | none => true
def a7j (r : Rule) : List Str → Option (Bool) | [] => none | e1 :: rest_ => bif (abv e1) then bif (!(aco r.dataPattern e1)) then (some false) else a7j r rest_ else a7j r rest_
def abz (r : Rule) : Bool := bif (!(abx r.dataPattern)) then false else bif (!(abx r.keyPattern)) then false else match a7j r r.keyPattern.parts with | some r_ => r_ | none => true
def ae2 (fq : Key → Bool) : List Key → Nat → Option (Int) | [], i => none | e1 :: rest_, i => bif fq e1 then (some ((i : Nat) : Int)) else ae2 fq rest_ (i + 1)
def aer (s : (List Key)) (fq : Key → Bool) : Int := match ae2 fq s 0 with | some r_ => r_ | none => (-1)
def afq (s : (List Key)) (fq : Key → Bool) : Bool := (decide ((aer s fq) ≥ 0))
def adv (fq : Rule → Bool) : List Rule → Nat → Option (Int) | [], i => none | e1 :: rest_, i => bif fq e1 then (some ((i : Nat) : Int)) else adv fq rest_ (i + 1)
def aeo (s : (List Rule)) (fq : Rule → Bool) : Int := match adv fq s 0 with | some r_ => r_ | none => (-1)
def afl (s : (List Rule)) (fq : Rule → Bool) : Bool := (decide ((aeo s fq) ≥ 0))
def adw (fq : DataP → Bool) : List DataP → Nat → Option (Int) | [], i => none | e1 :: rest_, i => bif fq e1 then (some ((i : Nat) : Int)) else adw fq rest_ (i + 1)
def aen (s : (List DataP)) (fq : DataP → Bool) : Int := match adw fq s 0 with | some r_ => r_ | none => (-1)
def afk (s : (List DataP)) (fq : DataP → Bool) : Bool := (decide ((aen s fq) ≥ 0))
def acp (r : Rule) : Bool := (!(aby r))
def acq (l : (List Rule)) : Bool := bif decide ((((l).length : Nat) : Int) ≤ 8) then (!(afl l (fun e0_ => (acp e0_)))) else false
def ab0 : List Rule → Option (Bool) | [] => none | e1 :: rest_ => bif (!(abz e1)) then (some false) else ab0 rest_
def acr (l : (List Rule)) : Bool := match ab0 l with | some r_ => r_ | none => (decide ((((l).length : Nat) : Int) ≤ 8))
def a93 (e1 : Key) : List Key → Option (Bool) | [] => none | e2 :: rest_ => bif (aav e2.name e1.name) then (some false) else bif (e2.secret == e1.secret) then (some false) else a93 e1 rest_
def a55 (l : (List Key)) : List Key → Nat → Option (Bool) | [], i => none | e1 :: rest_, i => bif (!(a52 e1.name)) then (some false) else bif ((((e1.name.parts).length : Nat) : Int) == 0) then (some false) else bif (!(acv e1.secret)) then (some false) else match a93 e1 (List.take i l) with | some r_ => (some r_) | none => a55 l rest_ (i + 1)
def a94 (l : (List Key)) : Bool := match a55 l l 0 with | some r_ => r_ | none => (decide ((((l).length : Nat) : Int) ≤ 8))
def ab1 (n_ : Name) : List Key → Nat → Option (Int) | [], i => none | e1 :: rest_, i => bif (a90 e1.name n_) then (some ((i : Nat) : Int)) else ab1 n_ rest_ (i + 1)
def ab2 (l : (List Key)) (n_ : Name) : Int := match ab1 n_ l 0 with | some r_ => r_ | none => (-1)
def ab3 (l : (List Key)) (e1 : Key) : Nat → Nat → Option (Bool) | 0, i2 => none | m_ + 1, i2 => match (l)[i2]? with | none => default | some e2 => bif (e2.secret == e1.secret) then (some false) else ab3 l e1 m_ (i2 + 1)
def a56 (l : (List Key)) : List Key → Nat → Option (Bool) | [], i => none | e1 :: rest_, i => bif (!(a53 e1.name)) then (some false) else bif ((((e1.name.parts).length : Nat) : Int) == 0) then (some false) else bif (!(acw e1.secret)) then (some false) else bif decide ((ab2 (List.take i l) e1.name) ≥ 0) then (some false) else match ab3 l e1 i 0 with | some r_ => (some r_) | none => a56 l rest_ (i + 1)
def a95 (l : (List Key)) : Bool := match a56 l l 0 with | some r_ => r_ | none => (decide ((((l).length : Nat) : Int) ≤ 8))
def acs (n_ : Name) (k : Key) : Bool := (aav k.name n_)
def acu (x_ : DataP) : Bool := (!(a91 x_))
def ab4 (t : TrustPolicy) : List Name → Option (Bool) | [] => none | e1 :: rest_ => bif (!(afq t.keys (fun e0_ => (acs e1 e0_)))) then (some false) else ab4 t rest_
def a96 (t : TrustPolicy) : Bool := match ab4 t t.anchors with | some r_ => r_ | none => bif (a94 t.keys) then bif (acq t.rules) then bif decide ((((t.anchors).length : Nat) : Int) ≤ 8) then bif decide ((((t.certificates).length : Nat) : Int) ≤ 8) then (!(afk t.certificates (fun e0_ => (acu e0_)))) else false else false else false else false
def ab5 : List DataP → Option (Bool) | [] => none | e2 :: rest_ => bif (!(a92 e2)) then (some false) else ab5 rest_
def ab6 (t : TrustPolicy) : List Name → Option (Bool) | [] => none | e1 :: rest_ => bif decide ((ab2 t.keys e1) < 0) then (some false) else ab6 t rest_
def a7k (t : TrustPolicy) : Bool := bif (!(a95 t.keys)) then false else bif (!(acr t.rules)) then false else bif decide ((((t.anchors).length : Nat) : Int) > 8) then false else bif decide ((((t.certificates).length : Nat) : Int) > 8) then false else match ab6 t t.anchors with | some r_ => r_ | none => match ab5 t.certificates with | some r_ => r_ | none => true
end Go.Stp
namespace Go.Proofs.YtpmejlbgjkiobaaGreat
open Go.Stp
open Go.Stp.GoT (ok)
variable {w : World} (n : Nat) {K0 K1 K2 K3 : Option Addr} {M0 M1 M2 M3 : Nat}
theorem f400 (hn : n + 0 ≤ 9) {s : List Str} (N0 : Rd w K0 M0 s) {v : Str} (a0 : ok n s) (a4 : ok n v) :
 DP 400 #[vS K0 s M0, .string v] w (pI n (afa s v)) := by
 have hb := bS0 hn
 refine EN Tryz.func400 Z (aS1 N0) ?_
 have r1 := (okl a0).1
 refine LM Z 0 (fun i => ((i ≤ s.length) ∧ (aet v s 0 = aet v (s.drop i) i), s.length - i, [(8, .v (vI i))], [], [], [])) ⟨zl, Z⟩ [7, 0, 1] [] [0] [0] ?_
 rintro i ⟨v1, v2⟩
 refine yKD 9 ?_ ?_ <;> intro h1 a6
 have a2 : i < s.length := τ0
 obtain ⟨e1, a1⟩ := gE a2
 have a8 := okE a0 a1
 refine yI 0 i a2 ?_
 rintro a7 rfl
 refine zL 0 1 e1 a1 ?_
 rintro ⟨⟩
 refine yKE 16 ?_ ?_ <;> intro h2 a9
 have a3 := v2.trans (show _ = (some ((i : Nat) : Int)) by rw [acx a1]; simp only [aet, h2, cT, cF])
 rw [show afa s v = ((i : Nat) : Int) by simp only [afa, a3, cT, cF]]
 exact R6r Z Z (i6 ((i : Nat) : Int))
 refine SA ?_
 exact ITr Z (i + 1) ⟨τ0, (by rw [v2, acx a1]; simp only [aet, h2, cT, cF])⟩ τ1 [0]
 have a5 := v2.trans (show _ = none by rw [dn (show s.length ≤ i by omega)]; simp only [aet, cT, cF])
 rw [show afa s v = (-1) by simp only [afa, a5, cT, cF]]
 exact R6r Z Z (i6 (-1))
theorem f364 (hn : n + 0 ≤ 9) {s : List Str} (N0 : Rd w K0 M0 s) {v : Str} (a0 : ok n s) (a1 : ok n v) :
 DP 364 #[vS K0 s M0, .string v] w (pB (afw s v)) := by
 have hb := bS0 hn
 refine EN Tryz.func364 Z (aS1 N0) ?_
 refine KV Z Z Z Z Z Z O Z (fun w γ => f400 n τ0 (γ.q 0 Z) a0 a1) fun a2 => ?_
 exact R4r Z Z (by simp only [afw, cT, cF])
theorem f288 (hn : n + 0 ≤ 9) {secret : Int} (a0 : ok n secret) :
 DP 288 #[vI secret] w (pB (acv secret)) := by
 have hb := bS0 hn
 refine EN Tryz.func288 Z adb ?_
 refine KV Z Z Z Z Z Z O Z (fun w γ => f54 n τ0 a0 (i6 1) (i6 2147483646)) fun a1 => ?_
 exact R4r Z Z (by simp only [acv, cT, cF])
theorem f279 (hn : n + 0 ≤ 9) {secret : Int} (a0 : ok n secret) :
 DP 279 #[vI secret] w (pB (acw secret)) := by
 have hb := bS0 hn
 refine EN Tryz.func279 Z adb ?_
 refine KV Z Z Z Z Z Z O Z (fun w γ => f171 n τ0 a0 (i6 1) (i6 2147483646)) fun a1 => ?_
 exact R4r Z Z (by simp only [acw, cT, cF])
theorem f363 (hn : n + 0 ≤ 9) {s : Str} (a4 : ok n s) :
 DP 363 #[.string s] w (pB (aay s)) := by
 have hb := bS0 hn
 refine EN Tryz.func363 Z adb ?_
 refine yKE 6 ?_ ?_ <;> intro h1 a6
 have a2 : 0 < s.data.toList.length := (by rw [show s.data.toList.length = s.size from by simp]; omega)
 obtain ⟨e1, a1⟩ := gE a2
 refine KS Z Z Z Z (fun _ hΓ => ag1 ttOk Z Z Z Z Z a1) ?_
 refine yKE 11 ?_ ?_ <;> intro h2 a5
 have a3 : 1 < s.data.toList.length := (by rw [show s.data.toList.length = s.size from by simp]; omega)
 obtain ⟨e2, a0⟩ := gE a3
 refine KS Z Z Z Z (fun _ hΓ => ag1 ttOk Z Z Z Z Z a0) ?_
 refine yKD 16 ?_ ?_ <;> intro h3 a7
 refine KS Z Z Z Z (fun _ hΓ => ag1 ttOk Z Z Z Z Z a0) ?_
 exact R4r Z Z (by simp only [aay, h1, a1, h2, a0, h3, cT, cF])
 exact R4r Z Z (by simp only [aay, h1, a1, h2, a0, h3, cT, cF])
 exact R4r Z Z (by simp only [aay, h1, a1, h2, cT, cF])
 exact R4r Z Z (by simp only [aay, h1, cT, cF])
theorem f355 (hn : n + 0 ≤ 9) {s : Str} (a4 : ok n s) :
 DP 355 #[.string s] w (pB (abv s)) := by
 have hb := bS0 hn
 refine EN Tryz.func355 Z adb ?_
 refine yKE 6 ?_ ?_ <;> intro h1 a6
 have a2 : 0 < s.data.toList.length := (by rw [show s.data.toList.length = s.size from by simp]; omega)
 obtain ⟨e1, a0⟩ := gE a2
 refine KS Z Z Z Z (fun _ hΓ => ag1 ttOk Z Z Z Z Z a0) ?_
 refine yKE 11 ?_ ?_ <;> intro h2 a5
 have a3 : 1 < s.data.toList.length := (by rw [show s.data.toList.length = s.size from by simp]; omega)
 obtain ⟨e2, a1⟩ := gE a3
 refine KS Z Z Z Z (fun _ hΓ => ag1 ttOk Z Z Z Z Z a1) ?_
 refine WX.see Z Z Z (fun _ hΓ => apg ttOk Z Z Z Z Z Z) ?_
 have r1 : e2.toNat < 256 := UInt8.toNat_lt _
 refine CV Z Z Z Z Z O Z (fun w γ => f171 n τ0 (i6 (e2.toNat : Int)) (i6 97) (i6 122)) fun a7 => ?_
 exact R4r Z Z (by simp only [abv, h1, a0, h2, a1, cT, cF])
 exact R4r Z Z (by simp only [abv, h1, a0, h2, cT, cF])
 exact R4r Z Z (by simp only [abv, h1, cT, cF])
theorem f362 (hn : n + 0 ≤ 9) (p_ : Pattern) (N0 : Rd w K0 M0 p_.parts) (a0 : ok n p_) :
 DP 362 #[.agg #[vS K0 p_.parts M0]] w (pB (abw p_)) := by
 have hb := bS0 hn
 refine EN Tryz.func362 Z (aS1 N0) ?_
 have r1 := (okl (adc a0)).1
 refine LM Z 0 (fun i => ((i ≤ p_.parts.length) ∧ (a3n p_ p_.parts 0 = a3n p_ (p_.parts.drop i) i), p_.parts.length - i, [(8, .v (vI i))], [], [], [])) ⟨zl, Z⟩ [7, 6, 1] [1] [0] [0] ?_
 rintro i ⟨v1, v2⟩
 refine yKD 9 ?_ ?_ <;> intro h1 a7
 have a2 : i < p_.parts.length := τ0
 obtain ⟨e1, a1⟩ := gE a2
 have a3 := okE (adc a0) a1
 refine yI 0 i a2 ?_
 rintro aa rfl
 refine zL 0 1 e1 a1 ?_
 rintro ⟨⟩
 refine KV Z Z Z Z Z Z O Z (fun w γ => f360 n τ0 a3) fun ac => ?_
 refine yKN 16 ?_ ?_ <;> intro h2 af
 refine yKX 20 ?_ ?_ <;> intro h3 ab
 refine KV Z Z Z Z Z Z O Z (fun w γ => f363 n τ0 a3) fun a9 => ?_
 refine yKN 25 ?_ ?_ <;> intro h4 ae
 refine yKX 28 ?_ ?_ <;> intro h5 a8
 have a5 := v2.trans (show _ = (some false) by rw [acx a1]; simp only [a3n, h2, h3, h4, h5, cT, cF])
 exact R4r Z Z (by simp only [abw, a5, cT, cF])
 refine SW ?_
 refine yKM 36 ?_ ?_ <;> intro h6 ad
 have a4 := v2.trans (show _ = (some false) by rw [acx a1]; simp only [a3n, h2, h3, h4, h5, h6, cT, cF])
 exact R4r Z Z (by simp only [abw, a4, cT, cF])
 refine SA ?_
 exact ITr Z (i + 1) ⟨τ0, (by rw [v2, acx a1]; simp only [a3n, h2, h3, h4, h5, h6, cT, cF])⟩ τ1 [0]
 refine SA ?_
 exact ITr Z (i + 1) ⟨τ0, (by rw [v2, acx a1]; simp only [a3n, h2, h3, h4, cT, cF])⟩ τ1 [0]
 refine SA ?_
 exact ITr Z (i + 1) ⟨τ0, (by rw [v2, acx a1]; simp only [a3n, h2, h3, cT, cF])⟩ τ1 [0]
 refine SA ?_
 exact ITr Z (i + 1) ⟨τ0, (by rw [v2, acx a1]; simp only [a3n, h2, cT, cF])⟩ τ1 [0]
 have a6 := v2.trans (show _ = none by rw [dn (show p_.parts.length ≤ i by omega)]; simp only [a3n, cT, cF])
 exact R4r Z Z (by simp only [abw, a6, cT, cF])
theorem f354 (hn : n + 0 ≤ 9) (p_ : Pattern) (N0 : Rd w K0 M0 p_.parts) (a0 : ok n p_) :
 DP 354 #[.agg #[vS K0 p_.parts M0]] w (pB (abx p_)) := by
 have hb := bS0 hn
 refine EN Tryz.func354 Z (aS1 N0) ?_
 have r1 := (okl (adc a0)).1
 refine LM Z 0 (fun i => ((i ≤ p_.parts.length) ∧ (a3o p_ p_.parts 0 = a3o p_ (p_.parts.drop i) i), p_.parts.length - i, [(3, .v (vI i))], [], [], [])) ⟨zl, Z⟩ [1] [1] [0] [0] ?_
 rintro i ⟨v1, v2⟩
 refine yKD 9 ?_ ?_ <;> intro h1 a7
 have a2 : i < p_.parts.length := τ0
 obtain ⟨e1, a1⟩ := gE a2
 have a3 := okE (adc a0) a1
 refine yI 0 i a2 ?_
 rintro aa rfl
 refine zL 0 1 e1 a1 ?_
 rintro ⟨⟩
 refine KV Z Z Z Z Z Z O Z (fun w γ => f353 n τ0 a3) fun ac => ?_
 refine yKN 20 ?_ ?_ <;> intro h2 af
 refine yKX 24 ?_ ?_ <;> intro h3 ab
 refine KV Z Z Z Z Z Z O Z (fun w γ => f355 n τ0 a3) fun a9 => ?_
 refine yKN 29 ?_ ?_ <;> intro h4 ae
 refine yKX 32 ?_ ?_ <;> intro h5 a8
 have a5 := v2.trans (show _ = (some false) by rw [acx a1]; simp only [a3o, h2, h3, h4, h5, cT, cF])
 exact R4r Z Z (by simp only [abx, a5, cT, cF])
 refine SW ?_
 refine yKD 40 ?_ ?_ <;> intro h6 ad
 have a4 := v2.trans (show _ = (some false) by rw [acx a1]; simp only [a3o, h2, h3, h4, h5, h6, cT, cF])
 exact R4r Z Z (by simp only [abx, a4, cT, cF])
 refine SA ?_
 exact ITr Z (i + 1) ⟨τ0, (by rw [v2, acx a1]; simp only [a3o, h2, h3, h4, h5, h6, cT, cF])⟩ τ1 [0]
 refine SA ?_
 exact ITr Z (i + 1) ⟨τ0, (by rw [v2, acx a1]; simp only [a3o, h2, h3, h4, cT, cF])⟩ τ1 [0]
 refine SA ?_
 exact ITr Z (i + 1) ⟨τ0, (by rw [v2, acx a1]; simp only [a3o, h2, h3, cT, cF])⟩ τ1 [0]
 refine SA ?_
 exact ITr Z (i + 1) ⟨τ0, (by rw [v2, acx a1]; simp only [a3o, h2, cT, cF])⟩ τ1 [0]
 have a6 := v2.trans (show _ = none by rw [dn (show p_.parts.length ≤ i by omega)]; simp only [a3o, cT, cF])
 exact R4r Z Z (by simp only [abx, a6, cT, cF])
theorem f356 (hn : n + 0 ≤ 9) (p_ : Pattern) (N0 : Rd w K0 M0 p_.parts) {s : Str} (a0 : ok n p_) (a3 : ok n s) :
 DP 356 #[.agg #[vS K0 p_.parts M0], .string s] w (pB (aco p_ s)) := by
 have hb := bS0 hn
 refine EN Tryz.func356 Z (aS1 N0) ?_
 have r1 := (okl (adc a0)).1
 refine LM Z 0 (fun i => ((i ≤ p_.parts.length) ∧ (aaz s p_.parts = aaz s (p_.parts.drop i)), p_.parts.length - i, [(5, .v (vI i))], [], [], [])) ⟨zl, Z⟩ [2, 1] [2] [0] [0] ?_
 rintro i ⟨v1, v2⟩
 refine yKD 10 ?_ ?_ <;> intro h1 a6
 have a2 : i < p_.parts.length := τ0
 obtain ⟨e1, a1⟩ := gE a2
 have a8 := okE (adc a0) a1
 refine yI 0 i a2 ?_
 rintro a7 rfl
 refine zL 0 1 e1 a1 ?_
 rintro ⟨⟩
 refine yKE 19 ?_ ?_ <;> intro h2 a9
 have a4 := v2.trans (show _ = (some true) by rw [acx a1]; simp only [aaz, h2, cT, cF])
 exact R4r Z Z (by simp only [aco, a4, cT, cF])
 refine SA ?_
 exact ITr Z (i + 1) ⟨τ0, (by rw [v2, acx a1]; simp only [aaz, h2, cT, cF])⟩ τ1 [0]
 have a5 := v2.trans (show _ = none by rw [dn (show p_.parts.length ≤ i by omega)]; simp only [aaz, cT, cF])
 exact R4r Z Z (by simp only [aco, a5, cT, cF])
theorem f291 (hn : n + 0 ≤ 9) (r : Rule) (N0 : Rd w K0 M0 r.dataPattern.parts) (N1 : Rd w K1 M1 r.keyPattern.parts) (a0 : ok n r) :
 DP 291 #[aqy r K0 M0 K1 M1] w (pB (aby r)) := by
 have hb := bS0 hn
 refine EN Tryz.func291 Z (aS2 N0 N1) ?_
 refine KV Z Z Z Z Z Z O Z (fun w γ => f362 n τ0 r.dataPattern (γ.q 0 Z) ((adx a0).1)) fun ad => ?_
 refine yKN 9 ?_ ?_ <;> intro h1 a6
 exact R4r Z Z (by simp only [aby, h1, cT, cF])
 refine KV Z Z Z Z Z Z O Z (fun w γ => f362 n τ0 r.keyPattern (γ.q 1 Z) ((adx a0).2)) fun a8 => ?_
 refine yKN 14 ?_ ?_ <;> intro h2 ae
 exact R4r Z Z (by simp only [aby, h1, h2, cT, cF])
 have r1 := (okl (adc (adx a0).2)).1
 refine LM Z 0 (fun i => ((i ≤ r.keyPattern.parts.length) ∧ (a7i r r.keyPattern.parts = a7i r (r.keyPattern.parts.drop i)), r.keyPattern.parts.length - i, [(19, .v (vI i))], [], [], [])) ⟨zl, Z⟩ [18, 17, 1] [1] [0, 1] [0, 1] ?_
 rintro i ⟨v1, v2⟩
 refine yKD 20 ?_ ?_ <;> intro h3 ac
 have a2 : i < r.keyPattern.parts.length := τ0
 obtain ⟨e1, a1⟩ := gE a2
 have a3 := okE (adc (adx a0).2) a1
 refine yI 1 i a2 ?_
 rintro aa rfl
 refine zL 1 2 e1 a1 ?_
 rintro ⟨⟩
 refine KV Z Z Z Z Z Z O Z (fun w γ => f363 n τ0 a3) fun ab => ?_
 refine yKA 25 ?_ ?_ <;> intro h4
 refine KV Z Z Z Z Z Z O Z (fun w γ => f364 n τ0 (γ.q 0 Z) (adc (adx a0).1) a3) fun a9 => ?_
 refine yKN 32 ?_ ?_ <;> intro h5 a7
 have a4 := v2.trans (show _ = (some false) by rw [acx a1]; simp only [a7i, h4, h5, cT, cF])
 exact R4r Z Z (by simp only [aby, h1, h2, a4, cT, cF])
 refine SA ?_
 exact ITr Z (i + 1) ⟨τ0, (by rw [v2, acx a1]; simp only [a7i, h4, h5, cT, cF])⟩ τ1 [0, 1]
 refine SA ?_
 exact ITr Z (i + 1) ⟨τ0, (by rw [v2, acx a1]; simp only [a7i, h4, cT, cF])⟩ τ1 [0, 1]
 have a5 := v2.trans (show _ = none by rw [dn (show r.keyPattern.parts.length ≤ i by omega)]; simp only [a7i, cT, cF])
 exact R4r Z Z (by simp only [aby, h1, h2, a5, cT, cF])
theorem f280 (hn : n + 0 ≤ 9) (r : Rule) (N0 : Rd w K0 M0 r.dataPattern.parts) (N1 : Rd w K1 M1 r.keyPattern.parts) (a0 : ok n r) :
 DP 280 #[aqy r K0 M0 K1 M1] w (pB (abz r)) := by
 have hb := bS0 hn
 refine EN Tryz.func280 Z (aS2 N0 N1) ?_
 refine KV Z Z Z Z Z Z O Z (fun w γ => f354 n τ0 r.dataPattern (γ.q 0 Z) ((adx a0).1)) fun af => ?_
 refine yKN 8 ?_ ?_ <;> intro h1 a7
 exact R4r Z Z (by simp only [abz, h1, cT, cF])
 refine KV Z Z Z Z Z Z O Z (fun w γ => f354 n τ0 r.keyPattern (γ.q 1 Z) ((adx a0).2)) fun a9 => ?_
 refine yKN 13 ?_ ?_ <;> intro h2 ag
 exact R4r Z Z (by simp only [abz, h1, h2, cT, cF])
 have r1 := (okl (adc (adx a0).2)).1
 refine LM Z 0 (fun i => ((i ≤ r.keyPattern.parts.length) ∧ (a7j r r.keyPattern.parts = a7j r (r.keyPattern.parts.drop i)), r.keyPattern.parts.length - i, [(3, .v (vI i))], [], [], [])) ⟨zl, Z⟩ [1] [1] [0, 1] [0, 1] ?_
 rintro i ⟨v1, v2⟩
 refine yKD 19 ?_ ?_ <;> intro h3 ae
 have a3 : i < r.keyPattern.parts.length := τ0
 obtain ⟨e1, a1⟩ := gE a3
 have a4 := okE (adc (adx a0).2) a1
 refine R0 ?_
 refine WX.draw [] mixed fun bs G0 a2 => ?_
 refine dT 15 [1, 3, 4, 7] ?_
 refine zDI 4 1 i a2 Z a3 ?_
 rintro ab rfl
 refine zDL 5 1 2 e1 a2 a1 ?_
 rintro ⟨⟩
 refine DXV 6 Z J Z Z Z Z Z Z O Z (fun w γ => f355 n τ0 a4) fun ac => ?_
 refine dT 11 [15] ?_
 refine zDC 29 ?_ ?_ <;> intro h4
 refine dT 5 [17, 18, 21, 23, 24, 27] ?_
 refine zDI 14 1 i a2 Z a3 ?_
 rintro ad ⟨⟩
 refine zDL 15 1 2 e1 a2 a1 ?_
 rintro ⟨⟩
 refine DXV 16 Z J Z Z Z Z Z Z O Z (fun w γ => f356 n τ0 r.dataPattern (γ.q 0 Z) ((adx a0).1) a4) fun aa => ?_
 refine dT 0 [35, 37] ?_
 refine DX.tail2 [] Z Z J ?_
 refine yKN 40 ?_ ?_ <;> intro h5 a8
 have a5 := v2.trans (show _ = (some false) by rw [acx a1]; simp only [a7j, h4, h5, cT, cF])
 exact R4r Z Z (by simp only [abz, h1, h2, a5, cT, cF])
 refine SA ?_
 exact ITr Z (i + 1) ⟨τ0, (by rw [v2, acx a1]; simp only [a7j, h4, h5, cT, cF])⟩ τ1 [0, 1]
 refine dT 0 [17, 19, 21, 23, 25, 27, 29, 31, 33, 35, 37] ?_
 refine DX.tail2 [] Z Z J ?_
 refine SA ?_
 exact ITr Z (i + 1) ⟨τ0, (by rw [v2, acx a1]; simp only [a7j, h4, cT, cF])⟩ τ1 [0, 1]
 have a6 := v2.trans (show _ = none by rw [dn (show r.keyPattern.parts.length ≤ i by omega)]; simp only [a7j, cT, cF])
 exact R4r Z Z (by simp only [abz, h1, h2, a6, cT, cF])
theorem f286 (hn : n + 0 ≤ 9) {s : List Key} (N0 : Rd w K0 M0 s) (fg : FuncId) (fc : List Value) (fq : Key → Bool) (ff : ∀ w1, Kp emp w w1 → ∀ (e0 : Key) (x0 : GoT.X Key), ok n e0 → All (hp w1) (GoT.fa .der e0 x0) → Does Tryz.prog fg ([Value.agg ⟨GoT.sh e0 x0⟩] ++ fc).toArray w1 emp (fun rv _ => rv = .bool (fq e0) ∧ True)) (a0 : ok n s) :
 DP 286 #[vS K0 s M0, .func (.func fg) #[] fc.toArray] w (pI n (aer s fq)) := by
 have hb := bS0 hn
 refine EN Tryz.func286 Z (aS1 N0) ?_
 have r1 := (okl a0).1
 refine LM Z 0 (fun i => ((i ≤ s.length) ∧ (ae2 fq s 0 = ae2 fq (s.drop i) i), s.length - i, [(8, .v (vI i))], [], [], [])) ⟨zl, Z⟩ [7, 0, 1] [] [0] [0] ?_
 rintro i ⟨v1, v2⟩
 refine yKD 9 ?_ ?_ <;> intro h1 a6
 have a2 : i < s.length := τ0
 obtain ⟨e1, a1⟩ := gE a2
 have a4 := okE a0 a1
 refine yI 0 i a2 ?_
 rintro a7 rfl
 refine zL 0 1 e1 a1 ?_
 rintro ⟨⟨p1, c1⟩, ⟨⟩⟩
 refine WX.callV Z Z Z Z Z O Z (fun w G bs hI hΓ => ff w hI.keep e1 ((p1, c1), ()) a4 (All.cons (hΓ.get 1 Z : RdSl _ _ _ _) All.nil)) fun a8 => ?_
 refine yKA 16 ?_ ?_ <;> intro h2
 have a3 := v2.trans (show _ = (some ((i : Nat) : Int)) by rw [acx a1]; simp only [ae2, h2, cT, cF])
 rw [show aer s fq = ((i : Nat) : Int) by simp only [aer, a3, cT, cF]]
 exact R6r Z Z (i6 ((i : Nat) : Int))
 refine SA ?_
 exact ITr Z (i + 1) ⟨τ0, (by rw [v2, acx a1]; simp only [ae2, h2, cT, cF])⟩ τ1 [0]
 have a5 := v2.trans (show _ = none by rw [dn (show s.length ≤ i by omega)]; simp only [ae2, cT, cF])
 rw [show aer s fq = (-1) by simp only [aer, a5, cT, cF]]
 exact R6r Z Z (i6 (-1))
theorem agi : ∀ (f : Key → Bool) (l : List Key) (i : Nat) (j : Int), ae2 f l i = some j → j < ((i + l.length : Nat) : Int)
 | f, [], i, j, h => by cases h
 | f, x :: l, i, j, h => by
  simp only [ae2] at h
  cases hx : f x
  ·rw [hx, cond_false] at h
   have := agi f l (i + 1) j h
   simp only [List.length_cons]; omega
  ·rw [hx, cond_true] at h
   cases h
   simp only [List.length_cons]; omega
theorem ahz (l : List Key) (f : Key → Bool) : aer l f < ((l.length : Nat) : Int) := by
 unfold aer
 cases h : ae2 f l 0 with
 | none => show (-1 : Int) < _; omega
 | some j => have := agi f l 0 j h; show j < _; omega
theorem f184 (hn : n + 0 ≤ 9) {s : List Key} (N0 : Rd w K0 M0 s) (fg : FuncId) (fc : List Value) (fq : Key → Bool) (ff : ∀ w1, Kp emp w w1 → ∀ (e0 : Key) (x0 : GoT.X Key), ok n e0 → All (hp w1) (GoT.fa .der e0 x0) → Does Tryz.prog fg ([Value.agg ⟨GoT.sh e0 x0⟩] ++ fc).toArray w1 emp (fun rv _ => rv = .bool (fq e0) ∧ True)) (a0 : ok n s) :
 DP 184 #[vS K0 s M0, .func (.func fg) #[] fc.toArray] w (pB (afq s fq)) := by
 have hb := bS0 hn
 refine EN Tryz.func184 Z (aS1 N0) ?_
 refine KW Z Z Z Z Z Z O Z (fun w G bs hI hΓ => f286 n τ0 (hΓ.get 0 Z) fg fc fq (fun a2 a1 => ff a2 (hI.keep.trans a1)) a0) fun a3 => ?_
 have q1 := ahz s fq
 exact R4r Z Z (by simp only [afq, cT, cF])
theorem f361 (hn : n + 0 ≤ 9) {s : List Rule} (N0 : Rd w K0 M0 s) (fg : FuncId) (fc : List Value) (fq : Rule → Bool) (ff : ∀ w1, Kp emp w w1 → ∀ (e0 : Rule) (x0 : GoT.X Rule), ok n e0 → All (hp w1) (GoT.fa .der e0 x0) → Does Tryz.prog fg ([Value.agg ⟨GoT.sh e0 x0⟩] ++ fc).toArray w1 emp (fun rv _ => rv = .bool (fq e0) ∧ True)) (a0 : ok n s) :
 DP 361 #[vS K0 s M0, .func (.func fg) #[] fc.toArray] w (pI n (aeo s fq)) := by
 have hb := bS0 hn
 refine EN Tryz.func361 Z (aS1 N0) ?_
 have r1 := (okl a0).1
 refine LM Z 0 (fun i => ((i ≤ s.length) ∧ (adv fq s 0 = adv fq (s.drop i) i), s.length - i, [(8, .v (vI i))], [], [], [])) ⟨zl, Z⟩ [7, 0, 1] [] [0] [0] ?_
 rintro i ⟨v1, v2⟩
 refine yKD 9 ?_ ?_ <;> intro h1 a6
 have a2 : i < s.length := τ0
 obtain ⟨e1, a1⟩ := gE a2
 have a4 := okE a0 a1
 refine yI 0 i a2 ?_
 rintro a7 rfl
 refine zL 0 1 e1 a1 ?_
 rintro ⟨⟨p1, c1⟩, ⟨p2, c2⟩⟩
 refine WX.callV Z Z Z Z Z O Z (fun w G bs hI hΓ => ff w hI.keep e1 ((p1, c1), (p2, c2)) a4 (All.cons (hΓ.get 1 Z : RdSl _ _ _ _) (All.cons (hΓ.get 2 Z : RdSl _ _ _ _) All.nil))) fun a8 => ?_
 refine yKA 16 ?_ ?_ <;> intro h2
 have a3 := v2.trans (show _ = (some ((i : Nat) : Int)) by rw [acx a1]; simp only [adv, h2, cT, cF])
 rw [show aeo s fq = ((i : Nat) : Int) by simp only [aeo, a3, cT, cF]]
 exact R6r Z Z (i6 ((i : Nat) : Int))
 refine SA ?_
 exact ITr Z (i + 1) ⟨τ0, (by rw [v2, acx a1]; simp only [adv, h2, cT, cF])⟩ τ1 [0]
 have a5 := v2.trans (show _ = none by rw [dn (show s.length ≤ i by omega)]; simp only [adv, cT, cF])
 rw [show aeo s fq = (-1) by simp only [aeo, a5, cT, cF]]
 exact R6r Z Z (i6 (-1))
theorem agb : ∀ (f : Rule → Bool) (l : List Rule) (i : Nat) (j : Int), adv f l i = some j → j < ((i + l.length : Nat) : Int)
 | f, [], i, j, h => by cases h
 | f, x :: l, i, j, h => by
  simp only [adv] at h
  cases hx : f x
  ·rw [hx, cond_false] at h
   have := agb f l (i + 1) j h
   simp only [List.length_cons]; omega
  ·rw [hx, cond_true] at h
   cases h
   simp only [List.length_cons]; omega
theorem ahs (l : List Rule) (f : Rule → Bool) : aeo l f < ((l.length : Nat) : Int) := by
 unfold aeo
 cases h : adv f l 0 with
 | none => show (-1 : Int) < _; omega
 | some j => have := agb f l 0 j h; show j < _; omega
theorem f289 (hn : n + 0 ≤ 9) {s : List Rule} (N0 : Rd w K0 M0 s) (fg : FuncId) (fc : List Value) (fq : Rule → Bool) (ff : ∀ w1, Kp emp w w1 → ∀ (e0 : Rule) (x0 : GoT.X Rule), ok n e0 → All (hp w1) (GoT.fa .der e0 x0) → Does Tryz.prog fg ([Value.agg ⟨GoT.sh e0 x0⟩] ++ fc).toArray w1 emp (fun rv _ => rv = .bool (fq e0) ∧ True)) (a0 : ok n s) :
 DP 289 #[vS K0 s M0, .func (.func fg) #[] fc.toArray] w (pB (afl s fq)) := by
 have hb := bS0 hn
 refine EN Tryz.func289 Z (aS1 N0) ?_
 refine KW Z Z Z Z Z Z O Z (fun w G bs hI hΓ => f361 n τ0 (hΓ.get 0 Z) fg fc fq (fun a2 a1 => ff a2 (hI.keep.trans a1)) a0) fun a3 => ?_
 have q1 := ahs s fq
 exact R4r Z Z (by simp only [afl, cT, cF])
theorem f292 (hn : n + 0 ≤ 9) {s : List DataP} (N0 : Rd w K0 M0 s) (fg : FuncId) (fc : List Value) (fq : DataP → Bool) (ff : ∀ w1, Kp emp w w1 → ∀ (e0 : DataP) (x0 : GoT.X DataP), ok n e0 → All (hp w1) (GoT.fa .der e0 x0) → Does Tryz.prog fg ([Value.agg ⟨GoT.sh e0 x0⟩] ++ fc).toArray w1 emp (fun rv _ => rv = .bool (fq e0) ∧ True)) (a0 : ok n s) :
 DP 292 #[vS K0 s M0, .func (.func fg) #[] fc.toArray] w (pI n (aen s fq)) := by
 have hb := bS0 hn
 refine EN Tryz.func292 Z (aS1 N0) ?_
 have r1 := (okl a0).1
 refine LM Z 0 (fun i => ((i ≤ s.length) ∧ (adw fq s 0 = adw fq (s.drop i) i), s.length - i, [(8, .v (vI i))], [], [], [])) ⟨zl, Z⟩ [7, 0, 1] [] [0] [0] ?_
 rintro i ⟨v1, v2⟩
 refine yKD 9 ?_ ?_ <;> intro h1 a6
 have a2 : i < s.length := τ0
 obtain ⟨e1, a1⟩ := gE a2
 have a4 := okE a0 a1
 refine yI 0 i a2 ?_
 rintro a7 rfl
 refine zL 0 1 e1 a1 ?_
 rintro ⟨⟨p1, c1⟩, ⟨p2, c2⟩, ⟨p3, c3⟩, ⟨⟩, ⟨⟩⟩
 refine WX.callV Z Z Z Z Z O Z (fun w G bs hI hΓ => ff w hI.keep e1 ((p1, c1), (p2, c2), (p3, c3), (), ()) a4 (All.cons (hΓ.get 1 Z : RdSl _ _ _ _) (All.cons (hΓ.get 2 Z : RdSl _ _ _ _) (All.cons (hΓ.get 3 Z : RdSl _ _ _ _) All.nil)))) fun a8 => ?_
 refine yKA 16 ?_ ?_ <;> intro h2
 have a3 := v2.trans (show _ = (some ((i : Nat) : Int)) by rw [acx a1]; simp only [adw, h2, cT, cF])
 rw [show aen s fq = ((i : Nat) : Int) by simp only [aen, a3, cT, cF]]
 exact R6r Z Z (i6 ((i : Nat) : Int))
 refine SA ?_
 exact ITr Z (i + 1) ⟨τ0, (by rw [v2, acx a1]; simp only [adw, h2, cT, cF])⟩ τ1 [0]
 have a5 := v2.trans (show _ = none by rw [dn (show s.length ≤ i by omega)]; simp only [adw, cT, cF])
 rw [show aen s fq = (-1) by simp only [aen, a5, cT, cF]]
 exact R6r Z Z (i6 (-1))
theorem agc : ∀ (f : DataP → Bool) (l : List DataP) (i : Nat) (j : Int), adw f l i = some j → j < ((i + l.length : Nat) : Int)
 | f, [], i, j, h => by cases h
 | f, x :: l, i, j, h => by
  simp only [adw] at h
  cases hx : f x
  ·rw [hx, cond_false] at h
   have := agc f l (i + 1) j h
   simp only [List.length_cons]; omega
  ·rw [hx, cond_true] at h
   cases h
   simp only [List.length_cons]; omega
theorem aho (l : List DataP) (f : DataP → Bool) : aen l f < ((l.length : Nat) : Int) := by
 unfold aen
 cases h : adw f l 0 with
 | none => show (-1 : Int) < _; omega
 | some j => have := agc f l 0 j h; show j < _; omega
theorem f188 (hn : n + 0 ≤ 9) {s : List DataP} (N0 : Rd w K0 M0 s) (fg : FuncId) (fc : List Value) (fq : DataP → Bool) (ff : ∀ w1, Kp emp w w1 → ∀ (e0 : DataP) (x0 : GoT.X DataP), ok n e0 → All (hp w1) (GoT.fa .der e0 x0) → Does Tryz.prog fg ([Value.agg ⟨GoT.sh e0 x0⟩] ++ fc).toArray w1 emp (fun rv _ => rv = .bool (fq e0) ∧ True)) (a0 : ok n s) :
 DP 188 #[vS K0 s M0, .func (.func fg) #[] fc.toArray] w (pB (afk s fq)) := by
 have hb := bS0 hn
 refine EN Tryz.func188 Z (aS1 N0) ?_
 refine KW Z Z Z Z Z Z O Z (fun w G bs hI hΓ => f292 n τ0 (hΓ.get 0 Z) fg fc fq (fun a2 a1 => ff a2 (hI.keep.trans a1)) a0) fun a3 => ?_
 have q1 := aho s fq
 exact R4r Z Z (by simp only [afk, cT, cF])
theorem f290 (hn : n + 0 ≤ 9) (r : Rule) (N0 : Rd w K0 M0 r.dataPattern.parts) (N1 : Rd w K1 M1 r.keyPattern.parts) (a0 : ok n r) :
 DP 290 #[aqy r K0 M0 K1 M1] w (pB (acp r)) := by
 have hb := bS0 hn
 refine EN Tryz.func290 Z (aS2 N0 N1) ?_
 refine KV Z Z Z Z Z Z O Z (fun w γ => f291 n τ0 r (γ.q 0 Z) (γ.q 1 Z) a0) fun a1 => ?_
 exact R4r Z Z (by simp only [acp, cT, cF])
theorem f187 (hn : n + 0 ≤ 9) {l : List Rule} (N0 : Rd w K0 M0 l) (a3 : ok n l) :
 DP 187 #[vS K0 l M0] w (pB (acq l)) := by
 have hb := bS0 hn
 refine EN Tryz.func187 Z (aS1 N0) ?_
 refine yKD 6 ?_ ?_ <;> intro h1 a7
 refine KV Z Z Z Z Z Z O Z (fun w γ => f289 n τ0 (γ.q 0 Z) 290 [] (fun a1 => (acp a1)) (fun a6 a5 a1 a4 a2 a0 => f290 n τ0 a1 (a0 _ List.mem_cons_self) (a0 (MF.rs .der a4.2.1 a4.2.2 a1.keyPattern.parts) (by simp [GoT.fa])) a2) a3) fun a8 => ?_
 exact R4r Z Z (by simp only [acq, h1, cT, cF])
 exact R4r Z Z (by simp only [acq, h1, cT, cF])
theorem f174 (hn : n + 0 ≤ 9) {l : List Rule} (N0 : Rd w K0 M0 l) (a0 : ok n l) :
 DP 174 #[vS K0 l M0] w (pB (acr l)) := by
 have hb := bS0 hn
 refine EN Tryz.func174 Z (aS1 N0) ?_
 have r1 := (okl a0).1
 refine LM Z 0 (fun i => ((i ≤ l.length) ∧ (ab0 l = ab0 (l.drop i)), l.length - i, [(3, .v (vI i))], [], [], [])) ⟨zl, Z⟩ [0] [] [0] [0] ?_
 rintro i ⟨v1, v2⟩
 refine yKD 7 ?_ ?_ <;> intro h1 a6
 have a2 : i < l.length := τ0
 obtain ⟨e1, a1⟩ := gE a2
 have a4 := okE a0 a1
 refine yI 0 i a2 ?_
 rintro a7 rfl
 refine zL 0 1 e1 a1 ?_
 rintro ⟨⟨p1, c1⟩, ⟨p2, c2⟩⟩
 refine CV Z Z Z Z Z O Z (fun w γ => f280 n τ0 e1 (γ.q 1 Z) (γ.q 2 Z) a4) fun a8 => ?_
 refine yKN 15 ?_ ?_ <;> intro h2 a9
 have a3 := v2.trans (show _ = (some false) by rw [acx a1]; simp only [ab0, h2, cT, cF])
 exact R4r Z Z (by simp only [acr, a3, cT, cF])
 refine SA ?_
 exact ITr Z (i + 1) ⟨τ0, (by rw [v2, acx a1]; simp only [ab0, h2, cT, cF])⟩ τ1 [0]
 have a5 := v2.trans (show _ = none by rw [dn (show l.length ≤ i by omega)]; simp only [ab0, cT, cF])
 exact R4r Z Z (by simp only [acr, a5, cT, cF])
theorem f186 (hn : n + 0 ≤ 9) {l : List Key} (N0 : Rd w K0 M0 l) (a1 : ok n l) :
 DP 186 #[vS K0 l M0] w (pB (a94 l)) := by
 have hb := bS0 hn
 refine EN Tryz.func186 Z (aS1 N0) ?_
 have r1 := (okl a1).1
 refine LM Z 0 (fun i => ((i ≤ l.length) ∧ (a55 l l 0 = a55 l (l.drop i) i), l.length - i, [(9, .v (vI i))], [], [], [])) ⟨zl, Z⟩ [8, 7, 0] [] [0] [0] ?_
 rintro i ⟨v1, v2⟩
 refine yKD 10 ?_ ?_ <;> intro h1 ah
 have a7 : i < l.length := τ0
 obtain ⟨e1, a0⟩ := gE a7
 have a5 := okE a1 a0
 refine yI 0 i a7 ?_
 rintro a6 rfl
 refine zL 0 1 e1 a0 ?_
 rintro ⟨⟨p1, c1⟩, ⟨⟩⟩
 refine KV Z Z Z Z Z Z O Z (fun w γ => f287 n τ0 e1.name (γ.q 1 Z) ((ag4 a5).1)) fun an => ?_
 refine yKN 18 ?_ ?_ <;> intro h2 aq
 have ad := v2.trans (show _ = (some false) by rw [acx a0]; simp only [a55, h2, cT, cF])
 exact R4r Z Z (by simp only [a94, ad, cT, cF])
 refine yKE 25 ?_ ?_ <;> intro h3 am
 have a9 := v2.trans (show _ = (some false) by rw [acx a0]; simp only [a55, h2, h3, cT, cF])
 exact R4r Z Z (by simp only [a94, a9, cT, cF])
 refine KV Z Z Z Z Z Z O Z (fun w γ => f288 n τ0 ((ag4 a5).2)) fun aj => ?_
 refine yKN 30 ?_ ?_ <;> intro h4 ap
 have ac := v2.trans (show _ = (some false) by rw [acx a0]; simp only [a55, h2, h3, h4, cT, cF])
 exact R4r Z Z (by simp only [a94, ac, cT, cF])
 refine KS Z Z Z Z (fun _ hΓ => aut i ttOk Z Z Z Z τ7 (Nat.le_trans (show i ≤ l.length from τ0) (hΓ.get 0 Z : RdSl _ _ _ _).1)) ?_
 refine WX.slot 33 (y := .v (.slice (some a6) (((List.take i l)).length) M0)) Z (fun _ => by rw [show ((List.take i l)).length = i from (by simp only [List.length_take]; have z_ := (show i ≤ l.length from τ0); omega)]) ?_
 refine WX.stb 2 (MF.rs .stb (some a6) M0 (List.take i l)) Z 0 Z Z (fun _ h => RdSl.pre h i) ?_
 refine LM Z 0 (fun i2 => ((i2 ≤ ((List.take i l)).length) ∧ (a93 e1 (List.take i l) = a93 e1 (((List.take i l)).drop i2)), ((List.take i l)).length - i2, [(35, .v (vI i2))], [], [], [])) ⟨zl, Z⟩ [34, 33, 29, 28, 27, 26, 23, 22, 21, 20, 19, 4, 9, 8, 7, 0] [4] [0, 1, 2] [0, 1, 2] ?_
 rintro i2 ⟨v3, v4⟩
 refine yKD 36 ?_ ?_ <;> intro h5 ai
 have a8 : i2 < ((List.take i l)).length := τ0
 obtain ⟨e2, a2⟩ := gE a8
 have aa : ok n e2 := (fun a ha => (okl a1).2 a (List.mem_of_mem_take ha)) _ (List.mem_of_getElem? a2)
 refine yI 2 i2 a8 ?_
 rintro al ⟨⟩
 refine zL 2 3 e2 a2 ?_
 rintro ⟨⟨p2, c2⟩, ⟨⟩⟩
 refine KV Z Z Z Z Z Z O Z (fun w γ => f154 n τ0 e2.name (γ.q 3 Z) e1.name (γ.q 1 Z) ((ag4 aa).1) ((ag4 a5).1)) fun ak => ?_
 refine yKA 44 ?_ ?_ <;> intro h6
 have af := v4.trans (show _ = (some false) by rw [acx a2]; simp only [a93, h6, cT, cF])
 have ae := v2.trans (show _ = (some false) by rw [acx a0]; simp only [a55, h2, h3, h4, af, cT, cF])
 exact R4r Z Z (by simp only [a94, ae, cT, cF])
 refine yKE 50 ?_ ?_ <;> intro h7 ao
 have a3 := v4.trans (show _ = (some false) by rw [acx a2]; simp only [a93, h6, h7, cT, cF])
 have a4 := v2.trans (show _ = (some false) by rw [acx a0]; simp only [a55, h2, h3, h4, a3, cT, cF])
 exact R4r Z Z (by simp only [a94, a4, cT, cF])
 refine SA ?_
 exact ITr Z (i2 + 1) ⟨τ0, (by rw [v4, acx a2]; simp only [a93, h6, h7, cT, cF])⟩ τ1 [0, 1, 2]
 have ag := v4.trans (show _ = none by rw [dn (show ((List.take i l)).length ≤ i2 by omega)]; simp only [a93, cT, cF])
 refine SA ?_
 exact ITr Z (i + 1) ⟨τ0, (by rw [v2, acx a0]; simp only [a55, h2, h3, h4, ag, cT, cF])⟩ τ1 [0]
 have ab := v2.trans (show _ = none by rw [dn (show l.length ≤ i by omega)]; simp only [a55, cT, cF])
 exact R4r Z Z (by simp only [a94, ab, cT, cF])
theorem f175 (hn : n + 0 ≤ 9) {l : List Key} (N0 : Rd w K0 M0 l) (n_ : Name) (N1 : Rd w K1 M1 n_.parts) (a0 : ok n l) (a1 : ok n n_) :
 DP 175 #[vS K0 l M0, .agg #[vS K1 n_.parts M1]] w (pI n (ab2 l n_)) := by
 have hb := bS0 hn
 refine EN Tryz.func175 Z (aS2 N0 N1) ?_
 have r1 := (okl a0).1
 refine LM Z 0 (fun i => ((i ≤ l.length) ∧ (ab1 n_ l 0 = ab1 n_ (l.drop i) i), l.length - i, [(5, .v (vI i))], [], [], [])) ⟨zl, Z⟩ [3, 0] [3] [0, 1] [0, 1] ?_
 rintro i ⟨v1, v2⟩
 refine yKD 9 ?_ ?_ <;> intro h1 a8
 have a3 : i < l.length := τ0
 obtain ⟨e1, a2⟩ := gE a3
 have a6 := okE a0 a2
 refine R0 ?_
 refine WX.draw [] mixed fun bs G0 a4 => ?_
 refine dT 5 [1, 3] ?_
 refine zDI 2 0 i a4 Z a3 ?_
 rintro a9 rfl
 refine dT 3 [7] ?_
 refine zDL 4 0 2 e1 a4 a2 ?_
 rintro ⟨⟨p1, c1⟩, ⟨⟩⟩
 refine dT 1 [10] ?_
 refine DXV 6 Z J Z Z Z Z Z Z O Z (fun w γ => f281 n τ0 e1.name (γ.q 2 Z) n_ (γ.q 1 Z) ((ag4 a6).1) a1) fun aa => ?_
 refine DX.tail2 [] Z Z J ?_
 refine yKA 18 ?_ ?_ <;> intro h2
 have a5 := v2.trans (show _ = (some ((i : Nat) : Int)) by rw [acx a2]; simp only [ab1, h2, cT, cF])
 rw [show ab2 l n_ = ((i : Nat) : Int) by simp only [ab2, a5, cT, cF]]
 exact R6r Z Z (i6 ((i : Nat) : Int))
 refine SA ?_
 exact ITr Z (i + 1) ⟨τ0, (by rw [v2, acx a2]; simp only [ab1, h2, cT, cF])⟩ τ1 [0, 1]
 have a7 := v2.trans (show _ = none by rw [dn (show l.length ≤ i by omega)]; simp only [ab1, cT, cF])
 rw [show ab2 l n_ = (-1) by simp only [ab2, a7, cT, cF]]
 exact R6r Z Z (i6 (-1))
theorem f173 (hn : n + 0 ≤ 9) {l : List Key} (N0 : Rd w K0 M0 l) (a2 : ok n l) :
 DP 173 #[vS K0 l M0] w (pB (a95 l)) := by
 have hb := bS0 hn
 refine EN Tryz.func173 Z (aS1 N0) ?_
 have r1 := (okl a2).1
 refine LM Z 0 (fun i => ((i ≤ l.length) ∧ (a56 l l 0 = a56 l (l.drop i) i), l.length - i, [(3, .v (vI i))], [], [], [])) ⟨zl, Z⟩ [0] [] [0] [0] ?_
 rintro i ⟨v1, v2⟩
 refine yKD 8 ?_ ?_ <;> intro h1 ak
 have a3 : i < l.length := τ0
 obtain ⟨e1, a1⟩ := gE a3
 have a6 := okE a2 a1
 refine R0 ?_
 refine WX.draw [] mixed fun bs G0 a0 => ?_
 refine dT 36 [1, 3] ?_
 refine zDI 2 0 i a0 Z a3 ?_
 rintro a7 rfl
 refine dT 34 [7] ?_
 refine zDL 4 0 1 e1 a0 a1 ?_
 rintro ⟨⟨p1, c1⟩, ⟨⟩⟩
 refine DXV 5 Z J Z Z Z Z Z Z O Z (fun w γ => f278 n τ0 e1.name (γ.q 1 Z) ((ag4 a6).1)) fun ar => ?_
 refine dT 30 [13, 15] ?_
 refine zDC 18 ?_ ?_ <;> intro h2
 have ag := B.nt h2
 refine dT 0 [17, 19, 21, 23, 25, 27, 29, 31, 33, 35, 37, 39, 41, 43, 45, 47, 49, 51, 53, 55, 57, 59, 61, 63, 65, 67, 69, 71, 73, 75] ?_
 refine DX.tail2 [] Z Z J ?_
 have ad := v2.trans (show _ = (some false) by rw [acx a1]; simp only [a56, h2, cT, cF])
 exact R4r Z Z (by simp only [a95, ad, cT, cF])
 have ag := B.nf h2
 refine dT 28 [17, 19] ?_
 refine zDI 10 0 i a0 Z a3 ?_
 rintro aq ⟨⟩
 refine dT 25 [23, 25] ?_
 refine zDL 13 0 2 e1 a0 a1 ?_
 rintro ⟨⟨p2, c2⟩, ⟨⟩⟩
 refine dT 20 [29, 31, 33, 35] ?_
 refine zDC 28 ?_ ?_ <;> intro h3
 have ab := B.et h3
 refine dT 0 [37, 39, 41, 43, 45, 47, 49, 51, 53, 55, 57, 59, 61, 63, 65, 67, 69, 71, 73, 75] ?_
 refine DX.tail2 [] Z Z J ?_
 have a9 := v2.trans (show _ = (some false) by rw [acx a1]; simp only [a56, h2, h3, cT, cF])
 exact R4r Z Z (by simp only [a95, a9, cT, cF])
 have ab := B.ef h3
 refine dT 18 [37, 39] ?_
 refine zDI 20 0 i a0 Z a3 ?_
 rintro aw ⟨⟩
 refine dT 16 [43] ?_
 refine zDL 22 0 3 e1 a0 a1 ?_
 rintro ⟨⟨p3, c3⟩, ⟨⟩⟩
 refine DXV 23 Z J Z Z Z Z Z Z O Z (fun w γ => f279 n τ0 ((ag4 a6).2)) fun an => ?_
 refine dT 11 [49, 51, 53] ?_
 refine zDC 37 ?_ ?_ <;> intro h4
 have af := B.nt h4
 refine dT 0 [55, 57, 59, 61, 63, 65, 67, 69, 71, 73, 75] ?_
 refine DX.tail2 [] Z Z J ?_
 have ac := v2.trans (show _ = (some false) by rw [acx a1]; simp only [a56, h2, h3, h4, cT, cF])
 exact R4r Z Z (by simp only [a95, ac, cT, cF])
 have af := B.nf h4
 refine dT 9 [55, 57] ?_
 refine DX.seeP 29 J Z Z Z Z (ah6 i ttOk Z Z Z Z τ7 (Nat.le_trans (show i ≤ l.length from τ0) (a0.get 0 Z : RdSl _ _ _ _).1)) ?_
 refine DX.slot 40 (y := .v (.slice (some a7) (((List.take i l)).length) M0)) Z (fun _ => by rw [show ((List.take i l)).length = i from (by simp only [List.length_take]; have z_ := (show i ≤ l.length from τ0); omega)]) ?_
 refine DX.der 4 (MF.rs .der (some a7) M0 (List.take i l)) Z (fun _ hΓ => RdSl.pre (hΓ.get 0 Z : RdSl _ _ _ _) i) ?_
 refine dT 6 [61, 63] ?_
 refine zDI 32 0 i a0 Z a3 ?_
 rintro ax ⟨⟩
 refine dT 4 [67] ?_
 refine zDL 34 0 5 e1 a0 a1 ?_
 rintro ⟨⟨p4, c4⟩, ⟨⟩⟩
 refine DXV 35 Z J Z Z Z Z Z Z O Z (fun w γ => f175 n τ0 (γ.q 4 Z) e1.name (γ.q 5 Z) (ada τ2 (fun a ha => (okl a2).2 a (List.mem_of_mem_take ha)) : ok n ((List.take i l) : List Key)) ((ag4 a6).1)) fun ap => ?_
 refine dT 0 [73, 75] ?_
 refine DX.tail2 [] Z Z J ?_
 refine yKD 48 ?_ ?_ <;> intro h5 am
 have ah := v2.trans (show _ = (some false) by rw [acx a1]; simp only [a56, h2, h3, h4, h5, cT, cF])
 exact R4r Z Z (by simp only [a95, ah, cT, cF])
 refine LM Z 0 (fun i2 => ((i2 ≤ i) ∧ (ab3 l e1 i 0 = ab3 l e1 (i - i2) i2), i - i2, [(4, .v (vI i2))], [], [], [])) ⟨zl, Z⟩ [47, 46, 45, 44, 43, 42, 41, 40, 39, 38, 35, 34, 33, 32, 31, 30, 29, 26, 25, 24, 23, 22, 21, 20, 19, 3, 0] [] [0] [0] ?_
 rintro i2 ⟨v3, v4⟩
 refine yKD 51 ?_ ?_ <;> intro h6 av
 refine R0 ?_
 refine WX.draw [] mixed fun bs G0 a0 => ?_
 refine dT 9 [1, 3] ?_
 have a8 : i2 < l.length := τ3
 obtain ⟨e2, a4⟩ := gE a8
 have ao := okE a2 a4
 refine zDI 2 0 i2 a0 Z a8 ?_
 rintro al ⟨⟩
 refine dT 7 [7] ?_
 refine zDL 4 0 6 e2 a0 a4 ?_
 rintro ⟨⟨p5, c5⟩, ⟨⟩⟩
 refine dT 4 [11, 13] ?_
 refine zDI 7 0 i a0 Z a3 ?_
 rintro aj ⟨⟩
 refine dT 2 [17] ?_
 refine zDL 9 0 7 e1 a0 a1 ?_
 rintro ⟨⟨p6, c6⟩, ⟨⟩⟩
 refine dT 0 [21] ?_
 refine DX.tail2 [] Z Z J ?_
 refine yKE 64 ?_ ?_ <;> intro h7 au
 have ae := v4.trans (show _ = (some false) by rw [show i - i2 = (i - (i2 + 1)) + 1 by omega]; simp only [ab3, a4, h7, cT, cF])
 have a5 := v2.trans (show _ = (some false) by rw [acx a1]; simp only [a56, h2, h3, h4, h5, ae, cT, cF])
 exact R4r Z Z (by simp only [a95, a5, cT, cF])
 refine SA ?_
 exact ITr Z (i2 + 1) ⟨τ0, (by rw [v4, show i - i2 = (i - (i2 + 1)) + 1 by omega]; simp only [ab3, a4, h7, cT, cF])⟩ τ1 [0]
 have ai := v4.trans (show _ = none by rw [show i - i2 = 0 by omega]; simp only [ab3, cT, cF])
 refine SA ?_
 exact ITr Z (i + 1) ⟨τ0, (by rw [v2, acx a1]; simp only [a56, h2, h3, h4, h5, ai, cT, cF])⟩ τ1 [0]
 have aa := v2.trans (show _ = none by rw [dn (show l.length ≤ i by omega)]; simp only [a56, cT, cF])
 exact R4r Z Z (by simp only [a95, aa, cT, cF])
theorem f185 (hn : n + 0 ≤ 9) (k : Key) (N0 : Rd w K0 M0 k.name.parts) (n_ : Name) (bn_ : Addr) (hn_ : RdSl (hp w) (some bn_) 1 [n_]) (a1 : ok n k) (a0 : ok n n_) :
 DP 185 #[.agg #[vS K0 k.name.parts M0, vI k.secret], .pointer (some bn_)] w (pB (acs n_ k)) := by
 have hb := bS0 hn
 refine EN Tryz.func185 Z (aS2 N0 hn_) ?_
 have a2 : ([n_] : List Name)[0]? = some n_ := rfl
 refine WX.slot 1 (y := .e (some bn_) 0 1 0) Z (fun _ => anb) ?_
 refine yL 1 2 n_ a2 ?_
 rintro ⟨p1, c1⟩
 refine CV Z Z Z Z Z O Z (fun w γ => f154 n τ0 k.name (γ.q 0 Z) n_ (γ.q 2 Z) ((ag4 a1).1) a0) fun a3 => ?_
 exact R4r Z Z (by simp only [acs, cT, cF])
theorem f189 (hn : n + 0 ≤ 9) (x_ : DataP) (N0 : Rd w K0 M0 x_.name.parts) (N1 : Rd w K1 M1 x_.content) (N2 : Rd w K2 M2 x_.keyName.parts) (a0 : ok n x_) :
 DP 189 #[alh x_ K0 M0 K1 M1 K2 M2] w (pB (acu x_)) := by
 have hb := bS0 hn
 refine EN Tryz.func189 Z (aS3 N0 N1 N2) ?_
 refine KV Z Z Z Z Z Z O Z (fun w γ => f190 n τ0 x_ (γ.q 0 Z) (γ.q 1 Z) (γ.q 2 Z) a0) fun a1 => ?_
 exact R4r Z Z (by simp only [acu, cT, cF])
theorem f82 (hn : n + 0 ≤ 9) (t : TrustPolicy) (N0 : Rd w K0 M0 t.keys) (N1 : Rd w K1 M1 t.rules) (N2 : Rd w K2 M2 t.anchors) (N3 : Rd w K3 M3 t.certificates) (a0 : ok n t) :
 DP 82 #[af7 t K0 M0 K1 M1 K2 M2 K3 M3] w (pB (a96 t)) := by
 have hb := bS0 hn
 refine EN Tryz.func82 Z (aS4 N0 N1 N2 N3) ?_
 have r1 := (okl (acz a0).2.2.1).1
 refine LM Z 0 (fun i => ((i ≤ t.anchors.length) ∧ (ab4 t t.anchors = ab4 t (t.anchors.drop i)), t.anchors.length - i, [(8, .v (vI i))], [], [], [])) ⟨zl, Z⟩ [7, 6, 1] [1] [0, 1, 2, 3] [0, 1, 2, 3] ?_
 rintro i ⟨v1, v2⟩
 refine yKD 9 ?_ ?_ <;> intro h1 ac
 have a7 : i < t.anchors.length := τ0
 obtain ⟨e1, a6⟩ := gE a7
 have ab := okE (acz a0).2.2.1 a6
 refine yI 2 i a7 ?_
 rintro ag rfl
 refine zL 2 4 e1 a6 ?_
 rintro ⟨p1, c1⟩
 refine KW Z Z Z Z Z Z O Z (fun w G bs hI hΓ => f184 n τ0 (hΓ.get 0 Z) 185 [Value.pointer (some ⟨bs 4, 0, none⟩)] (fun a2 => (acs e1 a2)) (fun aa a8 a2 a4 a3 a1 => f185 n τ0 a2 (a1 _ List.mem_cons_self) e1 ⟨bs 4, 0, none⟩ ((an1 (α := Name) (a := e1) (x := (p1, c1)) (hI.loc 4 _ Z).1 (All.cons (hΓ.get 4 Z : RdSl _ _ _ _) All.nil)).mono (asw a8)) a3 ab) ((acz a0).1)) fun ai => ?_
 refine yKN 16 ?_ ?_ <;> intro h2 ak
 have a9 := v2.trans (show _ = (some false) by rw [acx a6]; simp only [ab4, h2, cT, cF])
 exact R4r Z Z (by simp only [a96, a9, cT, cF])
 refine SA ?_
 exact ITr Z (i + 1) ⟨τ0, (by rw [v2, acx a6]; simp only [ab4, h2, cT, cF])⟩ τ1 [0, 1, 2, 3]
 have a5 := v2.trans (show _ = none by rw [dn (show t.anchors.length ≤ i by omega)]; simp only [ab4, cT, cF])
 refine KV Z Z Z Z Z Z O Z (fun w γ => f186 n τ0 (γ.q 0 Z) ((acz a0).1)) fun ae => ?_
 refine yKA 21 ?_ ?_ <;> intro h3
 refine KV Z Z Z Z Z Z O Z (fun w γ => f187 n τ0 (γ.q 1 Z) ((acz a0).2.1)) fun ah => ?_
 refine yKA 26 ?_ ?_ <;> intro h4
 refine yKD 32 ?_ ?_ <;> intro h5 ad
 refine yKD 38 ?_ ?_ <;> intro h6 aj
 refine KV Z Z Z Z Z Z O Z (fun w γ => f188 n τ0 (γ.q 3 Z) 189 [] (fun a2 => (acu a2)) (fun aa a8 a2 a4 a3 a1 => f189 n τ0 a2 (a1 _ List.mem_cons_self) (a1 (MF.rs .der a4.2.1.1 a4.2.1.2 a2.content) (by simp [GoT.fa])) (a1 (MF.rs .der a4.2.2.1.1 a4.2.2.1.2 a2.keyName.parts) (by simp [GoT.fa])) a3) ((acz a0).2.2.2)) fun af => ?_
 exact R4r Z Z (by simp only [a96, a5, h3, h4, h5, h6, cT, cF])
 exact R4r Z Z (by simp only [a96, a5, h3, h4, h5, h6, cT, cF])
 exact R4r Z Z (by simp only [a96, a5, h3, h4, h5, cT, cF])
 exact R4r Z Z (by simp only [a96, a5, h3, h4, cT, cF])
 exact R4r Z Z (by simp only [a96, a5, h3, cT, cF])
theorem f73 (hn : n + 0 ≤ 9) (t : TrustPolicy) (N0 : Rd w K0 M0 t.keys) (N1 : Rd w K1 M1 t.rules) (N2 : Rd w K2 M2 t.anchors) (N3 : Rd w K3 M3 t.certificates) (a0 : ok n t) :
 DP 73 #[af7 t K0 M0 K1 M1 K2 M2 K3 M3] w (pB (a7k t)) := by
 have hb := bS0 hn
 refine EN Tryz.func73 Z (aS4 N0 N1 N2 N3) ?_
 refine KV Z Z Z Z Z Z O Z (fun w γ => f173 n τ0 (γ.q 0 Z) ((acz a0).1)) fun al => ?_
 refine yKN 9 ?_ ?_ <;> intro h1 ad
 exact R4r Z Z (by simp only [a7k, h1, cT, cF])
 refine KV Z Z Z Z Z Z O Z (fun w γ => f174 n τ0 (γ.q 1 Z) ((acz a0).2.1)) fun af => ?_
 refine yKN 15 ?_ ?_ <;> intro h2 ap
 exact R4r Z Z (by simp only [a7k, h1, h2, cT, cF])
 refine yKD 21 ?_ ?_ <;> intro h3 ak
 exact R4r Z Z (by simp only [a7k, h1, h2, h3, cT, cF])
 refine yKD 26 ?_ ?_ <;> intro h4 ao
 exact R4r Z Z (by simp only [a7k, h1, h2, h3, h4, cT, cF])
 have r1 := (okl (acz a0).2.2.1).1
 refine LM Z 0 (fun i => ((i ≤ t.anchors.length) ∧ (ab6 t t.anchors = ab6 t (t.anchors.drop i)), t.anchors.length - i, [(3, .v (vI i))], [], [], [])) ⟨zl, Z⟩ [1] [1] [0, 1, 2, 3] [0, 1, 2, 3] ?_
 rintro i ⟨v1, v2⟩
 refine yKD 31 ?_ ?_ <;> intro h5 ae
 have a3 : i < t.anchors.length := τ0
 obtain ⟨e1, a2⟩ := gE a3
 have aa := okE (acz a0).2.2.1 a2
 refine R0 ?_
 refine WX.draw [] mixed fun bs G0 a5 => ?_
 refine dT 4 [1, 2, 5, 6, 9] ?_
 refine zDI 5 2 i a5 Z a3 ?_
 rintro ah rfl
 refine zDL 6 2 4 e1 a5 a2 ?_
 rintro ⟨p1, c1⟩
 refine DXV 7 Z J Z Z Z Z Z Z O Z (fun w γ => f175 n τ0 (γ.q 0 Z) e1 (γ.q 4 Z) ((acz a0).1) aa) fun ai => ?_
 refine dT 0 [17] ?_
 refine DX.tail2 [] Z Z J ?_
 refine yKD 42 ?_ ?_ <;> intro h6 an
 have a9 := v2.trans (show _ = (some false) by rw [acx a2]; simp only [ab6, h6, cT, cF])
 exact R4r Z Z (by simp only [a7k, h1, h2, h3, h4, a9, cT, cF])
 refine SA ?_
 exact ITr Z (i + 1) ⟨τ0, (by rw [v2, acx a2]; simp only [ab6, h6, cT, cF])⟩ τ1 [0, 1, 2, 3]
 have a6 := v2.trans (show _ = none by rw [dn (show t.anchors.length ≤ i by omega)]; simp only [ab6, cT, cF])
 have r2 := (okl (acz a0).2.2.2).1
 refine LM Z 0 (fun i => ((i ≤ t.certificates.length) ∧ (ab5 t.certificates = ab5 (t.certificates.drop i)), t.certificates.length - i, [(4, .v (vI i))], [], [], [])) ⟨zl, Z⟩ [1] [1] [0, 1, 2, 3] [0, 1, 2, 3] ?_
 rintro i ⟨v3, v4⟩
 refine yKD 47 ?_ ?_ <;> intro h7 am
 have a4 : i < t.certificates.length := τ0
 obtain ⟨e2, a1⟩ := gE a4
 have a7 := okE (acz a0).2.2.2 a1
 refine yI 3 i a4 ?_
 rintro aj rfl
 refine zL 3 5 e2 a1 ?_
 rintro ⟨⟨p2, c2⟩, ⟨p3, c3⟩, ⟨p4, c4⟩, ⟨⟩, ⟨⟩⟩
 refine CV Z Z Z Z Z O Z (fun w γ => f176 n τ0 e2 (γ.q 5 Z) (γ.q 6 Z) (γ.q 7 Z) a7) fun ag => ?_
 refine yKN 56 ?_ ?_ <;> intro h8 ac
 have ab := v4.trans (show _ = (some false) by rw [acx a1]; simp only [ab5, h8, cT, cF])
 exact R4r Z Z (by simp only [a7k, h1, h2, h3, h4, a6, ab, cT, cF])
 refine SA ?_
 exact ITr Z (i + 1) ⟨τ0, (by rw [v4, acx a1]; simp only [ab5, h8, cT, cF])⟩ τ1 [0, 1, 2, 3]
 have a8 := v4.trans (show _ = none by rw [dn (show t.certificates.length ≤ i by omega)]; simp only [ab5, cT, cF])
 exact R4r Z Z (by simp only [a7k, h1, h2, h3, h4, a6, a8, cT, cF])
end Go.Proofs.YtpmejlbgjkiobaaGreat
namespace Go.Stp
def adh (fq : Route → Bool) : List Route → Nat → Option (Int) | [], i => none | e1 :: rest_, i => bif fq e1 then (some ((i : Nat) : Int)) else adh fq rest_ (i + 1)
def ae0 (s : (List Route)) (fq : Route → Bool) : Int := match adh fq s 0 with | some r_ => r_ | none => (-1)
def a7l (face : Int) (prefix_ : Name) (r : Route) : Bool := bif (r.face == face) then (aav r.pfx prefix_) else false
def a0r (l : (List Route)) (prefix_ : Name) (face : Int) : Int := (ae0 l (fun e0_ => (a7l face prefix_ e0_)))
def a39 (l : (List Route)) : List Route → Nat → Option (Bool) | [], i => none | e1 :: rest_, i => bif (!(a52 e1.pfx)) then (some false) else bif (!(a0u e1.face 1 6)) then (some false) else bif (!(a0u e1.cost 0 1000)) then (some false) else bif decide ((a0r (List.take i l) e1.pfx e1.face) ≥ 0) then (some false) else a39 l rest_ (i + 1)
def a2p (l : (List Route)) : Bool := match a39 l l 0 with | some r_ => r_ | none => (decide ((((l).length : Nat) : Int) ≤ 24))
def a3p (n_ : Name) (side : Int) : List Route → Nat → Option (Int) | [], i => none | e1 :: rest_, i => bif (e1.face == side) then bif (a90 e1.pfx n_) then (some ((i : Nat) : Int)) else a3p n_ side rest_ (i + 1) else a3p n_ side rest_ (i + 1)
def a0p (l : (List Route)) (n_ : Name) (side : Int) : Int := match a3p n_ side l 0 with | some r_ => r_ | none => (-1)
def a3a (l : (List Route)) : List Route → Nat → Option (Bool) | [], i => none | e1 :: rest_, i => bif (!(a53 e1.pfx)) then (some false) else bif (!(a0m e1.face 1 6)) then (some false) else bif (!(a0m e1.cost 0 1000)) then (some false) else bif decide ((a0p (List.take i l) e1.pfx e1.face) ≥ 0) then (some false) else a3a l rest_ (i + 1)
def a3q (l : (List Route)) : Bool := match a3a l l 0 with | some r_ => r_ | none => (decide ((((l).length : Nat) : Int) ≤ 24))
theorem rtIL (fq : Route → Bool) : ∀ (l : List Route) (i : Nat) (r : Int), adh fq l i = some r → r < ((i + l.length : Nat) : Int)
 | [], i, r, h => by cases h
 | e :: l, i, r, h => by
  simp only [adh] at h
  cases h0 : fq e
  ·rw [h0, cond_false] at h
   have := rtIL fq l (i + 1) r h
   simp only [List.length_cons]; omega
  ·rw [h0, cond_true] at h; cases h
   simp only [List.length_cons]; omega
theorem ava (l : List Route) (n_ : Name) (f : Int) : a0r l n_ f < (l.length : Int) := by
 unfold a0r ae0
 split
 ·rename_i r h; have := rtIL _ l 0 r h; omega
 ·omega
theorem rtSL (n_ : Name) (f : Int) : ∀ (l : List Route) (i : Nat) (r : Int), a3p n_ f l i = some r → r < ((i + l.length : Nat) : Int)
 | [], i, r, h => by cases h
 | e :: l, i, r, h => by
  have ih := rtSL n_ f l (i + 1) r
  simp only [List.length_cons]
  simp only [a3p] at h
  cases h0 : (e.face == f)
  ·rw [h0, cond_false] at h; have := ih h; omega
  ·rw [h0, cond_true] at h
   cases h1 : a90 e.pfx n_
   ·rw [h1, cond_false] at h; have := ih h; omega
   ·rw [h1, cond_true] at h; cases h; omega
theorem avo (l : List Route) (n_ : Name) (f : Int) : a0p l n_ f < (l.length : Int) := by
 unfold a0p
 split
 ·rename_i r h; have := rtSL n_ f l 0 r h; omega
 ·omega
end Go.Stp
namespace Go.Proofs.YtpmejlbgjkiobaaGreat
open Go.Stp
open Go.Stp.GoT (ok)
variable {w : World} (n : Nat) {K0 K1 K2 K3 K4 K5 : Option Addr} {M0 M1 M2 M3 M4 M5 : Nat}
theorem f266 (hn : n + 0 ≤ 9) {s : List Route} (N0 : Rd w K0 M0 s) (fg : FuncId) (fc : List Value) (fq : Route → Bool) (ff : ∀ w1, Kp emp w w1 → ∀ (e0 : Route) (x0 : GoT.X Route), ok n e0 → All (hp w1) (GoT.fa .der e0 x0) → Does Tryz.prog fg ([Value.agg ⟨GoT.sh e0 x0⟩] ++ fc).toArray w1 emp (fun rv _ => rv = .bool (fq e0) ∧ True)) (a0 : ok n s) :
 DP 266 #[vS K0 s M0, .func (.func fg) #[] fc.toArray] w (pI n (ae0 s fq)) := by
 have hb := bS0 hn
 refine EN Tryz.func266 Z (aS1 N0) ?_
 have r1 := (okl a0).1
 refine LM Z 0 (fun i => ((i ≤ s.length) ∧ (adh fq s 0 = adh fq (s.drop i) i), s.length - i, [(8, .v (vI i))], [], [], [])) ⟨zl, Z⟩ [7, 0, 1] [] [0] [0] ?_
 rintro i ⟨v1, v2⟩
 refine yKD 9 ?_ ?_ <;> intro h1 a6
 have a2 : i < s.length := τ0
 obtain ⟨e1, a1⟩ := gE a2
 have a4 := okE a0 a1
 refine yI 0 i a2 ?_
 rintro a7 rfl
 refine zL 0 1 e1 a1 ?_
 rintro ⟨⟨p1, c1⟩, ⟨⟩, ⟨⟩⟩
 refine WX.callV Z Z Z Z Z O Z (fun w G bs hI hΓ => ff w hI.keep e1 ((p1, c1), (), ()) a4 (All.cons (hΓ.get 1 Z : RdSl _ _ _ _) All.nil)) fun a8 => ?_
 refine yKA 16 ?_ ?_ <;> intro h2
 have a3 := v2.trans (show _ = (some ((i : Nat) : Int)) by rw [acx a1]; simp only [adh, h2, cT, cF])
 rw [show ae0 s fq = ((i : Nat) : Int) by simp only [ae0, a3, cT, cF]]
 exact R6r Z Z (i6 ((i : Nat) : Int))
 refine SA ?_
 exact ITr Z (i + 1) ⟨τ0, (by rw [v2, acx a1]; simp only [adh, h2, cT, cF])⟩ τ1 [0]
 have a5 := v2.trans (show _ = none by rw [dn (show s.length ≤ i by omega)]; simp only [adh, cT, cF])
 rw [show ae0 s fq = (-1) by simp only [ae0, a5, cT, cF]]
 exact R6r Z Z (i6 (-1))
theorem ag6 : ∀ (f : Route → Bool) (l : List Route) (i : Nat) (j : Int), adh f l i = some j → j < ((i + l.length : Nat) : Int)
 | f, [], i, j, h => by cases h
 | f, x :: l, i, j, h => by
  simp only [adh] at h
  cases hx : f x
  ·rw [hx, cond_false] at h
   have := ag6 f l (i + 1) j h
   simp only [List.length_cons]; omega
  ·rw [hx, cond_true] at h
   cases h
   simp only [List.length_cons]; omega
theorem ahh (l : List Route) (f : Route → Bool) : ae0 l f < ((l.length : Nat) : Int) := by
 unfold ae0
 cases h : adh f l 0 with
 | none => show (-1 : Int) < _; omega
 | some j => have := ag6 f l 0 j h; show j < _; omega
theorem f272 (hn : n + 0 ≤ 9) (r : Route) (N0 : Rd w K0 M0 r.pfx.parts) (face : Int) (bface : Addr) (hface : RdSl (hp w) (some bface) 1 [face]) (prefix_ : Name) (bprefix_ : Addr) (hprefix_ : RdSl (hp w) (some bprefix_) 1 [prefix_]) (a4 : ok n r) (a3 : ok n face) (a0 : ok n prefix_) :
 DP 272 #[anh r K0 M0, .pointer (some bface), .pointer (some bprefix_)] w (pB (a7l face prefix_ r)) := by
 have hb := bS0 hn
 refine EN Tryz.func272 Z (aS3 N0 hface hprefix_) ?_
 have a2 : ([face] : List Int)[0]? = some face := rfl
 refine WX.slot 1 (y := .e (some bface) 0 1 0) Z (fun _ => anb) ?_
 have a1 : ([prefix_] : List Name)[0]? = some prefix_ := rfl
 refine WX.slot 2 (y := .e (some bprefix_) 0 1 0) Z (fun _ => anb) ?_
 refine yL 1 3 face a2 ?_
 rintro ⟨⟩
 refine yKE 9 ?_ ?_ <;> intro h1 a5
 refine yL 2 3 prefix_ a1 ?_
 rintro ⟨p1, c1⟩
 refine CV Z Z Z Z Z O Z (fun w γ => f154 n τ0 r.pfx (γ.q 0 Z) prefix_ (γ.q 3 Z) ((adk a4).1) a0) fun a6 => ?_
 exact R4r Z Z (by simp only [a7l, h1, cT, cF])
 exact R4r Z Z (by simp only [a7l, h1, cT, cF])
theorem f162 (hn : n + 0 ≤ 9) {l : List Route} (N0 : Rd w K0 M0 l) (prefix_ : Name) (N1 : Rd w K1 M1 prefix_.parts) {face : Int} (a5 : ok n l) (a0 : ok n prefix_) (a1 : ok n face) :
 DP 162 #[vS K0 l M0, .agg #[vS K1 prefix_.parts M1], vI face] w (pI n (a0r l prefix_ face)) := by
 have hb := bS0 hn
 refine EN Tryz.func162 Z (aS2 N0 N1) ?_
 refine KW Z Z Z Z Z Z O Z (fun w G bs hI hΓ => f266 n τ0 (hΓ.get 0 Z) 272 [Value.pointer (some ⟨bs 5, 0, none⟩), Value.pointer (some ⟨bs 4, 0, none⟩)] (fun a2 => (a7l face prefix_ a2)) (fun a8 a6 a2 a9 a3 a4 => f272 n τ0 a2 (a4 _ List.mem_cons_self) face ⟨bs 5, 0, none⟩ ((an1 (α := Int) (a := face) (x := ()) (hI.loc 5 _ Z).1 All.nil).mono (asw a6)) prefix_ ⟨bs 4, 0, none⟩ ((an1 (α := Name) (a := prefix_) (x := (K1, M1)) (hI.loc 4 _ Z).1 (All.cons (hΓ.get 1 Z : RdSl _ _ _ _) All.nil)).mono (asw a6)) a3 a1 a0) a5) fun a7 => ?_
 have q1 := ahh l (fun a2 => (a7l face prefix_ a2))
 rw [show a0r l prefix_ face = (ae0 l (fun a2 => (a7l face prefix_ a2))) by simp only [a0r, cT, cF]]
 exact R6r Z Z a7
theorem f273 (hn : n + 0 ≤ 9) {l : List Route} (N0 : Rd w K0 M0 l) (a0 : ok n l) :
 DP 273 #[vS K0 l M0] w (pB (a2p l)) := by
 have hb := bS0 hn
 refine EN Tryz.func273 Z (aS1 N0) ?_
 have r1 := (okl a0).1
 refine LM Z 0 (fun i => ((i ≤ l.length) ∧ (a39 l l 0 = a39 l (l.drop i) i), l.length - i, [(7, .v (vI i))], [], [], [])) ⟨zl, Z⟩ [6, 5, 0] [] [0] [0] ?_
 rintro i ⟨v1, v2⟩
 refine yKD 8 ?_ ?_ <;> intro h1 ae
 have a4 : i < l.length := τ0
 obtain ⟨e1, a1⟩ := gE a4
 have a2 := okE a0 a1
 refine yI 0 i a4 ?_
 rintro a3 rfl
 refine zL 0 1 e1 a1 ?_
 rintro ⟨⟨p1, c1⟩, ⟨⟩, ⟨⟩⟩
 refine R0 ?_
 refine WX.draw [] mixed fun bs G0 a8 => ?_
 refine dT 25 [1, 2] ?_
 refine DXV 2 Z J Z Z Z Z Z Z O Z (fun w γ => f287 n τ0 e1.pfx (γ.q 1 Z) ((adk a2).1)) fun aj => ?_
 refine dT 22 [7, 9] ?_
 refine zDC 16 ?_ ?_ <;> intro h2
 have ab := B.nt h2
 refine dT 0 [11, 13, 15, 17, 19, 21, 23, 25, 27, 29, 31, 33, 35, 37, 39, 41, 43, 45, 47, 49, 51, 53] ?_
 refine DX.tail2 [] Z Z J ?_
 have a9 := v2.trans (show _ = (some false) by rw [acx a1]; simp only [a39, h2, cT, cF])
 exact R4r Z Z (by simp only [a2p, a9, cT, cF])
 have ab := B.nf h2
 refine dT 20 [11, 12] ?_
 refine DXV 7 Z J Z Z Z Z Z Z O Z (fun w γ => f54 n τ0 ((adk a2).2.1) (i6 1) (i6 6)) fun ag => ?_
 refine dT 16 [17, 19, 21] ?_
 refine zDC 22 ?_ ?_ <;> intro h3
 have a6 := B.nt h3
 refine dT 0 [23, 25, 27, 29, 31, 33, 35, 37, 39, 41, 43, 45, 47, 49, 51, 53] ?_
 refine DX.tail2 [] Z Z J ?_
 have a5 := v2.trans (show _ = (some false) by rw [acx a1]; simp only [a39, h2, h3, cT, cF])
 exact R4r Z Z (by simp only [a2p, a5, cT, cF])
 have a6 := B.nf h3
 have al := agm (B.nf h3)
 refine dT 14 [23, 24] ?_
 refine DXV 13 Z J Z Z Z Z Z Z O Z (fun w γ => f54 n τ0 ((adk a2).2.2) (i6 0) (i6 1000)) fun ai => ?_
 refine dT 10 [29, 31, 33] ?_
 refine zDC 28 ?_ ?_ <;> intro h4
 have aa := B.nt h4
 refine dT 0 [35, 37, 39, 41, 43, 45, 47, 49, 51, 53] ?_
 refine DX.tail2 [] Z Z J ?_
 have a7 := v2.trans (show _ = (some false) by rw [acx a1]; simp only [a39, h2, h3, h4, cT, cF])
 exact R4r Z Z (by simp only [a2p, a7, cT, cF])
 have aa := B.nf h4
 have ak := agm (B.nf h4)
 refine dT 8 [35, 37] ?_
 refine DX.seeP 19 J Z Z Z Z (ah6 i ttOk Z Z Z Z τ7 (Nat.le_trans (show i ≤ l.length from τ0) (a8.get 0 Z : RdSl _ _ _ _).1)) ?_
 refine DX.slot 31 (y := .v (.slice (some a3) (((List.take i l)).length) M0)) Z (fun _ => by rw [show ((List.take i l)).length = i from (by simp only [List.length_take]; have z_ := (show i ≤ l.length from τ0); omega)]) ?_
 refine DX.der 2 (MF.rs .der (some a3) M0 (List.take i l)) Z (fun _ hΓ => RdSl.pre (hΓ.get 0 Z : RdSl _ _ _ _) i) ?_
 refine dT 3 [41, 42, 45, 46] ?_
 refine DXV 24 Z J Z Z Z Z Z Z O Z (fun w γ => f162 n τ0 (γ.q 2 Z) e1.pfx (γ.q 1 Z) (ada τ2 (fun a ha => (okl a0).2 a (List.mem_of_mem_take ha)) : ok n ((List.take i l) : List Route)) ((adk a2).1) ((adk a2).2.1)) fun ah => ?_
 have q1 := ava (List.take i l) e1.pfx e1.face
 refine dT 0 [51, 53] ?_
 refine DX.tail2 [] Z Z J ?_
 refine yKD 38 ?_ ?_ <;> intro h5 af
 have ac := v2.trans (show _ = (some false) by rw [acx a1]; simp only [a39, h2, h3, h4, h5, cT, cF])
 exact R4r Z Z (by simp only [a2p, ac, cT, cF])
 refine SA ?_
 exact ITr Z (i + 1) ⟨τ0, (by rw [v2, acx a1]; simp only [a39, h2, h3, h4, h5, cT, cF])⟩ τ1 [0]
 have ad := v2.trans (show _ = none by rw [dn (show l.length ≤ i by omega)]; simp only [a39, cT, cF])
 exact R4r Z Z (by simp only [a2p, ad, cT, cF])
theorem f263 (hn : n + 0 ≤ 9) {l : List Route} (N0 : Rd w K0 M0 l) (n_ : Name) (N1 : Rd w K1 M1 n_.parts) {side : Int} (a1 : ok n l) (a2 : ok n n_) (a3 : ok n side) :
 DP 263 #[vS K0 l M0, .agg #[vS K1 n_.parts M1], vI side] w (pI n (a0p l n_ side)) := by
 have hb := bS0 hn
 refine EN Tryz.func263 Z (aS2 N0 N1) ?_
 have r1 := (okl a1).1
 refine LM Z 0 (fun i => ((i ≤ l.length) ∧ (a3p n_ side l 0 = a3p n_ side (l.drop i) i), l.length - i, [(7, .v (vI i))], [], [], [])) ⟨zl, Z⟩ [4, 0, 2] [4] [0, 1] [0, 1] ?_
 rintro i ⟨v1, v2⟩
 refine yKD 11 ?_ ?_ <;> intro h1 aa
 have a5 : i < l.length := τ0
 obtain ⟨e1, a0⟩ := gE a5
 have a7 := okE a1 a0
 refine R0 ?_
 refine WX.draw [] mixed fun bs G0 a4 => ?_
 refine dT 14 [1, 3] ?_
 refine zDI 2 0 i a4 Z a5 ?_
 rintro ab rfl
 refine dT 12 [7] ?_
 refine zDL 4 0 2 e1 a4 a0 ?_
 rintro ⟨⟨p1, c1⟩, ⟨⟩, ⟨⟩⟩
 refine dT 8 [11, 13, 15] ?_
 refine zDC 21 ?_ ?_ <;> intro h2
 have a8 := B.et h2
 refine dT 6 [17, 19] ?_
 refine zDI 10 0 i a4 Z a5 ?_
 rintro ac ⟨⟩
 refine dT 4 [23] ?_
 refine zDL 12 0 3 e1 a4 a0 ?_
 rintro ⟨⟨p2, c2⟩, ⟨⟩, ⟨⟩⟩
 refine dT 2 [26] ?_
 refine DXV 14 Z J Z Z Z Z Z Z O Z (fun w γ => f281 n τ0 e1.pfx (γ.q 3 Z) n_ (γ.q 1 Z) ((adk a7).1) a2) fun ad => ?_
 refine dT 0 [31] ?_
 refine DX.tail2 [] Z Z J ?_
 refine yKA 29 ?_ ?_ <;> intro h3
 have a6 := v2.trans (show _ = (some ((i : Nat) : Int)) by rw [acx a0]; simp only [a3p, h2, h3, cT, cF])
 rw [show a0p l n_ side = ((i : Nat) : Int) by simp only [a0p, a6, cT, cF]]
 exact R6r Z Z (i6 ((i : Nat) : Int))
 refine SA ?_
 exact ITr Z (i + 1) ⟨τ0, (by rw [v2, acx a0]; simp only [a3p, h2, h3, cT, cF])⟩ τ1 [0, 1]
 have a8 := B.ef h2
 refine dT 0 [17, 19, 21, 23, 25, 27, 29, 31] ?_
 refine DX.tail2 [] Z Z J ?_
 refine SA ?_
 exact ITr Z (i + 1) ⟨τ0, (by rw [v2, acx a0]; simp only [a3p, h2, cT, cF])⟩ τ1 [0, 1]
 have a9 := v2.trans (show _ = none by rw [dn (show l.length ≤ i by omega)]; simp only [a3p, cT, cF])
 rw [show a0p l n_ side = (-1) by simp only [a0p, a9, cT, cF]]
 exact R6r Z Z (i6 (-1))
theorem f348 (hn : n + 0 ≤ 9) {l : List Route} (N0 : Rd w K0 M0 l) (a2 : ok n l) :
 DP 348 #[vS K0 l M0] w (pB (a3q l)) := by
 have hb := bS0 hn
 refine EN Tryz.func348 Z (aS1 N0) ?_
 have r1 := (okl a2).1
 refine LM Z 0 (fun i => ((i ≤ l.length) ∧ (a3a l l 0 = a3a l (l.drop i) i), l.length - i, [(3, .v (vI i))], [], [], [])) ⟨zl, Z⟩ [0] [] [0] [0] ?_
 rintro i ⟨v1, v2⟩
 refine yKD 7 ?_ ?_ <;> intro h1 ae
 have a3 : i < l.length := τ0
 obtain ⟨e1, a1⟩ := gE a3
 have a4 := okE a2 a1
 refine R0 ?_
 refine WX.draw [] mixed fun bs G0 a0 => ?_
 refine dT 40 [1, 3] ?_
 refine zDI 2 0 i a0 Z a3 ?_
 rintro a5 rfl
 refine dT 38 [7] ?_
 refine zDL 4 0 1 e1 a0 a1 ?_
 rintro ⟨⟨p1, c1⟩, ⟨⟩, ⟨⟩⟩
 refine DXV 5 Z J Z Z Z Z Z Z O Z (fun w γ => f278 n τ0 e1.pfx (γ.q 1 Z) ((adk a4).1)) fun al => ?_
 refine dT 34 [13, 15] ?_
 refine zDC 17 ?_ ?_ <;> intro h2
 have ab := B.nt h2
 refine dT 0 [17, 19, 21, 23, 25, 27, 29, 31, 33, 35, 37, 39, 41, 43, 45, 47, 49, 51, 53, 55, 57, 59, 61, 63, 65, 67, 69, 71, 73, 75, 77, 79, 81, 83] ?_
 refine DX.tail2 [] Z Z J ?_
 have a9 := v2.trans (show _ = (some false) by rw [acx a1]; simp only [a3a, h2, cT, cF])
 exact R4r Z Z (by simp only [a3q, a9, cT, cF])
 have ab := B.nf h2
 refine dT 32 [17, 19] ?_
 refine zDI 10 0 i a0 Z a3 ?_
 rintro ak ⟨⟩
 refine dT 30 [23] ?_
 refine zDL 12 0 2 e1 a0 a1 ?_
 rintro ⟨⟨p2, c2⟩, ⟨⟩, ⟨⟩⟩
 refine DXV 13 Z J Z Z Z Z Z Z O Z (fun w γ => f171 n τ0 ((adk a4).2.1) (i6 1) (i6 6)) fun ah => ?_
 refine dT 25 [29, 31, 33] ?_
 refine zDC 26 ?_ ?_ <;> intro h3
 have a7 := B.nt h3
 refine dT 0 [35, 37, 39, 41, 43, 45, 47, 49, 51, 53, 55, 57, 59, 61, 63, 65, 67, 69, 71, 73, 75, 77, 79, 81, 83] ?_
 refine DX.tail2 [] Z Z J ?_
 have a6 := v2.trans (show _ = (some false) by rw [acx a1]; simp only [a3a, h2, h3, cT, cF])
 exact R4r Z Z (by simp only [a3q, a6, cT, cF])
 have a7 := B.nf h3
 have ap := ag0 (B.nf h3)
 refine dT 23 [35, 37] ?_
 refine zDI 19 0 i a0 Z a3 ?_
 rintro an ⟨⟩
 refine dT 21 [41] ?_
 refine zDL 21 0 3 e1 a0 a1 ?_
 rintro ⟨⟨p3, c3⟩, ⟨⟩, ⟨⟩⟩
 refine DXV 22 Z J Z Z Z Z Z Z O Z (fun w γ => f171 n τ0 ((adk a4).2.2) (i6 0) (i6 1000)) fun aj => ?_
 refine dT 16 [47, 49, 51] ?_
 refine zDC 35 ?_ ?_ <;> intro h4
 have aa := B.nt h4
 refine dT 0 [53, 55, 57, 59, 61, 63, 65, 67, 69, 71, 73, 75, 77, 79, 81, 83] ?_
 refine DX.tail2 [] Z Z J ?_
 have a8 := v2.trans (show _ = (some false) by rw [acx a1]; simp only [a3a, h2, h3, h4, cT, cF])
 exact R4r Z Z (by simp only [a3q, a8, cT, cF])
 have aa := B.nf h4
 have am := ag0 (B.nf h4)
 refine dT 14 [53, 55] ?_
 refine DX.seeP 28 J Z Z Z Z (ah6 i ttOk Z Z Z Z τ7 (Nat.le_trans (show i ≤ l.length from τ0) (a0.get 0 Z : RdSl _ _ _ _).1)) ?_
 refine DX.slot 38 (y := .v (.slice (some a5) (((List.take i l)).length) M0)) Z (fun _ => by rw [show ((List.take i l)).length = i from (by simp only [List.length_take]; have z_ := (show i ≤ l.length from τ0); omega)]) ?_
 refine DX.der 4 (MF.rs .der (some a5) M0 (List.take i l)) Z (fun _ hΓ => RdSl.pre (hΓ.get 0 Z : RdSl _ _ _ _) i) ?_
 refine dT 11 [59, 61] ?_
 refine zDI 31 0 i a0 Z a3 ?_
 rintro ao ⟨⟩
 refine dT 9 [65] ?_
 refine zDL 33 0 5 e1 a0 a1 ?_
 rintro ⟨⟨p4, c4⟩, ⟨⟩, ⟨⟩⟩
 refine dT 6 [69, 71] ?_
 refine zDI 36 0 i a0 Z a3 ?_
 rintro af ⟨⟩
 refine dT 4 [75] ?_
 refine zDL 38 0 6 e1 a0 a1 ?_
 rintro ⟨⟨p5, c5⟩, ⟨⟩, ⟨⟩⟩
 refine DXV 39 Z J Z Z Z Z Z Z O Z (fun w γ => f263 n τ0 (γ.q 4 Z) e1.pfx (γ.q 5 Z) (ada τ2 (fun a ha => (okl a2).2 a (List.mem_of_mem_take ha)) : ok n ((List.take i l) : List Route)) ((adk a4).1) ((adk a4).2.1)) fun ai => ?_
 have q1 := avo (List.take i l) e1.pfx e1.face
 refine dT 0 [81, 83] ?_
 refine DX.tail2 [] Z Z J ?_
 refine yKD 51 ?_ ?_ <;> intro h5 ag
 have ac := v2.trans (show _ = (some false) by rw [acx a1]; simp only [a3a, h2, h3, h4, h5, cT, cF])
 exact R4r Z Z (by simp only [a3q, ac, cT, cF])
 refine SA ?_
 exact ITr Z (i + 1) ⟨τ0, (by rw [v2, acx a1]; simp only [a3a, h2, h3, h4, h5, cT, cF])⟩ τ1 [0]
 have ad := v2.trans (show _ = none by rw [dn (show l.length ≤ i by omega)]; simp only [a3a, cT, cF])
 exact R4r Z Z (by simp only [a3q, ad, cT, cF])
end Go.Proofs.YtpmejlbgjkiobaaGreat
namespace Go.Stp
def a97 (e_ : TableEntry) : Bool := true
def a4n (keepq : TableEntry → Bool) : List TableEntry → (List TableEntry) → (List TableEntry) | [], out => ((out) : List TableEntry) | e1 :: rest_, out => bif keepq e1 then a4n keepq rest_ (((out ++ [(TableEntry.mk (a0f e1.name) e1.value)])) : List TableEntry) else a4n keepq rest_ ((out) : List TableEntry)
def ac0 (l : (List TableEntry)) (keepq : TableEntry → Bool) : (List TableEntry) := match a4n keepq l ([] : List TableEntry) with | out => out
def a2q (l : (List TableEntry)) : (List TableEntry) := (ac0 l (fun e0_ => (a97 e0_)))
theorem kTL : ∀ (l o : List TableEntry), a4n (fun e0_ => a97 e0_) l o = o ++ l
 | [], o => by simp [a4n]
 | x :: l, o => by
  simp only [a4n]
  rw [show a97 x = true from rfl, cond_true, kTL l]
  simp [a0f]
theorem axw (l : List TableEntry) : a2q l = l := by simp [a2q, ac0, kTL]
theorem aln (l : List TableEntry) : (a2q l).length = l.length := by rw [axw]
def a67 : List TableEntry → (List TableEntry) → (List TableEntry) | [], out => ((out) : List TableEntry) | e1 :: rest_, out => a67 rest_ (((out ++ [(TableEntry.mk (a0g e1.name) e1.value)])) : List TableEntry)
def a4o (l : (List TableEntry)) : (List TableEntry) := match a67 l ([] : List TableEntry) with | out => out
theorem l6L : ∀ (l o : List TableEntry), a67 l o = o ++ l
 | [], o => by simp [a67]
 | x :: l, o => by
  simp only [a67]
  rw [l6L l]
  simp [a0g]
theorem axq (l : List TableEntry) : a4o l = l := by simp [a4o, l6L]
theorem aub (l : List TableEntry) : (a4o l).length = l.length := by rw [axq]
end Go.Stp
namespace Go.Proofs.YtpmejlbgjkiobaaGreat
open Go.Stp
open Go.Stp.GoT (ok)
variable {w : World} (n : Nat) {K0 K1 : Option Addr} {M0 M1 : Nat}
theorem f199 (hn : n + 0 ≤ 9) (e_ : TableEntry) (N0 : Rd w K0 M0 e_.name.parts) (a0 : ok n e_) :
 DP 199 #[.agg #[vS K0 e_.name.parts M0, vI e_.value]] w (pB (a97 e_)) := by
 refine EN Tryz.func199 Z (aS1 N0) ?_
 exact R4r Z Z (by simp only [a97, cT, cF])
theorem f198 (hn : n + 0 ≤ 9) {l : List TableEntry} (N0 : Rd w K0 M0 l) (keepg : FuncId) (keepc : List Value) (keepq : TableEntry → Bool) (keepf : ∀ w1, Kp emp w w1 → ∀ (e0 : TableEntry) (x0 : GoT.X TableEntry), ok n e0 → All (hp w1) (GoT.fa .der e0 x0) → Does Tryz.prog keepg ([Value.agg ⟨GoT.sh e0 x0⟩] ++ keepc).toArray w1 emp (fun rv _ => rv = .bool (keepq e0) ∧ True)) (a4 : ok n l) :
 DP 198 #[vS K0 l M0, .func (.func keepg) #[] keepc.toArray] w (pS w n (ac0 l keepq)) := by
 have hb := bS0 hn
 refine EN Tryz.func198 Z (aS1 N0) ?_
 refine yB fun p1 => ?_
 refine F0 1 TableEntry ?_
 have r1 := (okl a4).1
 refine LM Z (p1, 0, [], ([] : List TableEntry), 0) (fun | (a2, a3, a0, a1, i) => ((i ≤ l.length) ∧ JE n a1 ∧ (a1.length ≤ i) ∧ (a4n keepq l ([] : List TableEntry) = a4n keepq (l.drop i) a1), l.length - i, [(5, .v (vS a2 a1 a3)), (11, .v (vI i))], [], [(8, ⟨2, a2, a1.length, a3, a0⟩)], [(1, MF.ol a0 (a1 : List TableEntry))])) ⟨zl, nA, τ7, Z⟩ [10, 9, 1] [] [0] [0, 1] ?_
 rintro ⟨a2, a3, a0, a1, i⟩ ⟨v1, v2, v3, v4⟩
 refine yKD 12 ?_ ?_ <;> intro h1 ab
 have a7 : i < l.length := τ0
 obtain ⟨e1, a6⟩ := gE a7
 have a5 := okE a4 a6
 refine yI 0 i a7 ?_
 rintro ac rfl
 refine zL 0 2 e1 a6 ?_
 rintro ⟨⟨p2, c1⟩, ⟨⟩⟩
 refine KW Z Z Z Z Z Z O Z (fun w G bs hI hΓ => keepf w hI.keep e1 ((p2, c1), ()) a5 (All.cons (hΓ.get 2 Z : RdSl _ _ _ _) All.nil)) fun ae => ?_
 refine yKA 17 ?_ ?_ <;> intro h2
 refine R0 ?_
 refine WX.draw [8, 9] mixed fun bs G0 ad => ?_
 refine dT 5 [1, 3, 4, 9, 10] ?_
 refine DXF 3 3 Z J Z Z Z Z Z Z O Z (fun w γ => f56 n τ0 e1.name (γ.q 2 Z) ((ads a5).1)) ?_
 rintro ⟨p3, c2⟩ a9
 refine dT 3 [13] ?_
 refine DX.tail2 [7, 8, 9] Z Z J ?_
 refine zB fun p4 => ?_
 refine zT (α := TableEntry) [4] 5 (TableEntry.mk (a0f e1.name) e1.value) ((p3, c2), ()) fun _ => ?_
 have r2 := i8 ((ads a5).2)
 refine WX.know (fun G hΓ => (hΓ.get 5 Z : OwL _ _ _).rd.one) fun a8 => ?_
 refine zP 8 25 ((a1 ++ [(TableEntry.mk (a0f e1.name) e1.value)]) : List TableEntry).length a8 fun p5 c3 => ?_
 refine zV [1, 5] 6 ?_
 refine SA ?_
 refine zU [6] 1 ?_
 exact ITr Z (p5, c3, _, ((a1 ++ [(TableEntry.mk (a0f e1.name) e1.value)]) : List TableEntry), i + 1) ⟨τ0, (aec v2 (all_cons (α := TableEntry) (An a9 (ads a5).2) nA)), τ2, (by rw [v4, acx a6]; simp only [a4n, h2, cT, cF])⟩ τ1 [0, 1]
 refine SA ?_
 exact ITr Z (a2, a3, a0, (a1 : List TableEntry), i + 1) ⟨τ0, v2, τ2, (by rw [v4, acx a6]; simp only [a4n, h2, cT, cF])⟩ τ1 [0, 1]
 have aa := v4.trans (show _ = (a1 : List TableEntry) by rw [dn (show l.length ≤ i by omega)]; simp only [a4n, cT, cF])
 refine yE 8 1 7 ?_
 rw [show ac0 l keepq = a1 by simp only [ac0, aa, cT, cF]]
 exact zX [8] (a2, a3) (ada τ0 v2 : ok n (a1 : List TableEntry))
theorem f86 (hn : n + 0 ≤ 9) {l : List TableEntry} (N0 : Rd w K0 M0 l) (a3 : ok n l) :
 DP 86 #[vS K0 l M0] w (pS w n (a2q l)) := by
 have hb := bS0 hn
 refine EN Tryz.func86 Z (aS1 N0) ?_
 refine KF Z 1 Z Z Z Z Z O Z (fun w γ => f198 n τ0 (γ.q 0 Z) 199 [] (fun a0 => (a97 a0)) (fun a6 a5 a0 a7 a1 a2 => f199 n τ0 a0 (a2 _ List.mem_cons_self) a1) a3) ?_
 rintro ⟨p1, c1⟩ a4
 rw [show a2q l = (ac0 l (fun a0 => (a97 a0))) by simp only [a2q, cT, cF]]
 exact yX [2] (p1, c1) a4
theorem f140 (hn : n + 0 ≤ 9) {l : List TableEntry} (N0 : Rd w K0 M0 l) (a4 : ok n l) :
 DP 140 #[vS K0 l M0] w (pS w n (a4o l)) := by
 have hb := bS0 hn
 refine EN Tryz.func140 Z (aS1 N0) ?_
 refine yB fun p1 => ?_
 refine F0 1 TableEntry ?_
 have r1 := (okl a4).1
 refine LM Z (p1, 0, [], ([] : List TableEntry), 0) (fun | (a2, a3, a1, a0, i) => ((i ≤ l.length) ∧ JE n a0 ∧ (a0.length ≤ i) ∧ (a67 l ([] : List TableEntry) = a67 (l.drop i) a0), l.length - i, [(3, .v (vS a2 a0 a3)), (4, .v (vI i))], [], [(6, ⟨2, a2, a0.length, a3, a1⟩)], [(1, MF.ol a1 (a0 : List TableEntry))])) ⟨zl, nA, τ7, Z⟩ [0] [] [0] [0, 1] ?_
 rintro ⟨a2, a3, a1, a0, i⟩ ⟨v1, v2, v3, v4⟩
 refine yKD 10 ?_ ?_ <;> intro h1 ac
 have a6 : i < l.length := τ0
 obtain ⟨e1, a5⟩ := gE a6
 have a7 := okE a4 a5
 refine yI 0 i a6 ?_
 rintro ad rfl
 refine yL 0 2 e1 a5 ?_
 rintro ⟨⟨p2, c1⟩, ⟨⟩⟩
 refine CF 3 Z Z Z Z Z O Z (fun w γ => f246 n τ0 e1.name (γ.q 2 Z) ((ads a7).1)) ?_
 rintro ⟨p3, c2⟩ aa
 refine R0 ?_
 refine WX.draw [9, 10] mixed fun bs G0 a8 => ?_
 refine dT 7 [1, 2, 5, 7] ?_
 refine zDI 4 0 i a8 Z a6 ?_
 rintro ae ⟨⟩
 refine dT 5 [11] ?_
 refine zDL 6 0 5 e1 a8 a5 ?_
 rintro ⟨⟨p4, c3⟩, ⟨⟩⟩
 refine dT 3 [15] ?_
 refine DX.tail2 [8, 9, 10] Z Z J ?_
 refine zB fun p5 => ?_
 refine zT (α := TableEntry) [4] 6 (TableEntry.mk (a0g e1.name) e1.value) ((p3, c2), ()) fun _ => ?_
 have r2 := i8 ((ads a7).2)
 refine WX.know (fun G hΓ => (hΓ.get 6 Z : OwL _ _ _).rd.one) fun a9 => ?_
 refine zP 6 27 ((a0 ++ [(TableEntry.mk (a0g e1.name) e1.value)]) : List TableEntry).length a9 fun p6 c4 => ?_
 refine zV [1, 6] 7 ?_
 refine SA ?_
 refine zU [7] 1 ?_
 exact ITr Z (p6, c4, _, ((a0 ++ [(TableEntry.mk (a0g e1.name) e1.value)]) : List TableEntry), i + 1) ⟨τ0, (aec v2 (all_cons (α := TableEntry) (An aa (ads a7).2) nA)), τ2, (by rw [v4, acx a5]; simp only [a67, cT, cF])⟩ τ1 [0, 1]
 have ab := v4.trans (show _ = (a0 : List TableEntry) by rw [dn (show l.length ≤ i by omega)]; simp only [a67, cT, cF])
 refine yE 6 1 8 ?_
 rw [show a4o l = a0 by simp only [a4o, ab, cT, cF]]
 exact zX [9] (a2, a3) (ada τ0 v2 : ok n (a0 : List TableEntry))
end Go.Proofs.YtpmejlbgjkiobaaGreat
namespace Go.Stp
def ach (w_ : Interest) : Interest := (Interest.mk (a0f w_.name) w_.nonce w_.hopLimit w_.lifetime)
def ab7 : List DataP → (List DataP) → (List DataP) | [], out => ((out) : List DataP) | e1 :: rest_, out => ab7 rest_ (((out ++ [(a2u e1)])) : List DataP)
def a7m (l : (List DataP)) : (List DataP) := match ab7 l ([] : List DataP) with | out => out
def ab8 : List Key → (List Key) → (List Key) | [], out => ((out) : List Key) | e1 :: rest_, out => ab8 rest_ (((out ++ [(Key.mk (a0f e1.name) e1.secret)])) : List Key)
def ab9 (l : (List Key)) : (List Key) := match ab8 l ([] : List Key) with | out => out
def aba : List Name → (List Name) → (List Name) | [], out => ((out) : List Name) | e1 :: rest_, out => aba rest_ (((out ++ [(a0f e1)])) : List Name)
def abb (l : (List Name)) : (List Name) := match aba l ([] : List Name) with | out => out
def abc : List SeenNonce → (List SeenNonce) → (List SeenNonce) | [], out => ((out) : List SeenNonce) | e1 :: rest_, out => abc rest_ (((out ++ [(SeenNonce.mk (a0f e1.name) e1.nonce)])) : List SeenNonce)
def ac1 (s : (List SeenNonce)) : (List SeenNonce) := match abc s ([] : List SeenNonce) with | out => out
def a7n : List Route → (List Route) → (List Route) | [], out => ((out) : List Route) | e1 :: rest_, out => a7n rest_ (((out ++ [(Route.mk (a0f e1.pfx) e1.face e1.cost)])) : List Route)
def a0y (l : (List Route)) : (List Route) := match a7n l ([] : List Route) with | out => out
def abd : List Measurement → (List Measurement) → (List Measurement) | [], out => ((out) : List Measurement) | e1 :: rest_, out => abd rest_ (((out ++ [(Measurement.mk (a0f e1.pfx) e1.face e1.failures)])) : List Measurement)
def ac2 (l : (List Measurement)) : (List Measurement) := match abd l ([] : List Measurement) with | out => out
def abe : List PendingInterest → (List PendingInterest) → (List PendingInterest) | [], out => ((out) : List PendingInterest) | e1 :: rest_, out => abe rest_ (((out ++ [(PendingInterest.mk (a0f e1.name) e1.requesters e1.lastSent)])) : List PendingInterest)
def ac3 (l : (List PendingInterest)) : (List PendingInterest) := match abe l ([] : List PendingInterest) with | out => out
def a68 (keepq : CacheEntry → Bool) : List CacheEntry → (List CacheEntry) → (List CacheEntry) | [], out => ((out) : List CacheEntry) | e1 :: rest_, out => bif keepq e1 then a68 keepq rest_ (((out ++ [(CacheEntry.mk (a2u e1.data) e1.lastUsed)])) : List CacheEntry) else a68 keepq rest_ ((out) : List CacheEntry)
def aci (c_ : ContentStore) (keepq : CacheEntry → Bool) : ContentStore := match a68 keepq c_.entries ([] : List CacheEntry) with | out => (ContentStore.mk c_.capacity out)
def ac4 (e_ : CacheEntry) : Bool := true
def ac5 (c_ : ContentStore) : ContentStore := (aci c_ (fun e0_ => (ac4 e0_)))
def acj (w_ : Interest) : Interest := (Interest.mk (a0g w_.name) w_.nonce w_.hopLimit w_.lifetime)
def abf : List Key → (List Key) → (List Key) | [], out => ((out) : List Key) | e1 :: rest_, out => abf rest_ (((out ++ [(Key.mk (a0g e1.name) e1.secret)])) : List Key)
def a98 (l : (List Key)) : (List Key) := match abf l ([] : List Key) with | out => out
def a18 (r : Rule) : Rule := r
def abg : List DataP → (List DataP) → (List DataP) | [], out => ((out) : List DataP) | e1 :: rest_, out => abg rest_ (((out ++ [(a2v e1)])) : List DataP)
def a99 (l : (List DataP)) : (List DataP) := match abg l ([] : List DataP) with | out => out
def abh : List PendingInterest → (List PendingInterest) → (List PendingInterest) | [], out => ((out) : List PendingInterest) | e1 :: rest_, out => abh rest_ (((out ++ [(PendingInterest.mk (a0g e1.name) e1.requesters e1.lastSent)])) : List PendingInterest)
def ac6 (l : (List PendingInterest)) : (List PendingInterest) := match abh l ([] : List PendingInterest) with | out => out
def abi : List SeenNonce → (List SeenNonce) → (List SeenNonce) | [], out => ((out) : List SeenNonce) | e1 :: rest_, out => abi rest_ (((out ++ [(SeenNonce.mk (a0g e1.name) e1.nonce)])) : List SeenNonce)
def ac7 (s : (List SeenNonce)) : (List SeenNonce) := match abi s ([] : List SeenNonce) with | out => out
def a7o : List Route → (List Route) → (List Route) | [], out => ((out) : List Route) | e1 :: rest_, out => a7o rest_ (((out ++ [(Route.mk (a0g e1.pfx) e1.face e1.cost)])) : List Route)
def a0z (l : (List Route)) : (List Route) := match a7o l ([] : List Route) with | out => out
def abj : List Measurement → (List Measurement) → (List Measurement) | [], out => ((out) : List Measurement) | e1 :: rest_, out => abj rest_ (((out ++ [(Measurement.mk (a0g e1.pfx) e1.face e1.failures)])) : List Measurement)
def ac8 (l : (List Measurement)) : (List Measurement) := match abj l ([] : List Measurement) with | out => out
def a9a : List CacheEntry → (List CacheEntry) → (List CacheEntry) | [], out => ((out) : List CacheEntry) | e1 :: rest_, out => a9a rest_ (((out ++ [(CacheEntry.mk (a2v e1.data) e1.lastUsed)])) : List CacheEntry)
def ac9 (c_ : ContentStore) : ContentStore := match a9a c_.entries ([] : List CacheEntry) with | out => (ContentStore.mk c_.capacity out)
def a9b (x_ : NodeP) : NodeP := (NodeP.mk (a7m x_.locl) (ac5 x_.cache) (ac3 x_.pending) (ac1 x_.seen) (a0y x_.routes) (ac2 x_.measurements) x_.dropped)
def a9c (x_ : NodeP) : NodeP := (NodeP.mk (a99 x_.locl) (ac9 x_.cache) (ac6 x_.pending) (ac7 x_.seen) (a0z x_.routes) (ac8 x_.measurements) x_.dropped)
def a2r (g : Topology) : Topology := g
def a9d : List Rule → (List Rule) → (List Rule) | [], out => ((out) : List Rule) | e1 :: rest_, out => a9d rest_ (((out ++ [e1])) : List Rule)
def a19 (t : TrustPolicy) : TrustPolicy := match a9d t.rules ([] : List Rule) with | out => (TrustPolicy.mk (ab9 t.keys) out (abb t.anchors) (a7m t.certificates))
def a9e : List Name → (List Name) → (List Name) | [], out2 => ((out2) : List Name) | e2 :: rest_, out2 => a9e rest_ (((out2 ++ [(a0g e2)])) : List Name)
def a9f : List Rule → (List Rule) → (List Rule) | [], out => ((out) : List Rule) | e1 :: rest_, out => a9f rest_ (((out ++ [(a18 e1)])) : List Rule)
def a28 (t : TrustPolicy) : TrustPolicy := match a9f t.rules ([] : List Rule) with | out => match a9e t.anchors ([] : List Name) with | out2 => (TrustPolicy.mk (a98 t.keys) out out2 (a99 t.certificates))
def abk (p_ : PacketInFlight) : PacketInFlight := (PacketInFlight.mk p_.to p_.face p_.isInterest (ach p_.interest) (a2u p_.data))
def abl (f : PacketInFlight) : PacketInFlight := (PacketInFlight.mk f.to f.face f.isInterest (acj f.interest) (a2v f.data))
def a9g : List Consumer → (List Consumer) → (List Consumer) | [], out3 => ((out3) : List Consumer) | e3 :: rest_, out3 => a9g rest_ (((out3 ++ [(a9p e3)])) : List Consumer)
def a9h : List PacketInFlight → (List PacketInFlight) → (List PacketInFlight) | [], out2 => ((out2) : List PacketInFlight) | e2 :: rest_, out2 => a9h rest_ (((out2 ++ [(abk e2)])) : List PacketInFlight)
def a7p : List NodeP → (List NodeP) → (List NodeP) | [], out => ((out) : List NodeP) | e1 :: rest_, out => a7p rest_ (((out ++ [(a9b e1)])) : List NodeP)
def a9i (w_ : Network) : Network := match a7p w_.nodes ([] : List NodeP) with | out => match a9h w_.inFlight ([] : List PacketInFlight) with | out2 => match a9g w_.consumers ([] : List Consumer) with | out3 => (Network.mk (a2r w_.topology) (a19 w_.trust) (a2q w_.producers) out w_.downNodes w_.failedLinks out2 out3 w_.now w_.dropped)
def abm (capacity : Int) : ContentStore := bif (!(a0u capacity 0 8)) then (ContentStore.mk 0 ([])) else (ContentStore.mk capacity ([]))
def abn (cap : Int) : ContentStore := bif (!(a0m cap 0 8)) then (ContentStore.mk 0 ([])) else (ContentStore.mk cap ([]))
def abo (capacity : Int) : NodeP := (NodeP.mk ([]) (abm capacity) ([]) ([]) ([]) ([]) 0)
def a9j (cap : Int) : NodeP := (NodeP.mk ([]) (abn cap) ([]) ([]) ([]) ([]) 0)
def a9k : List Consumer → (List Consumer) → (List Consumer) | [], out3 => ((out3) : List Consumer) | e3 :: rest_, out3 => a9k rest_ (((out3 ++ [(a9q e3)])) : List Consumer)
def a9l : List PacketInFlight → (List PacketInFlight) → (List PacketInFlight) | [], out2 => ((out2) : List PacketInFlight) | e2 :: rest_, out2 => a9l rest_ (((out2 ++ [(abl e2)])) : List PacketInFlight)
def a43 : List NodeP → (List NodeP) → (List NodeP) | [], out => ((out) : List NodeP) | e1 :: rest_, out => a43 rest_ (((out ++ [(a9c e1)])) : List NodeP)
def a0c (w_ : Network) : Network := match a43 w_.nodes ([] : List NodeP) with | out => match a9l w_.inFlight ([] : List PacketInFlight) with | out2 => match a9k w_.consumers ([] : List Consumer) with | out3 => (Network.mk w_.topology (a28 w_.trust) (a4o w_.producers) out w_.downNodes w_.failedLinks out2 out3 w_.now w_.dropped)
theorem atq : ∀ (l o : List Route), a7n l o = o ++ l
 | [], o => by simp [a7n]
 | e :: l, o => by
  simp only [a7n]
  rw [atq l]
  simp [a0f]
theorem ajd (l : List Route) : a0y l = l := by simp [a0y, atq]
theorem atc : ∀ (l o : List Route), a7o l o = o ++ l
 | [], o => by simp [a7o]
 | e :: l, o => by
  simp only [a7o]
  rw [atc l]
  simp [a0g]
theorem akb (l : List Route) : a0z l = l := by simp [a0z, atc]
theorem aya : ∀ (l o : List NodeP), (a43 l o).length = o.length + l.length
 | [], o => by simp [a43]
 | e :: l, o => by
  simp only [a43]
  rw [aya l]
  simp only [List.length_append, List.length_cons, List.length_nil]; omega
theorem l32n (w : Network) : (a0c w).nodes.length = w.nodes.length := by
 show (a43 w.nodes []).length = _
 rw [aya]; simp
end Go.Stp
