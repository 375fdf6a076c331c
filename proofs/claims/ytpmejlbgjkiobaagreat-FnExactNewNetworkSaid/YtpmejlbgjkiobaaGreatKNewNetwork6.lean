/-
  What the proof of one law needs: rules of the program logic, functions as Lean functions, contracts. No condition but what each says. Written by a program (pack.py) out of my own texts.
-/
import Derived.Test.YtpmejlbgjkiobaaGreatKNewNetwork5
open Go.IntKind (i64)
set_option linter.unusedVariables false
set_option linter.unusedSimpArgs false
namespace Go.Proofs.YtpmejlbgjkiobaaGreat
open Go.Stp
open Go.Stp.GoT (ok)
variable {w : World} (n : Nat) {K0 K1 : Option Addr} {M0 M1 : Nat}
theorem f442 (hn : n + 0 ≤ 9) {x_ : Str} (a0 : ok n x_) :
 DP 442 #[.string x_] w (pB (afi x_)) := by
 refine EN Tryz.func442 Z adc ?_
 exact R4r Z Z (by simp only [afi, cT, cF])
theorem f401 (hn : n + 0 ≤ 9) {x_ : Str} {y : Str} (a0 : ok n x_) (a1 : ok n y) :
 DP 401 #[.string x_, .string y] w (pI n (adj x_ y)) := by
 have hb := bS0 hn
 refine EN Tryz.func401 Z adc ?_
 refine KV Z Z Z Z Z Z O Z (fun w γ => f442 n τ0 a0) fun a2 => ?_
 refine KV Z Z Z Z Z Z O Z (fun w γ => f442 n τ0 a1) fun a3 => ?_
 refine yKA 11 ?_ ?_ <;> intro h1
 refine yKA 12 ?_ ?_ <;> intro h2
 rw [show adj x_ y = 0 by simp only [adj, h1, h2, cT, cF]]
 exact R6r Z Z (i6 0)
 rw [show adj x_ y = (-1) by simp only [adj, h1, h2, cT, cF]]
 exact R6r Z Z (i6 (-1))
 refine yKA 13 ?_ ?_ <;> intro h3
 rw [show adj x_ y = 1 by simp only [adj, h1, h3, cT, cF]]
 exact R6r Z Z (i6 1)
 refine yKA 16 ?_ ?_ <;> intro h4
 rw [show adj x_ y = (-1) by simp only [adj, h1, h3, h4, cT, cF]]
 exact R6r Z Z (i6 (-1))
 refine yKA 19 ?_ ?_ <;> intro h5
 rw [show adj x_ y = 1 by first | (simp only [adj, h1, h3, h4, h5, cT, cF]; done) | (unfold adj; rw [h5, h4, h1, h3]; simp only [cT, cF])]
 exact R6r Z Z (i6 1)
 rw [show adj x_ y = 0 by first | (simp only [adj, h1, h3, h4, h5, cT, cF]; done) | (unfold adj; rw [h5, h4, h1, h3]; simp only [cT, cF])]
 exact R6r Z Z (i6 0)
theorem f365 (hn : n + 0 ≤ 9) {s1 : List Str} (N0 : Rd w K0 M0 s1) {s2 : List Str} (N1 : Rd w K1 M1 s2) (a0 : ok n s1) (a1 : ok n s2) :
 DP 365 #[vS K0 s1 M0, vS K1 s2 M1] w (pI n (ady s1 s2)) := by
 have hb := bS0 hn
 refine EN Tryz.func365 Z (aS2 N0 N1) ?_
 have r1 := (okl a0).1
 refine LM Z 0 (fun i => ((i ≤ s1.length) ∧ (adm s2 s1 0 = adm s2 (s1.drop i) i), s1.length - i, [(11, .v (vI i))], [], [], [])) ⟨zl, Z⟩ [10, 9, 0, 1] [] [0, 1] [0, 1] ?_
 rintro i ⟨v1, v2⟩
 refine yKD 12 ?_ ?_ <;> intro h1 ah
 have a5 : i < s1.length := τ0
 obtain ⟨e1, a2⟩ := gE a5
 have a9 := okE a0 a2
 refine yI 0 i a5 ?_
 rintro ac rfl
 refine zL 0 2 e1 a2 ?_
 rintro ⟨⟩
 refine yKD 19 ?_ ?_ <;> intro h2 ag
 have a8 := v2.trans (show _ = (some 1) by rw [acx a2]; simp only [adm, h2, cT, cF])
 rw [show ady s1 s2 = 1 by simp only [ady, a8, cT, cF]]
 exact R6r Z Z (i6 1)
 have a6 : i < s2.length := τ3
 obtain ⟨e2, a3⟩ := gE a6
 have ab := okE a1 a3
 refine yI 1 i a6 ?_
 rintro af rfl
 refine zL 1 2 e2 a3 ?_
 rintro ⟨⟩
 refine KV Z Z Z Z Z Z O Z (fun w γ => f401 n τ0 a9 ab) fun a7 => ?_
 refine yKM 28 ?_ ?_ <;> intro h3 ad
 have aa := v2.trans (show _ = (some (adj e1 e2)) by rw [acx a2]; simp only [adm, h2, a3, h3, cT, cF])
 rw [show ady s1 s2 = (adj e1 e2) by simp only [ady, aa, cT, cF]]
 exact R6r Z Z a7
 refine SA ?_
 exact ITr Z (i + 1) ⟨τ0, (by rw [v2, acx a2]; simp only [adm, h2, a3, h3, cT, cF])⟩ τ1 [0, 1]
 have a4 := v2.trans (show _ = none by rw [dn (show s1.length ≤ i by omega)]; simp only [adm, cT, cF])
 refine yKD 35 ?_ ?_ <;> intro h4 ae
 rw [show ady s1 s2 = (-1) by simp only [ady, a4, h4, cT, cF]]
 exact R6r Z Z (i6 (-1))
 rw [show ady s1 s2 = 0 by simp only [ady, a4, h4, cT, cF]]
 exact R6r Z Z (i6 0)
theorem f293 (hn : n + 0 ≤ 9) (a : Name) (N0 : Rd w K0 M0 a.parts) (b : Name) (N1 : Rd w K1 M1 b.parts) (a1 : ok n a) (a0 : ok n b) :
 DP 293 #[.agg #[vS K0 a.parts M0], .agg #[vS K1 b.parts M1]] w (pI n (abs a b)) := by
 have hb := bS0 hn
 refine EN Tryz.func293 Z (aS2 N0 N1) ?_
 refine KV Z Z Z Z Z Z O Z (fun w γ => f365 n τ0 (γ.q 0 Z) (γ.q 1 Z) (ae4 a1) (ae4 a0)) fun a2 => ?_
 rw [show abs a b = (ady a.parts b.parts) by simp only [abs, cT, cF]]
 exact R6r Z Z a2
theorem f191 (hn : n + 0 ≤ 9) {l : List TableEntry} (N0 : Rd w K0 M0 l) (a0 : ok n l) :
 DP 191 #[vS K0 l M0] w (pB (aau l)) := by
 have hb := bS0 hn
 refine EN Tryz.func191 Z (aS1 N0) ?_
 have r1 := (okl a0).1
 refine LM Z 0 (fun i => ((i ≤ l.length) ∧ (a4q l l 0 = a4q l (l.drop i) i), l.length - i, [(7, .v (vI i))], [], [], [])) ⟨zl, Z⟩ [6, 5, 0] [] [0] [0] ?_
 rintro i ⟨v1, v2⟩
 refine yKD 8 ?_ ?_ <;> intro h1 ai
 have a4 : i < l.length := τ0
 obtain ⟨e1, a1⟩ := gE a4
 have a5 := okE a0 a1
 refine yI 0 i a4 ?_
 rintro ae rfl
 refine zL 0 1 e1 a1 ?_
 rintro ⟨⟨p1, c1⟩, ⟨⟩⟩
 refine R0 ?_
 refine WX.draw [] mixed fun bs G0 a3 => ?_
 refine dT 18 [1, 2] ?_
 refine DXV 2 Z J Z Z Z Z Z Z O Z (fun w γ => f287 n τ0 e1.name (γ.q 1 Z) ((adv a5).1)) fun ad => ?_
 refine dT 15 [7, 9] ?_
 refine zDC 16 ?_ ?_ <;> intro h2
 have ac := B.nt h2
 refine dT 0 [11, 13, 15, 17, 19, 21, 23, 25, 27, 29, 31, 33, 35, 37, 39] ?_
 refine DX.tail2 [] Z Z J ?_
 have a8 := v2.trans (show _ = (some false) by rw [acx a1]; simp only [a4q, h2, cT, cF])
 exact R4r Z Z (by simp only [aau, a8, cT, cF])
 have ac := B.nf h2
 refine dT 12 [11, 13, 15] ?_
 refine zDC 19 ?_ ?_ <;> intro h3
 have a9 := B.dt h3
 refine dT 10 [17, 19] ?_
 refine DX.seeP 10 J Z Z Z Z (ahn Z Z Z Z τ9) ?_
 refine DX.slot 22 (y := .v (.int .i64 (((((i : Nat) : Int) - 1).toNat : Nat) : Int))) Z (fun _ => congrArg (Value.int .i64) (show ((i : Nat) : Int) - 1 = (((((i : Nat) : Int) - 1).toNat : Nat) : Int) from by omega)) ?_
 have a6 : (((i : Nat) : Int) - 1).toNat < l.length := τ3
 obtain ⟨e2, a2⟩ := gE a6
 have ab := okE a0 a2
 refine zDI 11 0 ((((i : Nat) : Int) - 1).toNat) a3 Z a6 ?_
 rintro ah ⟨⟩
 refine dT 7 [25] ?_
 refine zDL 13 0 2 e2 a3 a2 ?_
 rintro ⟨⟨p2, c2⟩, ⟨⟩⟩
 refine dT 4 [29, 30] ?_
 refine DXV 16 Z J Z Z Z Z Z Z O Z (fun w γ => f293 n τ0 e2.name (γ.q 2 Z) e1.name (γ.q 1 Z) ((adv ab).1) ((adv a5).1)) fun af => ?_
 refine dT 0 [35, 37, 39] ?_
 refine DX.tail2 [] Z Z J ?_
 refine yKD 31 ?_ ?_ <;> intro h4 ag
 have aa := v2.trans (show _ = (some false) by rw [acx a1]; simp only [a4q, h2, h3, a2, h4, cT, cF])
 exact R4r Z Z (by simp only [aau, aa, cT, cF])
 refine SA ?_
 exact ITr Z (i + 1) ⟨τ0, (by rw [v2, acx a1]; simp only [a4q, h2, h3, a2, h4, cT, cF])⟩ τ1 [0]
 have a9 := B.df h3
 refine dT 0 [17, 19, 21, 23, 25, 27, 29, 31, 33, 35, 37, 39] ?_
 refine DX.tail2 [] Z Z J ?_
 refine SA ?_
 exact ITr Z (i + 1) ⟨τ0, (by rw [v2, acx a1]; simp only [a4q, h2, h3, cT, cF])⟩ τ1 [0]
 have a7 := v2.trans (show _ = none by rw [dn (show l.length ≤ i by omega)]; simp only [a4q, cT, cF])
 exact R4r Z Z (by simp only [aau, a7, cT, cF])
theorem f177 (hn : n + 0 ≤ 9) {l : List TableEntry} (N0 : Rd w K0 M0 l) (a0 : ok n l) :
 DP 177 #[vS K0 l M0] w (pB (a93 l)) := by
 have hb := bS0 hn
 refine EN Tryz.func177 Z (aS1 N0) ?_
 have r1 := (okl a0).1
 refine LM Z 0 (fun i => ((i ≤ l.length) ∧ (a4r l l 0 = a4r l (l.drop i) i), l.length - i, [(3, .v (vI i))], [], [], [])) ⟨zl, Z⟩ [0] [] [0] [0] ?_
 rintro i ⟨v1, v2⟩
 refine yKD 7 ?_ ?_ <;> intro h1 aj
 have a4 : i < l.length := τ0
 obtain ⟨e1, a1⟩ := gE a4
 have a5 := okE a0 a1
 refine R0 ?_
 refine WX.draw [] mixed fun bs G0 a2 => ?_
 refine dT 24 [1, 3] ?_
 refine zDI 2 0 i a2 Z a4 ?_
 rintro ae rfl
 refine dT 22 [7] ?_
 refine zDL 4 0 1 e1 a2 a1 ?_
 rintro ⟨⟨p1, c1⟩, ⟨⟩⟩
 refine DXV 5 Z J Z Z Z Z Z Z O Z (fun w γ => f278 n τ0 e1.name (γ.q 1 Z) ((adv a5).1)) fun ad => ?_
 refine dT 18 [13, 15] ?_
 refine zDC 17 ?_ ?_ <;> intro h2
 have ac := B.nt h2
 refine dT 0 [17, 19, 21, 23, 25, 27, 29, 31, 33, 35, 37, 39, 41, 43, 45, 47, 49, 51] ?_
 refine DX.tail2 [] Z Z J ?_
 have a8 := v2.trans (show _ = (some false) by rw [acx a1]; simp only [a4r, h2, cT, cF])
 exact R4r Z Z (by simp only [a93, a8, cT, cF])
 have ac := B.nf h2
 refine dT 15 [17, 19, 21] ?_
 refine zDC 20 ?_ ?_ <;> intro h3
 have a9 := B.dt h3
 refine dT 13 [23, 25] ?_
 refine DX.seeP 13 J Z Z Z Z (ahn Z Z Z Z τ9) ?_
 refine DX.slot 23 (y := .v (.int .i64 (((((i : Nat) : Int) - 1).toNat : Nat) : Int))) Z (fun _ => congrArg (Value.int .i64) (show ((i : Nat) : Int) - 1 = (((((i : Nat) : Int) - 1).toNat : Nat) : Int) from by omega)) ?_
 have a6 : (((i : Nat) : Int) - 1).toNat < l.length := τ3
 obtain ⟨e2, a3⟩ := gE a6
 have ab := okE a0 a3
 refine zDI 14 0 ((((i : Nat) : Int) - 1).toNat) a2 Z a6 ?_
 rintro ai ⟨⟩
 refine dT 10 [31] ?_
 refine zDL 16 0 2 e2 a2 a3 ?_
 rintro ⟨⟨p2, c2⟩, ⟨⟩⟩
 refine dT 7 [35, 37] ?_
 refine zDI 19 0 i a2 Z a4 ?_
 rintro ag ⟨⟩
 refine dT 5 [41] ?_
 refine zDL 21 0 3 e1 a2 a1 ?_
 rintro ⟨⟨p3, c3⟩, ⟨⟩⟩
 refine DXV 22 Z J Z Z Z Z Z Z O Z (fun w γ => f282 n τ0 e2.name (γ.q 2 Z) e1.name (γ.q 3 Z) ((adv ab).1) ((adv a5).1)) fun af => ?_
 refine dT 0 [47, 49, 51] ?_
 refine DX.tail2 [] Z Z J ?_
 refine yKD 35 ?_ ?_ <;> intro h4 ah
 have aa := v2.trans (show _ = (some false) by rw [acx a1]; simp only [a4r, h2, h3, a3, h4, cT, cF])
 exact R4r Z Z (by simp only [a93, aa, cT, cF])
 refine SA ?_
 exact ITr Z (i + 1) ⟨τ0, (by rw [v2, acx a1]; simp only [a4r, h2, h3, a3, h4, cT, cF])⟩ τ1 [0]
 have a9 := B.df h3
 refine dT 0 [23, 25, 27, 29, 31, 33, 35, 37, 39, 41, 43, 45, 47, 49, 51] ?_
 refine DX.tail2 [] Z Z J ?_
 refine SA ?_
 exact ITr Z (i + 1) ⟨τ0, (by rw [v2, acx a1]; simp only [a4r, h2, h3, cT, cF])⟩ τ1 [0]
 have a7 := v2.trans (show _ = none by rw [dn (show l.length ≤ i by omega)]; simp only [a4r, cT, cF])
 exact R4r Z Z (by simp only [a93, a7, cT, cF])
theorem f294 (hn : n + 0 ≤ 9) {s : List TableEntry} (N0 : Rd w K0 M0 s) (fg : FuncId) (fc : List Value) (fq : TableEntry → Bool) (ff : ∀ w1, Kp emp w w1 → ∀ (e0 : TableEntry) (x0 : GoT.X TableEntry), ok n e0 → All (hp w1) (GoT.fa .der e0 x0) → Does Tryz.prog fg ([Value.agg ⟨GoT.sh e0 x0⟩] ++ fc).toArray w1 emp (fun rv _ => rv = .bool (fq e0) ∧ True)) (a0 : ok n s) :
 DP 294 #[vS K0 s M0, .func (.func fg) #[] fc.toArray] w (pI n (adw s fq)) := by
 have hb := bS0 hn
 refine EN Tryz.func294 Z (aS1 N0) ?_
 have r1 := (okl a0).1
 refine LM Z 0 (fun i => ((i ≤ s.length) ∧ (adb fq s 0 = adb fq (s.drop i) i), s.length - i, [(8, .v (vI i))], [], [], [])) ⟨zl, Z⟩ [7, 0, 1] [] [0] [0] ?_
 rintro i ⟨v1, v2⟩
 refine yKD 9 ?_ ?_ <;> intro h1 a8
 have a2 : i < s.length := τ0
 obtain ⟨e1, a1⟩ := gE a2
 have a5 := okE a0 a1
 refine yI 0 i a2 ?_
 rintro a7 rfl
 refine zL 0 1 e1 a1 ?_
 rintro ⟨⟨p1, c1⟩, ⟨⟩⟩
 refine WX.callV Z Z Z Z Z O Z (fun w G bs hI hΓ => ff w hI.keep e1 ((p1, c1), ()) a5 (All.cons (hΓ.get 1 Z : RdSl _ _ _ _) All.nil)) fun a6 => ?_
 refine yKA 16 ?_ ?_ <;> intro h2
 have a4 := v2.trans (show _ = (some ((i : Nat) : Int)) by rw [acx a1]; simp only [adb, h2, cT, cF])
 rw [show adw s fq = ((i : Nat) : Int) by simp only [adw, a4, cT, cF]]
 exact R6r Z Z (i6 ((i : Nat) : Int))
 refine SA ?_
 exact ITr Z (i + 1) ⟨τ0, (by rw [v2, acx a1]; simp only [adb, h2, cT, cF])⟩ τ1 [0]
 have a3 := v2.trans (show _ = none by rw [dn (show s.length ≤ i by omega)]; simp only [adb, cT, cF])
 rw [show adw s fq = (-1) by simp only [adw, a3, cT, cF]]
 exact R6r Z Z (i6 (-1))
theorem afo : ∀ (f : TableEntry → Bool) (l : List TableEntry) (i : Nat) (j : Int), adb f l i = some j → j < ((i + l.length : Nat) : Int)
 | f, [], i, j, h => by cases h
 | f, x :: l, i, j, h => by
  simp only [adb] at h
  cases hx : f x
  ·rw [hx, cond_false] at h
   have := afo f l (i + 1) j h
   simp only [List.length_cons]; omega
  ·rw [hx, cond_true] at h
   cases h
   simp only [List.length_cons]; omega
theorem agv (l : List TableEntry) (f : TableEntry → Bool) : adw l f < ((l.length : Nat) : Int) := by
 unfold adw
 cases h : adb f l 0 with
 | none => show (-1 : Int) < _; omega
 | some j => have := afo f l 0 j h; show j < _; omega
theorem f192 (hn : n + 0 ≤ 9) {s : List TableEntry} (N0 : Rd w K0 M0 s) (fg : FuncId) (fc : List Value) (fq : TableEntry → Bool) (ff : ∀ w1, Kp emp w w1 → ∀ (e0 : TableEntry) (x0 : GoT.X TableEntry), ok n e0 → All (hp w1) (GoT.fa .der e0 x0) → Does Tryz.prog fg ([Value.agg ⟨GoT.sh e0 x0⟩] ++ fc).toArray w1 emp (fun rv _ => rv = .bool (fq e0) ∧ True)) (a0 : ok n s) :
 DP 192 #[vS K0 s M0, .func (.func fg) #[] fc.toArray] w (pB (aen s fq)) := by
 have hb := bS0 hn
 refine EN Tryz.func192 Z (aS1 N0) ?_
 refine KW Z Z Z Z Z Z O Z (fun w G bs hI hΓ => f294 n τ0 (hΓ.get 0 Z) fg fc fq (fun a1 a2 => ff a1 (hI.keep.trans a2)) a0) fun a3 => ?_
 have q1 := agv s fq
 exact R4r Z Z (by simp only [aen, cT, cF])
end Go.Proofs.YtpmejlbgjkiobaaGreat
namespace Go.Stp
def af6 (x_ : Int) : Bool := (x_ != x_)
def ad4 (x_ : Int) (y : Int) : Int := bif (af6 x_) then bif (af6 y) then 0 else (-1) else bif (af6 y) then 1 else bif decide (x_ < y) then (-1) else bif decide (x_ > y) then 1 else 0
def afs : List Int → Option (Int) | [] => none | e1 :: rest_ => bif (e1 != 0) then (some e1) else afs rest_
def agu (vals : (List Int)) : Int := match afs vals with | some r_ => r_ | none => 0
def abt (a : Link) (b : Link) : Int := (agu ([(ad4 a.a b.a), (ad4 a.b b.b)]))
def a2h (n_ : Topology) : List Link → Nat → Option (Bool) | [], i => none | e1 :: rest_, i => bif (!(a0u e1.a 0 (i64.wrap (n_.size - 1)))) then (some false) else bif (!(a0u e1.b (i64.wrap (e1.a + 1)) (i64.wrap (n_.size - 1)))) then (some false) else bif decide (((i : Nat) : Int) > 0) then match (n_.links)[(((i : Nat) : Int) - 1).toNat]? with | none => default | some e2 => bif decide ((abt e2 e1) ≥ 0) then (some false) else a2h n_ rest_ (i + 1) else a2h n_ rest_ (i + 1)
def a3s (n_ : Topology) : Bool := match a2h n_ n_.links 0 with | some r_ => r_ | none => (a0u n_.size 1 6)
def aav (a : Link) (b : Link) : Bool := bif decide (a.a < b.a) then true else bif (a.a == b.a) then (decide (a.b < b.b)) else false
def a2s (n_ : Topology) : List Link → Nat → Option (Bool) | [], i => none | e1 :: rest_, i => bif (!(a0j e1.a 0 (i64.wrap (n_.size - 1)))) then (some false) else bif (!(a0j e1.b 0 (i64.wrap (n_.size - 1)))) then (some false) else bif decide (e1.a ≥ e1.b) then (some false) else bif decide (((i : Nat) : Int) > 0) then match (n_.links)[(((i : Nat) : Int) - 1).toNat]? with | none => default | some e2 => bif (!(aav e2 e1)) then (some false) else a2s n_ rest_ (i + 1) else a2s n_ rest_ (i + 1)
def a3c (n_ : Topology) : Bool := match a2s n_ n_.links 0 with | some r_ => r_ | none => (a0j n_.size 1 6)
def NT (o : Option Bool) : Prop := o = none ∨ o = some false
theorem NT.no : NT none := .inl rfl
theorem NT.sf : NT (some false) := .inr rfl
theorem ntc {c : Bool} {a b : Option Bool} (ha : NT a) (hb : NT b) : NT (bif c then a else b) := by
 cases c
 ·exact hb
 ·exact ha
theorem vtN (n_ : Topology) : ∀ (l : List Link) (i : Nat), NT (a2s n_ l i)
 | [], i => NT.no
 | x :: l, i => by
  have ih := vtN n_ l (i + 1)
  simp only [a2s]
  refine ntc .sf (ntc .sf (ntc .sf (ntc ?_ ih)))
  cases (n_.links)[(((i : Nat) : Int) - 1).toNat]? with
  | none => exact .no
  | some e2 => exact ntc .sf ih
def acn (size : Int) (e_ : TableEntry) : Bool := (!(a0u e_.value 0 (i64.wrap (size - 1))))
def abu (h_ : (List TableEntry)) (size : Int) : Bool := bif (aau h_) then (!(aen h_ (fun e0_ => (acn size e0_)))) else false
def a7p (size : Int) : List TableEntry → Option (Bool) | [] => none | e1 :: rest_ => bif (!(a0j e1.value 0 (i64.wrap (size - 1)))) then (some false) else a7p size rest_
def aaw (h_ : (List TableEntry)) (size : Int) : Bool := match a7p size h_ with | some r_ => r_ | none => (a93 h_)
def a4s (a : Int) (b : Int) (k : Link) : Bool := bif (k.a == a) then bif (k.b == b) then true else bif (k.a == b) then (k.b == a) else false else bif (k.a == b) then (k.b == a) else false
def adr (fq : Link → Bool) : List Link → Nat → Option (Int) | [], i => none | e1 :: rest_, i => bif fq e1 then (some ((i : Nat) : Int)) else adr fq rest_ (i + 1)
def ae8 (s : (List Link)) (fq : Link → Bool) : Int := match adr fq s 0 with | some r_ => r_ | none => (-1)
def abv (n_ : Topology) (a : Int) (b : Int) : Int := (ae8 n_.links (fun e0_ => (a4s a b e0_)))
def a2b (a : Int) (b : Int) : List Link → Nat → Option (Int) | [], i => none | e1 :: rest_, i => bif (e1.a == a) then bif (e1.b == b) then (some ((i : Nat) : Int)) else bif (e1.a == b) then bif (e1.b == a) then (some ((i : Nat) : Int)) else a2b a b rest_ (i + 1) else a2b a b rest_ (i + 1) else bif (e1.a == b) then bif (e1.b == a) then (some ((i : Nat) : Int)) else a2b a b rest_ (i + 1) else a2b a b rest_ (i + 1)
def a46 (n_ : Topology) (a : Int) (b : Int) : Int := match a2b a b n_.links 0 with | some r_ => r_ | none => (-1)
def a5c (n_ : Topology) (a : Int) : Nat → Nat → (List Int) → (List Int) | 0, i, out => ((out) : List Int) | m_ + 1, i, out => bif decide ((abv n_ a ((i : Nat) : Int)) ≥ 0) then a5c n_ a m_ (i + 1) (((out ++ [((i : Nat) : Int)])) : List Int) else a5c n_ a m_ (i + 1) ((out) : List Int)
def a4t (n_ : Topology) (a : Int) : (List Int) := match a5c n_ a ((max 0 (min n_.size 6)).toNat) 0 ([] : List Int) with | out => out
def a3d (n_ : Topology) (a : Int) : Nat → Nat → (List Int) → (List Int) | 0, i, out => ((out) : List Int) | m_ + 1, i, out => bif decide (((i : Nat) : Int) < 6) then bif decide ((a46 n_ a ((i : Nat) : Int)) ≥ 0) then a3d n_ a m_ (i + 1) (((out ++ [((i : Nat) : Int)])) : List Int) else a3d n_ a m_ (i + 1) ((out) : List Int) else ((out) : List Int)
def a19 (n_ : Topology) (a : Int) : (List Int) := match a3d n_ a ((n_.size).toNat) 0 ([] : List Int) with | out => out
end Go.Stp
namespace Go.Proofs.YtpmejlbgjkiobaaGreat
open Go.Stp
open Go.Stp.GoT (ok)
variable {w : World} (n : Nat) {K0 : Option Addr} {M0 : Nat}
theorem f269 (hn : n + 0 ≤ 9) {x_ : Int} (a0 : ok n x_) :
 DP 269 #[vI x_] w (pB (af6 x_)) := by
 refine EN Tryz.func269 Z adc ?_
 exact R4r Z Z (by simp only [af6, cT, cF])
theorem f158 (hn : n + 0 ≤ 9) {x_ : Int} {y : Int} (a0 : ok n x_) (a1 : ok n y) :
 DP 158 #[vI x_, vI y] w (pI n (ad4 x_ y)) := by
 have hb := bS0 hn
 refine EN Tryz.func158 Z adc ?_
 refine KV Z Z Z Z Z Z O Z (fun w γ => f269 n τ0 a0) fun a3 => ?_
 refine KV Z Z Z Z Z Z O Z (fun w γ => f269 n τ0 a1) fun a4 => ?_
 refine yKA 11 ?_ ?_ <;> intro h1
 refine yKA 12 ?_ ?_ <;> intro h2
 rw [show ad4 x_ y = 0 by simp only [ad4, h1, h2, cT, cF]]
 exact R6r Z Z (i6 0)
 rw [show ad4 x_ y = (-1) by simp only [ad4, h1, h2, cT, cF]]
 exact R6r Z Z (i6 (-1))
 refine yKA 13 ?_ ?_ <;> intro h3
 rw [show ad4 x_ y = 1 by simp only [ad4, h1, h3, cT, cF]]
 exact R6r Z Z (i6 1)
 refine yKD 16 ?_ ?_ <;> intro h4 a5
 rw [show ad4 x_ y = (-1) by simp only [ad4, h1, h3, h4, cT, cF]]
 exact R6r Z Z (i6 (-1))
 refine yKD 19 ?_ ?_ <;> intro h5 a2
 rw [show ad4 x_ y = 1 by simp only [ad4, h1, h3, h4, h5, cT, cF]]
 exact R6r Z Z (i6 1)
 rw [show ad4 x_ y = 0 by simp only [ad4, h1, h3, h4, h5, cT, cF]]
 exact R6r Z Z (i6 0)
theorem f157 (hn : n + 0 ≤ 9) {vals : List Int} (N0 : Rd w K0 M0 vals) (a0 : ok n vals) :
 DP 157 #[vS K0 vals M0] w (pI n (agu vals)) := by
 have hb := bS0 hn
 refine EN Tryz.func157 Z (aS1 N0) ?_
 have r1 := (okl a0).1
 refine LM Z 0 (fun i => ((i ≤ vals.length) ∧ (afs vals = afs (vals.drop i)), vals.length - i, [(8, .v (vI i))], [], [], [])) ⟨zl, Z⟩ [7, 6, 3] [] [0] [0] ?_
 rintro i ⟨v1, v2⟩
 refine yKD 9 ?_ ?_ <;> intro h1 a8
 have a2 : i < vals.length := τ0
 obtain ⟨e1, a1⟩ := gE a2
 have a5 := okE a0 a1
 refine yI 0 i a2 ?_
 rintro a6 rfl
 refine zL 0 1 e1 a1 ?_
 rintro ⟨⟩
 refine yKM 14 ?_ ?_ <;> intro h2 a7
 have a4 := v2.trans (show _ = (some e1) by rw [acx a1]; simp only [afs, h2, cT, cF])
 rw [show agu vals = e1 by simp only [agu, a4, cT, cF]]
 exact R6r Z Z a5
 refine SA ?_
 exact ITr Z (i + 1) ⟨τ0, (by rw [v2, acx a1]; simp only [afs, h2, cT, cF])⟩ τ1 [0]
 have a3 := v2.trans (show _ = none by rw [dn (show vals.length ≤ i by omega)]; simp only [afs, cT, cF])
 rw [show agu vals = 0 by simp only [agu, a3, cT, cF]]
 exact R6r Z Z (i6 0)
theorem f148 (hn : n + 0 ≤ 9) (a : Link) (b : Link) (a0 : ok n a) (a1 : ok n b) :
 DP 148 #[.agg #[vI a.a, vI a.b], .agg #[vI b.a, vI b.b]] w (pI n (abt a b)) := by
 have hb := bS0 hn
 refine EN Tryz.func148 Z adc ?_
 refine R0 ?_
 refine WX.draw [11, 12] mixed fun bs G0 a5 => ?_
 refine dT 5 [1, 2, 5, 6, 11, 12, 15, 16] ?_
 refine DXV 4 Z J Z Z Z Z Z Z O Z (fun w γ => f158 n τ0 (x_ := a.a) (y := b.a) ((ag7 a0).1) ((ag7 a1).1)) fun a2 => ?_
 refine DXV 9 Z J Z Z Z Z Z Z O Z (fun w γ => f158 n τ0 (x_ := a.b) (y := b.b) ((ag7 a0).2) ((ag7 a1).2)) fun a3 => ?_
 refine DX.tail2 [10, 11, 12] Z Z J ?_
 refine zB fun p1 => ?_
 refine WX.turn [] 0 Z (fun h hs => aiz (⟨(), _, emp, _, Z, aes _, Le.refl _, ag5 _, trivial, ⟨(), _, emp, _, Z, aes _, Le.refl _, ag5 _, trivial, Z⟩⟩ : OwL _ _ ([(ad4 a.a b.a), (ad4 a.b b.b)] : List Int))) (gs := [MF.ol [.int .i64 ((ad4 a.a b.a)), .int .i64 ((ad4 a.b b.b))] ([(ad4 a.a b.a), (ad4 a.b b.b)] : List Int)]) Z ?_
 refine zE 15 0 1 ?_
 have r1 := i8 ((ag7 a0).1)
 have r2 := i8 ((ag7 a0).2)
 have r3 := i8 ((ag7 a1).1)
 have r4 := i8 ((ag7 a1).2)
 have r5 := i8 a2
 have r6 := i8 a3
 refine CV Z Z Z Z Z O Z (fun w γ => f157 n τ0 (vals := ([(ad4 a.a b.a), (ad4 a.b b.b)])) (γ.q 1 Z) (ada τ6 (all_cons (α := Int) a2 (all_cons (α := Int) a3 nA)) : ok n ([(ad4 a.a b.a), (ad4 a.b b.b)] : List Int))) fun a4 => ?_
 rw [show abt a b = (agu ([(ad4 a.a b.a), (ad4 a.b b.b)])) by simp only [abt, cT, cF]]
 exact R6r Z Z a4
theorem f53 (hn : n + 0 ≤ 9) (n_ : Topology) (N0 : Rd w K0 M0 n_.links) (a0 : ok n n_) :
 DP 53 #[aeq n_ K0 M0] w (pB (a3s n_)) := by
 have hb := bS0 hn
 refine EN Tryz.func53 Z (aS1 N0) ?_
 have r1 := (okl (ad0 a0).2).1
 refine LM Z 0 (fun i => ((i ≤ n_.links.length) ∧ (a2h n_ n_.links 0 = a2h n_ (n_.links.drop i) i), n_.links.length - i, [(8, .v (vI i))], [], [], [])) ⟨zl, Z⟩ [7, 6, 1] [1] [0] [0] ?_
 rintro i ⟨v1, v2⟩
 refine yKD 9 ?_ ?_ <;> intro h1 ao
 have a5 : i < n_.links.length := τ0
 obtain ⟨e1, a1⟩ := gE a5
 have a3 := okE (ad0 a0).2 a1
 refine yI 0 i a5 ?_
 rintro ag rfl
 refine zL 0 1 e1 a1 ?_
 rintro ⟨⟨⟩, ⟨⟩⟩
 refine R0 ?_
 refine WX.draw [] mixed fun bs G0 a4 => ?_
 refine dT 30 [1, 2, 5, 6] ?_
 refine DX.seeP 4 J Z Z Z Z (ahd Z Z Z Z) ?_
 refine DXV 5 Z J Z Z Z Z Z Z O Z (fun w γ => f54 n τ0 ((ag7 a3).1) (i6 0) (ad3 _)) fun af => ?_
 refine dT 26 [13, 15] ?_
 refine zDC 20 ?_ ?_ <;> intro h2
 have ae := B.nt h2
 refine dT 0 [17, 19, 21, 23, 25, 27, 29, 31, 33, 35, 37, 39, 41, 43, 45, 47, 49, 51, 53, 55, 57, 59, 61, 63, 65, 67] ?_
 refine DX.tail2 [] Z Z J ?_
 have a8 := v2.trans (show _ = (some false) by rw [acx a1]; simp only [a2h, h2, cT, cF])
 exact R4r Z Z (by simp only [a3s, a8, cT, cF])
 have ae := B.nf h2
 have ai := agk (B.nf h2)
 refine dT 22 [17, 18, 21, 22] ?_
 refine DX.seeP 12 J Z Z Z Z (ahd Z Z Z Z) ?_
 refine dT 19 [27, 28] ?_
 refine DX.seeP 15 J Z Z Z Z (ahd Z Z Z Z) ?_
 refine DXV 16 Z J Z Z Z Z Z Z O Z (fun w γ => f54 n τ0 ((ag7 a3).2) (ad3 _) (ad3 _)) fun ah => ?_
 refine dT 14 [35, 37, 39] ?_
 refine zDC 32 ?_ ?_ <;> intro h3
 have a9 := B.nt h3
 refine dT 0 [41, 43, 45, 47, 49, 51, 53, 55, 57, 59, 61, 63, 65, 67] ?_
 refine DX.tail2 [] Z Z J ?_
 have ac := v2.trans (show _ = (some false) by rw [acx a1]; simp only [a2h, h2, h3, cT, cF])
 exact R4r Z Z (by simp only [a3s, ac, cT, cF])
 have a9 := B.nf h3
 have aj := agk (B.nf h3)
 refine dT 11 [41, 43, 45] ?_
 refine zDC 35 ?_ ?_ <;> intro h4
 have aa := B.dt h4
 refine dT 8 [47, 48, 51] ?_
 refine DX.seeP 26 J Z Z Z Z (ahn Z Z Z Z τ9) ?_
 refine DX.slot 39 (y := .v (.int .i64 (((((i : Nat) : Int) - 1).toNat : Nat) : Int))) Z (fun _ => congrArg (Value.int .i64) (show ((i : Nat) : Int) - 1 = (((((i : Nat) : Int) - 1).toNat : Nat) : Int) from by omega)) ?_
 have a6 : (((i : Nat) : Int) - 1).toNat < n_.links.length := τ3
 obtain ⟨e2, a2⟩ := gE a6
 have ad := okE (ad0 a0).2 a2
 refine zDI 27 0 ((((i : Nat) : Int) - 1).toNat) a4 Z a6 ?_
 rintro am ⟨⟩
 refine zDL 28 0 1 e2 a4 a2 ?_
 rintro ⟨⟨⟩, ⟨⟩⟩
 refine dT 4 [58] ?_
 refine DXV 30 Z J Z Z Z Z Z Z O Z (fun w γ => f148 n τ0 e2 e1 ad a3) fun an => ?_
 refine dT 0 [63, 65, 67] ?_
 refine DX.tail2 [] Z Z J ?_
 refine yKD 46 ?_ ?_ <;> intro h5 ak
 have ab := v2.trans (show _ = (some false) by rw [acx a1]; simp only [a2h, h2, h3, h4, a2, h5, cT, cF])
 exact R4r Z Z (by simp only [a3s, ab, cT, cF])
 refine SA ?_
 exact ITr Z (i + 1) ⟨τ0, (by rw [v2, acx a1]; simp only [a2h, h2, h3, h4, a2, h5, cT, cF])⟩ τ1 [0]
 have aa := B.df h4
 refine dT 0 [47, 49, 51, 53, 55, 57, 59, 61, 63, 65, 67] ?_
 refine DX.tail2 [] Z Z J ?_
 refine SA ?_
 exact ITr Z (i + 1) ⟨τ0, (by rw [v2, acx a1]; simp only [a2h, h2, h3, h4, cT, cF])⟩ τ1 [0]
 have a7 := v2.trans (show _ = none by rw [dn (show n_.links.length ≤ i by omega)]; simp only [a2h, cT, cF])
 refine KV Z Z Z Z Z Z O Z (fun w γ => f54 n τ0 ((ad0 a0).1) (i6 1) (i6 6)) fun al => ?_
 exact R4r Z Z (by simp only [a3s, a7, cT, cF])
theorem f172 (hn : n + 0 ≤ 9) (a : Link) (b : Link) (a1 : ok n a) (a0 : ok n b) :
 DP 172 #[.agg #[vI a.a, vI a.b], .agg #[vI b.a, vI b.b]] w (pB (aav a b)) := by
 refine EN Tryz.func172 Z adc ?_
 refine yKD 10 ?_ ?_ <;> intro h1 a3
 exact R4r Z Z (by simp only [aav, h1, cT, cF])
 refine yKE 16 ?_ ?_ <;> intro h2 a2
 exact R4r Z Z (by simp only [aav, h1, h2, cT, cF])
 exact R4r Z Z (by simp only [aav, h1, h2, cT, cF])
theorem f72 (hn : n + 0 ≤ 9) (n_ : Topology) (N0 : Rd w K0 M0 n_.links) (a0 : ok n n_) :
 DP 72 #[aeq n_ K0 M0] w (pB (a3c n_)) := by
 have hb := bS0 hn
 refine EN Tryz.func72 Z (aS1 N0) ?_
 have r1 := (okl (ad0 a0).2).1
 refine LM Z 0 (fun i => ((i ≤ n_.links.length) ∧ (a2s n_ n_.links 0 = a2s n_ (n_.links.drop i) i), n_.links.length - i, [(3, .v (vI i))], [], [], [])) ⟨zl, Z⟩ [1] [1] [0] [0] ?_
 rintro i ⟨v1, v2⟩
 refine yKD 9 ?_ ?_ <;> intro h1 aq
 have a5 : i < n_.links.length := τ0
 obtain ⟨e1, a1⟩ := gE a5
 have a3 := okE (ad0 a0).2 a1
 refine yI 0 i a5 ?_
 rintro aj rfl
 refine zL 0 1 e1 a1 ?_
 rintro ⟨⟨⟩, ⟨⟩⟩
 refine R0 ?_
 refine WX.draw [] mixed fun bs G0 a4 => ?_
 refine dT 34 [1, 2, 5, 6] ?_
 refine DX.seeP 4 J Z Z Z Z (ahd Z Z Z Z) ?_
 refine DXV 5 Z J Z Z Z Z Z Z O Z (fun w γ => f171 n τ0 ((ag7 a3).1) (i6 0) (ad3 _)) fun ai => ?_
 refine dT 30 [13, 15] ?_
 refine zDC 24 ?_ ?_ <;> intro h2
 have ag := B.nt h2
 refine dT 0 [17, 19, 21, 23, 25, 27, 29, 31, 33, 35, 37, 39, 41, 43, 45, 47, 49, 51, 53, 55, 57, 59, 61, 63, 65, 67, 69, 71, 73, 75] ?_
 refine DX.tail2 [] Z Z J ?_
 have a8 := v2.trans (show _ = (some false) by rw [acx a1]; simp only [a2s, h2, cT, cF])
 exact R4r Z Z (by simp only [a3c, a8, cT, cF])
 have ag := B.nf h2
 have al := afy (B.nf h2)
 refine dT 26 [17, 18, 21, 22] ?_
 refine DX.seeP 12 J Z Z Z Z (ahd Z Z Z Z) ?_
 refine DXV 13 Z J Z Z Z Z Z Z O Z (fun w γ => f171 n τ0 ((ag7 a3).2) (i6 0) (ad3 _)) fun ak => ?_
 refine dT 21 [29, 31, 33] ?_
 refine zDC 33 ?_ ?_ <;> intro h3
 have a9 := B.nt h3
 refine dT 0 [35, 37, 39, 41, 43, 45, 47, 49, 51, 53, 55, 57, 59, 61, 63, 65, 67, 69, 71, 73, 75] ?_
 refine DX.tail2 [] Z Z J ?_
 have ae := v2.trans (show _ = (some false) by rw [acx a1]; simp only [a2s, h2, h3, cT, cF])
 exact R4r Z Z (by simp only [a3c, ae, cT, cF])
 have a9 := B.nf h3
 have am := afy (B.nf h3)
 refine dT 14 [35, 36, 39, 40, 43, 45, 47] ?_
 refine zDC 40 ?_ ?_ <;> intro h4
 have aa := B.dt h4
 refine dT 0 [49, 51, 53, 55, 57, 59, 61, 63, 65, 67, 69, 71, 73, 75] ?_
 refine DX.tail2 [] Z Z J ?_
 have ad := v2.trans (show _ = (some false) by rw [acx a1]; simp only [a2s, h2, h3, h4, cT, cF])
 exact R4r Z Z (by simp only [a3c, ad, cT, cF])
 have aa := B.df h4
 refine dT 11 [49, 51, 53] ?_
 refine zDC 43 ?_ ?_ <;> intro h5
 have ac := B.dt h5
 refine dT 8 [55, 56, 59] ?_
 refine DX.seeP 30 J Z Z Z Z (ahn Z Z Z Z τ9) ?_
 refine DX.slot 47 (y := .v (.int .i64 (((((i : Nat) : Int) - 1).toNat : Nat) : Int))) Z (fun _ => congrArg (Value.int .i64) (show ((i : Nat) : Int) - 1 = (((((i : Nat) : Int) - 1).toNat : Nat) : Int) from by omega)) ?_
 have a6 : (((i : Nat) : Int) - 1).toNat < n_.links.length := τ3
 obtain ⟨e2, a2⟩ := gE a6
 have af := okE (ad0 a0).2 a2
 refine zDI 31 0 ((((i : Nat) : Int) - 1).toNat) a4 Z a6 ?_
 rintro ao ⟨⟩
 refine zDL 32 0 1 e2 a4 a2 ?_
 rintro ⟨⟨⟩, ⟨⟩⟩
 refine dT 4 [66] ?_
 refine DXV 34 Z J Z Z Z Z Z Z O Z (fun w γ => f172 n τ0 e2 e1 af a3) fun ap => ?_
 refine dT 0 [71, 73, 75] ?_
 refine DX.tail2 [] Z Z J ?_
 refine yKN 54 ?_ ?_ <;> intro h6 ah
 have ab := v2.trans (show _ = (some false) by rw [acx a1]; simp only [a2s, h2, h3, h4, h5, a2, h6, cT, cF])
 exact R4r Z Z (by simp only [a3c, ab, cT, cF])
 refine SA ?_
 exact ITr Z (i + 1) ⟨τ0, (by rw [v2, acx a1]; simp only [a2s, h2, h3, h4, h5, a2, h6, cT, cF])⟩ τ1 [0]
 have ac := B.df h5
 refine dT 0 [55, 57, 59, 61, 63, 65, 67, 69, 71, 73, 75] ?_
 refine DX.tail2 [] Z Z J ?_
 refine SA ?_
 exact ITr Z (i + 1) ⟨τ0, (by rw [v2, acx a1]; simp only [a2s, h2, h3, h4, h5, cT, cF])⟩ τ1 [0]
 have a7 := v2.trans (show _ = none by rw [dn (show n_.links.length ≤ i by omega)]; simp only [a2s, cT, cF])
 refine KV Z Z Z Z Z Z O Z (fun w γ => f171 n τ0 ((ad0 a0).1) (i6 1) (i6 6)) fun an => ?_
 exact R4r Z Z (by simp only [a3c, a7, cT, cF])
theorem f193 (hn : n + 0 ≤ 9) (e_ : TableEntry) (N0 : Rd w K0 M0 e_.name.parts) (size : Int) (bsize : Addr) (hsize : RdSl (hp w) (some bsize) 1 [size]) (a0 : ok n e_) (a2 : ok n size) :
 DP 193 #[.agg #[vS K0 e_.name.parts M0, vI e_.value], .pointer (some bsize)] w (pB (acn size e_)) := by
 have hb := bS0 hn
 refine EN Tryz.func193 Z (aS2 N0 hsize) ?_
 have a1 : ([size] : List Int)[0]? = some size := rfl
 refine WX.slot 1 (y := .e (some bsize) 0 1 0) Z (fun _ => ao0) ?_
 refine yL 1 2 size a1 ?_
 rintro ⟨⟩
 refine SW0 ?_
 refine CV Z Z Z Z Z O Z (fun w γ => f54 n τ0 ((adv a0).2) (i6 0) (ad3 _)) fun a3 => ?_
 exact R4r Z Z (by simp only [acn, cT, cF])
theorem f83 (hn : n + 0 ≤ 9) {h_ : List TableEntry} (N0 : Rd w K0 M0 h_) {size : Int} (a1 : ok n h_) (a0 : ok n size) :
 DP 83 #[vS K0 h_ M0, vI size] w (pB (abu h_ size)) := by
 have hb := bS0 hn
 refine EN Tryz.func83 Z (aS1 N0) ?_
 refine KV Z Z Z Z Z Z O Z (fun w γ => f191 n τ0 (γ.q 0 Z) a1) fun a6 => ?_
 refine yKA 7 ?_ ?_ <;> intro h1
 refine KW Z Z Z Z Z Z O Z (fun w G bs hI hΓ => f192 n τ0 (hΓ.get 0 Z) 193 [Value.pointer (some ⟨bs 3, 0, none⟩)] (fun a2 => (acn size a2)) (fun a7 a5 a2 a9 a3 a4 => f193 n τ0 a2 (a4 _ List.mem_cons_self) size ⟨bs 3, 0, none⟩ ((anq (α := Int) (a := size) (x := ()) (hI.loc 3 _ Z).1 All.nil).mono (as8 a5)) a3 a0) a1) fun a8 => ?_
 exact R4r Z Z (by simp only [abu, h1, cT, cF])
 exact R4r Z Z (by simp only [abu, h1, cT, cF])
theorem f74 (hn : n + 0 ≤ 9) {h_ : List TableEntry} (N0 : Rd w K0 M0 h_) {size : Int} (a0 : ok n h_) (a1 : ok n size) :
 DP 74 #[vS K0 h_ M0, vI size] w (pB (aaw h_ size)) := by
 have hb := bS0 hn
 refine EN Tryz.func74 Z (aS1 N0) ?_
 have r1 := (okl a0).1
 refine LM Z 0 (fun i => ((i ≤ h_.length) ∧ (a7p size h_ = a7p size (h_.drop i)), h_.length - i, [(5, .v (vI i))], [], [], [])) ⟨zl, Z⟩ [0, 1] [] [0] [0] ?_
 rintro i ⟨v1, v2⟩
 refine yKD 9 ?_ ?_ <;> intro h1 ac
 have a3 : i < h_.length := τ0
 obtain ⟨e1, a2⟩ := gE a3
 have a6 := okE a0 a2
 refine yI 0 i a3 ?_
 rintro a8 rfl
 refine yL 0 1 e1 a2 ?_
 rintro ⟨⟨p1, c1⟩, ⟨⟩⟩
 refine SW ?_
 refine CV Z Z Z Z Z O Z (fun w γ => f171 n τ0 ((adv a6).2) (i6 0) (ad3 _)) fun a7 => ?_
 refine yKN 20 ?_ ?_ <;> intro h2 ab
 have a5 := v2.trans (show _ = (some false) by rw [acx a2]; simp only [a7p, h2, cT, cF])
 exact R4r Z Z (by simp only [aaw, a5, cT, cF])
 have aa := afy (B.nf h2)
 refine SA ?_
 exact ITr Z (i + 1) ⟨τ0, (by rw [v2, acx a2]; simp only [a7p, h2, cT, cF])⟩ τ1 [0]
 have a4 := v2.trans (show _ = none by rw [dn (show h_.length ≤ i by omega)]; simp only [a7p, cT, cF])
 refine KV Z Z Z Z Z Z O Z (fun w γ => f177 n τ0 (γ.q 0 Z) a0) fun a9 => ?_
 exact R4r Z Z (by simp only [aaw, a4, cT, cF])
theorem f65 (hn : n + 0 ≤ 9) (k : Link) (a : Int) (ba : Addr) (ha : RdSl (hp w) (some ba) 1 [a]) (b : Int) (bb : Addr) (hb : RdSl (hp w) (some bb) 1 [b]) (a1 : ok n k) (a2 : ok n a) (a0 : ok n b) :
 DP 65 #[.agg #[vI k.a, vI k.b], .pointer (some ba), .pointer (some bb)] w (pB (a4s a b k)) := by
 refine EN Tryz.func65 Z (aS2 ha hb) ?_
 have ah : ([a] : List Int)[0]? = some a := rfl
 refine WX.slot 1 (y := .e (some ba) 0 1 0) Z (fun _ => ao0) ?_
 have bh : ([b] : List Int)[0]? = some b := rfl
 refine WX.slot 2 (y := .e (some bb) 0 1 0) Z (fun _ => ao0) ?_
 refine yL 0 2 a ah ?_
 rintro ⟨⟩
 refine yKE 9 ?_ ?_ <;> intro h1 a6
 refine yL 1 2 b bh ?_
 rintro ⟨⟩
 refine yKE 15 ?_ ?_ <;> intro h2 a3
 exact R4r Z Z (by simp only [a4s, h1, h2, cT, cF])
 refine yL 1 2 b bh ?_
 rintro ⟨⟩
 refine yKE 20 ?_ ?_ <;> intro h3 a4
 refine yL 0 2 a ah ?_
 rintro ⟨⟩
 exact R4r Z Z (by simp only [a4s, h1, h2, h3, cT, cF])
 exact R4r Z Z (by simp only [a4s, h1, h2, h3, cT, cF])
 refine yL 1 2 b bh ?_
 rintro ⟨⟩
 refine yKE 20 ?_ ?_ <;> intro h4 a5
 refine yL 0 2 a ah ?_
 rintro ⟨⟩
 exact R4r Z Z (by simp only [a4s, h1, h4, cT, cF])
 exact R4r Z Z (by simp only [a4s, h1, h4, cT, cF])
theorem f64 (hn : n + 0 ≤ 9) {s : List Link} (N0 : Rd w K0 M0 s) (fg : FuncId) (fc : List Value) (fq : Link → Bool) (ff : ∀ w1, Kp emp w w1 → ∀ (e0 : Link) (x0 : GoT.X Link), ok n e0 → All (hp w1) (GoT.fa .der e0 x0) → Does Tryz.prog fg ([Value.agg ⟨GoT.sh e0 x0⟩] ++ fc).toArray w1 emp (fun rv _ => rv = .bool (fq e0) ∧ True)) (a0 : ok n s) :
 DP 64 #[vS K0 s M0, .func (.func fg) #[] fc.toArray] w (pI n (ae8 s fq)) := by
 have hb := bS0 hn
 refine EN Tryz.func64 Z (aS1 N0) ?_
 have r1 := (okl a0).1
 refine LM Z 0 (fun i => ((i ≤ s.length) ∧ (adr fq s 0 = adr fq (s.drop i) i), s.length - i, [(8, .v (vI i))], [], [], [])) ⟨zl, Z⟩ [7, 0, 1] [] [0] [0] ?_
 rintro i ⟨v1, v2⟩
 refine yKD 9 ?_ ?_ <;> intro h1 a8
 have a2 : i < s.length := τ0
 obtain ⟨e1, a1⟩ := gE a2
 have a5 := okE a0 a1
 refine yI 0 i a2 ?_
 rintro a7 rfl
 refine zL 0 1 e1 a1 ?_
 rintro ⟨⟨⟩, ⟨⟩⟩
 refine WX.callV Z Z Z Z Z O Z (fun w G bs hI hΓ => ff w hI.keep e1 ((), ()) a5 All.nil) fun a6 => ?_
 refine yKA 16 ?_ ?_ <;> intro h2
 have a4 := v2.trans (show _ = (some ((i : Nat) : Int)) by rw [acx a1]; simp only [adr, h2, cT, cF])
 rw [show ae8 s fq = ((i : Nat) : Int) by simp only [ae8, a4, cT, cF]]
 exact R6r Z Z (i6 ((i : Nat) : Int))
 refine SA ?_
 exact ITr Z (i + 1) ⟨τ0, (by rw [v2, acx a1]; simp only [adr, h2, cT, cF])⟩ τ1 [0]
 have a3 := v2.trans (show _ = none by rw [dn (show s.length ≤ i by omega)]; simp only [adr, cT, cF])
 rw [show ae8 s fq = (-1) by simp only [ae8, a3, cT, cF]]
 exact R6r Z Z (i6 (-1))
theorem agb : ∀ (f : Link → Bool) (l : List Link) (i : Nat) (j : Int), adr f l i = some j → j < ((i + l.length : Nat) : Int)
 | f, [], i, j, h => by cases h
 | f, x :: l, i, j, h => by
  simp only [adr] at h
  cases hx : f x
  ·rw [hx, cond_false] at h
   have := agb f l (i + 1) j h
   simp only [List.length_cons]; omega
  ·rw [hx, cond_true] at h
   cases h
   simp only [List.length_cons]; omega
theorem ahu (l : List Link) (f : Link → Bool) : ae8 l f < ((l.length : Nat) : Int) := by
 unfold ae8
 cases h : adr f l 0 with
 | none => show (-1 : Int) < _; omega
 | some j => have := agb f l 0 j h; show j < _; omega
theorem f18 (hn : n + 0 ≤ 9) (n_ : Topology) (N0 : Rd w K0 M0 n_.links) {a : Int} {b : Int} (a1 : ok n n_) (a3 : ok n a) (a4 : ok n b) :
 DP 18 #[aeq n_ K0 M0, vI a, vI b] w (pI n (abv n_ a b)) := by
 have hb := bS0 hn
 refine EN Tryz.func18 Z (aS1 N0) ?_
 refine KW Z Z Z Z Z Z O Z (fun w G bs hI hΓ => f64 n τ0 (hΓ.get 0 Z) 65 [Value.pointer (some ⟨bs 4, 0, none⟩), Value.pointer (some ⟨bs 5, 0, none⟩)] (fun a0 => (a4s a b a0)) (fun a8 a5 a0 a9 a2 a7 => f65 n τ0 a0 a ⟨bs 4, 0, none⟩ ((anq (α := Int) (a := a) (x := ()) (hI.loc 4 _ Z).1 All.nil).mono (as8 a5)) b ⟨bs 5, 0, none⟩ ((anq (α := Int) (a := b) (x := ()) (hI.loc 5 _ Z).1 All.nil).mono (as8 a5)) a2 a3 a4) ((ad0 a1).2)) fun a6 => ?_
 have q1 := ahu n_.links (fun a0 => (a4s a b a0))
 rw [show abv n_ a b = (ae8 n_.links (fun a0 => (a4s a b a0))) by simp only [abv, cT, cF]]
 exact R6r Z Z a6
theorem f344 (hn : n + 0 ≤ 9) (n_ : Topology) (N0 : Rd w K0 M0 n_.links) {a : Int} {b : Int} (a1 : ok n n_) (a8 : ok n a) (a6 : ok n b) :
 DP 344 #[aeq n_ K0 M0, vI a, vI b] w (pI n (a46 n_ a b)) := by
 have hb := bS0 hn
 refine EN Tryz.func344 Z (aS1 N0) ?_
 have r1 := (okl (ad0 a1).2).1
 refine LM Z 0 (fun i => ((i ≤ n_.links.length) ∧ (a2b a b n_.links 0 = a2b a b (n_.links.drop i) i), n_.links.length - i, [(7, .v (vI i))], [], [], [])) ⟨zl, Z⟩ [3, 1, 2] [3] [0] [0] ?_
 rintro i ⟨v1, v2⟩
 refine yKD 12 ?_ ?_ <;> intro h1 am
 have a2 : i < n_.links.length := τ0
 obtain ⟨e1, a0⟩ := gE a2
 have ae := okE (ad0 a1).2 a0
 refine yI 0 i a2 ?_
 rintro aa rfl
 refine yL 0 1 e1 a0 ?_
 rintro ⟨⟨⟩, ⟨⟩⟩
 refine yKE 23 ?_ ?_ <;> intro h2 aj
 refine yI 0 i a2 ?_
 rintro ai ⟨⟩
 refine yL 0 1 e1 a0 ?_
 rintro ⟨⟨⟩, ⟨⟩⟩
 refine yKE 33 ?_ ?_ <;> intro h3 ab
 have a4 := v2.trans (show _ = (some ((i : Nat) : Int)) by rw [acx a0]; simp only [a2b, h2, h3, cT, cF])
 rw [show a46 n_ a b = ((i : Nat) : Int) by simp only [a46, a4, cT, cF]]
 exact R6r Z Z (i6 ((i : Nat) : Int))
 refine yI 0 i a2 ?_
 rintro ac ⟨⟩
 refine yL 0 1 e1 a0 ?_
 rintro ⟨⟨⟩, ⟨⟩⟩
 refine yKE 42 ?_ ?_ <;> intro h4 ad
 refine yI 0 i a2 ?_
 rintro ag ⟨⟩
 refine yL 0 1 e1 a0 ?_
 rintro ⟨⟨⟩, ⟨⟩⟩
 refine yKE 52 ?_ ?_ <;> intro h5 ah
 have a7 := v2.trans (show _ = (some ((i : Nat) : Int)) by rw [acx a0]; simp only [a2b, h2, h3, h4, h5, cT, cF])
 rw [show a46 n_ a b = ((i : Nat) : Int) by simp only [a46, a7, cT, cF]]
 exact R6r Z Z (i6 ((i : Nat) : Int))
 refine SA ?_
 exact ITr Z (i + 1) ⟨τ0, (by rw [v2, acx a0]; simp only [a2b, h2, h3, h4, h5, cT, cF])⟩ τ1 [0]
 refine SA ?_
 exact ITr Z (i + 1) ⟨τ0, (by rw [v2, acx a0]; simp only [a2b, h2, h3, h4, cT, cF])⟩ τ1 [0]
 refine yI 0 i a2 ?_
 rintro ak ⟨⟩
 refine yL 0 1 e1 a0 ?_
 rintro ⟨⟨⟩, ⟨⟩⟩
 refine yKE 42 ?_ ?_ <;> intro h6 a9
 refine yI 0 i a2 ?_
 rintro al ⟨⟩
 refine yL 0 1 e1 a0 ?_
 rintro ⟨⟨⟩, ⟨⟩⟩
 refine yKE 52 ?_ ?_ <;> intro h7 af
 have a5 := v2.trans (show _ = (some ((i : Nat) : Int)) by rw [acx a0]; simp only [a2b, h2, h6, h7, cT, cF])
 rw [show a46 n_ a b = ((i : Nat) : Int) by simp only [a46, a5, cT, cF]]
 exact R6r Z Z (i6 ((i : Nat) : Int))
 refine SA ?_
 exact ITr Z (i + 1) ⟨τ0, (by rw [v2, acx a0]; simp only [a2b, h2, h6, h7, cT, cF])⟩ τ1 [0]
 refine SA ?_
 exact ITr Z (i + 1) ⟨τ0, (by rw [v2, acx a0]; simp only [a2b, h2, h6, cT, cF])⟩ τ1 [0]
 have a3 := v2.trans (show _ = none by rw [dn (show n_.links.length ≤ i by omega)]; simp only [a2b, cT, cF])
 rw [show a46 n_ a b = (-1) by simp only [a46, a3, cT, cF]]
 exact R6r Z Z (i6 (-1))
theorem f55 (hn : n + 0 ≤ 9) (n_ : Topology) (N0 : Rd w K0 M0 n_.links) {a : Int} (a4 : ok n n_) (a5 : ok n a) :
 DP 55 #[aeq n_ K0 M0, vI a] w (pS w n (a4t n_ a)) := by
 have hb := bS0 hn
 refine EN Tryz.func55 Z (aS1 N0) ?_
 refine yB fun p1 => ?_
 refine KS Z Z Z Z (fun _ hΓ => avd Z Z Z) ?_
 refine WX.see Z Z Z (fun _ hΓ => av2 Z Z Z) ?_
 refine F0 1 Int ?_
 have r1 := i8 ((ad0 a4).1)
 refine LM Z (p1, 0, [], ([] : List Int), 0) (fun | (a3, a2, a0, a1, i) => ((i ≤ (max 0 (min n_.size 6)).toNat) ∧ JE n a1 ∧ (a1.length ≤ i) ∧ (a5c n_ a ((max 0 (min n_.size 6)).toNat) 0 ([] : List Int) = a5c n_ a ((max 0 (min n_.size 6)).toNat - i) i a1), (max 0 (min n_.size 6)).toNat - i, [(5, .v (vS a3 a1 a2)), (12, .v (vI i))], [], [(7, ⟨1, a3, a1.length, a2, a0⟩)], [(1, MF.ol a0 (a1 : List Int))])) ⟨zl, nA, τ7, Z⟩ [11, 2, 1] [2] [0] [0, 1] ?_
 rintro ⟨a3, a2, a0, a1, i⟩ ⟨v1, v2, v3, v4⟩
 refine yKD 13 ?_ ?_ <;> intro h1 a9
 refine KV Z Z Z Z Z Z O Z (fun w γ => f18 n τ0 n_ (γ.q 0 Z) a4 a5 (i6 ((i : Nat) : Int))) fun a8 => ?_
 refine yKD 19 ?_ ?_ <;> intro h2 aa
 refine yB fun p2 => ?_
 refine zT (α := Int) [] 2 ((i : Nat) : Int) () fun a7 => ?_
 refine zP 7 22 ((a1 ++ [((i : Nat) : Int)]) : List Int).length a7 fun p3 c1 => ?_
 refine zV [1, 2] 3 ?_
 refine SA ?_
 refine zU [3] 1 ?_
 exact ITr Z (p3, c1, _, ((a1 ++ [((i : Nat) : Int)]) : List Int), i + 1) ⟨τ0, (aeb v2 (all_cons (α := Int) (i6 ((i : Nat) : Int)) nA)), τ2, (by rw [v4, show (max 0 (min n_.size 6)).toNat - i = ((max 0 (min n_.size 6)).toNat - (i + 1)) + 1 by omega]; simp only [a5c, h2, cT, cF])⟩ τ1 [0, 1]
 refine SA ?_
 exact ITr Z (a3, a2, a0, (a1 : List Int), i + 1) ⟨τ0, v2, τ2, (by rw [v4, show (max 0 (min n_.size 6)).toNat - i = ((max 0 (min n_.size 6)).toNat - (i + 1)) + 1 by omega]; simp only [a5c, h2, cT, cF])⟩ τ1 [0, 1]
 have a6 := v4.trans (show _ = (a1 : List Int) by rw [show (max 0 (min n_.size 6)).toNat - i = 0 by omega]; simp only [a5c, cT, cF])
 refine yE 7 1 4 ?_
 rw [show a4t n_ a = a1 by simp only [a4t, a6, cT, cF]]
 exact zX [5] (a3, a2) (ada τ0 v2 : ok n (a1 : List Int))
theorem f255 (hn : n + 0 ≤ 9) (n_ : Topology) (N0 : Rd w K0 M0 n_.links) {a : Int} (a4 : ok n n_) (a5 : ok n a) :
 DP 255 #[aeq n_ K0 M0, vI a] w (pS w n (a19 n_ a)) := by
 have hb := bS0 hn
 refine EN Tryz.func255 Z (aS1 N0) ?_
 refine yB fun p1 => ?_
 refine F0 1 Int ?_
 have r1 := i8 ((ad0 a4).1)
 refine LM Z (p1, 0, [], ([] : List Int), 0) (fun | (a3, a2, a1, a0, i) => ((i ≤ n_.size.toNat) ∧ JE n a0 ∧ (a0.length ≤ i) ∧ (a0.length ≤ 6) ∧ (a3d n_ a (n_.size.toNat) 0 ([] : List Int) = a3d n_ a (n_.size.toNat - i) i a0), n_.size.toNat - i, [(5, .v (vS a3 a0 a2)), (6, .v (vI i))], [], [(7, ⟨1, a3, a0.length, a2, a1⟩)], [(1, MF.ol a1 (a0 : List Int))])) ⟨zl, nA, τ7, τ7, Z⟩ [2, 1] [2] [0] [0, 1] ?_
 rintro ⟨a3, a2, a1, a0, i⟩ ⟨v1, v2, v3, v4, v5⟩
 refine yKD 12 ?_ ?_ <;> intro h1 ac
 refine yKD 15 ?_ ?_ <;> intro h2 ab
 refine KV Z Z Z Z Z Z O Z (fun w γ => f344 n τ0 n_ (γ.q 0 Z) a4 a5 (i6 ((i : Nat) : Int))) fun a9 => ?_
 refine yKD 22 ?_ ?_ <;> intro h3 aa
 refine yB fun p2 => ?_
 refine zT (α := Int) [] 2 ((i : Nat) : Int) () fun a7 => ?_
 refine zP 7 25 ((a0 ++ [((i : Nat) : Int)]) : List Int).length a7 fun p3 c1 => ?_
 refine zV [1, 2] 3 ?_
 refine SA ?_
 refine zU [3] 1 ?_
 exact ITr Z (p3, c1, _, ((a0 ++ [((i : Nat) : Int)]) : List Int), i + 1) ⟨τ0, (aeb v2 (all_cons (α := Int) (i6 ((i : Nat) : Int)) nA)), τ2, τ2, (by rw [v5, show n_.size.toNat - i = (n_.size.toNat - (i + 1)) + 1 by omega]; simp only [a3d, h2, h3, cT, cF])⟩ τ1 [0, 1]
 refine SA ?_
 exact ITr Z (a3, a2, a1, (a0 : List Int), i + 1) ⟨τ0, v2, τ2, τ2, (by rw [v5, show n_.size.toNat - i = (n_.size.toNat - (i + 1)) + 1 by omega]; simp only [a3d, h2, h3, cT, cF])⟩ τ1 [0, 1]
 have a6 := v5.trans (show _ = (a0 : List Int) by rw [show n_.size.toNat - i = (n_.size.toNat - (i + 1)) + 1 by omega]; simp only [a3d, h2, cT, cF])
 refine yE 7 1 4 ?_
 rw [show a19 n_ a = a0 by simp only [a19, a6, cT, cF]]
 exact zX [5] (a3, a2) (ada τ0 v2 : ok n (a0 : List Int))
 have a8 := v5.trans (show _ = (a0 : List Int) by rw [show n_.size.toNat - i = 0 by omega]; simp only [a3d, cT, cF])
 refine yE 7 1 6 ?_
 rw [show a19 n_ a = a0 by simp only [a19, a8, cT, cF]]
 exact zX [7] (a3, a2) (ada τ0 v2 : ok n (a0 : List Int))
end Go.Proofs.YtpmejlbgjkiobaaGreat
namespace Go.Stp
def ae5 (v : Str) : List Str → Nat → Option (Int) | [], i => none | e1 :: rest_, i => bif ((v).toList == (e1).toList) then (some ((i : Nat) : Int)) else ae5 v rest_ (i + 1)
def af1 (s : (List Str)) (v : Str) : Int := match ae5 v s 0 with | some r_ => r_ | none => (-1)
def af9 (s : (List Str)) (v : Str) : Bool := (decide ((af1 s v) ≥ 0))
def acv (secret : Int) : Bool := (a0u secret 1 2147483646)
def acw (secret : Int) : Bool := (a0j secret 1 2147483646)
def a7q (s : Str) : Bool := bif ((((s).size : Nat) : Int) == 2) then match ((s).data.toList)[0]? with | none => default | some e1 => bif (((e1).toNat : Int) == 63) then match ((s).data.toList)[1]? with | none => default | some e2 => bif decide (((e2).toNat : Int) ≥ 97) then (decide (((e2).toNat : Int) ≤ 122)) else false else false else false
def a94 (s : Str) : Bool := bif ((((s).size : Nat) : Int) == 2) then match ((s).data.toList)[0]? with | none => default | some e1 => bif (((e1).toNat : Int) == 63) then match ((s).data.toList)[1]? with | none => default | some e2 => (a0j ((e2).toNat : Int) 97 122) else false else false
def a2t (p_ : Pattern) : List Str → Nat → Option (Bool) | [], i => none | e1 :: rest_, i => bif (!(a6g e1)) then bif (!((e1).toList == ((⟨#[42]⟩ : Str)).toList)) then bif (!(a7q e1)) then bif (!((e1).toList == ((⟨#[42, 42]⟩ : Str)).toList)) then (some false) else bif (((i : Nat) : Int) != i64.wrap ((((p_.parts).length : Nat) : Int) - 1)) then (some false) else a2t p_ rest_ (i + 1) else a2t p_ rest_ (i + 1) else a2t p_ rest_ (i + 1) else a2t p_ rest_ (i + 1)
def a95 (p_ : Pattern) : Bool := match a2t p_ p_.parts 0 with | some r_ => r_ | none => (decide ((((p_.parts).length : Nat) : Int) ≤ 6))
def a2u (p_ : Pattern) : List Str → Nat → Option (Bool) | [], i => none | e1 :: rest_, i => bif (!(a59 e1)) then bif (!((e1).toList == ((⟨#[42]⟩ : Str)).toList)) then bif (!(a94 e1)) then bif (!((e1).toList == ((⟨#[42, 42]⟩ : Str)).toList)) then (some false) else bif decide (((i : Nat) : Int) < i64.wrap ((((p_.parts).length : Nat) : Int) - 1)) then (some false) else a2u p_ rest_ (i + 1) else a2u p_ rest_ (i + 1) else a2u p_ rest_ (i + 1) else a2u p_ rest_ (i + 1)
def a96 (p_ : Pattern) : Bool := match a2u p_ p_.parts 0 with | some r_ => r_ | none => (decide ((((p_.parts).length : Nat) : Int) ≤ 6))
def a6i (s : Str) : List Str → Option (Bool) | [] => none | e1 :: rest_ => bif ((e1).toList == (s).toList) then (some true) else a6i s rest_
def abw (p_ : Pattern) (s : Str) : Bool := match a6i s p_.parts with | some r_ => r_ | none => false
def a5d (r : Rule) : List Str → Option (Bool) | [] => none | e1 :: rest_ => bif (a7q e1) then bif (!(af9 r.dataPattern.parts e1)) then (some false) else a5d r rest_ else a5d r rest_
def a97 (r : Rule) : Bool := bif (!(a95 r.dataPattern)) then false else bif (!(a95 r.keyPattern)) then false else match a5d r r.keyPattern.parts with | some r_ => r_ | none => true
def a5e (r : Rule) : List Str → Option (Bool) | [] => none | e1 :: rest_ => bif (a94 e1) then bif (!(abw r.dataPattern e1)) then (some false) else a5e r rest_ else a5e r rest_
def a4u (r : Rule) : Bool := bif (!(a96 r.dataPattern)) then false else bif (!(a96 r.keyPattern)) then false else match a5e r r.keyPattern.parts with | some r_ => r_ | none => true
def adh (fq : Key → Bool) : List Key → Nat → Option (Int) | [], i => none | e1 :: rest_, i => bif fq e1 then (some ((i : Nat) : Int)) else adh fq rest_ (i + 1)
def ael (s : (List Key)) (fq : Key → Bool) : Int := match adh fq s 0 with | some r_ => r_ | none => (-1)
def af7 (s : (List Key)) (fq : Key → Bool) : Bool := (decide ((ael s fq) ≥ 0))
def adt (fq : Rule → Bool) : List Rule → Nat → Option (Int) | [], i => none | e1 :: rest_, i => bif fq e1 then (some ((i : Nat) : Int)) else adt fq rest_ (i + 1)
def aeh (s : (List Rule)) (fq : Rule → Bool) : Int := match adt fq s 0 with | some r_ => r_ | none => (-1)
def af5 (s : (List Rule)) (fq : Rule → Bool) : Bool := (decide ((aeh s fq) ≥ 0))
def adu (fq : DataP → Bool) : List DataP → Nat → Option (Int) | [], i => none | e1 :: rest_, i => bif fq e1 then (some ((i : Nat) : Int)) else adu fq rest_ (i + 1)
def aeg (s : (List DataP)) (fq : DataP → Bool) : Int := match adu fq s 0 with | some r_ => r_ | none => (-1)
def af3 (s : (List DataP)) (fq : DataP → Bool) : Bool := (decide ((aeg s fq) ≥ 0))
def aco (r : Rule) : Bool := (!(a97 r))
def abx (l : (List Rule)) : Bool := bif decide ((((l).length : Nat) : Int) ≤ 8) then (!(af5 l (fun e0_ => (aco e0_)))) else false
def a7r : List Rule → Option (Bool) | [] => none | e1 :: rest_ => bif (!(a4u e1)) then (some false) else a7r rest_
def aax (l : (List Rule)) : Bool := match a7r l with | some r_ => r_ | none => (decide ((((l).length : Nat) : Int) ≤ 8))
def a6j (e1 : Key) : List Key → Option (Bool) | [] => none | e2 :: rest_ => bif (aat e2.name e1.name) then (some false) else bif (e2.secret == e1.secret) then (some false) else a6j e1 rest_
def a47 (l : (List Key)) : List Key → Nat → Option (Bool) | [], i => none | e1 :: rest_, i => bif (!(a5a e1.name)) then (some false) else bif ((((e1.name.parts).length : Nat) : Int) == 0) then (some false) else bif (!(acv e1.secret)) then (some false) else match a6j e1 (List.take i l) with | some r_ => (some r_) | none => a47 l rest_ (i + 1)
def a6k (l : (List Key)) : Bool := match a47 l l 0 with | some r_ => r_ | none => (decide ((((l).length : Nat) : Int) ≤ 8))
def a5f (n_ : Name) : List Key → Nat → Option (Int) | [], i => none | e1 :: rest_, i => bif (a3a e1.name n_) then (some ((i : Nat) : Int)) else a5f n_ rest_ (i + 1)
def a7s (l : (List Key)) (n_ : Name) : Int := match a5f n_ l 0 with | some r_ => r_ | none => (-1)
def a6l (l : (List Key)) (e1 : Key) : Nat → Nat → Option (Bool) | 0, i2 => none | m_ + 1, i2 => match (l)[i2]? with | none => default | some e2 => bif (e2.secret == e1.secret) then (some false) else a6l l e1 m_ (i2 + 1)
def a48 (l : (List Key)) : List Key → Nat → Option (Bool) | [], i => none | e1 :: rest_, i => bif (!(a5b e1.name)) then (some false) else bif ((((e1.name.parts).length : Nat) : Int) == 0) then (some false) else bif (!(acw e1.secret)) then (some false) else bif decide ((a7s (List.take i l) e1.name) ≥ 0) then (some false) else match a6l l e1 i 0 with | some r_ => (some r_) | none => a48 l rest_ (i + 1)
def a5g (l : (List Key)) : Bool := match a48 l l 0 with | some r_ => r_ | none => (decide ((((l).length : Nat) : Int) ≤ 8))
def acp (n_ : Name) (k : Key) : Bool := (aat k.name n_)
def acq (x_ : DataP) : Bool := (!(a6h x_))
def a7t (t : TrustPolicy) : List Name → Option (Bool) | [] => none | e1 :: rest_ => bif (!(af7 t.keys (fun e0_ => (acp e1 e0_)))) then (some false) else a7t t rest_
def a6m (t : TrustPolicy) : Bool := match a7t t t.anchors with | some r_ => r_ | none => bif (a6k t.keys) then bif (abx t.rules) then bif decide ((((t.anchors).length : Nat) : Int) ≤ 8) then bif decide ((((t.certificates).length : Nat) : Int) ≤ 8) then (!(af3 t.certificates (fun e0_ => (acq e0_)))) else false else false else false else false
def a7u : List DataP → Option (Bool) | [] => none | e2 :: rest_ => bif (!(a3r e2)) then (some false) else a7u rest_
def a5h (t : TrustPolicy) : List Name → Option (Bool) | [] => none | e1 :: rest_ => bif decide ((a7s t.keys e1) < 0) then (some false) else a5h t rest_
def a4v (t : TrustPolicy) : Bool := bif (!(a5g t.keys)) then false else bif (!(aax t.rules)) then false else bif decide ((((t.anchors).length : Nat) : Int) > 8) then false else bif decide ((((t.certificates).length : Nat) : Int) > 8) then false else match a5h t t.anchors with | some r_ => r_ | none => match a7u t.certificates with | some r_ => r_ | none => true
end Go.Stp
namespace Go.Proofs.YtpmejlbgjkiobaaGreat
open Go.Stp
open Go.Stp.GoT (ok)
variable {w : World} (n : Nat) {K0 K1 K2 K3 : Option Addr} {M0 M1 M2 M3 : Nat}
theorem f400 (hn : n + 0 ≤ 9) {s : List Str} (N0 : Rd w K0 M0 s) {v : Str} (a0 : ok n s) (a5 : ok n v) :
 DP 400 #[vS K0 s M0, .string v] w (pI n (af1 s v)) := by
 have hb := bS0 hn
 refine EN Tryz.func400 Z (aS1 N0) ?_
 have r1 := (okl a0).1
 refine LM Z 0 (fun i => ((i ≤ s.length) ∧ (ae5 v s 0 = ae5 v (s.drop i) i), s.length - i, [(8, .v (vI i))], [], [], [])) ⟨zl, Z⟩ [7, 0, 1] [] [0] [0] ?_
 rintro i ⟨v1, v2⟩
 refine yKD 9 ?_ ?_ <;> intro h1 a9
 have a2 : i < s.length := τ0
 obtain ⟨e1, a1⟩ := gE a2
 have a7 := okE a0 a1
 refine yI 0 i a2 ?_
 rintro a6 rfl
 refine zL 0 1 e1 a1 ?_
 rintro ⟨⟩
 refine yKE 16 ?_ ?_ <;> intro h2 a8
 have a4 := v2.trans (show _ = (some ((i : Nat) : Int)) by rw [acx a1]; simp only [ae5, h2, cT, cF])
 rw [show af1 s v = ((i : Nat) : Int) by simp only [af1, a4, cT, cF]]
 exact R6r Z Z (i6 ((i : Nat) : Int))
 refine SA ?_
 exact ITr Z (i + 1) ⟨τ0, (by rw [v2, acx a1]; simp only [ae5, h2, cT, cF])⟩ τ1 [0]
 have a3 := v2.trans (show _ = none by rw [dn (show s.length ≤ i by omega)]; simp only [ae5, cT, cF])
 rw [show af1 s v = (-1) by simp only [af1, a3, cT, cF]]
 exact R6r Z Z (i6 (-1))
theorem f364 (hn : n + 0 ≤ 9) {s : List Str} (N0 : Rd w K0 M0 s) {v : Str} (a1 : ok n s) (a0 : ok n v) :
 DP 364 #[vS K0 s M0, .string v] w (pB (af9 s v)) := by
 have hb := bS0 hn
 refine EN Tryz.func364 Z (aS1 N0) ?_
 refine KV Z Z Z Z Z Z O Z (fun w γ => f400 n τ0 (γ.q 0 Z) a1 a0) fun a2 => ?_
 exact R4r Z Z (by simp only [af9, cT, cF])
theorem f288 (hn : n + 0 ≤ 9) {secret : Int} (a0 : ok n secret) :
 DP 288 #[vI secret] w (pB (acv secret)) := by
 have hb := bS0 hn
 refine EN Tryz.func288 Z adc ?_
 refine KV Z Z Z Z Z Z O Z (fun w γ => f54 n τ0 a0 (i6 1) (i6 2147483646)) fun a1 => ?_
 exact R4r Z Z (by simp only [acv, cT, cF])
theorem f279 (hn : n + 0 ≤ 9) {secret : Int} (a0 : ok n secret) :
 DP 279 #[vI secret] w (pB (acw secret)) := by
 have hb := bS0 hn
 refine EN Tryz.func279 Z adc ?_
 refine KV Z Z Z Z Z Z O Z (fun w γ => f171 n τ0 a0 (i6 1) (i6 2147483646)) fun a1 => ?_
 exact R4r Z Z (by simp only [acw, cT, cF])
theorem f363 (hn : n + 0 ≤ 9) {s : Str} (a2 : ok n s) :
 DP 363 #[.string s] w (pB (a7q s)) := by
 have hb := bS0 hn
 refine EN Tryz.func363 Z adc ?_
 refine yKE 6 ?_ ?_ <;> intro h1 a7
 have a4 : 0 < s.data.toList.length := (by rw [show s.data.toList.length = s.size from by simp]; omega)
 obtain ⟨e1, a0⟩ := gE a4
 refine KS Z Z Z Z (fun _ hΓ => afz ttOk Z Z Z Z Z a0) ?_
 refine yKE 11 ?_ ?_ <;> intro h2 a5
 have a3 : 1 < s.data.toList.length := (by rw [show s.data.toList.length = s.size from by simp]; omega)
 obtain ⟨e2, a1⟩ := gE a3
 refine KS Z Z Z Z (fun _ hΓ => afz ttOk Z Z Z Z Z a1) ?_
 refine yKD 16 ?_ ?_ <;> intro h3 a6
 refine KS Z Z Z Z (fun _ hΓ => afz ttOk Z Z Z Z Z a1) ?_
 exact R4r Z Z (by simp only [a7q, h1, a0, h2, a1, h3, cT, cF])
 exact R4r Z Z (by simp only [a7q, h1, a0, h2, a1, h3, cT, cF])
 exact R4r Z Z (by simp only [a7q, h1, a0, h2, cT, cF])
 exact R4r Z Z (by simp only [a7q, h1, cT, cF])
theorem f355 (hn : n + 0 ≤ 9) {s : Str} (a2 : ok n s) :
 DP 355 #[.string s] w (pB (a94 s)) := by
 have hb := bS0 hn
 refine EN Tryz.func355 Z adc ?_
 refine yKE 6 ?_ ?_ <;> intro h1 a7
 have a4 : 0 < s.data.toList.length := (by rw [show s.data.toList.length = s.size from by simp]; omega)
 obtain ⟨e1, a0⟩ := gE a4
 refine KS Z Z Z Z (fun _ hΓ => afz ttOk Z Z Z Z Z a0) ?_
 refine yKE 11 ?_ ?_ <;> intro h2 a6
 have a3 : 1 < s.data.toList.length := (by rw [show s.data.toList.length = s.size from by simp]; omega)
 obtain ⟨e2, a1⟩ := gE a3
 refine KS Z Z Z Z (fun _ hΓ => afz ttOk Z Z Z Z Z a1) ?_
 refine WX.see Z Z Z (fun _ hΓ => apg ttOk Z Z Z Z Z Z) ?_
 have r1 : e2.toNat < 256 := UInt8.toNat_lt _
 refine CV Z Z Z Z Z O Z (fun w γ => f171 n τ0 (i6 (e2.toNat : Int)) (i6 97) (i6 122)) fun a5 => ?_
 exact R4r Z Z (by simp only [a94, h1, a0, h2, a1, cT, cF])
 exact R4r Z Z (by simp only [a94, h1, a0, h2, cT, cF])
 exact R4r Z Z (by simp only [a94, h1, cT, cF])
theorem f362 (hn : n + 0 ≤ 9) (p_ : Pattern) (N0 : Rd w K0 M0 p_.parts) (a0 : ok n p_) :
 DP 362 #[.agg #[vS K0 p_.parts M0]] w (pB (a95 p_)) := by
 have hb := bS0 hn
 refine EN Tryz.func362 Z (aS1 N0) ?_
 have r1 := (okl (ad9 a0)).1
 refine LM Z 0 (fun i => ((i ≤ p_.parts.length) ∧ (a2t p_ p_.parts 0 = a2t p_ (p_.parts.drop i) i), p_.parts.length - i, [(8, .v (vI i))], [], [], [])) ⟨zl, Z⟩ [7, 6, 1] [1] [0] [0] ?_
 rintro i ⟨v1, v2⟩
 refine yKD 9 ?_ ?_ <;> intro h1 af
 have a2 : i < p_.parts.length := τ0
 obtain ⟨e1, a1⟩ := gE a2
 have a3 := okE (ad9 a0) a1
 refine yI 0 i a2 ?_
 rintro a9 rfl
 refine zL 0 1 e1 a1 ?_
 rintro ⟨⟩
 refine KV Z Z Z Z Z Z O Z (fun w γ => f360 n τ0 a3) fun a8 => ?_
 refine yKN 16 ?_ ?_ <;> intro h2 ae
 refine yKX 20 ?_ ?_ <;> intro h3 ab
 refine KV Z Z Z Z Z Z O Z (fun w γ => f363 n τ0 a3) fun aa => ?_
 refine yKN 25 ?_ ?_ <;> intro h4 ac
 refine yKX 28 ?_ ?_ <;> intro h5 ad
 have a5 := v2.trans (show _ = (some false) by rw [acx a1]; simp only [a2t, h2, h3, h4, h5, cT, cF])
 exact R4r Z Z (by simp only [a95, a5, cT, cF])
 refine SW ?_
 refine yKM 36 ?_ ?_ <;> intro h6 a7
 have a6 := v2.trans (show _ = (some false) by rw [acx a1]; simp only [a2t, h2, h3, h4, h5, h6, cT, cF])
 exact R4r Z Z (by simp only [a95, a6, cT, cF])
 refine SA ?_
 exact ITr Z (i + 1) ⟨τ0, (by rw [v2, acx a1]; simp only [a2t, h2, h3, h4, h5, h6, cT, cF])⟩ τ1 [0]
 refine SA ?_
 exact ITr Z (i + 1) ⟨τ0, (by rw [v2, acx a1]; simp only [a2t, h2, h3, h4, cT, cF])⟩ τ1 [0]
 refine SA ?_
 exact ITr Z (i + 1) ⟨τ0, (by rw [v2, acx a1]; simp only [a2t, h2, h3, cT, cF])⟩ τ1 [0]
 refine SA ?_
 exact ITr Z (i + 1) ⟨τ0, (by rw [v2, acx a1]; simp only [a2t, h2, cT, cF])⟩ τ1 [0]
 have a4 := v2.trans (show _ = none by rw [dn (show p_.parts.length ≤ i by omega)]; simp only [a2t, cT, cF])
 exact R4r Z Z (by simp only [a95, a4, cT, cF])
theorem f354 (hn : n + 0 ≤ 9) (p_ : Pattern) (N0 : Rd w K0 M0 p_.parts) (a0 : ok n p_) :
 DP 354 #[.agg #[vS K0 p_.parts M0]] w (pB (a96 p_)) := by
 have hb := bS0 hn
 refine EN Tryz.func354 Z (aS1 N0) ?_
 have r1 := (okl (ad9 a0)).1
 refine LM Z 0 (fun i => ((i ≤ p_.parts.length) ∧ (a2u p_ p_.parts 0 = a2u p_ (p_.parts.drop i) i), p_.parts.length - i, [(3, .v (vI i))], [], [], [])) ⟨zl, Z⟩ [1] [1] [0] [0] ?_
 rintro i ⟨v1, v2⟩
 refine yKD 9 ?_ ?_ <;> intro h1 af
 have a2 : i < p_.parts.length := τ0
 obtain ⟨e1, a1⟩ := gE a2
 have a3 := okE (ad9 a0) a1
 refine yI 0 i a2 ?_
 rintro a9 rfl
 refine zL 0 1 e1 a1 ?_
 rintro ⟨⟩
 refine KV Z Z Z Z Z Z O Z (fun w γ => f353 n τ0 a3) fun a8 => ?_
 refine yKN 20 ?_ ?_ <;> intro h2 ae
 refine yKX 24 ?_ ?_ <;> intro h3 ab
 refine KV Z Z Z Z Z Z O Z (fun w γ => f355 n τ0 a3) fun aa => ?_
 refine yKN 29 ?_ ?_ <;> intro h4 ac
 refine yKX 32 ?_ ?_ <;> intro h5 ad
 have a5 := v2.trans (show _ = (some false) by rw [acx a1]; simp only [a2u, h2, h3, h4, h5, cT, cF])
 exact R4r Z Z (by simp only [a96, a5, cT, cF])
 refine SW ?_
 refine yKD 40 ?_ ?_ <;> intro h6 a7
 have a6 := v2.trans (show _ = (some false) by rw [acx a1]; simp only [a2u, h2, h3, h4, h5, h6, cT, cF])
 exact R4r Z Z (by simp only [a96, a6, cT, cF])
 refine SA ?_
 exact ITr Z (i + 1) ⟨τ0, (by rw [v2, acx a1]; simp only [a2u, h2, h3, h4, h5, h6, cT, cF])⟩ τ1 [0]
 refine SA ?_
 exact ITr Z (i + 1) ⟨τ0, (by rw [v2, acx a1]; simp only [a2u, h2, h3, h4, cT, cF])⟩ τ1 [0]
 refine SA ?_
 exact ITr Z (i + 1) ⟨τ0, (by rw [v2, acx a1]; simp only [a2u, h2, h3, cT, cF])⟩ τ1 [0]
 refine SA ?_
 exact ITr Z (i + 1) ⟨τ0, (by rw [v2, acx a1]; simp only [a2u, h2, cT, cF])⟩ τ1 [0]
 have a4 := v2.trans (show _ = none by rw [dn (show p_.parts.length ≤ i by omega)]; simp only [a2u, cT, cF])
 exact R4r Z Z (by simp only [a96, a4, cT, cF])
theorem f356 (hn : n + 0 ≤ 9) (p_ : Pattern) (N0 : Rd w K0 M0 p_.parts) {s : Str} (a0 : ok n p_) (a5 : ok n s) :
 DP 356 #[.agg #[vS K0 p_.parts M0], .string s] w (pB (abw p_ s)) := by
 have hb := bS0 hn
 refine EN Tryz.func356 Z (aS1 N0) ?_
 have r1 := (okl (ad9 a0)).1
 refine LM Z 0 (fun i => ((i ≤ p_.parts.length) ∧ (a6i s p_.parts = a6i s (p_.parts.drop i)), p_.parts.length - i, [(5, .v (vI i))], [], [], [])) ⟨zl, Z⟩ [2, 1] [2] [0] [0] ?_
 rintro i ⟨v1, v2⟩
 refine yKD 10 ?_ ?_ <;> intro h1 a9
 have a2 : i < p_.parts.length := τ0
 obtain ⟨e1, a1⟩ := gE a2
 have a7 := okE (ad9 a0) a1
 refine yI 0 i a2 ?_
 rintro a6 rfl
 refine zL 0 1 e1 a1 ?_
 rintro ⟨⟩
 refine yKE 19 ?_ ?_ <;> intro h2 a8
 have a4 := v2.trans (show _ = (some true) by rw [acx a1]; simp only [a6i, h2, cT, cF])
 exact R4r Z Z (by simp only [abw, a4, cT, cF])
 refine SA ?_
 exact ITr Z (i + 1) ⟨τ0, (by rw [v2, acx a1]; simp only [a6i, h2, cT, cF])⟩ τ1 [0]
 have a3 := v2.trans (show _ = none by rw [dn (show p_.parts.length ≤ i by omega)]; simp only [a6i, cT, cF])
 exact R4r Z Z (by simp only [abw, a3, cT, cF])
theorem f291 (hn : n + 0 ≤ 9) (r : Rule) (N0 : Rd w K0 M0 r.dataPattern.parts) (N1 : Rd w K1 M1 r.keyPattern.parts) (a0 : ok n r) :
 DP 291 #[arv r K0 M0 K1 M1] w (pB (a97 r)) := by
 have hb := bS0 hn
 refine EN Tryz.func291 Z (aS2 N0 N1) ?_
 refine KV Z Z Z Z Z Z O Z (fun w γ => f362 n τ0 r.dataPattern (γ.q 0 Z) ((adx a0).1)) fun a6 => ?_
 refine yKN 9 ?_ ?_ <;> intro h1 ae
 exact R4r Z Z (by simp only [a97, h1, cT, cF])
 refine KV Z Z Z Z Z Z O Z (fun w γ => f362 n τ0 r.keyPattern (γ.q 1 Z) ((adx a0).2)) fun a8 => ?_
 refine yKN 14 ?_ ?_ <;> intro h2 ac
 exact R4r Z Z (by simp only [a97, h1, h2, cT, cF])
 have r1 := (okl (ad9 (adx a0).2)).1
 refine LM Z 0 (fun i => ((i ≤ r.keyPattern.parts.length) ∧ (a5d r r.keyPattern.parts = a5d r (r.keyPattern.parts.drop i)), r.keyPattern.parts.length - i, [(19, .v (vI i))], [], [], [])) ⟨zl, Z⟩ [18, 17, 1] [1] [0, 1] [0, 1] ?_
 rintro i ⟨v1, v2⟩
 refine yKD 20 ?_ ?_ <;> intro h3 a9
 have a2 : i < r.keyPattern.parts.length := τ0
 obtain ⟨e1, a1⟩ := gE a2
 have a3 := okE (ad9 (adx a0).2) a1
 refine yI 1 i a2 ?_
 rintro a7 rfl
 refine zL 1 2 e1 a1 ?_
 rintro ⟨⟩
 refine KV Z Z Z Z Z Z O Z (fun w γ => f363 n τ0 a3) fun ad => ?_
 refine yKA 25 ?_ ?_ <;> intro h4
 refine KV Z Z Z Z Z Z O Z (fun w γ => f364 n τ0 (γ.q 0 Z) (ad9 (adx a0).1) a3) fun ab => ?_
 refine yKN 32 ?_ ?_ <;> intro h5 aa
 have a5 := v2.trans (show _ = (some false) by rw [acx a1]; simp only [a5d, h4, h5, cT, cF])
 exact R4r Z Z (by simp only [a97, h1, h2, a5, cT, cF])
 refine SA ?_
 exact ITr Z (i + 1) ⟨τ0, (by rw [v2, acx a1]; simp only [a5d, h4, h5, cT, cF])⟩ τ1 [0, 1]
 refine SA ?_
 exact ITr Z (i + 1) ⟨τ0, (by rw [v2, acx a1]; simp only [a5d, h4, cT, cF])⟩ τ1 [0, 1]
 have a4 := v2.trans (show _ = none by rw [dn (show r.keyPattern.parts.length ≤ i by omega)]; simp only [a5d, cT, cF])
 exact R4r Z Z (by simp only [a97, h1, h2, a4, cT, cF])
theorem f280 (hn : n + 0 ≤ 9) (r : Rule) (N0 : Rd w K0 M0 r.dataPattern.parts) (N1 : Rd w K1 M1 r.keyPattern.parts) (a0 : ok n r) :
 DP 280 #[arv r K0 M0 K1 M1] w (pB (a4u r)) := by
 have hb := bS0 hn
 refine EN Tryz.func280 Z (aS2 N0 N1) ?_
 refine KV Z Z Z Z Z Z O Z (fun w γ => f354 n τ0 r.dataPattern (γ.q 0 Z) ((adx a0).1)) fun a7 => ?_
 refine yKN 8 ?_ ?_ <;> intro h1 ag
 exact R4r Z Z (by simp only [a4u, h1, cT, cF])
 refine KV Z Z Z Z Z Z O Z (fun w γ => f354 n τ0 r.keyPattern (γ.q 1 Z) ((adx a0).2)) fun a9 => ?_
 refine yKN 13 ?_ ?_ <;> intro h2 ae
 exact R4r Z Z (by simp only [a4u, h1, h2, cT, cF])
 have r1 := (okl (ad9 (adx a0).2)).1
 refine LM Z 0 (fun i => ((i ≤ r.keyPattern.parts.length) ∧ (a5e r r.keyPattern.parts = a5e r (r.keyPattern.parts.drop i)), r.keyPattern.parts.length - i, [(3, .v (vI i))], [], [], [])) ⟨zl, Z⟩ [1] [1] [0, 1] [0, 1] ?_
 rintro i ⟨v1, v2⟩
 refine yKD 19 ?_ ?_ <;> intro h3 aa
 have a3 : i < r.keyPattern.parts.length := τ0
 obtain ⟨e1, a1⟩ := gE a3
 have a4 := okE (ad9 (adx a0).2) a1
 refine R0 ?_
 refine WX.draw [] mixed fun bs G0 a2 => ?_
 refine dT 15 [1, 3, 4, 7] ?_
 refine zDI 4 1 i a2 Z a3 ?_
 rintro a8 rfl
 refine zDL 5 1 2 e1 a2 a1 ?_
 rintro ⟨⟩
 refine DXV 6 Z J Z Z Z Z Z Z O Z (fun w γ => f355 n τ0 a4) fun af => ?_
 refine dT 11 [15] ?_
 refine zDC 29 ?_ ?_ <;> intro h4
 refine dT 5 [17, 18, 21, 23, 24, 27] ?_
 refine zDI 14 1 i a2 Z a3 ?_
 rintro ad ⟨⟩
 refine zDL 15 1 2 e1 a2 a1 ?_
 rintro ⟨⟩
 refine DXV 16 Z J Z Z Z Z Z Z O Z (fun w γ => f356 n τ0 r.dataPattern (γ.q 0 Z) ((adx a0).1) a4) fun ac => ?_
 refine dT 0 [35, 37] ?_
 refine DX.tail2 [] Z Z J ?_
 refine yKN 40 ?_ ?_ <;> intro h5 ab
 have a6 := v2.trans (show _ = (some false) by rw [acx a1]; simp only [a5e, h4, h5, cT, cF])
 exact R4r Z Z (by simp only [a4u, h1, h2, a6, cT, cF])
 refine SA ?_
 exact ITr Z (i + 1) ⟨τ0, (by rw [v2, acx a1]; simp only [a5e, h4, h5, cT, cF])⟩ τ1 [0, 1]
 refine dT 0 [17, 19, 21, 23, 25, 27, 29, 31, 33, 35, 37] ?_
 refine DX.tail2 [] Z Z J ?_
 refine SA ?_
 exact ITr Z (i + 1) ⟨τ0, (by rw [v2, acx a1]; simp only [a5e, h4, cT, cF])⟩ τ1 [0, 1]
 have a5 := v2.trans (show _ = none by rw [dn (show r.keyPattern.parts.length ≤ i by omega)]; simp only [a5e, cT, cF])
 exact R4r Z Z (by simp only [a4u, h1, h2, a5, cT, cF])
theorem f286 (hn : n + 0 ≤ 9) {s : List Key} (N0 : Rd w K0 M0 s) (fg : FuncId) (fc : List Value) (fq : Key → Bool) (ff : ∀ w1, Kp emp w w1 → ∀ (e0 : Key) (x0 : GoT.X Key), ok n e0 → All (hp w1) (GoT.fa .der e0 x0) → Does Tryz.prog fg ([Value.agg ⟨GoT.sh e0 x0⟩] ++ fc).toArray w1 emp (fun rv _ => rv = .bool (fq e0) ∧ True)) (a0 : ok n s) :
 DP 286 #[vS K0 s M0, .func (.func fg) #[] fc.toArray] w (pI n (ael s fq)) := by
 have hb := bS0 hn
 refine EN Tryz.func286 Z (aS1 N0) ?_
 have r1 := (okl a0).1
 refine LM Z 0 (fun i => ((i ≤ s.length) ∧ (adh fq s 0 = adh fq (s.drop i) i), s.length - i, [(8, .v (vI i))], [], [], [])) ⟨zl, Z⟩ [7, 0, 1] [] [0] [0] ?_
 rintro i ⟨v1, v2⟩
 refine yKD 9 ?_ ?_ <;> intro h1 a8
 have a2 : i < s.length := τ0
 obtain ⟨e1, a1⟩ := gE a2
 have a5 := okE a0 a1
 refine yI 0 i a2 ?_
 rintro a7 rfl
 refine zL 0 1 e1 a1 ?_
 rintro ⟨⟨p1, c1⟩, ⟨⟩⟩
 refine WX.callV Z Z Z Z Z O Z (fun w G bs hI hΓ => ff w hI.keep e1 ((p1, c1), ()) a5 (All.cons (hΓ.get 1 Z : RdSl _ _ _ _) All.nil)) fun a6 => ?_
 refine yKA 16 ?_ ?_ <;> intro h2
 have a4 := v2.trans (show _ = (some ((i : Nat) : Int)) by rw [acx a1]; simp only [adh, h2, cT, cF])
 rw [show ael s fq = ((i : Nat) : Int) by simp only [ael, a4, cT, cF]]
 exact R6r Z Z (i6 ((i : Nat) : Int))
 refine SA ?_
 exact ITr Z (i + 1) ⟨τ0, (by rw [v2, acx a1]; simp only [adh, h2, cT, cF])⟩ τ1 [0]
 have a3 := v2.trans (show _ = none by rw [dn (show s.length ≤ i by omega)]; simp only [adh, cT, cF])
 rw [show ael s fq = (-1) by simp only [ael, a3, cT, cF]]
 exact R6r Z Z (i6 (-1))
theorem agh : ∀ (f : Key → Bool) (l : List Key) (i : Nat) (j : Int), adh f l i = some j → j < ((i + l.length : Nat) : Int)
 | f, [], i, j, h => by cases h
 | f, x :: l, i, j, h => by
  simp only [adh] at h
  cases hx : f x
  ·rw [hx, cond_false] at h
   have := agh f l (i + 1) j h
   simp only [List.length_cons]; omega
  ·rw [hx, cond_true] at h
   cases h
   simp only [List.length_cons]; omega
theorem ai9 (l : List Key) (f : Key → Bool) : ael l f < ((l.length : Nat) : Int) := by
 unfold ael
 cases h : adh f l 0 with
 | none => show (-1 : Int) < _; omega
 | some j => have := agh f l 0 j h; show j < _; omega
theorem f184 (hn : n + 0 ≤ 9) {s : List Key} (N0 : Rd w K0 M0 s) (fg : FuncId) (fc : List Value) (fq : Key → Bool) (ff : ∀ w1, Kp emp w w1 → ∀ (e0 : Key) (x0 : GoT.X Key), ok n e0 → All (hp w1) (GoT.fa .der e0 x0) → Does Tryz.prog fg ([Value.agg ⟨GoT.sh e0 x0⟩] ++ fc).toArray w1 emp (fun rv _ => rv = .bool (fq e0) ∧ True)) (a0 : ok n s) :
 DP 184 #[vS K0 s M0, .func (.func fg) #[] fc.toArray] w (pB (af7 s fq)) := by
 have hb := bS0 hn
 refine EN Tryz.func184 Z (aS1 N0) ?_
 refine KW Z Z Z Z Z Z O Z (fun w G bs hI hΓ => f286 n τ0 (hΓ.get 0 Z) fg fc fq (fun a1 a2 => ff a1 (hI.keep.trans a2)) a0) fun a3 => ?_
 have q1 := ai9 s fq
 exact R4r Z Z (by simp only [af7, cT, cF])
theorem f361 (hn : n + 0 ≤ 9) {s : List Rule} (N0 : Rd w K0 M0 s) (fg : FuncId) (fc : List Value) (fq : Rule → Bool) (ff : ∀ w1, Kp emp w w1 → ∀ (e0 : Rule) (x0 : GoT.X Rule), ok n e0 → All (hp w1) (GoT.fa .der e0 x0) → Does Tryz.prog fg ([Value.agg ⟨GoT.sh e0 x0⟩] ++ fc).toArray w1 emp (fun rv _ => rv = .bool (fq e0) ∧ True)) (a0 : ok n s) :
 DP 361 #[vS K0 s M0, .func (.func fg) #[] fc.toArray] w (pI n (aeh s fq)) := by
 have hb := bS0 hn
 refine EN Tryz.func361 Z (aS1 N0) ?_
 have r1 := (okl a0).1
 refine LM Z 0 (fun i => ((i ≤ s.length) ∧ (adt fq s 0 = adt fq (s.drop i) i), s.length - i, [(8, .v (vI i))], [], [], [])) ⟨zl, Z⟩ [7, 0, 1] [] [0] [0] ?_
 rintro i ⟨v1, v2⟩
 refine yKD 9 ?_ ?_ <;> intro h1 a8
 have a2 : i < s.length := τ0
 obtain ⟨e1, a1⟩ := gE a2
 have a5 := okE a0 a1
 refine yI 0 i a2 ?_
 rintro a7 rfl
 refine zL 0 1 e1 a1 ?_
 rintro ⟨⟨p1, c1⟩, ⟨p2, c2⟩⟩
 refine WX.callV Z Z Z Z Z O Z (fun w G bs hI hΓ => ff w hI.keep e1 ((p1, c1), (p2, c2)) a5 (All.cons (hΓ.get 1 Z : RdSl _ _ _ _) (All.cons (hΓ.get 2 Z : RdSl _ _ _ _) All.nil))) fun a6 => ?_
 refine yKA 16 ?_ ?_ <;> intro h2
 have a4 := v2.trans (show _ = (some ((i : Nat) : Int)) by rw [acx a1]; simp only [adt, h2, cT, cF])
 rw [show aeh s fq = ((i : Nat) : Int) by simp only [aeh, a4, cT, cF]]
 exact R6r Z Z (i6 ((i : Nat) : Int))
 refine SA ?_
 exact ITr Z (i + 1) ⟨τ0, (by rw [v2, acx a1]; simp only [adt, h2, cT, cF])⟩ τ1 [0]
 have a3 := v2.trans (show _ = none by rw [dn (show s.length ≤ i by omega)]; simp only [adt, cT, cF])
 rw [show aeh s fq = (-1) by simp only [aeh, a3, cT, cF]]
 exact R6r Z Z (i6 (-1))
theorem ag8 : ∀ (f : Rule → Bool) (l : List Rule) (i : Nat) (j : Int), adt f l i = some j → j < ((i + l.length : Nat) : Int)
 | f, [], i, j, h => by cases h
 | f, x :: l, i, j, h => by
  simp only [adt] at h
  cases hx : f x
  ·rw [hx, cond_false] at h
   have := ag8 f l (i + 1) j h
   simp only [List.length_cons]; omega
  ·rw [hx, cond_true] at h
   cases h
   simp only [List.length_cons]; omega
theorem ahr (l : List Rule) (f : Rule → Bool) : aeh l f < ((l.length : Nat) : Int) := by
 unfold aeh
 cases h : adt f l 0 with
 | none => show (-1 : Int) < _; omega
 | some j => have := ag8 f l 0 j h; show j < _; omega
theorem f289 (hn : n + 0 ≤ 9) {s : List Rule} (N0 : Rd w K0 M0 s) (fg : FuncId) (fc : List Value) (fq : Rule → Bool) (ff : ∀ w1, Kp emp w w1 → ∀ (e0 : Rule) (x0 : GoT.X Rule), ok n e0 → All (hp w1) (GoT.fa .der e0 x0) → Does Tryz.prog fg ([Value.agg ⟨GoT.sh e0 x0⟩] ++ fc).toArray w1 emp (fun rv _ => rv = .bool (fq e0) ∧ True)) (a0 : ok n s) :
 DP 289 #[vS K0 s M0, .func (.func fg) #[] fc.toArray] w (pB (af5 s fq)) := by
 have hb := bS0 hn
 refine EN Tryz.func289 Z (aS1 N0) ?_
 refine KW Z Z Z Z Z Z O Z (fun w G bs hI hΓ => f361 n τ0 (hΓ.get 0 Z) fg fc fq (fun a1 a2 => ff a1 (hI.keep.trans a2)) a0) fun a3 => ?_
 have q1 := ahr s fq
 exact R4r Z Z (by simp only [af5, cT, cF])
theorem f292 (hn : n + 0 ≤ 9) {s : List DataP} (N0 : Rd w K0 M0 s) (fg : FuncId) (fc : List Value) (fq : DataP → Bool) (ff : ∀ w1, Kp emp w w1 → ∀ (e0 : DataP) (x0 : GoT.X DataP), ok n e0 → All (hp w1) (GoT.fa .der e0 x0) → Does Tryz.prog fg ([Value.agg ⟨GoT.sh e0 x0⟩] ++ fc).toArray w1 emp (fun rv _ => rv = .bool (fq e0) ∧ True)) (a0 : ok n s) :
 DP 292 #[vS K0 s M0, .func (.func fg) #[] fc.toArray] w (pI n (aeg s fq)) := by
 have hb := bS0 hn
 refine EN Tryz.func292 Z (aS1 N0) ?_
 have r1 := (okl a0).1
 refine LM Z 0 (fun i => ((i ≤ s.length) ∧ (adu fq s 0 = adu fq (s.drop i) i), s.length - i, [(8, .v (vI i))], [], [], [])) ⟨zl, Z⟩ [7, 0, 1] [] [0] [0] ?_
 rintro i ⟨v1, v2⟩
 refine yKD 9 ?_ ?_ <;> intro h1 a8
 have a2 : i < s.length := τ0
 obtain ⟨e1, a1⟩ := gE a2
 have a5 := okE a0 a1
 refine yI 0 i a2 ?_
 rintro a7 rfl
 refine zL 0 1 e1 a1 ?_
 rintro ⟨⟨p1, c1⟩, ⟨p2, c2⟩, ⟨p3, c3⟩, ⟨⟩, ⟨⟩⟩
 refine WX.callV Z Z Z Z Z O Z (fun w G bs hI hΓ => ff w hI.keep e1 ((p1, c1), (p2, c2), (p3, c3), (), ()) a5 (All.cons (hΓ.get 1 Z : RdSl _ _ _ _) (All.cons (hΓ.get 2 Z : RdSl _ _ _ _) (All.cons (hΓ.get 3 Z : RdSl _ _ _ _) All.nil)))) fun a6 => ?_
 refine yKA 16 ?_ ?_ <;> intro h2
 have a4 := v2.trans (show _ = (some ((i : Nat) : Int)) by rw [acx a1]; simp only [adu, h2, cT, cF])
 rw [show aeg s fq = ((i : Nat) : Int) by simp only [aeg, a4, cT, cF]]
 exact R6r Z Z (i6 ((i : Nat) : Int))
 refine SA ?_
 exact ITr Z (i + 1) ⟨τ0, (by rw [v2, acx a1]; simp only [adu, h2, cT, cF])⟩ τ1 [0]
 have a3 := v2.trans (show _ = none by rw [dn (show s.length ≤ i by omega)]; simp only [adu, cT, cF])
 rw [show aeg s fq = (-1) by simp only [aeg, a3, cT, cF]]
 exact R6r Z Z (i6 (-1))
theorem aga : ∀ (f : DataP → Bool) (l : List DataP) (i : Nat) (j : Int), adu f l i = some j → j < ((i + l.length : Nat) : Int)
 | f, [], i, j, h => by cases h
 | f, x :: l, i, j, h => by
  simp only [adu] at h
  cases hx : f x
  ·rw [hx, cond_false] at h
   have := aga f l (i + 1) j h
   simp only [List.length_cons]; omega
  ·rw [hx, cond_true] at h
   cases h
   simp only [List.length_cons]; omega
theorem ahq (l : List DataP) (f : DataP → Bool) : aeg l f < ((l.length : Nat) : Int) := by
 unfold aeg
 cases h : adu f l 0 with
 | none => show (-1 : Int) < _; omega
 | some j => have := aga f l 0 j h; show j < _; omega
theorem f188 (hn : n + 0 ≤ 9) {s : List DataP} (N0 : Rd w K0 M0 s) (fg : FuncId) (fc : List Value) (fq : DataP → Bool) (ff : ∀ w1, Kp emp w w1 → ∀ (e0 : DataP) (x0 : GoT.X DataP), ok n e0 → All (hp w1) (GoT.fa .der e0 x0) → Does Tryz.prog fg ([Value.agg ⟨GoT.sh e0 x0⟩] ++ fc).toArray w1 emp (fun rv _ => rv = .bool (fq e0) ∧ True)) (a0 : ok n s) :
 DP 188 #[vS K0 s M0, .func (.func fg) #[] fc.toArray] w (pB (af3 s fq)) := by
 have hb := bS0 hn
 refine EN Tryz.func188 Z (aS1 N0) ?_
 refine KW Z Z Z Z Z Z O Z (fun w G bs hI hΓ => f292 n τ0 (hΓ.get 0 Z) fg fc fq (fun a1 a2 => ff a1 (hI.keep.trans a2)) a0) fun a3 => ?_
 have q1 := ahq s fq
 exact R4r Z Z (by simp only [af3, cT, cF])
theorem f290 (hn : n + 0 ≤ 9) (r : Rule) (N0 : Rd w K0 M0 r.dataPattern.parts) (N1 : Rd w K1 M1 r.keyPattern.parts) (a0 : ok n r) :
 DP 290 #[arv r K0 M0 K1 M1] w (pB (aco r)) := by
 have hb := bS0 hn
 refine EN Tryz.func290 Z (aS2 N0 N1) ?_
 refine KV Z Z Z Z Z Z O Z (fun w γ => f291 n τ0 r (γ.q 0 Z) (γ.q 1 Z) a0) fun a1 => ?_
 exact R4r Z Z (by simp only [aco, cT, cF])
theorem f187 (hn : n + 0 ≤ 9) {l : List Rule} (N0 : Rd w K0 M0 l) (a2 : ok n l) :
 DP 187 #[vS K0 l M0] w (pB (abx l)) := by
 have hb := bS0 hn
 refine EN Tryz.func187 Z (aS1 N0) ?_
 refine yKD 6 ?_ ?_ <;> intro h1 a8
 refine KV Z Z Z Z Z Z O Z (fun w γ => f289 n τ0 (γ.q 0 Z) 290 [] (fun a1 => (aco a1)) (fun a6 a7 a1 a4 a3 a0 => f290 n τ0 a1 (a0 _ List.mem_cons_self) (a0 (MF.rs .der a4.2.1 a4.2.2 a1.keyPattern.parts) (by simp [GoT.fa])) a3) a2) fun a5 => ?_
 exact R4r Z Z (by simp only [abx, h1, cT, cF])
 exact R4r Z Z (by simp only [abx, h1, cT, cF])
theorem f174 (hn : n + 0 ≤ 9) {l : List Rule} (N0 : Rd w K0 M0 l) (a0 : ok n l) :
 DP 174 #[vS K0 l M0] w (pB (aax l)) := by
 have hb := bS0 hn
 refine EN Tryz.func174 Z (aS1 N0) ?_
 have r1 := (okl a0).1
 refine LM Z 0 (fun i => ((i ≤ l.length) ∧ (a7r l = a7r (l.drop i)), l.length - i, [(3, .v (vI i))], [], [], [])) ⟨zl, Z⟩ [0] [] [0] [0] ?_
 rintro i ⟨v1, v2⟩
 refine yKD 7 ?_ ?_ <;> intro h1 a9
 have a2 : i < l.length := τ0
 obtain ⟨e1, a1⟩ := gE a2
 have a5 := okE a0 a1
 refine yI 0 i a2 ?_
 rintro a7 rfl
 refine zL 0 1 e1 a1 ?_
 rintro ⟨⟨p1, c1⟩, ⟨p2, c2⟩⟩
 refine CV Z Z Z Z Z O Z (fun w γ => f280 n τ0 e1 (γ.q 1 Z) (γ.q 2 Z) a5) fun a6 => ?_
 refine yKN 15 ?_ ?_ <;> intro h2 a8
 have a4 := v2.trans (show _ = (some false) by rw [acx a1]; simp only [a7r, h2, cT, cF])
 exact R4r Z Z (by simp only [aax, a4, cT, cF])
 refine SA ?_
 exact ITr Z (i + 1) ⟨τ0, (by rw [v2, acx a1]; simp only [a7r, h2, cT, cF])⟩ τ1 [0]
 have a3 := v2.trans (show _ = none by rw [dn (show l.length ≤ i by omega)]; simp only [a7r, cT, cF])
 exact R4r Z Z (by simp only [aax, a3, cT, cF])
theorem f186 (hn : n + 0 ≤ 9) {l : List Key} (N0 : Rd w K0 M0 l) (a1 : ok n l) :
 DP 186 #[vS K0 l M0] w (pB (a6k l)) := by
 have hb := bS0 hn
 refine EN Tryz.func186 Z (aS1 N0) ?_
 have r1 := (okl a1).1
 refine LM Z 0 (fun i => ((i ≤ l.length) ∧ (a47 l l 0 = a47 l (l.drop i) i), l.length - i, [(9, .v (vI i))], [], [], [])) ⟨zl, Z⟩ [8, 7, 0] [] [0] [0] ?_
 rintro i ⟨v1, v2⟩
 refine yKD 10 ?_ ?_ <;> intro h1 aq
 have a7 : i < l.length := τ0
 obtain ⟨e1, a0⟩ := gE a7
 have a3 := okE a1 a0
 refine yI 0 i a7 ?_
 rintro a6 rfl
 refine zL 0 1 e1 a0 ?_
 rintro ⟨⟨p1, c1⟩, ⟨⟩⟩
 refine KV Z Z Z Z Z Z O Z (fun w γ => f287 n τ0 e1.name (γ.q 1 Z) ((ag3 a3).1)) fun ah => ?_
 refine yKN 18 ?_ ?_ <;> intro h2 ao
 have aa := v2.trans (show _ = (some false) by rw [acx a0]; simp only [a47, h2, cT, cF])
 exact R4r Z Z (by simp only [a6k, aa, cT, cF])
 refine yKE 25 ?_ ?_ <;> intro h3 aj
 have ae := v2.trans (show _ = (some false) by rw [acx a0]; simp only [a47, h2, h3, cT, cF])
 exact R4r Z Z (by simp only [a6k, ae, cT, cF])
 refine KV Z Z Z Z Z Z O Z (fun w γ => f288 n τ0 ((ag3 a3).2)) fun ai => ?_
 refine yKN 30 ?_ ?_ <;> intro h4 ak
 have ad := v2.trans (show _ = (some false) by rw [acx a0]; simp only [a47, h2, h3, h4, cT, cF])
 exact R4r Z Z (by simp only [a6k, ad, cT, cF])
 refine KS Z Z Z Z (fun _ hΓ => avj i ttOk Z Z Z Z τ7 (Nat.le_trans (show i ≤ l.length from τ0) (hΓ.get 0 Z : RdSl _ _ _ _).1)) ?_
 refine WX.slot 33 (y := .v (.slice (some a6) (((List.take i l)).length) M0)) Z (fun _ => by rw [show ((List.take i l)).length = i from (by simp only [List.length_take]; have z_ := (show i ≤ l.length from τ0); omega)]) ?_
 refine WX.stb 2 (MF.rs .stb (some a6) M0 (List.take i l)) Z 0 Z Z (fun _ h => RdSl.pre h i) ?_
 refine LM Z 0 (fun i2 => ((i2 ≤ ((List.take i l)).length) ∧ (a6j e1 (List.take i l) = a6j e1 (((List.take i l)).drop i2)), ((List.take i l)).length - i2, [(35, .v (vI i2))], [], [], [])) ⟨zl, Z⟩ [34, 33, 29, 28, 27, 26, 23, 22, 21, 20, 19, 4, 9, 8, 7, 0] [4] [0, 1, 2] [0, 1, 2] ?_
 rintro i2 ⟨v3, v4⟩
 refine yKD 36 ?_ ?_ <;> intro h5 am
 have a8 : i2 < ((List.take i l)).length := τ0
 obtain ⟨e2, a2⟩ := gE a8
 have af : ok n e2 := (fun a ha => (okl a1).2 a (List.mem_of_mem_take ha)) _ (List.mem_of_getElem? a2)
 refine yI 2 i2 a8 ?_
 rintro an ⟨⟩
 refine zL 2 3 e2 a2 ?_
 rintro ⟨⟨p2, c2⟩, ⟨⟩⟩
 refine KV Z Z Z Z Z Z O Z (fun w γ => f154 n τ0 e2.name (γ.q 3 Z) e1.name (γ.q 1 Z) ((ag3 af).1) ((ag3 a3).1)) fun ap => ?_
 refine yKA 44 ?_ ?_ <;> intro h6
 have ab := v4.trans (show _ = (some false) by rw [acx a2]; simp only [a6j, h6, cT, cF])
 have ag := v2.trans (show _ = (some false) by rw [acx a0]; simp only [a47, h2, h3, h4, ab, cT, cF])
 exact R4r Z Z (by simp only [a6k, ag, cT, cF])
 refine yKE 50 ?_ ?_ <;> intro h7 al
 have a4 := v4.trans (show _ = (some false) by rw [acx a2]; simp only [a6j, h6, h7, cT, cF])
 have a5 := v2.trans (show _ = (some false) by rw [acx a0]; simp only [a47, h2, h3, h4, a4, cT, cF])
 exact R4r Z Z (by simp only [a6k, a5, cT, cF])
 refine SA ?_
 exact ITr Z (i2 + 1) ⟨τ0, (by rw [v4, acx a2]; simp only [a6j, h6, h7, cT, cF])⟩ τ1 [0, 1, 2]
 have a9 := v4.trans (show _ = none by rw [dn (show ((List.take i l)).length ≤ i2 by omega)]; simp only [a6j, cT, cF])
 refine SA ?_
 exact ITr Z (i + 1) ⟨τ0, (by rw [v2, acx a0]; simp only [a47, h2, h3, h4, a9, cT, cF])⟩ τ1 [0]
 have ac := v2.trans (show _ = none by rw [dn (show l.length ≤ i by omega)]; simp only [a47, cT, cF])
 exact R4r Z Z (by simp only [a6k, ac, cT, cF])
theorem f175 (hn : n + 0 ≤ 9) {l : List Key} (N0 : Rd w K0 M0 l) (n_ : Name) (N1 : Rd w K1 M1 n_.parts) (a0 : ok n l) (a1 : ok n n_) :
 DP 175 #[vS K0 l M0, .agg #[vS K1 n_.parts M1]] w (pI n (a7s l n_)) := by
 have hb := bS0 hn
 refine EN Tryz.func175 Z (aS2 N0 N1) ?_
 have r1 := (okl a0).1
 refine LM Z 0 (fun i => ((i ≤ l.length) ∧ (a5f n_ l 0 = a5f n_ (l.drop i) i), l.length - i, [(5, .v (vI i))], [], [], [])) ⟨zl, Z⟩ [3, 0] [3] [0, 1] [0, 1] ?_
 rintro i ⟨v1, v2⟩
 refine yKD 9 ?_ ?_ <;> intro h1 aa
 have a4 : i < l.length := τ0
 obtain ⟨e1, a2⟩ := gE a4
 have a7 := okE a0 a2
 refine R0 ?_
 refine WX.draw [] mixed fun bs G0 a3 => ?_
 refine dT 5 [1, 3] ?_
 refine zDI 2 0 i a3 Z a4 ?_
 rintro a9 rfl
 refine dT 3 [7] ?_
 refine zDL 4 0 2 e1 a3 a2 ?_
 rintro ⟨⟨p1, c1⟩, ⟨⟩⟩
 refine dT 1 [10] ?_
 refine DXV 6 Z J Z Z Z Z Z Z O Z (fun w γ => f281 n τ0 e1.name (γ.q 2 Z) n_ (γ.q 1 Z) ((ag3 a7).1) a1) fun a8 => ?_
 refine DX.tail2 [] Z Z J ?_
 refine yKA 18 ?_ ?_ <;> intro h2
 have a6 := v2.trans (show _ = (some ((i : Nat) : Int)) by rw [acx a2]; simp only [a5f, h2, cT, cF])
 rw [show a7s l n_ = ((i : Nat) : Int) by simp only [a7s, a6, cT, cF]]
 exact R6r Z Z (i6 ((i : Nat) : Int))
 refine SA ?_
 exact ITr Z (i + 1) ⟨τ0, (by rw [v2, acx a2]; simp only [a5f, h2, cT, cF])⟩ τ1 [0, 1]
 have a5 := v2.trans (show _ = none by rw [dn (show l.length ≤ i by omega)]; simp only [a5f, cT, cF])
 rw [show a7s l n_ = (-1) by simp only [a7s, a5, cT, cF]]
 exact R6r Z Z (i6 (-1))
theorem f173 (hn : n + 0 ≤ 9) {l : List Key} (N0 : Rd w K0 M0 l) (a2 : ok n l) :
 DP 173 #[vS K0 l M0] w (pB (a5g l)) := by
 have hb := bS0 hn
 refine EN Tryz.func173 Z (aS1 N0) ?_
 have r1 := (okl a2).1
 refine LM Z 0 (fun i => ((i ≤ l.length) ∧ (a48 l l 0 = a48 l (l.drop i) i), l.length - i, [(3, .v (vI i))], [], [], [])) ⟨zl, Z⟩ [0] [] [0] [0] ?_
 rintro i ⟨v1, v2⟩
 refine yKD 8 ?_ ?_ <;> intro h1 al
 have a3 : i < l.length := τ0
 obtain ⟨e1, a1⟩ := gE a3
 have a5 := okE a2 a1
 refine R0 ?_
 refine WX.draw [] mixed fun bs G0 a0 => ?_
 refine dT 36 [1, 3] ?_
 refine zDI 2 0 i a0 Z a3 ?_
 rintro a7 rfl
 refine dT 34 [7] ?_
 refine zDL 4 0 1 e1 a0 a1 ?_
 rintro ⟨⟨p1, c1⟩, ⟨⟩⟩
 refine DXV 5 Z J Z Z Z Z Z Z O Z (fun w γ => f278 n τ0 e1.name (γ.q 1 Z) ((ag3 a5).1)) fun ak => ?_
 refine dT 30 [13, 15] ?_
 refine zDC 18 ?_ ?_ <;> intro h2
 have ai := B.nt h2
 refine dT 0 [17, 19, 21, 23, 25, 27, 29, 31, 33, 35, 37, 39, 41, 43, 45, 47, 49, 51, 53, 55, 57, 59, 61, 63, 65, 67, 69, 71, 73, 75] ?_
 refine DX.tail2 [] Z Z J ?_
 have aa := v2.trans (show _ = (some false) by rw [acx a1]; simp only [a48, h2, cT, cF])
 exact R4r Z Z (by simp only [a5g, aa, cT, cF])
 have ai := B.nf h2
 refine dT 28 [17, 19] ?_
 refine zDI 10 0 i a0 Z a3 ?_
 rintro aq ⟨⟩
 refine dT 25 [23, 25] ?_
 refine zDL 13 0 2 e1 a0 a1 ?_
 rintro ⟨⟨p2, c2⟩, ⟨⟩⟩
 refine dT 20 [29, 31, 33, 35] ?_
 refine zDC 28 ?_ ?_ <;> intro h3
 have ab := B.et h3
 refine dT 0 [37, 39, 41, 43, 45, 47, 49, 51, 53, 55, 57, 59, 61, 63, 65, 67, 69, 71, 73, 75] ?_
 refine DX.tail2 [] Z Z J ?_
 have ah := v2.trans (show _ = (some false) by rw [acx a1]; simp only [a48, h2, h3, cT, cF])
 exact R4r Z Z (by simp only [a5g, ah, cT, cF])
 have ab := B.ef h3
 refine dT 18 [37, 39] ?_
 refine zDI 20 0 i a0 Z a3 ?_
 rintro an ⟨⟩
 refine dT 16 [43] ?_
 refine zDL 22 0 3 e1 a0 a1 ?_
 rintro ⟨⟨p3, c3⟩, ⟨⟩⟩
 refine DXV 23 Z J Z Z Z Z Z Z O Z (fun w γ => f279 n τ0 ((ag3 a5).2)) fun am => ?_
 refine dT 11 [49, 51, 53] ?_
 refine zDC 37 ?_ ?_ <;> intro h4
 have ac := B.nt h4
 refine dT 0 [55, 57, 59, 61, 63, 65, 67, 69, 71, 73, 75] ?_
 refine DX.tail2 [] Z Z J ?_
 have ag := v2.trans (show _ = (some false) by rw [acx a1]; simp only [a48, h2, h3, h4, cT, cF])
 exact R4r Z Z (by simp only [a5g, ag, cT, cF])
 have ac := B.nf h4
 refine dT 9 [55, 57] ?_
 refine DX.seeP 29 J Z Z Z Z (ah7 i ttOk Z Z Z Z τ7 (Nat.le_trans (show i ≤ l.length from τ0) (a0.get 0 Z : RdSl _ _ _ _).1)) ?_
 refine DX.slot 40 (y := .v (.slice (some a7) (((List.take i l)).length) M0)) Z (fun _ => by rw [show ((List.take i l)).length = i from (by simp only [List.length_take]; have z_ := (show i ≤ l.length from τ0); omega)]) ?_
 refine DX.der 4 (MF.rs .der (some a7) M0 (List.take i l)) Z (fun _ hΓ => RdSl.pre (hΓ.get 0 Z : RdSl _ _ _ _) i) ?_
 refine dT 6 [61, 63] ?_
 refine zDI 32 0 i a0 Z a3 ?_
 rintro ax ⟨⟩
 refine dT 4 [67] ?_
 refine zDL 34 0 5 e1 a0 a1 ?_
 rintro ⟨⟨p4, c4⟩, ⟨⟩⟩
 refine DXV 35 Z J Z Z Z Z Z Z O Z (fun w γ => f175 n τ0 (γ.q 4 Z) e1.name (γ.q 5 Z) (ada τ2 (fun a ha => (okl a2).2 a (List.mem_of_mem_take ha)) : ok n ((List.take i l) : List Key)) ((ag3 a5).1)) fun aw => ?_
 refine dT 0 [73, 75] ?_
 refine DX.tail2 [] Z Z J ?_
 refine yKD 48 ?_ ?_ <;> intro h5 ap
 have ad := v2.trans (show _ = (some false) by rw [acx a1]; simp only [a48, h2, h3, h4, h5, cT, cF])
 exact R4r Z Z (by simp only [a5g, ad, cT, cF])
 refine LM Z 0 (fun i2 => ((i2 ≤ i) ∧ (a6l l e1 i 0 = a6l l e1 (i - i2) i2), i - i2, [(4, .v (vI i2))], [], [], [])) ⟨zl, Z⟩ [47, 46, 45, 44, 43, 42, 41, 40, 39, 38, 35, 34, 33, 32, 31, 30, 29, 26, 25, 24, 23, 22, 21, 20, 19, 3, 0] [] [0] [0] ?_
 rintro i2 ⟨v3, v4⟩
 refine yKD 51 ?_ ?_ <;> intro h6 aj
 refine R0 ?_
 refine WX.draw [] mixed fun bs G0 a0 => ?_
 refine dT 9 [1, 3] ?_
 have a8 : i2 < l.length := τ3
 obtain ⟨e2, a4⟩ := gE a8
 have ar := okE a2 a4
 refine zDI 2 0 i2 a0 Z a8 ?_
 rintro au ⟨⟩
 refine dT 7 [7] ?_
 refine zDL 4 0 6 e2 a0 a4 ?_
 rintro ⟨⟨p5, c5⟩, ⟨⟩⟩
 refine dT 4 [11, 13] ?_
 refine zDI 7 0 i a0 Z a3 ?_
 rintro av ⟨⟩
 refine dT 2 [17] ?_
 refine zDL 9 0 7 e1 a0 a1 ?_
 rintro ⟨⟨p6, c6⟩, ⟨⟩⟩
 refine dT 0 [21] ?_
 refine DX.tail2 [] Z Z J ?_
 refine yKE 64 ?_ ?_ <;> intro h7 ao
 have ae := v4.trans (show _ = (some false) by rw [show i - i2 = (i - (i2 + 1)) + 1 by omega]; simp only [a6l, a4, h7, cT, cF])
 have a6 := v2.trans (show _ = (some false) by rw [acx a1]; simp only [a48, h2, h3, h4, h5, ae, cT, cF])
 exact R4r Z Z (by simp only [a5g, a6, cT, cF])
 refine SA ?_
 exact ITr Z (i2 + 1) ⟨τ0, (by rw [v4, show i - i2 = (i - (i2 + 1)) + 1 by omega]; simp only [a6l, a4, h7, cT, cF])⟩ τ1 [0]
 have a9 := v4.trans (show _ = none by rw [show i - i2 = 0 by omega]; simp only [a6l, cT, cF])
 refine SA ?_
 exact ITr Z (i + 1) ⟨τ0, (by rw [v2, acx a1]; simp only [a48, h2, h3, h4, h5, a9, cT, cF])⟩ τ1 [0]
 have af := v2.trans (show _ = none by rw [dn (show l.length ≤ i by omega)]; simp only [a48, cT, cF])
 exact R4r Z Z (by simp only [a5g, af, cT, cF])
theorem f185 (hn : n + 0 ≤ 9) (k : Key) (N0 : Rd w K0 M0 k.name.parts) (n_ : Name) (bn_ : Addr) (hn_ : RdSl (hp w) (some bn_) 1 [n_]) (a1 : ok n k) (a0 : ok n n_) :
 DP 185 #[.agg #[vS K0 k.name.parts M0, vI k.secret], .pointer (some bn_)] w (pB (acp n_ k)) := by
 have hb := bS0 hn
 refine EN Tryz.func185 Z (aS2 N0 hn_) ?_
 have a2 : ([n_] : List Name)[0]? = some n_ := rfl
 refine WX.slot 1 (y := .e (some bn_) 0 1 0) Z (fun _ => ao0) ?_
 refine yL 1 2 n_ a2 ?_
 rintro ⟨p1, c1⟩
 refine CV Z Z Z Z Z O Z (fun w γ => f154 n τ0 k.name (γ.q 0 Z) n_ (γ.q 2 Z) ((ag3 a1).1) a0) fun a3 => ?_
 exact R4r Z Z (by simp only [acp, cT, cF])
theorem f189 (hn : n + 0 ≤ 9) (x_ : DataP) (N0 : Rd w K0 M0 x_.name.parts) (N1 : Rd w K1 M1 x_.content) (N2 : Rd w K2 M2 x_.keyName.parts) (a0 : ok n x_) :
 DP 189 #[al6 x_ K0 M0 K1 M1 K2 M2] w (pB (acq x_)) := by
 have hb := bS0 hn
 refine EN Tryz.func189 Z (aS3 N0 N1 N2) ?_
 refine KV Z Z Z Z Z Z O Z (fun w γ => f190 n τ0 x_ (γ.q 0 Z) (γ.q 1 Z) (γ.q 2 Z) a0) fun a1 => ?_
 exact R4r Z Z (by simp only [acq, cT, cF])
theorem f82 (hn : n + 0 ≤ 9) (t : TrustPolicy) (N0 : Rd w K0 M0 t.keys) (N1 : Rd w K1 M1 t.rules) (N2 : Rd w K2 M2 t.anchors) (N3 : Rd w K3 M3 t.certificates) (a0 : ok n t) :
 DP 82 #[af4 t K0 M0 K1 M1 K2 M2 K3 M3] w (pB (a6m t)) := by
 have hb := bS0 hn
 refine EN Tryz.func82 Z (aS4 N0 N1 N2 N3) ?_
 have r1 := (okl (acz a0).2.2.1).1
 refine LM Z 0 (fun i => ((i ≤ t.anchors.length) ∧ (a7t t t.anchors = a7t t (t.anchors.drop i)), t.anchors.length - i, [(8, .v (vI i))], [], [], [])) ⟨zl, Z⟩ [7, 6, 1] [1] [0, 1, 2, 3] [0, 1, 2, 3] ?_
 rintro i ⟨v1, v2⟩
 refine yKD 9 ?_ ?_ <;> intro h1 ak
 have a7 : i < t.anchors.length := τ0
 obtain ⟨e1, a6⟩ := gE a7
 have aa := okE (acz a0).2.2.1 a6
 refine yI 2 i a7 ?_
 rintro ae rfl
 refine zL 2 4 e1 a6 ?_
 rintro ⟨p1, c1⟩
 refine KW Z Z Z Z Z Z O Z (fun w G bs hI hΓ => f184 n τ0 (hΓ.get 0 Z) 185 [Value.pointer (some ⟨bs 4, 0, none⟩)] (fun a2 => (acp e1 a2)) (fun ab a8 a2 a5 a3 a1 => f185 n τ0 a2 (a1 _ List.mem_cons_self) e1 ⟨bs 4, 0, none⟩ ((anq (α := Name) (a := e1) (x := (p1, c1)) (hI.loc 4 _ Z).1 (All.cons (hΓ.get 4 Z : RdSl _ _ _ _) All.nil)).mono (as8 a8)) a3 aa) ((acz a0).1)) fun ad => ?_
 refine yKN 16 ?_ ?_ <;> intro h2 ai
 have a9 := v2.trans (show _ = (some false) by rw [acx a6]; simp only [a7t, h2, cT, cF])
 exact R4r Z Z (by simp only [a6m, a9, cT, cF])
 refine SA ?_
 exact ITr Z (i + 1) ⟨τ0, (by rw [v2, acx a6]; simp only [a7t, h2, cT, cF])⟩ τ1 [0, 1, 2, 3]
 have a4 := v2.trans (show _ = none by rw [dn (show t.anchors.length ≤ i by omega)]; simp only [a7t, cT, cF])
 refine KV Z Z Z Z Z Z O Z (fun w γ => f186 n τ0 (γ.q 0 Z) ((acz a0).1)) fun af => ?_
 refine yKA 21 ?_ ?_ <;> intro h3
 refine KV Z Z Z Z Z Z O Z (fun w γ => f187 n τ0 (γ.q 1 Z) ((acz a0).2.1)) fun aj => ?_
 refine yKA 26 ?_ ?_ <;> intro h4
 refine yKD 32 ?_ ?_ <;> intro h5 ag
 refine yKD 38 ?_ ?_ <;> intro h6 ac
 refine KV Z Z Z Z Z Z O Z (fun w γ => f188 n τ0 (γ.q 3 Z) 189 [] (fun a2 => (acq a2)) (fun ab a8 a2 a5 a3 a1 => f189 n τ0 a2 (a1 _ List.mem_cons_self) (a1 (MF.rs .der a5.2.1.1 a5.2.1.2 a2.content) (by simp [GoT.fa])) (a1 (MF.rs .der a5.2.2.1.1 a5.2.2.1.2 a2.keyName.parts) (by simp [GoT.fa])) a3) ((acz a0).2.2.2)) fun ah => ?_
 exact R4r Z Z (by simp only [a6m, a4, h3, h4, h5, h6, cT, cF])
 exact R4r Z Z (by simp only [a6m, a4, h3, h4, h5, h6, cT, cF])
 exact R4r Z Z (by simp only [a6m, a4, h3, h4, h5, cT, cF])
 exact R4r Z Z (by simp only [a6m, a4, h3, h4, cT, cF])
 exact R4r Z Z (by simp only [a6m, a4, h3, cT, cF])
theorem f73 (hn : n + 0 ≤ 9) (t : TrustPolicy) (N0 : Rd w K0 M0 t.keys) (N1 : Rd w K1 M1 t.rules) (N2 : Rd w K2 M2 t.anchors) (N3 : Rd w K3 M3 t.certificates) (a0 : ok n t) :
 DP 73 #[af4 t K0 M0 K1 M1 K2 M2 K3 M3] w (pB (a4v t)) := by
 have hb := bS0 hn
 refine EN Tryz.func73 Z (aS4 N0 N1 N2 N3) ?_
 refine KV Z Z Z Z Z Z O Z (fun w γ => f173 n τ0 (γ.q 0 Z) ((acz a0).1)) fun ad => ?_
 refine yKN 9 ?_ ?_ <;> intro h1 ap
 exact R4r Z Z (by simp only [a4v, h1, cT, cF])
 refine KV Z Z Z Z Z Z O Z (fun w γ => f174 n τ0 (γ.q 1 Z) ((acz a0).2.1)) fun af => ?_
 refine yKN 15 ?_ ?_ <;> intro h2 an
 exact R4r Z Z (by simp only [a4v, h1, h2, cT, cF])
 refine yKD 21 ?_ ?_ <;> intro h3 ag
 exact R4r Z Z (by simp only [a4v, h1, h2, h3, cT, cF])
 refine yKD 26 ?_ ?_ <;> intro h4 ah
 exact R4r Z Z (by simp only [a4v, h1, h2, h3, h4, cT, cF])
 have r1 := (okl (acz a0).2.2.1).1
 refine LM Z 0 (fun i => ((i ≤ t.anchors.length) ∧ (a5h t t.anchors = a5h t (t.anchors.drop i)), t.anchors.length - i, [(3, .v (vI i))], [], [], [])) ⟨zl, Z⟩ [1] [1] [0, 1, 2, 3] [0, 1, 2, 3] ?_
 rintro i ⟨v1, v2⟩
 refine yKD 31 ?_ ?_ <;> intro h5 ak
 have a5 : i < t.anchors.length := τ0
 obtain ⟨e1, a2⟩ := gE a5
 have a7 := okE (acz a0).2.2.1 a2
 refine R0 ?_
 refine WX.draw [] mixed fun bs G0 a4 => ?_
 refine dT 4 [1, 2, 5, 6, 9] ?_
 refine zDI 5 2 i a4 Z a5 ?_
 rintro ae rfl
 refine zDL 6 2 4 e1 a4 a2 ?_
 rintro ⟨p1, c1⟩
 refine DXV 7 Z J Z Z Z Z Z Z O Z (fun w γ => f175 n τ0 (γ.q 0 Z) e1 (γ.q 4 Z) ((acz a0).1) a7) fun ao => ?_
 refine dT 0 [17] ?_
 refine DX.tail2 [] Z Z J ?_
 refine yKD 42 ?_ ?_ <;> intro h6 ac
 have aa := v2.trans (show _ = (some false) by rw [acx a2]; simp only [a5h, h6, cT, cF])
 exact R4r Z Z (by simp only [a4v, h1, h2, h3, h4, aa, cT, cF])
 refine SA ?_
 exact ITr Z (i + 1) ⟨τ0, (by rw [v2, acx a2]; simp only [a5h, h6, cT, cF])⟩ τ1 [0, 1, 2, 3]
 have a3 := v2.trans (show _ = none by rw [dn (show t.anchors.length ≤ i by omega)]; simp only [a5h, cT, cF])
 have r2 := (okl (acz a0).2.2.2).1
 refine LM Z 0 (fun i => ((i ≤ t.certificates.length) ∧ (a7u t.certificates = a7u (t.certificates.drop i)), t.certificates.length - i, [(4, .v (vI i))], [], [], [])) ⟨zl, Z⟩ [1] [1] [0, 1, 2, 3] [0, 1, 2, 3] ?_
 rintro i ⟨v3, v4⟩
 refine yKD 47 ?_ ?_ <;> intro h7 aj
 have a6 : i < t.certificates.length := τ0
 obtain ⟨e2, a1⟩ := gE a6
 have ab := okE (acz a0).2.2.2 a1
 refine yI 3 i a6 ?_
 rintro am rfl
 refine zL 3 5 e2 a1 ?_
 rintro ⟨⟨p2, c2⟩, ⟨p3, c3⟩, ⟨p4, c4⟩, ⟨⟩, ⟨⟩⟩
 refine CV Z Z Z Z Z O Z (fun w γ => f176 n τ0 e2 (γ.q 5 Z) (γ.q 6 Z) (γ.q 7 Z) ab) fun al => ?_
 refine yKN 56 ?_ ?_ <;> intro h8 ai
 have a8 := v4.trans (show _ = (some false) by rw [acx a1]; simp only [a7u, h8, cT, cF])
 exact R4r Z Z (by simp only [a4v, h1, h2, h3, h4, a3, a8, cT, cF])
 refine SA ?_
 exact ITr Z (i + 1) ⟨τ0, (by rw [v4, acx a1]; simp only [a7u, h8, cT, cF])⟩ τ1 [0, 1, 2, 3]
 have a9 := v4.trans (show _ = none by rw [dn (show t.certificates.length ≤ i by omega)]; simp only [a7u, cT, cF])
 exact R4r Z Z (by simp only [a4v, h1, h2, h3, h4, a3, a9, cT, cF])
end Go.Proofs.YtpmejlbgjkiobaaGreat
namespace Go.Stp
def adi (fq : Route → Bool) : List Route → Nat → Option (Int) | [], i => none | e1 :: rest_, i => bif fq e1 then (some ((i : Nat) : Int)) else adi fq rest_ (i + 1)
def ae1 (s : (List Route)) (fq : Route → Bool) : Int := match adi fq s 0 with | some r_ => r_ | none => (-1)
def a7v (face : Int) (prefix_ : Name) (r : Route) : Bool := bif (r.face == face) then (aat r.pfx prefix_) else false
def a0r (l : (List Route)) (prefix_ : Name) (face : Int) : Int := (ae1 l (fun e0_ => (a7v face prefix_ e0_)))
def a3e (l : (List Route)) : List Route → Nat → Option (Bool) | [], i => none | e1 :: rest_, i => bif (!(a5a e1.pfx)) then (some false) else bif (!(a0u e1.face 1 6)) then (some false) else bif (!(a0u e1.cost 0 1000)) then (some false) else bif decide ((a0r (List.take i l) e1.pfx e1.face) ≥ 0) then (some false) else a3e l rest_ (i + 1)
def a2v (l : (List Route)) : Bool := match a3e l l 0 with | some r_ => r_ | none => (decide ((((l).length : Nat) : Int) ≤ 24))
def a3t (n_ : Name) (side : Int) : List Route → Nat → Option (Int) | [], i => none | e1 :: rest_, i => bif (e1.face == side) then bif (a3a e1.pfx n_) then (some ((i : Nat) : Int)) else a3t n_ side rest_ (i + 1) else a3t n_ side rest_ (i + 1)
def a0p (l : (List Route)) (n_ : Name) (side : Int) : Int := match a3t n_ side l 0 with | some r_ => r_ | none => (-1)
def a3f (l : (List Route)) : List Route → Nat → Option (Bool) | [], i => none | e1 :: rest_, i => bif (!(a5b e1.pfx)) then (some false) else bif (!(a0j e1.face 1 6)) then (some false) else bif (!(a0j e1.cost 0 1000)) then (some false) else bif decide ((a0p (List.take i l) e1.pfx e1.face) ≥ 0) then (some false) else a3f l rest_ (i + 1)
def a3u (l : (List Route)) : Bool := match a3f l l 0 with | some r_ => r_ | none => (decide ((((l).length : Nat) : Int) ≤ 24))
theorem rtIL (fq : Route → Bool) : ∀ (l : List Route) (i : Nat) (r : Int), adi fq l i = some r → r < ((i + l.length : Nat) : Int)
 | [], i, r, h => by cases h
 | e :: l, i, r, h => by
  simp only [adi] at h
  cases h0 : fq e
  ·rw [h0, cond_false] at h
   have := rtIL fq l (i + 1) r h
   simp only [List.length_cons]; omega
  ·rw [h0, cond_true] at h; cases h
   simp only [List.length_cons]; omega
theorem aut (l : List Route) (n_ : Name) (f : Int) : a0r l n_ f < (l.length : Int) := by
 unfold a0r ae1
 split
 ·rename_i r h; have := rtIL _ l 0 r h; omega
 ·omega
theorem rtSL (n_ : Name) (f : Int) : ∀ (l : List Route) (i : Nat) (r : Int), a3t n_ f l i = some r → r < ((i + l.length : Nat) : Int)
 | [], i, r, h => by cases h
 | e :: l, i, r, h => by
  have ih := rtSL n_ f l (i + 1) r
  simp only [List.length_cons]
  simp only [a3t] at h
  cases h0 : (e.face == f)
  ·rw [h0, cond_false] at h; have := ih h; omega
  ·rw [h0, cond_true] at h
   cases h1 : a3a e.pfx n_
   ·rw [h1, cond_false] at h; have := ih h; omega
   ·rw [h1, cond_true] at h; cases h; omega
theorem aus (l : List Route) (n_ : Name) (f : Int) : a0p l n_ f < (l.length : Int) := by
 unfold a0p
 split
 ·rename_i r h; have := rtSL n_ f l 0 r h; omega
 ·omega
end Go.Stp
namespace Go.Proofs.YtpmejlbgjkiobaaGreat
open Go.Stp
open Go.Stp.GoT (ok)
variable {w : World} (n : Nat) {K0 K1 K2 K3 K4 K5 : Option Addr} {M0 M1 M2 M3 M4 M5 : Nat}
theorem f266 (hn : n + 0 ≤ 9) {s : List Route} (N0 : Rd w K0 M0 s) (fg : FuncId) (fc : List Value) (fq : Route → Bool) (ff : ∀ w1, Kp emp w w1 → ∀ (e0 : Route) (x0 : GoT.X Route), ok n e0 → All (hp w1) (GoT.fa .der e0 x0) → Does Tryz.prog fg ([Value.agg ⟨GoT.sh e0 x0⟩] ++ fc).toArray w1 emp (fun rv _ => rv = .bool (fq e0) ∧ True)) (a0 : ok n s) :
 DP 266 #[vS K0 s M0, .func (.func fg) #[] fc.toArray] w (pI n (ae1 s fq)) := by
 have hb := bS0 hn
 refine EN Tryz.func266 Z (aS1 N0) ?_
 have r1 := (okl a0).1
 refine LM Z 0 (fun i => ((i ≤ s.length) ∧ (adi fq s 0 = adi fq (s.drop i) i), s.length - i, [(8, .v (vI i))], [], [], [])) ⟨zl, Z⟩ [7, 0, 1] [] [0] [0] ?_
 rintro i ⟨v1, v2⟩
 refine yKD 9 ?_ ?_ <;> intro h1 a8
 have a2 : i < s.length := τ0
 obtain ⟨e1, a1⟩ := gE a2
 have a5 := okE a0 a1
 refine yI 0 i a2 ?_
 rintro a7 rfl
 refine zL 0 1 e1 a1 ?_
 rintro ⟨⟨p1, c1⟩, ⟨⟩, ⟨⟩⟩
 refine WX.callV Z Z Z Z Z O Z (fun w G bs hI hΓ => ff w hI.keep e1 ((p1, c1), (), ()) a5 (All.cons (hΓ.get 1 Z : RdSl _ _ _ _) All.nil)) fun a6 => ?_
 refine yKA 16 ?_ ?_ <;> intro h2
 have a4 := v2.trans (show _ = (some ((i : Nat) : Int)) by rw [acx a1]; simp only [adi, h2, cT, cF])
 rw [show ae1 s fq = ((i : Nat) : Int) by simp only [ae1, a4, cT, cF]]
 exact R6r Z Z (i6 ((i : Nat) : Int))
 refine SA ?_
 exact ITr Z (i + 1) ⟨τ0, (by rw [v2, acx a1]; simp only [adi, h2, cT, cF])⟩ τ1 [0]
 have a3 := v2.trans (show _ = none by rw [dn (show s.length ≤ i by omega)]; simp only [adi, cT, cF])
 rw [show ae1 s fq = (-1) by simp only [ae1, a3, cT, cF]]
 exact R6r Z Z (i6 (-1))
theorem ag6 : ∀ (f : Route → Bool) (l : List Route) (i : Nat) (j : Int), adi f l i = some j → j < ((i + l.length : Nat) : Int)
 | f, [], i, j, h => by cases h
 | f, x :: l, i, j, h => by
  simp only [adi] at h
  cases hx : f x
  ·rw [hx, cond_false] at h
   have := ag6 f l (i + 1) j h
   simp only [List.length_cons]; omega
  ·rw [hx, cond_true] at h
   cases h
   simp only [List.length_cons]; omega
theorem ahj (l : List Route) (f : Route → Bool) : ae1 l f < ((l.length : Nat) : Int) := by
 unfold ae1
 cases h : adi f l 0 with
 | none => show (-1 : Int) < _; omega
 | some j => have := ag6 f l 0 j h; show j < _; omega
theorem f272 (hn : n + 0 ≤ 9) (r : Route) (N0 : Rd w K0 M0 r.pfx.parts) (face : Int) (bface : Addr) (hface : RdSl (hp w) (some bface) 1 [face]) (prefix_ : Name) (bprefix_ : Addr) (hprefix_ : RdSl (hp w) (some bprefix_) 1 [prefix_]) (a4 : ok n r) (a3 : ok n face) (a0 : ok n prefix_) :
 DP 272 #[an6 r K0 M0, .pointer (some bface), .pointer (some bprefix_)] w (pB (a7v face prefix_ r)) := by
 have hb := bS0 hn
 refine EN Tryz.func272 Z (aS3 N0 hface hprefix_) ?_
 have a2 : ([face] : List Int)[0]? = some face := rfl
 refine WX.slot 1 (y := .e (some bface) 0 1 0) Z (fun _ => ao0) ?_
 have a1 : ([prefix_] : List Name)[0]? = some prefix_ := rfl
 refine WX.slot 2 (y := .e (some bprefix_) 0 1 0) Z (fun _ => ao0) ?_
 refine yL 1 3 face a2 ?_
 rintro ⟨⟩
 refine yKE 9 ?_ ?_ <;> intro h1 a6
 refine yL 2 3 prefix_ a1 ?_
 rintro ⟨p1, c1⟩
 refine CV Z Z Z Z Z O Z (fun w γ => f154 n τ0 r.pfx (γ.q 0 Z) prefix_ (γ.q 3 Z) ((adn a4).1) a0) fun a5 => ?_
 exact R4r Z Z (by simp only [a7v, h1, cT, cF])
 exact R4r Z Z (by simp only [a7v, h1, cT, cF])
theorem f162 (hn : n + 0 ≤ 9) {l : List Route} (N0 : Rd w K0 M0 l) (prefix_ : Name) (N1 : Rd w K1 M1 prefix_.parts) {face : Int} (a3 : ok n l) (a0 : ok n prefix_) (a1 : ok n face) :
 DP 162 #[vS K0 l M0, .agg #[vS K1 prefix_.parts M1], vI face] w (pI n (a0r l prefix_ face)) := by
 have hb := bS0 hn
 refine EN Tryz.func162 Z (aS2 N0 N1) ?_
 refine KW Z Z Z Z Z Z O Z (fun w G bs hI hΓ => f266 n τ0 (hΓ.get 0 Z) 272 [Value.pointer (some ⟨bs 5, 0, none⟩), Value.pointer (some ⟨bs 4, 0, none⟩)] (fun a2 => (a7v face prefix_ a2)) (fun a8 a6 a2 a9 a4 a5 => f272 n τ0 a2 (a5 _ List.mem_cons_self) face ⟨bs 5, 0, none⟩ ((anq (α := Int) (a := face) (x := ()) (hI.loc 5 _ Z).1 All.nil).mono (as8 a6)) prefix_ ⟨bs 4, 0, none⟩ ((anq (α := Name) (a := prefix_) (x := (K1, M1)) (hI.loc 4 _ Z).1 (All.cons (hΓ.get 1 Z : RdSl _ _ _ _) All.nil)).mono (as8 a6)) a4 a1 a0) a3) fun a7 => ?_
 have q1 := ahj l (fun a2 => (a7v face prefix_ a2))
 rw [show a0r l prefix_ face = (ae1 l (fun a2 => (a7v face prefix_ a2))) by simp only [a0r, cT, cF]]
 exact R6r Z Z a7
theorem f273 (hn : n + 0 ≤ 9) {l : List Route} (N0 : Rd w K0 M0 l) (a0 : ok n l) :
 DP 273 #[vS K0 l M0] w (pB (a2v l)) := by
 have hb := bS0 hn
 refine EN Tryz.func273 Z (aS1 N0) ?_
 have r1 := (okl a0).1
 refine LM Z 0 (fun i => ((i ≤ l.length) ∧ (a3e l l 0 = a3e l (l.drop i) i), l.length - i, [(7, .v (vI i))], [], [], [])) ⟨zl, Z⟩ [6, 5, 0] [] [0] [0] ?_
 rintro i ⟨v1, v2⟩
 refine yKD 8 ?_ ?_ <;> intro h1 al
 have a4 : i < l.length := τ0
 obtain ⟨e1, a1⟩ := gE a4
 have a2 := okE a0 a1
 refine yI 0 i a4 ?_
 rintro a3 rfl
 refine zL 0 1 e1 a1 ?_
 rintro ⟨⟨p1, c1⟩, ⟨⟩, ⟨⟩⟩
 refine R0 ?_
 refine WX.draw [] mixed fun bs G0 a6 => ?_
 refine dT 25 [1, 2] ?_
 refine DXV 2 Z J Z Z Z Z Z Z O Z (fun w γ => f287 n τ0 e1.pfx (γ.q 1 Z) ((adn a2).1)) fun ae => ?_
 refine dT 22 [7, 9] ?_
 refine zDC 16 ?_ ?_ <;> intro h2
 have ad := B.nt h2
 refine dT 0 [11, 13, 15, 17, 19, 21, 23, 25, 27, 29, 31, 33, 35, 37, 39, 41, 43, 45, 47, 49, 51, 53] ?_
 refine DX.tail2 [] Z Z J ?_
 have a7 := v2.trans (show _ = (some false) by rw [acx a1]; simp only [a3e, h2, cT, cF])
 exact R4r Z Z (by simp only [a2v, a7, cT, cF])
 have ad := B.nf h2
 refine dT 20 [11, 12] ?_
 refine DXV 7 Z J Z Z Z Z Z Z O Z (fun w γ => f54 n τ0 ((adn a2).2.1) (i6 1) (i6 6)) fun af => ?_
 refine dT 16 [17, 19, 21] ?_
 refine zDC 22 ?_ ?_ <;> intro h3
 have a8 := B.nt h3
 refine dT 0 [23, 25, 27, 29, 31, 33, 35, 37, 39, 41, 43, 45, 47, 49, 51, 53] ?_
 refine DX.tail2 [] Z Z J ?_
 have ac := v2.trans (show _ = (some false) by rw [acx a1]; simp only [a3e, h2, h3, cT, cF])
 exact R4r Z Z (by simp only [a2v, ac, cT, cF])
 have a8 := B.nf h3
 have ag := agk (B.nf h3)
 refine dT 14 [23, 24] ?_
 refine DXV 13 Z J Z Z Z Z Z Z O Z (fun w γ => f54 n τ0 ((adn a2).2.2) (i6 0) (i6 1000)) fun ak => ?_
 refine dT 10 [29, 31, 33] ?_
 refine zDC 28 ?_ ?_ <;> intro h4
 have a9 := B.nt h4
 refine dT 0 [35, 37, 39, 41, 43, 45, 47, 49, 51, 53] ?_
 refine DX.tail2 [] Z Z J ?_
 have ab := v2.trans (show _ = (some false) by rw [acx a1]; simp only [a3e, h2, h3, h4, cT, cF])
 exact R4r Z Z (by simp only [a2v, ab, cT, cF])
 have a9 := B.nf h4
 have aj := agk (B.nf h4)
 refine dT 8 [35, 37] ?_
 refine DX.seeP 19 J Z Z Z Z (ah7 i ttOk Z Z Z Z τ7 (Nat.le_trans (show i ≤ l.length from τ0) (a6.get 0 Z : RdSl _ _ _ _).1)) ?_
 refine DX.slot 31 (y := .v (.slice (some a3) (((List.take i l)).length) M0)) Z (fun _ => by rw [show ((List.take i l)).length = i from (by simp only [List.length_take]; have z_ := (show i ≤ l.length from τ0); omega)]) ?_
 refine DX.der 2 (MF.rs .der (some a3) M0 (List.take i l)) Z (fun _ hΓ => RdSl.pre (hΓ.get 0 Z : RdSl _ _ _ _) i) ?_
 refine dT 3 [41, 42, 45, 46] ?_
 refine DXV 24 Z J Z Z Z Z Z Z O Z (fun w γ => f162 n τ0 (γ.q 2 Z) e1.pfx (γ.q 1 Z) (ada τ2 (fun a ha => (okl a0).2 a (List.mem_of_mem_take ha)) : ok n ((List.take i l) : List Route)) ((adn a2).1) ((adn a2).2.1)) fun ai => ?_
 have q1 := aut (List.take i l) e1.pfx e1.face
 refine dT 0 [51, 53] ?_
 refine DX.tail2 [] Z Z J ?_
 refine yKD 38 ?_ ?_ <;> intro h5 ah
 have aa := v2.trans (show _ = (some false) by rw [acx a1]; simp only [a3e, h2, h3, h4, h5, cT, cF])
 exact R4r Z Z (by simp only [a2v, aa, cT, cF])
 refine SA ?_
 exact ITr Z (i + 1) ⟨τ0, (by rw [v2, acx a1]; simp only [a3e, h2, h3, h4, h5, cT, cF])⟩ τ1 [0]
 have a5 := v2.trans (show _ = none by rw [dn (show l.length ≤ i by omega)]; simp only [a3e, cT, cF])
 exact R4r Z Z (by simp only [a2v, a5, cT, cF])
theorem f263 (hn : n + 0 ≤ 9) {l : List Route} (N0 : Rd w K0 M0 l) (n_ : Name) (N1 : Rd w K1 M1 n_.parts) {side : Int} (a1 : ok n l) (a2 : ok n n_) (a4 : ok n side) :
 DP 263 #[vS K0 l M0, .agg #[vS K1 n_.parts M1], vI side] w (pI n (a0p l n_ side)) := by
 have hb := bS0 hn
 refine EN Tryz.func263 Z (aS2 N0 N1) ?_
 have r1 := (okl a1).1
 refine LM Z 0 (fun i => ((i ≤ l.length) ∧ (a3t n_ side l 0 = a3t n_ side (l.drop i) i), l.length - i, [(7, .v (vI i))], [], [], [])) ⟨zl, Z⟩ [4, 0, 2] [4] [0, 1] [0, 1] ?_
 rintro i ⟨v1, v2⟩
 refine yKD 11 ?_ ?_ <;> intro h1 ad
 have a5 : i < l.length := τ0
 obtain ⟨e1, a0⟩ := gE a5
 have a8 := okE a1 a0
 refine R0 ?_
 refine WX.draw [] mixed fun bs G0 a3 => ?_
 refine dT 14 [1, 3] ?_
 refine zDI 2 0 i a3 Z a5 ?_
 rintro ab rfl
 refine dT 12 [7] ?_
 refine zDL 4 0 2 e1 a3 a0 ?_
 rintro ⟨⟨p1, c1⟩, ⟨⟩, ⟨⟩⟩
 refine dT 8 [11, 13, 15] ?_
 refine zDC 21 ?_ ?_ <;> intro h2
 have a9 := B.et h2
 refine dT 6 [17, 19] ?_
 refine zDI 10 0 i a3 Z a5 ?_
 rintro ac ⟨⟩
 refine dT 4 [23] ?_
 refine zDL 12 0 3 e1 a3 a0 ?_
 rintro ⟨⟨p2, c2⟩, ⟨⟩, ⟨⟩⟩
 refine dT 2 [26] ?_
 refine DXV 14 Z J Z Z Z Z Z Z O Z (fun w γ => f281 n τ0 e1.pfx (γ.q 3 Z) n_ (γ.q 1 Z) ((adn a8).1) a2) fun aa => ?_
 refine dT 0 [31] ?_
 refine DX.tail2 [] Z Z J ?_
 refine yKA 29 ?_ ?_ <;> intro h3
 have a7 := v2.trans (show _ = (some ((i : Nat) : Int)) by rw [acx a0]; simp only [a3t, h2, h3, cT, cF])
 rw [show a0p l n_ side = ((i : Nat) : Int) by simp only [a0p, a7, cT, cF]]
 exact R6r Z Z (i6 ((i : Nat) : Int))
 refine SA ?_
 exact ITr Z (i + 1) ⟨τ0, (by rw [v2, acx a0]; simp only [a3t, h2, h3, cT, cF])⟩ τ1 [0, 1]
 have a9 := B.ef h2
 refine dT 0 [17, 19, 21, 23, 25, 27, 29, 31] ?_
 refine DX.tail2 [] Z Z J ?_
 refine SA ?_
 exact ITr Z (i + 1) ⟨τ0, (by rw [v2, acx a0]; simp only [a3t, h2, cT, cF])⟩ τ1 [0, 1]
 have a6 := v2.trans (show _ = none by rw [dn (show l.length ≤ i by omega)]; simp only [a3t, cT, cF])
 rw [show a0p l n_ side = (-1) by simp only [a0p, a6, cT, cF]]
 exact R6r Z Z (i6 (-1))
theorem f348 (hn : n + 0 ≤ 9) {l : List Route} (N0 : Rd w K0 M0 l) (a2 : ok n l) :
 DP 348 #[vS K0 l M0] w (pB (a3u l)) := by
 have hb := bS0 hn
 refine EN Tryz.func348 Z (aS1 N0) ?_
 have r1 := (okl a2).1
 refine LM Z 0 (fun i => ((i ≤ l.length) ∧ (a3f l l 0 = a3f l (l.drop i) i), l.length - i, [(3, .v (vI i))], [], [], [])) ⟨zl, Z⟩ [0] [] [0] [0] ?_
 rintro i ⟨v1, v2⟩
 refine yKD 7 ?_ ?_ <;> intro h1 af
 have a3 : i < l.length := τ0
 obtain ⟨e1, a1⟩ := gE a3
 have a4 := okE a2 a1
 refine R0 ?_
 refine WX.draw [] mixed fun bs G0 a0 => ?_
 refine dT 40 [1, 3] ?_
 refine zDI 2 0 i a0 Z a3 ?_
 rintro a5 rfl
 refine dT 38 [7] ?_
 refine zDL 4 0 1 e1 a0 a1 ?_
 rintro ⟨⟨p1, c1⟩, ⟨⟩, ⟨⟩⟩
 refine DXV 5 Z J Z Z Z Z Z Z O Z (fun w γ => f278 n τ0 e1.pfx (γ.q 1 Z) ((adn a4).1)) fun ae => ?_
 refine dT 34 [13, 15] ?_
 refine zDC 17 ?_ ?_ <;> intro h2
 have ad := B.nt h2
 refine dT 0 [17, 19, 21, 23, 25, 27, 29, 31, 33, 35, 37, 39, 41, 43, 45, 47, 49, 51, 53, 55, 57, 59, 61, 63, 65, 67, 69, 71, 73, 75, 77, 79, 81, 83] ?_
 refine DX.tail2 [] Z Z J ?_
 have a7 := v2.trans (show _ = (some false) by rw [acx a1]; simp only [a3f, h2, cT, cF])
 exact R4r Z Z (by simp only [a3u, a7, cT, cF])
 have ad := B.nf h2
 refine dT 32 [17, 19] ?_
 refine zDI 10 0 i a0 Z a3 ?_
 rintro al ⟨⟩
 refine dT 30 [23] ?_
 refine zDL 12 0 2 e1 a0 a1 ?_
 rintro ⟨⟨p2, c2⟩, ⟨⟩, ⟨⟩⟩
 refine DXV 13 Z J Z Z Z Z Z Z O Z (fun w γ => f171 n τ0 ((adn a4).2.1) (i6 1) (i6 6)) fun ag => ?_
 refine dT 25 [29, 31, 33] ?_
 refine zDC 26 ?_ ?_ <;> intro h3
 have a8 := B.nt h3
 refine dT 0 [35, 37, 39, 41, 43, 45, 47, 49, 51, 53, 55, 57, 59, 61, 63, 65, 67, 69, 71, 73, 75, 77, 79, 81, 83] ?_
 refine DX.tail2 [] Z Z J ?_
 have ac := v2.trans (show _ = (some false) by rw [acx a1]; simp only [a3f, h2, h3, cT, cF])
 exact R4r Z Z (by simp only [a3u, ac, cT, cF])
 have a8 := B.nf h3
 have ai := afy (B.nf h3)
 refine dT 23 [35, 37] ?_
 refine zDI 19 0 i a0 Z a3 ?_
 rintro ah ⟨⟩
 refine dT 21 [41] ?_
 refine zDL 21 0 3 e1 a0 a1 ?_
 rintro ⟨⟨p3, c3⟩, ⟨⟩, ⟨⟩⟩
 refine DXV 22 Z J Z Z Z Z Z Z O Z (fun w γ => f171 n τ0 ((adn a4).2.2) (i6 0) (i6 1000)) fun ao => ?_
 refine dT 16 [47, 49, 51] ?_
 refine zDC 35 ?_ ?_ <;> intro h4
 have a9 := B.nt h4
 refine dT 0 [53, 55, 57, 59, 61, 63, 65, 67, 69, 71, 73, 75, 77, 79, 81, 83] ?_
 refine DX.tail2 [] Z Z J ?_
 have ab := v2.trans (show _ = (some false) by rw [acx a1]; simp only [a3f, h2, h3, h4, cT, cF])
 exact R4r Z Z (by simp only [a3u, ab, cT, cF])
 have a9 := B.nf h4
 have am := afy (B.nf h4)
 refine dT 14 [53, 55] ?_
 refine DX.seeP 28 J Z Z Z Z (ah7 i ttOk Z Z Z Z τ7 (Nat.le_trans (show i ≤ l.length from τ0) (a0.get 0 Z : RdSl _ _ _ _).1)) ?_
 refine DX.slot 38 (y := .v (.slice (some a5) (((List.take i l)).length) M0)) Z (fun _ => by rw [show ((List.take i l)).length = i from (by simp only [List.length_take]; have z_ := (show i ≤ l.length from τ0); omega)]) ?_
 refine DX.der 4 (MF.rs .der (some a5) M0 (List.take i l)) Z (fun _ hΓ => RdSl.pre (hΓ.get 0 Z : RdSl _ _ _ _) i) ?_
 refine dT 11 [59, 61] ?_
 refine zDI 31 0 i a0 Z a3 ?_
 rintro ap ⟨⟩
 refine dT 9 [65] ?_
 refine zDL 33 0 5 e1 a0 a1 ?_
 rintro ⟨⟨p4, c4⟩, ⟨⟩, ⟨⟩⟩
 refine dT 6 [69, 71] ?_
 refine zDI 36 0 i a0 Z a3 ?_
 rintro an ⟨⟩
 refine dT 4 [75] ?_
 refine zDL 38 0 6 e1 a0 a1 ?_
 rintro ⟨⟨p5, c5⟩, ⟨⟩, ⟨⟩⟩
 refine DXV 39 Z J Z Z Z Z Z Z O Z (fun w γ => f263 n τ0 (γ.q 4 Z) e1.pfx (γ.q 5 Z) (ada τ2 (fun a ha => (okl a2).2 a (List.mem_of_mem_take ha)) : ok n ((List.take i l) : List Route)) ((adn a4).1) ((adn a4).2.1)) fun ak => ?_
 have q1 := aus (List.take i l) e1.pfx e1.face
 refine dT 0 [81, 83] ?_
 refine DX.tail2 [] Z Z J ?_
 refine yKD 51 ?_ ?_ <;> intro h5 aj
 have aa := v2.trans (show _ = (some false) by rw [acx a1]; simp only [a3f, h2, h3, h4, h5, cT, cF])
 exact R4r Z Z (by simp only [a3u, aa, cT, cF])
 refine SA ?_
 exact ITr Z (i + 1) ⟨τ0, (by rw [v2, acx a1]; simp only [a3f, h2, h3, h4, h5, cT, cF])⟩ τ1 [0]
 have a6 := v2.trans (show _ = none by rw [dn (show l.length ≤ i by omega)]; simp only [a3f, cT, cF])
 exact R4r Z Z (by simp only [a3u, a6, cT, cF])
end Go.Proofs.YtpmejlbgjkiobaaGreat
namespace Go.Stp
def a98 (e_ : TableEntry) : Bool := true
def a4w (keepq : TableEntry → Bool) : List TableEntry → (List TableEntry) → (List TableEntry) | [], out => ((out) : List TableEntry) | e1 :: rest_, out => bif keepq e1 then a4w keepq rest_ (((out ++ [(TableEntry.mk (a0f e1.name) e1.value)])) : List TableEntry) else a4w keepq rest_ ((out) : List TableEntry)
def aby (l : (List TableEntry)) (keepq : TableEntry → Bool) : (List TableEntry) := match a4w keepq l ([] : List TableEntry) with | out => out
def a2w (l : (List TableEntry)) : (List TableEntry) := (aby l (fun e0_ => (a98 e0_)))
theorem kTL : ∀ (l o : List TableEntry), a4w (fun e0_ => a98 e0_) l o = o ++ l
 | [], o => by simp [a4w]
 | x :: l, o => by
  simp only [a4w]
  rw [show a98 x = true from rfl, cond_true, kTL l]
  simp [a0f]
theorem aww (l : List TableEntry) : a2w l = l := by simp [a2w, aby, kTL]
theorem alg (l : List TableEntry) : (a2w l).length = l.length := by rw [aww]
def a6n : List TableEntry → (List TableEntry) → (List TableEntry) | [], out => ((out) : List TableEntry) | e1 :: rest_, out => a6n rest_ (((out ++ [(TableEntry.mk (a0g e1.name) e1.value)])) : List TableEntry)
def a4x (l : (List TableEntry)) : (List TableEntry) := match a6n l ([] : List TableEntry) with | out => out
theorem l6L : ∀ (l o : List TableEntry), a6n l o = o ++ l
 | [], o => by simp [a6n]
 | x :: l, o => by
  simp only [a6n]
  rw [l6L l]
  simp [a0g]
theorem aws (l : List TableEntry) : a4x l = l := by simp [a4x, l6L]
theorem atx (l : List TableEntry) : (a4x l).length = l.length := by rw [aws]
end Go.Stp
namespace Go.Proofs.YtpmejlbgjkiobaaGreat
open Go.Stp
open Go.Stp.GoT (ok)
variable {w : World} (n : Nat) {K0 K1 : Option Addr} {M0 M1 : Nat}
theorem f199 (hn : n + 0 ≤ 9) (e_ : TableEntry) (N0 : Rd w K0 M0 e_.name.parts) (a0 : ok n e_) :
 DP 199 #[.agg #[vS K0 e_.name.parts M0, vI e_.value]] w (pB (a98 e_)) := by
 refine EN Tryz.func199 Z (aS1 N0) ?_
 exact R4r Z Z (by simp only [a98, cT, cF])
theorem f198 (hn : n + 0 ≤ 9) {l : List TableEntry} (N0 : Rd w K0 M0 l) (keepg : FuncId) (keepc : List Value) (keepq : TableEntry → Bool) (keepf : ∀ w1, Kp emp w w1 → ∀ (e0 : TableEntry) (x0 : GoT.X TableEntry), ok n e0 → All (hp w1) (GoT.fa .der e0 x0) → Does Tryz.prog keepg ([Value.agg ⟨GoT.sh e0 x0⟩] ++ keepc).toArray w1 emp (fun rv _ => rv = .bool (keepq e0) ∧ True)) (a4 : ok n l) :
 DP 198 #[vS K0 l M0, .func (.func keepg) #[] keepc.toArray] w (pS w n (aby l keepq)) := by
 have hb := bS0 hn
 refine EN Tryz.func198 Z (aS1 N0) ?_
 refine yB fun p1 => ?_
 refine F0 1 TableEntry ?_
 have r1 := (okl a4).1
 refine LM Z (p1, 0, [], ([] : List TableEntry), 0) (fun | (a3, a2, a0, a1, i) => ((i ≤ l.length) ∧ JE n a1 ∧ (a1.length ≤ i) ∧ (a4w keepq l ([] : List TableEntry) = a4w keepq (l.drop i) a1), l.length - i, [(5, .v (vS a3 a1 a2)), (11, .v (vI i))], [], [(8, ⟨2, a3, a1.length, a2, a0⟩)], [(1, MF.ol a0 (a1 : List TableEntry))])) ⟨zl, nA, τ7, Z⟩ [10, 9, 1] [] [0] [0, 1] ?_
 rintro ⟨a3, a2, a0, a1, i⟩ ⟨v1, v2, v3, v4⟩
 refine yKD 12 ?_ ?_ <;> intro h1 ad
 have a7 : i < l.length := τ0
 obtain ⟨e1, a6⟩ := gE a7
 have a5 := okE a4 a6
 refine yI 0 i a7 ?_
 rintro ac rfl
 refine zL 0 2 e1 a6 ?_
 rintro ⟨⟨p2, c1⟩, ⟨⟩⟩
 refine KW Z Z Z Z Z Z O Z (fun w G bs hI hΓ => keepf w hI.keep e1 ((p2, c1), ()) a5 (All.cons (hΓ.get 2 Z : RdSl _ _ _ _) All.nil)) fun ab => ?_
 refine yKA 17 ?_ ?_ <;> intro h2
 refine R0 ?_
 refine WX.draw [8, 9] mixed fun bs G0 ae => ?_
 refine dT 5 [1, 3, 4, 9, 10] ?_
 refine DXF 3 3 Z J Z Z Z Z Z Z O Z (fun w γ => f56 n τ0 e1.name (γ.q 2 Z) ((adv a5).1)) ?_
 rintro ⟨p3, c2⟩ aa
 refine dT 3 [13] ?_
 refine DX.tail2 [7, 8, 9] Z Z J ?_
 refine zB fun p4 => ?_
 refine zT (α := TableEntry) [4] 5 (TableEntry.mk (a0f e1.name) e1.value) ((p3, c2), ()) fun _ => ?_
 have r2 := i8 ((adv a5).2)
 refine WX.know (fun G hΓ => (hΓ.get 5 Z : OwL _ _ _).rd.one) fun a9 => ?_
 refine zP 8 25 ((a1 ++ [(TableEntry.mk (a0f e1.name) e1.value)]) : List TableEntry).length a9 fun p5 c3 => ?_
 refine zV [1, 5] 6 ?_
 refine SA ?_
 refine zU [6] 1 ?_
 exact ITr Z (p5, c3, _, ((a1 ++ [(TableEntry.mk (a0f e1.name) e1.value)]) : List TableEntry), i + 1) ⟨τ0, (aeb v2 (all_cons (α := TableEntry) (An aa (adv a5).2) nA)), τ2, (by rw [v4, acx a6]; simp only [a4w, h2, cT, cF])⟩ τ1 [0, 1]
 refine SA ?_
 exact ITr Z (a3, a2, a0, (a1 : List TableEntry), i + 1) ⟨τ0, v2, τ2, (by rw [v4, acx a6]; simp only [a4w, h2, cT, cF])⟩ τ1 [0, 1]
 have a8 := v4.trans (show _ = (a1 : List TableEntry) by rw [dn (show l.length ≤ i by omega)]; simp only [a4w, cT, cF])
 refine yE 8 1 7 ?_
 rw [show aby l keepq = a1 by simp only [aby, a8, cT, cF]]
 exact zX [8] (a3, a2) (ada τ0 v2 : ok n (a1 : List TableEntry))
theorem f86 (hn : n + 0 ≤ 9) {l : List TableEntry} (N0 : Rd w K0 M0 l) (a1 : ok n l) :
 DP 86 #[vS K0 l M0] w (pS w n (a2w l)) := by
 have hb := bS0 hn
 refine EN Tryz.func86 Z (aS1 N0) ?_
 refine KF Z 1 Z Z Z Z Z O Z (fun w γ => f198 n τ0 (γ.q 0 Z) 199 [] (fun a0 => (a98 a0)) (fun a5 a6 a0 a7 a2 a3 => f199 n τ0 a0 (a3 _ List.mem_cons_self) a2) a1) ?_
 rintro ⟨p1, c1⟩ a4
 rw [show a2w l = (aby l (fun a0 => (a98 a0))) by simp only [a2w, cT, cF]]
 exact yX [2] (p1, c1) a4
theorem f140 (hn : n + 0 ≤ 9) {l : List TableEntry} (N0 : Rd w K0 M0 l) (a4 : ok n l) :
 DP 140 #[vS K0 l M0] w (pS w n (a4x l)) := by
 have hb := bS0 hn
 refine EN Tryz.func140 Z (aS1 N0) ?_
 refine yB fun p1 => ?_
 refine F0 1 TableEntry ?_
 have r1 := (okl a4).1
 refine LM Z (p1, 0, [], ([] : List TableEntry), 0) (fun | (a3, a2, a1, a0, i) => ((i ≤ l.length) ∧ JE n a0 ∧ (a0.length ≤ i) ∧ (a6n l ([] : List TableEntry) = a6n (l.drop i) a0), l.length - i, [(3, .v (vS a3 a0 a2)), (4, .v (vI i))], [], [(6, ⟨2, a3, a0.length, a2, a1⟩)], [(1, MF.ol a1 (a0 : List TableEntry))])) ⟨zl, nA, τ7, Z⟩ [0] [] [0] [0, 1] ?_
 rintro ⟨a3, a2, a1, a0, i⟩ ⟨v1, v2, v3, v4⟩
 refine yKD 10 ?_ ?_ <;> intro h1 ad
 have a6 : i < l.length := τ0
 obtain ⟨e1, a5⟩ := gE a6
 have a7 := okE a4 a5
 refine yI 0 i a6 ?_
 rintro ac rfl
 refine yL 0 2 e1 a5 ?_
 rintro ⟨⟨p2, c1⟩, ⟨⟩⟩
 refine CF 3 Z Z Z Z Z O Z (fun w γ => f246 n τ0 e1.name (γ.q 2 Z) ((adv a7).1)) ?_
 rintro ⟨p3, c2⟩ ab
 refine R0 ?_
 refine WX.draw [9, 10] mixed fun bs G0 a8 => ?_
 refine dT 7 [1, 2, 5, 7] ?_
 refine zDI 4 0 i a8 Z a6 ?_
 rintro ae ⟨⟩
 refine dT 5 [11] ?_
 refine zDL 6 0 5 e1 a8 a5 ?_
 rintro ⟨⟨p4, c3⟩, ⟨⟩⟩
 refine dT 3 [15] ?_
 refine DX.tail2 [8, 9, 10] Z Z J ?_
 refine zB fun p5 => ?_
 refine zT (α := TableEntry) [4] 6 (TableEntry.mk (a0g e1.name) e1.value) ((p3, c2), ()) fun _ => ?_
 have r2 := i8 ((adv a7).2)
 refine WX.know (fun G hΓ => (hΓ.get 6 Z : OwL _ _ _).rd.one) fun aa => ?_
 refine zP 6 27 ((a0 ++ [(TableEntry.mk (a0g e1.name) e1.value)]) : List TableEntry).length aa fun p6 c4 => ?_
 refine zV [1, 6] 7 ?_
 refine SA ?_
 refine zU [7] 1 ?_
 exact ITr Z (p6, c4, _, ((a0 ++ [(TableEntry.mk (a0g e1.name) e1.value)]) : List TableEntry), i + 1) ⟨τ0, (aeb v2 (all_cons (α := TableEntry) (An ab (adv a7).2) nA)), τ2, (by rw [v4, acx a5]; simp only [a6n, cT, cF])⟩ τ1 [0, 1]
 have a9 := v4.trans (show _ = (a0 : List TableEntry) by rw [dn (show l.length ≤ i by omega)]; simp only [a6n, cT, cF])
 refine yE 6 1 8 ?_
 rw [show a4x l = a0 by simp only [a4x, a9, cT, cF]]
 exact zX [9] (a3, a2) (ada τ0 v2 : ok n (a0 : List TableEntry))
end Go.Proofs.YtpmejlbgjkiobaaGreat
namespace Go.Stp
def acr (w_ : Interest) : Interest := (Interest.mk (a0f w_.name) w_.nonce w_.hopLimit w_.lifetime)
def aay : List DataP → (List DataP) → (List DataP) | [], out => ((out) : List DataP) | e1 :: rest_, out => aay rest_ (((out ++ [(a2z e1)])) : List DataP)
def a7w (l : (List DataP)) : (List DataP) := match aay l ([] : List DataP) with | out => out
def aaz : List Key → (List Key) → (List Key) | [], out => ((out) : List Key) | e1 :: rest_, out => aaz rest_ (((out ++ [(Key.mk (a0f e1.name) e1.secret)])) : List Key)
def ab0 (l : (List Key)) : (List Key) := match aaz l ([] : List Key) with | out => out
def ab1 : List Name → (List Name) → (List Name) | [], out => ((out) : List Name) | e1 :: rest_, out => ab1 rest_ (((out ++ [(a0f e1)])) : List Name)
def ab2 (l : (List Name)) : (List Name) := match ab1 l ([] : List Name) with | out => out
def ab3 : List SeenNonce → (List SeenNonce) → (List SeenNonce) | [], out => ((out) : List SeenNonce) | e1 :: rest_, out => ab3 rest_ (((out ++ [(SeenNonce.mk (a0f e1.name) e1.nonce)])) : List SeenNonce)
def abz (s : (List SeenNonce)) : (List SeenNonce) := match ab3 s ([] : List SeenNonce) with | out => out
def a7x : List Route → (List Route) → (List Route) | [], out => ((out) : List Route) | e1 :: rest_, out => a7x rest_ (((out ++ [(Route.mk (a0f e1.pfx) e1.face e1.cost)])) : List Route)
def a10 (l : (List Route)) : (List Route) := match a7x l ([] : List Route) with | out => out
def ab4 : List Measurement → (List Measurement) → (List Measurement) | [], out => ((out) : List Measurement) | e1 :: rest_, out => ab4 rest_ (((out ++ [(Measurement.mk (a0f e1.pfx) e1.face e1.failures)])) : List Measurement)
def ac0 (l : (List Measurement)) : (List Measurement) := match ab4 l ([] : List Measurement) with | out => out
def ab5 : List PendingInterest → (List PendingInterest) → (List PendingInterest) | [], out => ((out) : List PendingInterest) | e1 :: rest_, out => ab5 rest_ (((out ++ [(PendingInterest.mk (a0f e1.name) e1.requesters e1.lastSent)])) : List PendingInterest)
def ac1 (l : (List PendingInterest)) : (List PendingInterest) := match ab5 l ([] : List PendingInterest) with | out => out
def a6o (keepq : CacheEntry → Bool) : List CacheEntry → (List CacheEntry) → (List CacheEntry) | [], out => ((out) : List CacheEntry) | e1 :: rest_, out => bif keepq e1 then a6o keepq rest_ (((out ++ [(CacheEntry.mk (a2z e1.data) e1.lastUsed)])) : List CacheEntry) else a6o keepq rest_ ((out) : List CacheEntry)
def acs (c_ : ContentStore) (keepq : CacheEntry → Bool) : ContentStore := match a6o keepq c_.entries ([] : List CacheEntry) with | out => (ContentStore.mk c_.capacity out)
def ac2 (e_ : CacheEntry) : Bool := true
def ac3 (c_ : ContentStore) : ContentStore := (acs c_ (fun e0_ => (ac2 e0_)))
def acu (w_ : Interest) : Interest := (Interest.mk (a0g w_.name) w_.nonce w_.hopLimit w_.lifetime)
def ab6 : List Key → (List Key) → (List Key) | [], out => ((out) : List Key) | e1 :: rest_, out => ab6 rest_ (((out ++ [(Key.mk (a0g e1.name) e1.secret)])) : List Key)
def a99 (l : (List Key)) : (List Key) := match ab6 l ([] : List Key) with | out => out
def a1a (r : Rule) : Rule := r
def ab7 : List DataP → (List DataP) → (List DataP) | [], out => ((out) : List DataP) | e1 :: rest_, out => ab7 rest_ (((out ++ [(a30 e1)])) : List DataP)
def a9a (l : (List DataP)) : (List DataP) := match ab7 l ([] : List DataP) with | out => out
def ab8 : List PendingInterest → (List PendingInterest) → (List PendingInterest) | [], out => ((out) : List PendingInterest) | e1 :: rest_, out => ab8 rest_ (((out ++ [(PendingInterest.mk (a0g e1.name) e1.requesters e1.lastSent)])) : List PendingInterest)
def ac4 (l : (List PendingInterest)) : (List PendingInterest) := match ab8 l ([] : List PendingInterest) with | out => out
def ab9 : List SeenNonce → (List SeenNonce) → (List SeenNonce) | [], out => ((out) : List SeenNonce) | e1 :: rest_, out => ab9 rest_ (((out ++ [(SeenNonce.mk (a0g e1.name) e1.nonce)])) : List SeenNonce)
def ac5 (s : (List SeenNonce)) : (List SeenNonce) := match ab9 s ([] : List SeenNonce) with | out => out
def a7y : List Route → (List Route) → (List Route) | [], out => ((out) : List Route) | e1 :: rest_, out => a7y rest_ (((out ++ [(Route.mk (a0g e1.pfx) e1.face e1.cost)])) : List Route)
def a11 (l : (List Route)) : (List Route) := match a7y l ([] : List Route) with | out => out
def aba : List Measurement → (List Measurement) → (List Measurement) | [], out => ((out) : List Measurement) | e1 :: rest_, out => aba rest_ (((out ++ [(Measurement.mk (a0g e1.pfx) e1.face e1.failures)])) : List Measurement)
def ac6 (l : (List Measurement)) : (List Measurement) := match aba l ([] : List Measurement) with | out => out
def a9b : List CacheEntry → (List CacheEntry) → (List CacheEntry) | [], out => ((out) : List CacheEntry) | e1 :: rest_, out => a9b rest_ (((out ++ [(CacheEntry.mk (a30 e1.data) e1.lastUsed)])) : List CacheEntry)
def ac7 (c_ : ContentStore) : ContentStore := match a9b c_.entries ([] : List CacheEntry) with | out => (ContentStore.mk c_.capacity out)
def a9c (x_ : NodeP) : NodeP := (NodeP.mk (a7w x_.locl) (ac3 x_.cache) (ac1 x_.pending) (abz x_.seen) (a10 x_.routes) (ac0 x_.measurements) x_.dropped)
def a9d (x_ : NodeP) : NodeP := (NodeP.mk (a9a x_.locl) (ac7 x_.cache) (ac4 x_.pending) (ac5 x_.seen) (a11 x_.routes) (ac6 x_.measurements) x_.dropped)
def a2i (g : Topology) : Topology := g
def a9e : List Rule → (List Rule) → (List Rule) | [], out => ((out) : List Rule) | e1 :: rest_, out => a9e rest_ (((out ++ [e1])) : List Rule)
def a1b (t : TrustPolicy) : TrustPolicy := match a9e t.rules ([] : List Rule) with | out => (TrustPolicy.mk (ab0 t.keys) out (ab2 t.anchors) (a7w t.certificates))
def a9f : List Name → (List Name) → (List Name) | [], out2 => ((out2) : List Name) | e2 :: rest_, out2 => a9f rest_ (((out2 ++ [(a0g e2)])) : List Name)
def a9g : List Rule → (List Rule) → (List Rule) | [], out => ((out) : List Rule) | e1 :: rest_, out => a9g rest_ (((out ++ [(a1a e1)])) : List Rule)
def a2c (t : TrustPolicy) : TrustPolicy := match a9g t.rules ([] : List Rule) with | out => match a9f t.anchors ([] : List Name) with | out2 => (TrustPolicy.mk (a99 t.keys) out out2 (a9a t.certificates))
def abb (p_ : PacketInFlight) : PacketInFlight := (PacketInFlight.mk p_.to p_.face p_.isInterest (acr p_.interest) (a2z p_.data))
def abc (f : PacketInFlight) : PacketInFlight := (PacketInFlight.mk f.to f.face f.isInterest (acu f.interest) (a30 f.data))
def a9h : List Consumer → (List Consumer) → (List Consumer) | [], out3 => ((out3) : List Consumer) | e3 :: rest_, out3 => a9h rest_ (((out3 ++ [(a9r e3)])) : List Consumer)
def a9i : List PacketInFlight → (List PacketInFlight) → (List PacketInFlight) | [], out2 => ((out2) : List PacketInFlight) | e2 :: rest_, out2 => a9i rest_ (((out2 ++ [(abb e2)])) : List PacketInFlight)
def a7z : List NodeP → (List NodeP) → (List NodeP) | [], out => ((out) : List NodeP) | e1 :: rest_, out => a7z rest_ (((out ++ [(a9c e1)])) : List NodeP)
def a9j (w_ : Network) : Network := match a7z w_.nodes ([] : List NodeP) with | out => match a9i w_.inFlight ([] : List PacketInFlight) with | out2 => match a9h w_.consumers ([] : List Consumer) with | out3 => (Network.mk (a2i w_.topology) (a1b w_.trust) (a2w w_.producers) out w_.downNodes w_.failedLinks out2 out3 w_.now w_.dropped)
def a9k (capacity : Int) : ContentStore := bif (!(a0u capacity 0 8)) then (ContentStore.mk 0 ([])) else (ContentStore.mk capacity ([]))
def a80 (cap : Int) : ContentStore := bif (!(a0j cap 0 8)) then (ContentStore.mk 0 ([])) else (ContentStore.mk cap ([]))
def a81 (capacity : Int) : NodeP := (NodeP.mk ([]) (a9k capacity) ([]) ([]) ([]) ([]) 0)
def a49 (cap : Int) : NodeP := (NodeP.mk ([]) (a80 cap) ([]) ([]) ([]) ([]) 0)
def a9l : List Consumer → (List Consumer) → (List Consumer) | [], out3 => ((out3) : List Consumer) | e3 :: rest_, out3 => a9l rest_ (((out3 ++ [(a9s e3)])) : List Consumer)
def a9m : List PacketInFlight → (List PacketInFlight) → (List PacketInFlight) | [], out2 => ((out2) : List PacketInFlight) | e2 :: rest_, out2 => a9m rest_ (((out2 ++ [(abc e2)])) : List PacketInFlight)
def a4a : List NodeP → (List NodeP) → (List NodeP) | [], out => ((out) : List NodeP) | e1 :: rest_, out => a4a rest_ (((out ++ [(a9d e1)])) : List NodeP)
def a0c (w_ : Network) : Network := match a4a w_.nodes ([] : List NodeP) with | out => match a9m w_.inFlight ([] : List PacketInFlight) with | out2 => match a9l w_.consumers ([] : List Consumer) with | out3 => (Network.mk w_.topology (a2c w_.trust) (a4x w_.producers) out w_.downNodes w_.failedLinks out2 out3 w_.now w_.dropped)
theorem at5 : ∀ (l o : List Route), a7x l o = o ++ l
 | [], o => by simp [a7x]
 | e :: l, o => by
  simp only [a7x]
  rw [at5 l]
  simp [a0f]
theorem aj6 (l : List Route) : a10 l = l := by simp [a10, at5]
theorem asv : ∀ (l o : List Route), a7y l o = o ++ l
 | [], o => by simp [a7y]
 | e :: l, o => by
  simp only [a7y]
  rw [asv l]
  simp [a0g]
theorem akb (l : List Route) : a11 l = l := by simp [a11, asv]
theorem ay4 : ∀ (l o : List NodeP), (a4a l o).length = o.length + l.length
 | [], o => by simp [a4a]
 | e :: l, o => by
  simp only [a4a]
  rw [ay4 l]
  simp only [List.length_append, List.length_cons, List.length_nil]; omega
theorem l32n (w : Network) : (a0c w).nodes.length = w.nodes.length := by
 show (a4a w.nodes []).length = _
 rw [ay4]; simp
end Go.Stp
