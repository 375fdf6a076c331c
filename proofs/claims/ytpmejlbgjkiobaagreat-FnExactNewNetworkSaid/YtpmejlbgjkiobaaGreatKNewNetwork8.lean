/-
  What the proof of one law needs: rules of the program logic, functions as Lean functions, contracts. No condition but what each says. Written by a program (pack.py) out of my own texts.
-/
import Derived.Test.YtpmejlbgjkiobaaGreatKNewNetwork7
open Go.IntKind (i64)
set_option linter.unusedVariables false
set_option linter.unusedSimpArgs false
namespace Go.Proofs.YtpmejlbgjkiobaaGreat
open Go.Stp
open Go.Stp.GoT (ok)
variable {w : World} (n : Nat) {K0 K1 : Option Addr} {M0 M1 : Nat}
theorem f163 (hn : n + 1 ≤ 9) {l : List Route} (N0 : Rd w K0 M0 l) (r : Route) (N1 : Rd w K1 M1 r.pfx.parts) (a1 : ok n l) (a0 : ok n r) :
 DP 163 #[vS K0 l M0, an6 r K1 M1] w (pSB w n (a1o l r)) := by
 have hb := bS1 hn
 refine EN Tryz.func163 Z (aS2 N0 N1) ?_
 refine KF Z 2 Z Z Z Z Z O Z (fun w γ => f152 n τ0 (γ.q 0 Z) a1) ?_
 rintro ⟨p1, c1⟩ a2
 have q1 := congrArg List.length (aj6 l)
 refine KV Z Z Z Z Z Z O Z (fun w γ => f162 n τ0 (γ.q 0 Z) r.pfx (γ.q 1 Z) a1 ((adn a0).1) ((adn a0).2.1)) fun af => ?_
 have q2 := aut l r.pfx r.face
 refine yKD 17 ?_ ?_ <;> intro h1 av
 have r1 := (okl a1).1
 have r2 := i8 ((adn a0).2.1)
 have r3 := i8 af
 refine R0 ?_
 refine SI 19 ?_
 refine zN (kk := 3) 501 3 4 fun ap am => ?_
 have a5 : ((a0r l r.pfx r.face)).toNat < ((a10 l)).length := τ3
 refine zR 501 (((a0r l r.pfx r.face)).toNat) a5 ?_
 rintro ae rfl
 have a7 : ((a0r l r.pfx r.face)).toNat < ((a10 l)).length := τ3
 obtain ⟨e1, a3⟩ := gE a7
 have a4 := okE a2 a3
 refine R0 ?_
 refine zO (α := Route) (e := e1) 501 4 5 (((a0r l r.pfx r.face)).toNat) a3 ?_
 rintro A1 B1 ⟨⟨p2, c2⟩, ⟨⟩, ⟨⟩⟩ ad ar
 refine zS 501 ad a5 ?_
 refine R0 ?_
 refine WX.turn [6, 7, 8] 9 Z (fun h hs => aej (α := Route) (e := (Route.mk e1.pfx e1.face r.cost)) (x := ((p2, c2), (), ())) a7 hs) Z ?_
 refine zE 501 9 10 (hn := (show ((a10 l)).length = (((a10 l).set (((a0r l r.pfx r.face)).toNat) (Route.mk e1.pfx e1.face r.cost))).length from by first | (simp; done) | (simp; omega))) ?_
 refine SL 35 (((a10 l).set (((a0r l r.pfx r.face)).toNat) (Route.mk e1.pfx e1.face r.cost))).length (e := by first | (simp; done) | (simp; omega)) ?_
 refine SL 18 (((a10 l).set (((a0r l r.pfx r.face)).toNat) (Route.mk e1.pfx e1.face r.cost))).length (e := by first | (simp; done) | (simp; omega)) ?_
 refine SL 6 (((a10 l).set (((a0r l r.pfx r.face)).toNat) (Route.mk e1.pfx e1.face r.cost))).length (e := by first | (simp; done) | (simp; omega)) ?_
 refine SL 9 (((a10 l).set (((a0r l r.pfx r.face)).toNat) (Route.mk e1.pfx e1.face r.cost))).length (e := by first | (simp; done) | (simp; omega)) ?_
 have r4 := i8 ((adn a0).2.2)
 have r5 := (okl a2).1
 have r6 := i8 ((adn a4).2.1)
 refine CV Z Z Z Z Z O Z (fun w γ => f273 n τ0 (γ.q 10 Z) (ada τ6 (aef (okl a2).2 (show ok n ((Route.mk e1.pfx e1.face r.cost) : Route) from (An (adn a4).1 (An (adn a4).2.1 (adn a0).2.2)))) : ok n (((a10 l).set (((a0r l r.pfx r.face)).toNat) (Route.mk e1.pfx e1.face r.cost)) : List Route))) fun aq => ?_
 refine yKN 37 ?_ ?_ <;> intro h2 an
 refine KF Z 12 Z Z Z Z Z O Z (fun w γ => f152 n τ0 (γ.q 0 Z) a1) ?_
 rintro ⟨p3, c3⟩ al
 have q3 := congrArg List.length (aj6 l)
 have a6 : a1o l r = (a10 l, false) := by simp only [a1o, h1, a3, h2, cT, cF]
 refine R0 ?_
 rw [a6]
 exact zX [13] (p3, c3) (by have z_ := (show ok n (a1o l r).1 from akm a1 a0); rw [a6] at z_; exact GoT.okm τ0 z_)
 have aa : a1o l r = ((a10 l).set (((a0r l r.pfx r.face)).toNat) (Route.mk e1.pfx e1.face r.cost), true) := by simp only [a1o, h1, a3, h2, cT, cF]
 refine R0 ?_
 rw [aa]
 exact zX [11] ((some ae), c1) (by have z_ := (show ok n (a1o l r).1 from akm a1 a0); rw [aa] at z_; exact GoT.okm τ0 z_)
 refine R0 ?_
 refine WX.draw [10, 11] mixed fun bs G0 ah => ?_
 refine dT 5 [1, 3, 4, 9, 10, 13, 14] ?_
 refine DXF 3 14 Z J Z Z Z Z Z Z O Z (fun w γ => f56 n τ0 r.pfx (γ.q 1 Z) ((adn a0).1)) ?_
 rintro ⟨p4, c4⟩ ac
 refine dT 3 [17] ?_
 refine DX.tail2 [9, 10, 11] Z Z J ?_
 refine zB fun p5 => ?_
 refine zN (kk := 3) 502 3 16 fun au aj => ?_
 refine zT (α := Route) [15] 17 (Route.mk (a0f r.pfx) r.face r.cost) ((p4, c4), (), ()) fun _ => ?_
 have r7 := (okl a1).1
 have r8 := i8 ((adn a0).2.1)
 have r9 := i8 ((adn a0).2.2)
 have ag := (okl a2).1
 refine WX.know (fun G hΓ => (hΓ.get 17 Z : OwL _ _ _).rd.one) fun ab => ?_
 refine zP 502 33 (((a10 l) ++ [(Route.mk (a0f r.pfx) r.face r.cost)]) : List Route).length ab fun p6 c5 => ?_
 refine zV [16, 17] 18 ?_
 refine yE 502 18 19 ?_
 refine CV Z Z Z Z Z O Z (fun w γ => f273 (n + 1) τ0 (γ.q 19 Z) (ada τ6 (fun a ha => GoT.okm (show n ≤ (n + 1) by omega) ((aeb (okl a2).2 (all_cons (α := Route) (An ac (An (adn a0).2.1 (adn a0).2.2)) nA)) a ha)) : ok (n + 1) (((a10 l) ++ [(Route.mk (a0f r.pfx) r.face r.cost)]) : List Route))) fun ao => ?_
 refine yKN 37 ?_ ?_ <;> intro h3 ai
 refine KF Z 21 Z Z Z Z Z O Z (fun w γ => f152 n τ0 (γ.q 0 Z) a1) ?_
 rintro ⟨p7, c6⟩ ak
 have q4 := congrArg List.length (aj6 l)
 have a8 : a1o l r = (a10 l, false) := by simp only [a1o, h1, h3, cT, cF]
 refine R0 ?_
 rw [a8]
 exact zX [22] (p7, c6) (by have z_ := (show ok n (a1o l r).1 from akm a1 a0); rw [a8] at z_; exact GoT.okm τ0 z_)
 have a9 : a1o l r = ((a10 l) ++ [(Route.mk (a0f r.pfx) r.face r.cost)], true) := by simp only [a1o, h1, h3, cT, cF]
 refine R0 ?_
 rw [a9]
 exact zX [20] (p6, c5) (by have z_ := (show ok n (a1o l r).1 from akm a1 a0); rw [a9] at z_; exact GoT.okm τ0 z_)
theorem f264 (hn : n + 1 ≤ 9) {l : List Route} (N0 : Rd w K0 M0 l) (r : Route) (N1 : Rd w K1 M1 r.pfx.parts) (a1 : ok n l) (a0 : ok n r) :
 DP 264 #[vS K0 l M0, an6 r K1 M1] w (pSB w n (a1t l r)) := by
 have hb := bS1 hn
 refine EN Tryz.func264 Z (aS2 N0 N1) ?_
 refine KF Z 2 Z Z Z Z Z O Z (fun w γ => f251 n τ0 (γ.q 0 Z) a1) ?_
 rintro ⟨p1, c1⟩ a2
 have q1 := congrArg List.length (akb l)
 refine KV Z Z Z Z Z Z O Z (fun w γ => f263 n τ0 (γ.q 0 Z) r.pfx (γ.q 1 Z) a1 ((adn a0).1) ((adn a0).2.1)) fun af => ?_
 have q2 := aus l r.pfx r.face
 refine yKD 18 ?_ ?_ <;> intro h1 au
 have r1 := (okl a1).1
 have r2 := i8 ((adn a0).2.1)
 have r3 := i8 af
 refine R0 ?_
 refine SI 20 ?_
 refine zN (kk := 3) 501 3 4 fun ao al => ?_
 have a5 : ((a0p l r.pfx r.face)).toNat < ((a11 l)).length := τ3
 refine zR 501 (((a0p l r.pfx r.face)).toNat) a5 ?_
 rintro ae rfl
 have a7 : ((a0p l r.pfx r.face)).toNat < ((a11 l)).length := τ3
 obtain ⟨e1, a3⟩ := gE a7
 have a4 := okE a2 a3
 refine R0 ?_
 refine zO (α := Route) (e := e1) 501 4 5 (((a0p l r.pfx r.face)).toNat) a3 ?_
 rintro A1 B1 ⟨⟨p2, c2⟩, ⟨⟩, ⟨⟩⟩ ad aq
 refine zS 501 ad a5 ?_
 refine R0 ?_
 refine WX.turn [6, 7, 8] 9 Z (fun h hs => aej (α := Route) (e := (Route.mk e1.pfx e1.face r.cost)) (x := ((p2, c2), (), ())) a7 hs) Z ?_
 refine zE 501 9 10 (hn := (show ((a11 l)).length = (((a11 l).set (((a0p l r.pfx r.face)).toNat) (Route.mk e1.pfx e1.face r.cost))).length from by first | (simp; done) | (simp; omega))) ?_
 refine SL 37 (((a11 l).set (((a0p l r.pfx r.face)).toNat) (Route.mk e1.pfx e1.face r.cost))).length (e := by first | (simp; done) | (simp; omega)) ?_
 refine SL 19 (((a11 l).set (((a0p l r.pfx r.face)).toNat) (Route.mk e1.pfx e1.face r.cost))).length (e := by first | (simp; done) | (simp; omega)) ?_
 refine SL 6 (((a11 l).set (((a0p l r.pfx r.face)).toNat) (Route.mk e1.pfx e1.face r.cost))).length (e := by first | (simp; done) | (simp; omega)) ?_
 refine SL 10 (((a11 l).set (((a0p l r.pfx r.face)).toNat) (Route.mk e1.pfx e1.face r.cost))).length (e := by first | (simp; done) | (simp; omega)) ?_
 have r4 := i8 ((adn a0).2.2)
 have r5 := (okl a2).1
 have r6 := i8 ((adn a4).2.1)
 refine CV Z Z Z Z Z O Z (fun w γ => f348 n τ0 (γ.q 10 Z) (ada τ6 (aef (okl a2).2 (show ok n ((Route.mk e1.pfx e1.face r.cost) : Route) from (An (adn a4).1 (An (adn a4).2.1 (adn a0).2.2)))) : ok n (((a11 l).set (((a0p l r.pfx r.face)).toNat) (Route.mk e1.pfx e1.face r.cost)) : List Route))) fun ap => ?_
 refine yKN 39 ?_ ?_ <;> intro h2 am
 refine KF Z 12 Z Z Z Z Z O Z (fun w γ => f251 n τ0 (γ.q 0 Z) a1) ?_
 rintro ⟨p3, c3⟩ ak
 have q3 := congrArg List.length (akb l)
 have a6 : a1t l r = (a11 l, false) := by simp only [a1t, h1, a3, h2, cT, cF]
 refine R0 ?_
 rw [a6]
 exact zX [13] (p3, c3) (by have z_ := (show ok n (a1t l r).1 from al3 a1 a0); rw [a6] at z_; exact GoT.okm τ0 z_)
 have aa : a1t l r = ((a11 l).set (((a0p l r.pfx r.face)).toNat) (Route.mk e1.pfx e1.face r.cost), true) := by simp only [a1t, h1, a3, h2, cT, cF]
 refine R0 ?_
 rw [aa]
 exact zX [11] ((some ae), c1) (by have z_ := (show ok n (a1t l r).1 from al3 a1 a0); rw [aa] at z_; exact GoT.okm τ0 z_)
 refine KF Z 14 Z Z Z Z Z O Z (fun w γ => f246 n τ0 r.pfx (γ.q 1 Z) ((adn a0).1)) ?_
 rintro ⟨p4, c4⟩ ac
 refine yB fun p5 => ?_
 refine zN (kk := 3) 502 3 16 fun ar ai => ?_
 refine zT (α := Route) [15] 17 (Route.mk (a0g r.pfx) r.face r.cost) ((p4, c4), (), ()) fun _ => ?_
 have r7 := (okl a1).1
 have r8 := i8 ((adn a0).2.1)
 have r9 := i8 ((adn a0).2.2)
 have ag := (okl a2).1
 refine WX.know (fun G hΓ => (hΓ.get 17 Z : OwL _ _ _).rd.one) fun ab => ?_
 refine zP 502 35 (((a11 l) ++ [(Route.mk (a0g r.pfx) r.face r.cost)]) : List Route).length ab fun p6 c5 => ?_
 refine zV [16, 17] 18 ?_
 refine yE 502 18 19 ?_
 refine CV Z Z Z Z Z O Z (fun w γ => f348 (n + 1) τ0 (γ.q 19 Z) (ada τ6 (fun a ha => GoT.okm (show n ≤ (n + 1) by omega) ((aeb (okl a2).2 (all_cons (α := Route) (An ac (An (adn a0).2.1 (adn a0).2.2)) nA)) a ha)) : ok (n + 1) (((a11 l) ++ [(Route.mk (a0g r.pfx) r.face r.cost)]) : List Route))) fun an => ?_
 refine yKN 39 ?_ ?_ <;> intro h3 ah
 refine KF Z 21 Z Z Z Z Z O Z (fun w γ => f251 n τ0 (γ.q 0 Z) a1) ?_
 rintro ⟨p7, c6⟩ aj
 have q4 := congrArg List.length (akb l)
 have a8 : a1t l r = (a11 l, false) := by simp only [a1t, h1, h3, cT, cF]
 refine R0 ?_
 rw [a8]
 exact zX [22] (p7, c6) (by have z_ := (show ok n (a1t l r).1 from al3 a1 a0); rw [a8] at z_; exact GoT.okm τ0 z_)
 have a9 : a1t l r = ((a11 l) ++ [(Route.mk (a0g r.pfx) r.face r.cost)], true) := by simp only [a1t, h1, h3, cT, cF]
 refine R0 ?_
 rw [a9]
 exact zX [20] (p6, c5) (by have z_ := (show ok n (a1t l r).1 from al3 a1 a0); rw [a9] at z_; exact GoT.okm τ0 z_)
theorem f161 (hn : n + 0 ≤ 9) (n_ : Topology) (N0 : Rd w K0 M0 n_.links) {a : Int} {b : Int} (a0 : ok n n_) (a1 : ok n a) (a2 : ok n b) :
 DP 161 #[aeq n_ K0 M0, vI a, vI b] w (pI n (a22 n_ a b)) := by
 have hb := bS0 hn
 refine EN Tryz.func161 Z (aS1 N0) ?_
 refine KF Z 1 Z Z Z Z Z O Z (fun w γ => f55 n τ0 n_ (γ.q 0 Z) a0 a1) ?_
 rintro ⟨p1, c1⟩ a3
 refine KV Z Z Z Z Z Z O Z (fun w γ => f164 n τ0 (γ.q 1 Z) a3 a2) fun a4 => ?_
 refine SW0 ?_
 rw [show a22 n_ a b = (i64.wrap ((aet (a4t n_ a) b) + 1)) by simp only [a22, cT, cF]]
 exact R6r Z Z (ad3 _)
theorem f262 (hn : n + 0 ≤ 9) (n_ : Topology) (N0 : Rd w K0 M0 n_.links) {a : Int} {b : Int} (a0 : ok n n_) (a1 : ok n a) (a7 : ok n b) :
 DP 262 #[aeq n_ K0 M0, vI a, vI b] w (pI n (a15 n_ a b)) := by
 have hb := bS0 hn
 refine EN Tryz.func262 Z (aS1 N0) ?_
 refine KF Z 1 Z Z Z Z Z O Z (fun w γ => f255 n τ0 n_ (γ.q 0 Z) a0 a1) ?_
 rintro ⟨p1, c1⟩ a3
 have r1 := i8 a1
 have r2 := (okl a3).1
 refine LM Z 0 (fun i => ((i ≤ ((a19 n_ a)).length) ∧ (a6r b (a19 n_ a) 0 = a6r b (((a19 n_ a)).drop i) i), ((a19 n_ a)).length - i, [(8, .v (vI i))], [], [], [])) ⟨zl, Z⟩ [7, 2] [] [0, 2] [0, 2] ?_
 rintro i ⟨v1, v2⟩
 refine yKD 15 ?_ ?_ <;> intro h1 ab
 have a4 : i < ((a19 n_ a)).length := τ0
 obtain ⟨e1, a2⟩ := gE a4
 have a9 := okE a3 a2
 refine zW 3 2 ?_
 refine yI 3 i a4 ?_
 rintro a8 rfl
 refine zL 3 4 e1 a2 ?_
 rintro ⟨⟩
 refine yKE 23 ?_ ?_ <;> intro h2 aa
 refine SA ?_
 have a6 := v2.trans (show _ = (some (((i : Nat) : Int) + 1)) by rw [acx a2]; simp only [a6r, h2, cT, cF])
 rw [show a15 n_ a b = (((i : Nat) : Int) + 1) by simp only [a15, a6, cT, cF]]
 exact R6r Z Z (i6 (((i : Nat) : Int) + 1))
 refine SA ?_
 exact ITr Z (i + 1) ⟨τ0, (by rw [v2, acx a2]; simp only [a6r, h2, cT, cF])⟩ τ1 [0, 2]
 have a5 := v2.trans (show _ = none by rw [dn (show ((a19 n_ a)).length ≤ i by omega)]; simp only [a6r, cT, cF])
 rw [show a15 n_ a b = 0 by simp only [a15, a5, cT, cF]]
 exact R6r Z Z (i6 0)
theorem f60 (hn : n + 1 ≤ 9) (n_ : Topology) (N0 : Rd w K0 M0 n_.links) {l : List Advertisement} (N1 : Rd w K1 M1 l) {a : Int} (ac : ok n n_) (a9 : ok n l) (aa : ok n a) :
 DP 60 #[aeq n_ K0 M0, vS K1 l M1, vI a] w (pS w n (a2k n_ l a)) := by
 have hb := bS1 hn
 refine EN Tryz.func60 Z (aS2 N0 N1) ?_
 refine yB fun p1 => ?_
 refine KF Z 2 Z Z Z Z Z O Z (fun w γ => f16 n τ0 (γ.q 1 Z) a9 aa) ?_
 rintro ⟨p2, c1⟩ aq
 refine F0 4 Route ?_
 refine yE 17 4 5 ?_
 have r1 := (okl a9).1
 have r2 := i8 aa
 have r3 := (okl aq).1
 refine WX.loop (ι := (Option Addr) × Nat × (List Route) × Nat) ⟨fun | (a7, a6, a8, i) => (i ≤ ((a17 l a)).length) ∧ (a8.length ≤ bd n ∧ ∀ z_ ∈ a8, ok n z_) ∧ (a2y n_ l a (a17 l a) ([] : List Route) = a2y n_ l a (((a17 l a)).drop i) a8), fun | (a7, a6, a8, i) => ((a17 l a)).length - i, fun | (a7, a6, a8, i) => [(7, .v (.slice a7 (a8.length) a6)), (22, .v (.int .i64 (((i : Nat) : Int)))), (21, .v (.int .i64 (((((a17 l a)).length : Nat) : Int)))), (20, .v (.slice p2 (((a17 l a)).length) c1)), (3, .p 3 0), (1, .v (.slice K1 (l.length) M1)), (2, .v (.int .i64 a))], fun | (a7, a6, a8, i) => [(3, ⟨26, [.int .i64 (n_.size), .slice K0 (n_.links.length) M0]⟩)], fun | (a7, a6, a8, i) => [], fun | (a7, a6, a8, i) => [(0, MF.rs .stb K0 M0 n_.links), (1, MF.rs .stb K1 M1 l), (3, MF.os p2 c1 (a17 l a)), (6, MF.os a7 a6 a8)]⟩ (p1, 0, ([] : List Route), 0) ⟨zl, (ada zl nA : ok n ([] : List Route)), Z⟩
   (.cons Z (.cons Z (.cons Z (.cons Z (.cons Z (.cons Z (.cons Z (.nil)))))))) (.cons Z (.nil)) .nil [0, 1, 3, 6] Z ?_
 rintro ⟨a7, a6, a8, i⟩ ⟨v1, v2, v3⟩
 have b7 := v2.1
 refine yKD 23 ?_ ?_ <;> intro h1 bf
 have ax : i < ((a17 l a)).length := τ0
 obtain ⟨e1, ad⟩ := gE ax
 have ai := okE aq ad
 have bj := avc ad
 refine zW 7 3 ?_
 refine yI 7 i ax ?_
 rintro af rfl
 refine zL 7 8 e1 ad ?_
 rintro ⟨⟩
 refine yKE 28 ?_ ?_ <;> intro h2 be
 refine SA ?_
 refine R0 ?_
 exact WX.iter (a7, a6, a8, i + 1) ⟨τ0, (afj v2), (by rw [v3, acx ad]; simp only [a2y, h2, cT, cF])⟩ τ1 (.cons Z (.cons Z (.cons Z (.cons Z (.cons Z (.cons Z (.cons Z (.nil)))))))) (.cons Z (.nil)) .nil [0, 1, 3, 6] Z
 refine KV Z Z Z Z Z Z O Z (fun w γ => f17 n τ0 (γ.q 1 Z) a9 aa ai) fun ar => ?_
 refine KV Z Z Z Z Z Z O Z (fun w γ => f159 n τ0 (γ.q 1 Z) a9 ai) fun az => ?_
 have q1 := arh l e1
 have r4 := i8 ai
 have r5 := i8 az
 refine SI 36 ?_
 have av : ((a0t l e1)).toNat < l.length := τ3
 obtain ⟨e2, aj⟩ := gE av
 have aw := okE a9 aj
 refine zI 1 (((a0t l e1)).toNat) av ?_
 rintro ag rfl
 refine yL 1 8 e2 aj ?_
 rintro ⟨⟨⟩, ⟨⟩, ⟨p3, c2⟩, ⟨p4, c3⟩⟩
 have r6 := (okl (afd aw).2.2.2).1
 refine R0 ?_
 refine WX.loop (ι := (Option Addr) × Nat × (List Route) × Nat) ⟨fun | (a2, a4, a5, i2) => (i2 ≤ e2.prefixes.length) ∧ (a5.length ≤ bd n ∧ ∀ z_ ∈ a5, ok n z_) ∧ (a4y n_ l a e1 e2.prefixes (a8 : List Route) = a4y n_ l a e1 (e2.prefixes.drop i2) a5), fun | (a2, a4, a5, i2) => e2.prefixes.length - i2, fun | (a2, a4, a5, i2) => [(7, .v (.slice a2 (a5.length) a4)), (41, .v (.int .i64 (((i2 : Nat) : Int)))), (40, .v (.int .i64 (((e2.prefixes.length : Nat) : Int)))), (39, .v (.slice p4 (e2.prefixes.length) c3)), (10, .v (.int .i64 ((a1s l a e1)))), (9, .v (.int .i64 e1)), (22, .v (.int .i64 (((i : Nat) : Int)))), (21, .v (.int .i64 (((((a17 l a)).length : Nat) : Int)))), (20, .v (.slice (some af) (((a17 l a)).length) c1)), (3, .p 3 0), (1, .v (.slice (some ag) (l.length) M1)), (2, .v (.int .i64 a))], fun | (a2, a4, a5, i2) => [(3, ⟨26, [.int .i64 (n_.size), .slice K0 (n_.links.length) M0]⟩)], fun | (a2, a4, a5, i2) => [], fun | (a2, a4, a5, i2) => [(0, MF.rs .stb K0 M0 n_.links), (1, MF.rs .stb (some ag) M1 l), (3, MF.os (some af) c1 (a17 l a)), (6, MF.os a2 a4 a5), (8, MF.rs .stb p3 c2 e2.neighbors), (9, MF.rs .stb p4 c3 e2.prefixes)]⟩ (a7, a6, (a8 : List Route), 0) ⟨zl, (afj v2), Z⟩
   (.cons Z (.cons Z (.cons Z (.cons Z (.cons Z (.cons Z (.cons Z (.cons Z (.cons Z (.cons Z (.cons Z (.cons Z (.nil))))))))))))) (.cons Z (.nil)) .nil [0, 1, 3, 6, 8, 9] Z ?_
 rintro ⟨a2, a4, a5, i2⟩ ⟨v4, v5, v6⟩
 have bb := v5.1
 refine yKD 42 ?_ ?_ <;> intro h3 b9
 have an : i2 < e2.prefixes.length := τ0
 obtain ⟨e3, ak⟩ := gE an
 have al := okE (afd aw).2.2.2 ak
 refine yI 9 i2 an ?_
 rintro au rfl
 refine zL 9 10 e3 ak ?_
 rintro ⟨p5, c4⟩
 refine KF Z 11 Z Z Z Z Z O Z (fun w γ => f160 n τ0 (γ.q 1 Z) a9 aa ai) ?_
 rintro ⟨p6, c5⟩ ap
 have r7 := (okl ap).1
 refine R0 ?_
 refine WX.loop (ι := (Option Addr) × Nat × (List Route) × Nat) ⟨fun | (a3, a1, a0, i3) => (i3 ≤ ((a3i l a e1)).length) ∧ (a0.length ≤ bd n ∧ ∀ z_ ∈ a0, ok n z_) ∧ (a2f n_ l a e1 e3 (a3i l a e1) (a5 : List Route) = a2f n_ l a e1 e3 (((a3i l a e1)).drop i3) a0), fun | (a3, a1, a0, i3) => ((a3i l a e1)).length - i3, fun | (a3, a1, a0, i3) => [(7, .v (.slice a3 (a0.length) a1)), (50, .v (.int .i64 (((i3 : Nat) : Int)))), (49, .v (.int .i64 (((((a3i l a e1)).length : Nat) : Int)))), (48, .v (.slice p6 (((a3i l a e1)).length) c5)), (12, .p 12 0), (41, .v (.int .i64 (((i2 : Nat) : Int)))), (40, .v (.int .i64 (((e2.prefixes.length : Nat) : Int)))), (39, .v (.slice (some au) (e2.prefixes.length) c3)), (10, .v (.int .i64 ((a1s l a e1)))), (9, .v (.int .i64 e1)), (22, .v (.int .i64 (((i : Nat) : Int)))), (21, .v (.int .i64 (((((a17 l a)).length : Nat) : Int)))), (20, .v (.slice (some af) (((a17 l a)).length) c1)), (3, .p 3 0), (1, .v (.slice (some ag) (l.length) M1)), (2, .v (.int .i64 a))], fun | (a3, a1, a0, i3) => [(12, ⟨49, [.slice p5 (e3.parts.length) c4]⟩), (3, ⟨26, [.int .i64 (n_.size), .slice K0 (n_.links.length) M0]⟩)], fun | (a3, a1, a0, i3) => [], fun | (a3, a1, a0, i3) => [(0, MF.rs .stb K0 M0 n_.links), (1, MF.rs .stb (some ag) M1 l), (3, MF.os (some af) c1 (a17 l a)), (6, MF.os a3 a1 a0), (8, MF.rs .stb p3 c2 e2.neighbors), (9, MF.rs .stb (some au) c3 e2.prefixes), (10, MF.rs .stb p5 c4 e3.parts), (12, MF.os p6 c5 (a3i l a e1))]⟩ (a2, a4, (a5 : List Route), 0) ⟨zl, (afj v5), Z⟩
   (.cons Z (.cons Z (.cons Z (.cons Z (.cons Z (.cons Z (.cons Z (.cons Z (.cons Z (.cons Z (.cons Z (.cons Z (.cons Z (.cons Z (.cons Z (.cons Z (.nil))))))))))))))))) (.cons Z (.cons Z (.nil))) .nil [0, 1, 3, 6, 8, 9, 10, 12] Z ?_
 rintro ⟨a3, a1, a0, i3⟩ ⟨v7, v8, v9⟩
 have bh := v8.1
 refine yKD 51 ?_ ?_ <;> intro h4 ba
 have ay : i3 < ((a3i l a e1)).length := τ0
 obtain ⟨e4, ab⟩ := gE ay
 have am := okE ap ab
 refine zW 13 12 ?_
 refine yI 13 i3 ay ?_
 rintro bl rfl
 refine zL 13 14 e4 ab ?_
 rintro ⟨⟩
 refine KV Z Z Z Z Z Z O Z (fun w γ => f161 n τ0 n_ (γ.q 0 Z) ac aa am) fun ae => ?_
 refine zW 14 6 ?_
 refine KV Z Z Z Z Z Z O Z (fun w γ => f162 n τ0 (γ.q 14 Z) e3 (γ.q 10 Z) (afj v8) al ae) fun b5 => ?_
 have q2 := aut a0 e3 (a22 n_ a e4)
 refine yKM 64 ?_ ?_ <;> intro h5 bc
 refine yKD 67 ?_ ?_ <;> intro h6 bk
 refine KF Z 15 Z Z Z Z Z O Z (fun w γ => f163 n τ0 (γ.q 14 Z) (Route.mk e3 (a22 n_ a e4) (a1s l a e1)) (γ.q 10 Z) (afj v8) (An al (An ae ar))) ?_
 rintro ⟨p7, c6⟩ b4
 refine SA ?_
 refine zU [16] 6 ?_
 refine R0 ?_
 exact WX.iter (p7, c6, (a1o a0 (Route.mk e3 (a22 n_ a e4) (a1s l a e1))).1, i3 + 1) ⟨τ0, b4, (by rw [v9, acx ab]; simp only [a2f, h5, h6, cT, cF])⟩ τ1 (.cons Z (.cons Z (.cons Z (.cons Z (.cons Z (.cons Z (.cons Z (.cons Z (.cons Z (.cons Z (.cons Z (.cons Z (.cons Z (.cons Z (.cons Z (.cons Z (.nil))))))))))))))))) (.cons Z (.cons Z (.nil))) .nil [0, 1, 3, 6, 8, 9, 10, 12] Z
 have r8 := i8 am
 have r9 := i8 ae
 have b8 := i8 b5
 refine R0 ?_
 refine SI 69 ?_
 have ao : ((a0r a0 e3 (a22 n_ a e4))).toNat < a0.length := τ3
 obtain ⟨e5, ah⟩ := gE ao
 have bg : ok n e5 := v8.2 _ (List.mem_of_getElem? ah)
 refine zI 14 (((a0r a0 e3 (a22 n_ a e4))).toNat) ao ?_
 rintro b6 rfl
 refine yL 14 17 e5 ah ?_
 rintro ⟨⟨p8, c7⟩, ⟨⟩, ⟨⟩⟩
 refine yKD 76 ?_ ?_ <;> intro h7 bi
 refine KF Z 18 Z Z Z Z Z O Z (fun w γ => f163 n τ0 (γ.q 14 Z) (Route.mk e3 (a22 n_ a e4) (a1s l a e1)) (γ.q 10 Z) (afj v8) (An al (An ae ar))) ?_
 rintro ⟨p9, c8⟩ b0
 refine SA ?_
 refine zU [19] 6 ?_
 refine R0 ?_
 exact WX.iter (p9, c8, (a1o a0 (Route.mk e3 (a22 n_ a e4) (a1s l a e1))).1, i3 + 1) ⟨τ0, b0, (by rw [v9, acx ab]; simp only [a2f, h5, h6, ah, h7, cT, cF])⟩ τ1 (.cons Z (.cons Z (.cons Z (.cons Z (.cons Z (.cons Z (.cons Z (.cons Z (.cons Z (.cons Z (.cons Z (.cons Z (.cons Z (.cons Z (.cons Z (.cons Z (.nil))))))))))))))))) (.cons Z (.cons Z (.nil))) .nil [0, 1, 3, 6, 8, 9, 10, 12] Z
 refine SA ?_
 refine R0 ?_
 exact WX.iter ((some b6), a1, a0, i3 + 1) ⟨τ0, (afj v8), (by rw [v9, acx ab]; simp only [a2f, h5, h6, ah, h7, cT, cF])⟩ τ1 (.cons Z (.cons Z (.cons Z (.cons Z (.cons Z (.cons Z (.cons Z (.cons Z (.cons Z (.cons Z (.cons Z (.cons Z (.cons Z (.cons Z (.cons Z (.cons Z (.nil))))))))))))))))) (.cons Z (.cons Z (.nil))) .nil [0, 1, 3, 6, 8, 9, 10, 12] Z
 refine SA ?_
 refine R0 ?_
 exact WX.iter (a3, a1, a0, i3 + 1) ⟨τ0, (afj v8), (by rw [v9, acx ab]; simp only [a2f, h5, cT, cF])⟩ τ1 (.cons Z (.cons Z (.cons Z (.cons Z (.cons Z (.cons Z (.cons Z (.cons Z (.cons Z (.cons Z (.cons Z (.cons Z (.cons Z (.cons Z (.cons Z (.cons Z (.nil))))))))))))))))) (.cons Z (.cons Z (.nil))) .nil [0, 1, 3, 6, 8, 9, 10, 12] Z
 have b3 := v9.trans (show _ = (a0 : List Route) by rw [dn (show ((a3i l a e1)).length ≤ i3 by omega)]; simp only [a2f, cT, cF])
 refine SA ?_
 refine R0 ?_
 exact WX.iter (a3, a1, a0, i2 + 1) ⟨τ0, (afj v8), (by rw [v6, acx ak]; simp only [a4y, b3, cT, cF])⟩ τ1 (.cons Z (.cons Z (.cons Z (.cons Z (.cons Z (.cons Z (.cons Z (.cons Z (.cons Z (.cons Z (.cons Z (.cons Z (.nil))))))))))))) (.cons Z (.nil)) .nil [0, 1, 3, 6, 8, 9] Z
 have b1 := v6.trans (show _ = (a5 : List Route) by rw [dn (show e2.prefixes.length ≤ i2 by omega)]; simp only [a4y, cT, cF])
 refine SA ?_
 refine R0 ?_
 exact WX.iter (a2, a4, a5, i + 1) ⟨τ0, (afj v5), (by rw [v3, acx ad]; simp only [a2y, h2, aj, b1, cT, cF])⟩ τ1 (.cons Z (.cons Z (.cons Z (.cons Z (.cons Z (.cons Z (.cons Z (.nil)))))))) (.cons Z (.nil)) .nil [0, 1, 3, 6] Z
 have b2 := v3.trans (show _ = (a8 : List Route) by rw [dn (show ((a17 l a)).length ≤ i by omega)]; simp only [a2y, cT, cF])
 rw [show a2k n_ l a = a8 by simp only [a2k, b2, cT, cF]]
 exact yX [6] (a7, a6) (afj v2)
theorem f147 (hn : n + 1 ≤ 9) (n_ : Topology) (N0 : Rd w K0 M0 n_.links) {l : List Advertisement} (N1 : Rd w K1 M1 l) {a : Int} (af : ok n n_) (a6 : ok n l) (a9 : ok n a) :
 DP 147 #[aeq n_ K0 M0, vS K1 l M1, vI a] w (pS w n (a3z n_ l a)) := by
 have hb := bS1 hn
 refine EN Tryz.func147 Z (aS2 N0 N1) ?_
 refine yB fun p1 => ?_
 refine KF Z 2 Z Z Z Z Z O Z (fun w γ => f258 n τ0 (γ.q 1 Z) a6 a9) ?_
 rintro ⟨p2, c1⟩ ax
 refine F0 4 Route ?_
 refine yE 19 4 5 ?_
 have r1 := (okl a6).1
 have r2 := i8 a9
 have r3 := (okl ax).1
 refine LK (p1, 0, ([] : List Route), 0) (fun | (a8, a7, aa, i) => ((i ≤ ((a2e l a)).length) ∧ JL n aa ∧ (a6s n_ l a (a2e l a) ([] : List Route) = a6s n_ l a (((a2e l a)).drop i) aa), ((a2e l a)).length - i, [(7, .v (vS a8 aa a7)), (9, .v (vI i))], [], [], [(6, MF.os a8 a7 aa)])) ⟨zl, (ada zl nA : ok n ([] : List Route)), Z⟩ [8, 3, 1, 2] [3] [0, 1, 3] [0, 1, 3, 6] ?_
 rintro ⟨a8, a7, aa, i⟩ ⟨v1, v2, v3⟩
 have bl := v2.1
 refine yKA 26 ?_ ?_ <;> intro h1
 have b7 : (((i : Nat) : Int) < ((((a2e l a)).length : Nat) : Int)) := B.dt h1
 have ai : i < ((a2e l a)).length := τ0
 obtain ⟨e1, ad⟩ := gE ai
 have am := okE ax ad
 have ce := au1 ad
 refine zW 7 3 ?_
 refine yI 7 i ai ?_
 rintro bn rfl
 refine zL 7 8 e1 ad ?_
 rintro ⟨⟩
 refine CV Z Z Z Z Z O Z (fun w γ => f259 n τ0 (γ.q 1 Z) a6 am) fun b8 => ?_
 have q1 := aqo l e1
 refine yI 7 i ai ?_
 rintro bu ⟨⟩
 refine zL 7 8 e1 ad ?_
 rintro ⟨⟩
 refine CF 8 Z Z Z Z Z O Z (fun w γ => f260 n τ0 (γ.q 1 Z) a6 a9 am) ?_
 rintro ⟨p3, c2⟩ aw
 refine yI 7 i ai ?_
 rintro c0 ⟨⟩
 refine zL 7 10 e1 ad ?_
 rintro ⟨⟩
 refine CV Z Z Z Z Z O Z (fun w γ => f261 n τ0 (γ.q 1 Z) a6 a9 am) fun av => ?_
 refine LM Z (a8, a7, (aa : List Route), 0) (fun | (a2, a4, a1, i2) => (JL n a1 ∧ (i2 ≤ pfxL l (a0e l e1)) ∧ (pfxL l (a0e l e1) ≤ bd n) ∧ (a5k n_ l a e1 0 (aa : List Route) = a5k n_ l a e1 i2 a1), pfxL l (a0e l e1) + 1 - i2, [(7, .v (vS a2 a1 a4)), (13, .v (vI i2))], [], [], [(6, MF.os a2 a4 a1), (9, MF.os p3 c2 (a2d l a e1))])) ⟨(afj v2), zl, (ax3 a6 _), Z⟩ [12, 11, 10, 9, 8, 3, 1, 2] [3] [0, 1, 3] [0, 1, 3, 6, 9] ?_
 rintro ⟨a2, a4, a1, i2⟩ ⟨v4, v5, v6, v7⟩
 have bo := v4.1
 have r4 := i8 am
 have r5 := i8 b8
 refine R0 ?_
 refine SI 51 ?_
 have ag : ((a0e l e1)).toNat < l.length := τ3
 obtain ⟨e2, ab⟩ := gE ag
 have bb := okE a6 ab
 refine zI 1 (((a0e l e1)).toNat) ag ?_
 rintro cl rfl
 refine yL 1 10 e2 ab ?_
 rintro ⟨⟨⟩, ⟨⟩, ⟨p4, c3⟩, ⟨p5, c4⟩⟩
 refine yKA 57 ?_ ?_ <;> intro h2
 have al : (((i2 : Nat) : Int) < ((e2.prefixes.length : Nat) : Int)) := B.dt h2
 refine zW 12 3 ?_
 refine yI 12 i ai ?_
 rintro ck ⟨⟩
 refine zL 12 13 e1 ad ?_
 rintro ⟨⟩
 refine yKM 64 ?_ ?_ <;> intro h3 bp
 have r6 := (okl aw).1
 refine LM Z (a2, a4, (a1 : List Route), 0) (fun | (a5, a3, a0, i3) => ((i3 ≤ ((a2d l a e1)).length) ∧ JL n a0 ∧ (a3j n_ l a e1 e2 i2 (a2d l a e1) (a1 : List Route) = a3j n_ l a e1 e2 i2 (((a2d l a e1)).drop i3) a0), ((a2d l a e1)).length - i3, [(7, .v (vS a5 a0 a3)), (14, .v (vI i3))], [], [], [(6, MF.os a5 a3 a0), (9, MF.os p3 c2 (a2d l a e1)), (10, MF.rs .stb p4 c3 e2.neighbors), (11, MF.rs .stb p5 c4 e2.prefixes)])) ⟨zl, (afj v4), Z⟩ [63, 62, 61, 60, 59, 58, 13, 12, 11, 10, 9, 8, 3, 1, 2] [3] [0, 1, 3] [0, 1, 3, 6, 9, 10, 11] ?_
 rintro ⟨a5, a3, a0, i3⟩ ⟨v8, v9, ah⟩
 have bt := v9.1
 refine yKA 70 ?_ ?_ <;> intro h4
 have b2 : (((i3 : Nat) : Int) < ((((a2d l a e1)).length : Nat) : Int)) := B.dt h4
 have ar : i3 < ((a2d l a e1)).length := τ0
 obtain ⟨e3, ae⟩ := gE ar
 have aq := okE aw ae
 refine zW 13 9 ?_
 refine R0 ?_
 refine WX.draw [] mixed fun bs G0 ay => ?_
 refine dT 4 [0, 3, 5, 7] ?_
 refine zDI 4 13 i3 ay Z ar ?_
 rintro bx rfl
 refine zDL 5 13 14 e3 ay ae ?_
 rintro ⟨⟩
 refine DXV 6 Z J Z Z Z Z Z Z O Z (fun w γ => f262 n τ0 n_ (γ.q 0 Z) af a9 aq) fun aj => ?_
 refine dT 0 [15] ?_
 refine DX.tail2 [] Z Z J ?_
 refine R0 ?_
 refine SI 82 ?_
 refine zI 1 (((a0e l e1)).toNat) ag ?_
 rintro cf ⟨⟩
 refine yL 1 14 e2 ab ?_
 rintro ⟨⟨⟩, ⟨⟩, ⟨p6, c5⟩, ⟨p7, c6⟩⟩
 have an : i2 < e2.prefixes.length := τ3
 obtain ⟨e4, ac⟩ := gE an
 have ao := okE (afd bb).2.2.2 ac
 refine yI 15 i2 an ?_
 rintro ca rfl
 refine zL 15 16 e4 ac ?_
 rintro ⟨p8, c7⟩
 refine zW 17 6 ?_
 refine KV Z Z Z Z Z Z O Z (fun w γ => f263 n τ0 (γ.q 17 Z) e4 (γ.q 16 Z) (afj v9) ao aj) fun bk => ?_
 have q2 := aus a0 e4 (a15 n_ a e3)
 refine yKA 93 ?_ ?_ <;> intro h5
 have b4 : ((a15 n_ a e3) > 0) := B.dt h5
 refine yKA 96 ?_ ?_ <;> intro h6
 have bh : ((a0p a0 e4 (a15 n_ a e3)) < 0) := B.dt h6
 refine R0 ?_
 refine SI 109 ?_
 refine zI 1 (((a0e l e1)).toNat) ag ?_
 rintro cd ⟨⟩
 refine yL 1 18 e2 ab ?_
 rintro ⟨⟨⟩, ⟨⟩, ⟨p9, c8⟩, ⟨bw, c9⟩⟩
 refine yI 19 i2 an ?_
 rintro bf rfl
 refine zL 19 20 e4 ac ?_
 rintro ⟨ci, bq⟩
 refine KF Z 21 Z Z Z Z Z O Z (fun w γ => f264 n τ0 (γ.q 17 Z) (Route.mk e4 (a15 n_ a e3) (a1c l a e1)) (γ.q 20 Z) (afj v9) (An ao (An aj av))) ?_
 rintro ⟨b3, bi⟩ bj
 refine SA ?_
 refine zU [22] 6 ?_
 exact ITr Z (b3, bi, (a1t a0 (Route.mk e4 (a15 n_ a e3) (a1c l a e1))).1, i3 + 1) ⟨τ0, bj, (by rw [ah, acx ae]; simp only [a3j, ac, h5, h6, cT, cF])⟩ τ1 [0, 1, 3, 6, 9, 10, 11]
 have bh : ¬ ((a0p a0 e4 (a15 n_ a e3)) < 0) := B.df h6
 have r7 := i8 aq
 have r8 := i8 aj
 have r9 := i8 bk
 refine R0 ?_
 refine SI 98 ?_
 have au : ((a0p a0 e4 (a15 n_ a e3))).toNat < a0.length := τ3
 obtain ⟨e5, ak⟩ := gE au
 have bz : ok n e5 := v9.2 _ (List.mem_of_getElem? ak)
 refine zI 17 (((a0p a0 e4 (a15 n_ a e3))).toNat) au ?_
 rintro ap rfl
 refine yL 17 23 e5 ak ?_
 rintro ⟨⟨cg, bv⟩, ⟨⟩, ⟨⟩⟩
 refine yKA 105 ?_ ?_ <;> intro h7
 have ba : (e5.cost > (a1c l a e1)) := B.dt h7
 refine R0 ?_
 refine SI 109 ?_
 refine zI 1 (((a0e l e1)).toNat) ag ?_
 rintro be ⟨⟩
 refine yL 1 24 e2 ab ?_
 rintro ⟨⟨⟩, ⟨⟩, ⟨br, cc⟩, ⟨cj, ch⟩⟩
 refine yI 25 i2 an ?_
 rintro b1 rfl
 refine zL 25 26 e4 ac ?_
 rintro ⟨cb, bm⟩
 refine KF Z 27 Z Z Z Z Z O Z (fun w γ => f264 n τ0 (γ.q 17 Z) (Route.mk e4 (a15 n_ a e3) (a1c l a e1)) (γ.q 26 Z) (afj v9) (An ao (An aj av))) ?_
 rintro ⟨az, b0⟩ b6
 refine SA ?_
 refine zU [28] 6 ?_
 exact ITr Z (az, b0, (a1t a0 (Route.mk e4 (a15 n_ a e3) (a1c l a e1))).1, i3 + 1) ⟨τ0, b6, (by rw [ah, acx ae]; simp only [a3j, ac, h5, h6, ak, h7, cT, cF])⟩ τ1 [0, 1, 3, 6, 9, 10, 11]
 have ba : ¬ (e5.cost > (a1c l a e1)) := B.df h7
 refine SA ?_
 exact ITr Z ((some ap), a3, a0, i3 + 1) ⟨τ0, (afj v9), (by rw [ah, acx ae]; simp only [a3j, ac, h5, h6, ak, h7, cT, cF])⟩ τ1 [0, 1, 3, 6, 9, 10, 11]
 have b4 : ¬ ((a15 n_ a e3) > 0) := B.df h5
 refine SA ?_
 exact ITr Z (a5, a3, a0, i3 + 1) ⟨τ0, (afj v9), (by rw [ah, acx ae]; simp only [a3j, ac, h5, cT, cF])⟩ τ1 [0, 1, 3, 6, 9, 10, 11]
 have b2 : ¬ (((i3 : Nat) : Int) < ((((a2d l a e1)).length : Nat) : Int)) := B.df h4
 have bg := ah.trans (show _ = (a0 : List Route) by rw [dn (show ((a2d l a e1)).length ≤ i3 by omega)]; simp only [a3j, cT, cF])
 refine SA ?_
 exact ITr Z (a5, a3, a0, i2 + 1) ⟨(afj v9), (by have z_ := avf (show l[(a0e l e1).toNat]? = some _ by assumption); omega), (by assumption), (by rw [v7]; rw [a5k]; simp only [(show i2 ≤ pfxL l (a0e l e1) by omega), ab, h2, al, h3, bg, cT, cF, ↓reduceIte, Bool.false_eq_true])⟩ τ1 [0, 1, 3, 6, 9]
 have b9 := v7.trans (show _ = (i2, (a1 : List Route)) by rw [a5k]; simp only [(show i2 ≤ pfxL l (a0e l e1) by omega), ab, h2, al, h3, cT, cF, ↓reduceIte, Bool.false_eq_true])
 refine SA ?_
 exact ITr Z (a2, a4, a1, i + 1) ⟨τ0, (afj v4), (by rw [v3, acx ad]; simp only [a6s, b9, cT, cF])⟩ τ1 [0, 1, 3, 6]
 have al : ¬ (((i2 : Nat) : Int) < ((e2.prefixes.length : Nat) : Int)) := B.df h2
 have bc := v7.trans (show _ = (i2, (a1 : List Route)) by rw [a5k]; simp only [(show i2 ≤ pfxL l (a0e l e1) by omega), ab, h2, al, cT, cF, ↓reduceIte, Bool.false_eq_true])
 refine SA ?_
 exact ITr Z (a2, a4, a1, i + 1) ⟨τ0, (afj v4), (by rw [v3, acx ad]; simp only [a6s, bc, cT, cF])⟩ τ1 [0, 1, 3, 6]
 have b7 : ¬ (((i : Nat) : Int) < ((((a2e l a)).length : Nat) : Int)) := B.df h1
 have b5 := v3.trans (show _ = (aa : List Route) by rw [dn (show ((a2e l a)).length ≤ i by omega)]; simp only [a6s, cT, cF])
 rw [show a3z n_ l a = aa by simp only [a3z, b5, cT, cF]]
 exact yX [6] (a8, a7) (afj v2)
theorem f11 (hn : n + 0 ≤ 9) (n_ : Topology) (N0 : Rd w K0 M0 n_.links) {producers : List TableEntry} (N1 : Rd w K1 M1 producers) {version : Int} (a4 : ok n n_) (a1 : ok n producers) (a0 : ok n version) :
 DP 11 #[aeq n_ K0 M0, vS K1 producers M1, vI version] w (pS w n (a1h n_ producers version)) := by
 have hb := bS0 hn
 refine EN Tryz.func11 Z (aS2 N0 N1) ?_
 refine KV Z Z Z Z Z Z O Z (fun w γ => f53 n τ0 n_ (γ.q 0 Z) a4) fun ak => ?_
 refine yKN 15 ?_ ?_ <;> intro h1 am
 refine F1 2 Advertisement ?_
 rw [show a1h n_ producers version = ([] : List Advertisement) by simp only [a1h, h1, cT, cF]]
 exact yX [2] (none, 0) (adf (α := Advertisement))
 refine KV Z Z Z Z Z Z O Z (fun w γ => f54 n τ0 a0 (i6 1) (i6 1000)) fun ao => ?_
 refine yKN 19 ?_ ?_ <;> intro h2 aw
 refine F1 3 Advertisement ?_
 rw [show a1h n_ producers version = ([] : List Advertisement) by simp only [a1h, h1, h2, cT, cF]]
 exact yX [3] (none, 0) (adf (α := Advertisement))
 have aq := agk (B.nf h2)
 refine yB fun p1 => ?_
 refine F0 4 Advertisement ?_
 have r1 := i8 ((ad0 a4).1)
 have av := ast (show a3s n_ = true by assumption)
 refine LM Z (p1, 0, [], ([] : List Advertisement), 0) (fun | (a7, a5, a2, a3, i) => ((i ≤ n_.size.toNat) ∧ JE n a3 ∧ (a3.length ≤ i) ∧ (a4z n_ producers version (n_.size.toNat) 0 ([] : List Advertisement) = a4z n_ producers version (n_.size.toNat - i) i a3), n_.size.toNat - i, [(7, .v (vS a7 a3 a5)), (23, .v (vI i))], [], [(20, ⟨4, a7, a3.length, a5, a2⟩)], [(4, MF.ol a2 (a3 : List Advertisement))])) ⟨zl, nA, τ7, Z⟩ [22, 3, 1, 2] [3] [0, 1] [0, 1, 4] ?_
 rintro ⟨a7, a5, a2, a3, i⟩ ⟨v1, v2, v3, v4⟩
 refine yKD 24 ?_ ?_ <;> intro h3 ap
 refine KF Z 5 Z Z Z Z Z O Z (fun w γ => f55 n τ0 n_ (γ.q 0 Z) a4 (i6 ((i : Nat) : Int))) ?_
 rintro ⟨p2, c1⟩ ac
 refine R0 ?_
 refine WX.row0 501 1 none Z ?_
 refine F0 7 Name ?_
 have r2 := (okl a1).1
 refine LK (0, none, 0, [], ([] : List Name)) (fun | (i2, a8, a9, a6, x_) => ((i2 ≤ producers.length) ∧ JE n x_ ∧ (x_.length ≤ i2) ∧ (a27 i producers ([] : List Name) = a27 i (producers.drop i2) x_), producers.length - i2, [(34, .v (vI i2))], [(9, ⟨123, [.int .i64 (((i : Nat) : Int)), .int .i64 version, .slice p2 (((a4t n_ ((i : Nat) : Int))).length) c1, .slice a8 (x_.length) a9]⟩)], [(20, ⟨4, a7, a3.length, a5, a2⟩), (501, ⟨1, a8, x_.length, a9, a6⟩)], [(7, MF.ol a6 (x_ : List Name))])) ⟨zl, nA, τ7, Z⟩ [33, 32, 9, 8, 7, 23, 22, 3, 1, 2] [3] [0, 1, 4, 6] [0, 1, 4, 6, 7] ?_
 rintro ⟨i2, a8, a9, a6, x_⟩ ⟨v5, v6, v7, v8⟩
 refine yKD 35 ?_ ?_ <;> intro h4 ar
 have ab : i2 < producers.length := τ0
 obtain ⟨e1, aa⟩ := gE ab
 have af := okE a1 aa
 refine yI 1 i2 ab ?_
 rintro al rfl
 refine zL 1 8 e1 aa ?_
 rintro ⟨⟨p3, c2⟩, ⟨⟩⟩
 refine yKE 42 ?_ ?_ <;> intro h5 au
 refine yKD 47 ?_ ?_ <;> intro h6 aj
 refine zW 9 6 ?_
 refine R0 ?_
 refine WX.draw [6, 7, 8] mixed fun bs G0 an => ?_
 refine dT 5 [1, 2, 5, 6] ?_
 refine DXF 4 10 Z J Z Z Z Z Z Z O Z (fun w γ => f56 n τ0 e1.name (γ.q 8 Z) ((adv af).1)) ?_
 rintro ⟨p4, c3⟩ ah
 refine DX.tail2 [5, 6, 7, 8] Z Z J ?_
 refine zB fun p5 => ?_
 refine zT (α := Name) [11] 12 (a0f e1.name) (p4, c3) fun ae => ?_
 refine zP 501 53 ((x_ ++ [(a0f e1.name)]) : List Name).length ae fun p6 c4 => ?_
 refine zV [7, 12] 13 ?_
 refine SA ?_
 refine zU [13] 7 ?_
 exact ITr Z (i2 + 1, p6, c4, _, ((x_ ++ [(a0f e1.name)]) : List Name)) ⟨τ0, (aeb v6 (all_cons (α := Name) ah nA)), τ2, (by rw [v8, acx aa]; simp only [a27, h5, h6, cT, cF])⟩ τ1 [0, 1, 4, 6, 7]
 refine SA ?_
 exact ITr Z (i2 + 1, a8, a9, a6, (x_ : List Name)) ⟨τ0, v6, τ2, (by rw [v8, acx aa]; simp only [a27, h5, h6, cT, cF])⟩ τ1 [0, 1, 4, 6, 7]
 refine SA ?_
 exact ITr Z (i2 + 1, a8, a9, a6, (x_ : List Name)) ⟨τ0, v6, τ2, (by rw [v8, acx aa]; simp only [a27, h5, cT, cF])⟩ τ1 [0, 1, 4, 6, 7]
 have ad := v8.trans (show _ = (x_ : List Name) by rw [dn (show producers.length ≤ i2 by omega)]; simp only [a27, cT, cF])
 refine yE 501 7 14 ?_
 refine zB fun p7 => ?_
 refine zT (α := Advertisement) [6, 15] 16 (Advertisement.mk ((i : Nat) : Int) version (a4t n_ ((i : Nat) : Int)) x_) ((), (), (p2, c1), (a8, a9)) fun _ => ?_
 have r3 := i8 a0
 have r4 := (okl ac).1
 refine WX.know (fun G hΓ => (hΓ.get 16 Z : OwL _ _ _).rd.one) fun ai => ?_
 refine zP 20 59 ((a3 ++ [(Advertisement.mk ((i : Nat) : Int) version (a4t n_ ((i : Nat) : Int)) x_)]) : List Advertisement).length ai fun p8 c5 => ?_
 refine zV [4, 16] 17 ?_
 refine SA ?_
 refine zU [17] 4 ?_
 exact ITr Z (p8, c5, _, ((a3 ++ [(Advertisement.mk ((i : Nat) : Int) version (a4t n_ ((i : Nat) : Int)) x_)]) : List Advertisement), i + 1) ⟨τ0, (aeb v2 (all_cons (α := Advertisement) (An (i6 ((i : Nat) : Int)) (An a0 (An ac (ada τ0 v6 : ok n (x_ : List Name))))) nA)), τ2, (by rw [v4, show n_.size.toNat - i = (n_.size.toNat - (i + 1)) + 1 by omega]; simp only [a4z, ad, cT, cF])⟩ τ1 [0, 1, 4]
 have ag := v4.trans (show _ = (a3 : List Advertisement) by rw [show n_.size.toNat - i = 0 by omega]; simp only [a4z, cT, cF])
 refine yE 20 4 18 ?_
 rw [show a1h n_ producers version = a3 by simp only [a1h, h1, h2, ag, cT, cF]]
 exact zX [19] (a7, a5) (ada τ0 v2 : ok n (a3 : List Advertisement))
theorem f144 (hn : n + 0 ≤ 9) (n_ : Topology) (N0 : Rd w K0 M0 n_.links) {names : List TableEntry} (N1 : Rd w K1 M1 names) {ver : Int} (a5 : ok n n_) (a1 : ok n names) (a0 : ok n ver) :
 DP 144 #[aeq n_ K0 M0, vS K1 names M1, vI ver] w (pS w n (a28 n_ names ver)) := by
 have hb := bS0 hn
 refine EN Tryz.func144 Z (aS2 N0 N1) ?_
 refine yB fun p1 => ?_
 refine KV Z Z Z Z Z Z O Z (fun w γ => f72 n τ0 n_ (γ.q 0 Z) a5) fun az => ?_
 refine yKN 15 ?_ ?_ <;> intro h1 ay
 refine F0 2 Advertisement ?_
 refine yE 11 2 3 ?_
 rw [show a28 n_ names ver = ([]) by simp only [a28, h1, cT, cF]]
 exact zX [4] (p1, 0) (ada zl nA : ok n ([] : List Advertisement))
 refine KV Z Z Z Z Z Z O Z (fun w γ => f171 n τ0 a0 (i6 1) (i6 1000)) fun b0 => ?_
 refine yKN 19 ?_ ?_ <;> intro h2 ax
 refine F0 5 Advertisement ?_
 refine yE 11 5 6 ?_
 rw [show a28 n_ names ver = ([]) by simp only [a28, h1, h2, cT, cF]]
 exact zX [7] (p1, 0) (ada zl nA : ok n ([] : List Advertisement))
 have ao := afy (B.nf h2)
 refine F0 8 Advertisement ?_
 have r1 := i8 ((ad0 a5).1)
 have aw := apx (show a3c n_ = true by assumption)
 refine LM Z (p1, 0, [], ([] : List Advertisement), 0) (fun | (a6, a4, a3, a2, i) => ((i ≤ n_.size.toNat) ∧ JE n a2 ∧ (a2.length ≤ i) ∧ (a6t n_ names ver (n_.size.toNat) 0 ([] : List Advertisement) = a6t n_ names ver (n_.size.toNat - i) i a2), n_.size.toNat - i, [(7, .v (vS a6 a2 a4)), (8, .v (vI i))], [], [(11, ⟨4, a6, a2.length, a4, a3⟩)], [(8, MF.ol a3 (a2 : List Advertisement))])) ⟨zl, nA, τ7, Z⟩ [3, 1, 2] [3] [0, 1] [0, 1, 8] ?_
 rintro ⟨a6, a4, a3, a2, i⟩ ⟨v1, v2, v3, v4⟩
 refine yKD 24 ?_ ?_ <;> intro h3 ap
 refine KF Z 9 Z Z Z Z Z O Z (fun w γ => f255 n τ0 n_ (γ.q 0 Z) a5 (i6 ((i : Nat) : Int))) ?_
 rintro ⟨p2, c1⟩ ab
 refine R0 ?_
 refine WX.row0 501 1 none Z ?_
 refine F0 11 Name ?_
 have r2 := (okl a1).1
 refine LK (0, none, 0, [], ([] : List Name)) (fun | (i2, a9, a8, a7, x_) => ((i2 ≤ names.length) ∧ JE n x_ ∧ (x_.length ≤ i2) ∧ (a4c i names ([] : List Name) = a4c i (names.drop i2) x_), names.length - i2, [(10, .v (vI i2))], [(9, ⟨123, [.int .i64 (((i : Nat) : Int)), .int .i64 ver, .slice p2 (((a19 n_ ((i : Nat) : Int))).length) c1, .slice a9 (x_.length) a8]⟩)], [(11, ⟨4, a6, a2.length, a4, a3⟩), (501, ⟨1, a9, x_.length, a8, a7⟩)], [(11, MF.ol a7 (x_ : List Name))])) ⟨zl, nA, τ7, Z⟩ [9, 7, 8, 3, 1, 2] [3] [0, 1, 8, 10] [0, 1, 8, 10, 11] ?_
 rintro ⟨i2, a9, a8, a7, x_⟩ ⟨v5, v6, v7, v8⟩
 refine yKD 37 ?_ ?_ <;> intro h4 ar
 have ac : i2 < names.length := τ0
 obtain ⟨e1, aa⟩ := gE ac
 have ag := okE a1 aa
 refine yKD 42 ?_ ?_ <;> intro h5 av
 refine yI 1 i2 ac ?_
 rintro an rfl
 refine yL 1 12 e1 aa ?_
 rintro ⟨⟨p3, c2⟩, ⟨⟩⟩
 refine yKE 51 ?_ ?_ <;> intro h6 b1
 refine zW 13 10 ?_
 refine R0 ?_
 refine WX.draw [9, 10, 11] mixed fun bs G0 ad => ?_
 refine dT 8 [1, 2, 5, 7] ?_
 refine zDI 4 1 i2 ad Z ac ?_
 rintro aq ⟨⟩
 refine dT 6 [11] ?_
 refine zDL 6 1 14 e1 ad aa ?_
 rintro ⟨⟨p4, c3⟩, ⟨⟩⟩
 refine DXF 7 15 Z J Z Z Z Z Z Z O Z (fun w γ => f246 n τ0 e1.name (γ.q 14 Z) ((adv ag).1)) ?_
 rintro ⟨p5, c4⟩ af
 refine DX.tail2 [8, 9, 10, 11] Z Z J ?_
 refine zB fun p6 => ?_
 refine zT (α := Name) [16] 17 (a0g e1.name) (p5, c4) fun ak => ?_
 refine zP 501 60 ((x_ ++ [(a0g e1.name)]) : List Name).length ak fun p7 c5 => ?_
 refine zV [11, 17] 18 ?_
 refine SA ?_
 refine zU [18] 11 ?_
 exact ITr Z (i2 + 1, p7, c5, _, ((x_ ++ [(a0g e1.name)]) : List Name)) ⟨τ0, (aeb v6 (all_cons (α := Name) af nA)), τ2, (by rw [v8, acx aa]; simp only [a4c, h5, h6, cT, cF])⟩ τ1 [0, 1, 8, 10, 11]
 refine SA ?_
 exact ITr Z (i2 + 1, a9, a8, a7, (x_ : List Name)) ⟨τ0, v6, τ2, (by rw [v8, acx aa]; simp only [a4c, h5, h6, cT, cF])⟩ τ1 [0, 1, 8, 10, 11]
 have aj := v8.trans (show _ = (x_ : List Name) by rw [acx aa]; simp only [a4c, h5, cT, cF])
 refine yE 501 11 19 ?_
 refine zB fun p8 => ?_
 refine zT (α := Advertisement) [10, 20] 21 (Advertisement.mk ((i : Nat) : Int) ver (a19 n_ ((i : Nat) : Int)) x_) ((), (), (p2, c1), (a9, a8)) fun _ => ?_
 have r3 := i8 a0
 have r4 := (okl ab).1
 refine WX.know (fun G hΓ => (hΓ.get 21 Z : OwL _ _ _).rd.one) fun am => ?_
 refine zP 11 65 ((a2 ++ [(Advertisement.mk ((i : Nat) : Int) ver (a19 n_ ((i : Nat) : Int)) x_)]) : List Advertisement).length am fun p9 c6 => ?_
 refine zV [8, 21] 22 ?_
 refine SA ?_
 refine zU [22] 8 ?_
 exact ITr Z (p9, c6, _, ((a2 ++ [(Advertisement.mk ((i : Nat) : Int) ver (a19 n_ ((i : Nat) : Int)) x_)]) : List Advertisement), i + 1) ⟨τ0, (aeb v2 (all_cons (α := Advertisement) (An (i6 ((i : Nat) : Int)) (An a0 (An ab (ada τ0 v6 : ok n (x_ : List Name))))) nA)), τ2, (by rw [v4, show n_.size.toNat - i = (n_.size.toNat - (i + 1)) + 1 by omega]; simp only [a6t, aj, cT, cF])⟩ τ1 [0, 1, 8]
 have ah := v8.trans (show _ = (x_ : List Name) by rw [dn (show names.length ≤ i2 by omega)]; simp only [a4c, cT, cF])
 refine yE 501 11 23 ?_
 refine zB fun au => ?_
 refine zT (α := Advertisement) [10, 24] 25 (Advertisement.mk ((i : Nat) : Int) ver (a19 n_ ((i : Nat) : Int)) x_) ((), (), (p2, c1), (a9, a8)) fun _ => ?_
 have r5 := i8 a0
 have r6 := (okl ab).1
 refine WX.know (fun G hΓ => (hΓ.get 25 Z : OwL _ _ _).rd.one) fun ae => ?_
 refine zP 11 65 ((a2 ++ [(Advertisement.mk ((i : Nat) : Int) ver (a19 n_ ((i : Nat) : Int)) x_)]) : List Advertisement).length ae fun al c7 => ?_
 refine zV [8, 25] 26 ?_
 refine SA ?_
 refine zU [26] 8 ?_
 exact ITr Z (al, c7, _, ((a2 ++ [(Advertisement.mk ((i : Nat) : Int) ver (a19 n_ ((i : Nat) : Int)) x_)]) : List Advertisement), i + 1) ⟨τ0, (aeb v2 (all_cons (α := Advertisement) (An (i6 ((i : Nat) : Int)) (An a0 (An ab (ada τ0 v6 : ok n (x_ : List Name))))) nA)), τ2, (by rw [v4, show n_.size.toNat - i = (n_.size.toNat - (i + 1)) + 1 by omega]; simp only [a6t, ah, cT, cF])⟩ τ1 [0, 1, 8]
 have ai := v4.trans (show _ = (a2 : List Advertisement) by rw [show n_.size.toNat - i = 0 by omega]; simp only [a6t, cT, cF])
 refine yE 11 8 27 ?_
 rw [show a28 n_ names ver = a2 by simp only [a28, h1, h2, ai, cT, cF]]
 exact zX [28] (a6, a4) (ada τ0 v2 : ok n (a2 : List Advertisement))
end Go.Proofs.YtpmejlbgjkiobaaGreat
namespace Go.Stp
def a2l (w_ : Network) : List NodeP → Nat → (List NodeP) → (List NodeP) | [], i, wNodes => ((wNodes) : List NodeP) | _ :: rest_, i, wNodes => bif (abd (Network.mk w_.topology w_.trust w_.producers wNodes w_.downNodes w_.failedLinks w_.inFlight w_.consumers w_.now w_.dropped) ((i : Nat) : Int)) then match (wNodes)[i]? with | none => default | some e2 => a2l w_ rest_ (i + 1) (((wNodes.set i (NodeP.mk e2.locl e2.cache e2.pending e2.seen (a2k w_.topology (a1h (a25 w_) w_.producers 1) ((i : Nat) : Int)) e2.measurements e2.dropped))) : List NodeP) else a2l w_ rest_ (i + 1) ((wNodes) : List NodeP)
def a5l (w_ : Network) : Network := match a2l w_ w_.nodes 0 (w_.nodes : List NodeP) with | wNodes => (Network.mk w_.topology w_.trust w_.producers wNodes w_.downNodes w_.failedLinks w_.inFlight w_.consumers w_.now w_.dropped)
def a6u (w_ : Network) (i : Nat) (wNodes : List NodeP) : Nat × (List NodeP) := if i ≤ w_.nodes.length then if ((i : Nat) : Int) < (((wNodes).length : Nat) : Int) then if (ac8 (Network.mk w_.topology w_.trust w_.producers wNodes w_.downNodes w_.failedLinks w_.inFlight w_.consumers w_.now w_.dropped) ((i : Nat) : Int)) = true then match (wNodes)[i]? with | none => default | some e1 => a6u w_ (i + 1) (((wNodes.set i (NodeP.mk e1.locl e1.cache e1.pending e1.seen (a3z w_.topology (a28 (a3g w_) w_.producers 1) ((i : Nat) : Int)) e1.measurements e1.dropped))) : List NodeP) else a6u w_ (i + 1) ((wNodes) : List NodeP) else (i, ((wNodes) : List NodeP)) else default
termination_by w_.nodes.length + 1 - i
decreasing_by all_goals (simp_wf; omega)
def a4d (w_ : Network) : Network := match a6u w_ 0 (w_.nodes : List NodeP) with | (i, wNodes) => (Network.mk w_.topology w_.trust w_.producers wNodes w_.downNodes w_.failedLinks w_.inFlight w_.consumers w_.now w_.dropped)
def a0b (w_ : Network) : Network := (a5l (a9j w_))
def abg (w_ : Network) : Network := (a4d (a0c w_))
def a84 (capacity : Int) : Nat → (List NodeP) → (List NodeP) | 0, w_ => ((w_) : List NodeP) | m_ + 1, w_ => a84 capacity m_ (((w_ ++ [(a81 capacity)])) : List NodeP)
def a09 (g : Topology) (t : TrustPolicy) (h_ : (List TableEntry)) (capacity : Int) : Network := bif (!(a3s g)) then (Network.mk (Topology.mk 0 ([])) (TrustPolicy.mk ([]) ([]) ([]) ([])) ([]) ([]) 0 ([]) ([]) ([]) 0 0) else bif (!(a6m t)) then (Network.mk (Topology.mk 0 ([])) (TrustPolicy.mk ([]) ([]) ([]) ([])) ([]) ([]) 0 ([]) ([]) ([]) 0 0) else bif (!(abu h_ g.size)) then (Network.mk (Topology.mk 0 ([])) (TrustPolicy.mk ([]) ([]) ([]) ([])) ([]) ([]) 0 ([]) ([]) ([]) 0 0) else match a84 capacity ((g.size).toNat) ([] : List NodeP) with | w_ => (a0b (Network.mk (a2i g) (a1b t) (a2w h_) w_ 0 ([]) ([]) ([]) 0 0))
def a3k (caps : Int) : Nat → (List NodeP) → (List NodeP) | 0, w_ => ((w_) : List NodeP) | m_ + 1, w_ => a3k caps m_ (((w_ ++ [(a49 caps)])) : List NodeP)
def a1u (g : Topology) (t : TrustPolicy) (h_ : (List TableEntry)) (caps : Int) : Network := bif (!(a3c g)) then (Network.mk (Topology.mk 0 ([])) (TrustPolicy.mk ([]) ([]) ([]) ([])) ([]) ([]) 0 ([]) ([]) ([]) 0 0) else bif (!(a4v t)) then (Network.mk (Topology.mk 0 ([])) (TrustPolicy.mk ([]) ([]) ([]) ([])) ([]) ([]) 0 ([]) ([]) ([]) 0 0) else bif (!(aaw h_ g.size)) then (Network.mk (Topology.mk 0 ([])) (TrustPolicy.mk ([]) ([]) ([]) ([])) ([]) ([]) 0 ([]) ([]) ([]) 0 0) else match a3k caps ((g.size).toNat) ((a0c (Network.mk g t h_ ([]) 0 ([]) ([]) ([]) 0 0)).nodes : List NodeP) with | w_ => (a4d (Network.mk ((a0c (Network.mk g t h_ ([]) 0 ([]) ([]) ([]) 0 0)).topology) ((a0c (Network.mk g t h_ ([]) 0 ([]) ([]) ([]) 0 0)).trust) ((a0c (Network.mk g t h_ ([]) 0 ([]) ([]) ([]) 0 0)).producers) w_ ((a0c (Network.mk g t h_ ([]) 0 ([]) ([]) ([]) 0 0)).downNodes) ((a0c (Network.mk g t h_ ([]) 0 ([]) ([]) ([]) 0 0)).failedLinks) ((a0c (Network.mk g t h_ ([]) 0 ([]) ([]) ([]) 0 0)).inFlight) ((a0c (Network.mk g t h_ ([]) 0 ([]) ([]) ([]) 0 0)).consumers) ((a0c (Network.mk g t h_ ([]) 0 ([]) ([]) ([]) 0 0)).now) ((a0c (Network.mk g t h_ ([]) 0 ([]) ([]) ([]) 0 0)).dropped)))
end Go.Stp
namespace Go.Proofs.YtpmejlbgjkiobaaGreat
open Go.Stp
open Go.Stp.GoT (ok)
variable {w : World} (n : Nat) {K0 K1 K2 K3 K4 K5 K6 K7 K8 K9 : Option Addr} {M0 M1 M2 M3 M4 M5 M6 M7 M8 M9 : Nat}
theorem f39 (hn : n + 1 ≤ 9) {H : GH} (hH : Le H (hp w)) (bw_ : Nat) (w_ : Network) (K0 : Option Addr) (M0 : Nat) (K1 : Option Addr) (M1 : Nat) (K2 : Option Addr) (M2 : Nat) (K3 : Option Addr) (M3 : Nat) (K4 : Option Addr) (M4 : Nat) (K5 : Option Addr) (M5 : Nat) (K6 : Option Addr) (M6 : Nat) (K7 : Option Addr) (M7 : Nat) (K8 : Option Addr) (M8 : Nat) (K9 : Option Addr) (M9 : Nat) (hown : Sep H (MF.bx bw_ 39 (GoT.sh w_ (((), (K0, M0)), ((K1, M1), (K2, M2), (K3, M3), (K4, M4)), (K5, M5), (K6, M6), (), (K7, M7), (K8, M8), (K9, M9), (), ())) :: GoT.oa w_ (((), (K0, M0)), ((K1, M1), (K2, M2), (K3, M3), (K4, M4)), (K5, M5), (K6, M6), (), (K7, M7), (K8, M8), (K9, M9), (), ()))) (a1 : ok n w_) :
 Does Tryz.prog 39 #[.pointer (some ⟨bw_, 0, none⟩)] w H (Post w H (fun x : GoT.X (Network) => .tuple #[]) (fun x => MF.bx bw_ 39 (GoT.sh ((a5l w_) : Network) (x)) :: GoT.oa ((a5l w_) : Network) x) (ok n ((a5l w_) : Network))) := by
 have hb := bS1 hn
 refine WX.enterP (tt := tt) (Γ := []) (cs := [.int .i64 (w_.topology.size), .slice K0 (w_.topology.links.length) M0, .slice K1 (w_.trust.keys.length) M1, .slice K2 (w_.trust.rules.length) M2, .slice K3 (w_.trust.anchors.length) M3, .slice K4 (w_.trust.certificates.length) M4, .slice K5 (w_.producers.length) M5, .slice K6 (w_.nodes.length) M6, .int .i64 (w_.downNodes), .slice K7 (w_.failedLinks.length) M7, .slice K8 (w_.inFlight.length) M8, .slice K9 (w_.consumers.length) M9, .int .i64 (w_.now), .int .i64 (w_.dropped)]) (fs := [MF.os K0 M0 w_.topology.links, MF.os K1 M1 w_.trust.keys, MF.os K2 M2 w_.trust.rules, MF.os K3 M3 w_.trust.anchors, MF.os K4 M4 w_.trust.certificates, MF.os K5 M5 w_.producers, MF.os K6 M6 w_.nodes, MF.os K7 M7 w_.failedLinks, MF.os K8 M8 w_.inFlight, MF.os K9 M9 w_.consumers]) 10 Tryz.func39 Z J Z adc hH hown (fun f hf => GoT.oak (a := w_) (x := (((), (K0, M0)), ((K1, M1), (K2, M2), (K3, M3), (K4, M4)), (K5, M5), (K6, M6), (), (K7, M7), (K8, M8), (K9, M9), (), ())) f hf) Z ?_
 refine zW 20 10 ?_
 refine zW 21 11 ?_
 refine zW 22 12 ?_
 refine zW 23 13 ?_
 refine zW 24 14 ?_
 refine zW 25 15 ?_
 refine zW 26 16 ?_
 refine zW 27 17 ?_
 refine zW 28 18 ?_
 refine zW 29 19 ?_
 refine R0 ?_
 refine WX.draw [] mixed fun bs G0 af => ?_
 refine dT 3 [1, 3, 4, 9, 11, 13, 14] ?_
 refine DXF 3 30 Z J Z Z Z Z Z Z O Z (fun w γ => f12 n τ0 w_ (γ.q 20 Z) (γ.q 21 Z) (γ.q 22 Z) (γ.q 23 Z) (γ.q 24 Z) (γ.q 25 Z) (γ.q 26 Z) (γ.q 27 Z) (γ.q 28 Z) (γ.q 29 Z) a1) ?_
 rintro ⟨⟨⟩, ⟨p1, c1⟩⟩ ad
 dsimp only
 refine DXF 8 32 Z J Z Z Z Z Z Z O Z (fun w γ => f11 n τ0 (a25 w_) (γ.q 30 Z) (γ.q 25 Z) ad ((acy a1).2.2.1) (i6 1)) ?_
 rintro ⟨p2, c2⟩ a9
 dsimp only
 refine dT 0 [19] ?_
 refine DX.tail2 [] Z Z J ?_
 have r1 := (okl (acy a1).2.2.2.1).1
 refine LM Z (0, K6, M6, (w_.nodes : List NodeP)) (fun | (i, a3, a2, a0) => ((i ≤ w_.nodes.length) ∧ JL n a0 ∧ (a0.length = w_.nodes.length) ∧ (a2l w_ w_.nodes 0 (w_.nodes : List NodeP) = a2l w_ (w_.nodes.drop i) i a0), w_.nodes.length - i, [(18, .v (vI i))], [(999, ⟨39, [.int .i64 (w_.topology.size), .slice K0 (w_.topology.links.length) M0, .slice K1 (w_.trust.keys.length) M1, .slice K2 (w_.trust.rules.length) M2, .slice K3 (w_.trust.anchors.length) M3, .slice K4 (w_.trust.certificates.length) M4, .slice K5 (w_.producers.length) M5, .slice a3 (a0.length) a2, .int .i64 (w_.downNodes), .slice K7 (w_.failedLinks.length) M7, .slice K8 (w_.inFlight.length) M8, .slice K9 (w_.consumers.length) M9, .int .i64 (w_.now), .int .i64 (w_.dropped)]⟩)], [], [(16, MF.os a3 a2 a0), (17, MF.os K7 M7 w_.failedLinks), (18, MF.os K8 M8 w_.inFlight), (19, MF.os K9 M9 w_.consumers), (33, MF.os p2 c2 (a1h (a25 w_) w_.producers 1))])) ⟨zl, (acy a1).2.2.2.1, Z, Z⟩ [17, 2, 0] [] [10, 11, 12, 13, 14, 15] [10, 11, 12, 13, 14, 15, 16, 17, 18, 19, 33] ?_
 rintro ⟨i, a3, a2, a0⟩ ⟨v1, v2, v3, v4⟩
 have ai := v2.1
 refine yKD 19 ?_ ?_ <;> intro h1 ao
 have ah : i < w_.nodes.length := τ0
 obtain ⟨e1, a7⟩ := gE ah
 have aj := okE (acy a1).2.2.2.1 a7
 refine zW 34 10 ?_
 refine zW 35 11 ?_
 refine zW 36 12 ?_
 refine zW 37 13 ?_
 refine zW 38 14 ?_
 refine zW 39 15 ?_
 refine zW 40 16 ?_
 refine zW 41 17 ?_
 refine zW 42 18 ?_
 refine zW 43 19 ?_
 refine KV Z Z Z Z Z Z O Z (fun w γ => f13 n τ0 (Network.mk w_.topology w_.trust w_.producers a0 w_.downNodes w_.failedLinks w_.inFlight w_.consumers w_.now w_.dropped) (γ.q 34 Z) (γ.q 35 Z) (γ.q 36 Z) (γ.q 37 Z) (γ.q 38 Z) (γ.q 39 Z) (γ.q 40 Z) (γ.q 41 Z) (γ.q 42 Z) (γ.q 43 Z) (An (acy a1).1 (An (acy a1).2.1 (An (acy a1).2.2.1 (An (afj v2) (An (acy a1).2.2.2.2.1 (An (acy a1).2.2.2.2.2.1 (An (acy a1).2.2.2.2.2.2.1 (An (acy a1).2.2.2.2.2.2.2.1 (An (acy a1).2.2.2.2.2.2.2.2.1 (acy a1).2.2.2.2.2.2.2.2.2))))))))) (i6 ((i : Nat) : Int))) fun am => ?_
 refine yKA 25 ?_ ?_ <;> intro h2
 refine zW 44 33 ?_
 refine R0 ?_
 refine WX.draw [12, 13, 14] mixed fun bs G0 af => ?_
 refine dT 4 [1, 3, 5, 6, 9, 11, 13, 15, 16, 19, 21] ?_
 refine DXF 11 45 Z J Z Z Z Z Z Z O Z (fun w γ => f60 n τ0 w_.topology (γ.q 34 Z) (γ.q 44 Z) ((acy a1).1) a9 (i6 ((i : Nat) : Int))) ?_
 rintro ⟨p3, c3⟩ ab
 refine DX.tail2 [12, 13, 14] Z Z J ?_
 refine zN (kk := 8) 501 16 47 fun al ak => ?_
 have a8 : i < a0.length := τ3
 refine zR 501 i a8 ?_
 rintro a5 rfl
 have aa : i < a0.length := τ3
 obtain ⟨e2, a6⟩ := gE aa
 have a4 : ok n e2 := v2.2 _ (List.mem_of_getElem? a6)
 refine R0 ?_
 refine zO (α := NodeP) (e := e2) 501 47 48 i a6 ?_
 rintro A1 B1 ⟨⟨p4, c4⟩, ⟨⟨⟩, ⟨p5, c5⟩⟩, ⟨p6, c6⟩, ⟨p7, c7⟩, ⟨p8, c8⟩, ⟨p9, c9⟩, ⟨⟩⟩ ae an
 refine zS 501 ae a8 ?_
 refine SA ?_
 refine R0 ?_
 refine WX.turn [54, 55, 56, 57, 46, 59, 60, 61] 62 Z (fun h hs => aej (α := NodeP) (e := (NodeP.mk e2.locl e2.cache e2.pending e2.seen (a2k w_.topology (a1h (a25 w_) w_.producers 1) ((i : Nat) : Int)) e2.measurements e2.dropped)) (x := ((p4, c4), ((), (p5, c5)), (p6, c6), (p7, c7), (p3, c3), (p9, c9), ())) aa hs) Z ?_
 refine zE 501 62 63 (hn := (show a0.length = ((a0.set i (NodeP.mk e2.locl e2.cache e2.pending e2.seen (a2k w_.topology (a1h (a25 w_) w_.producers 1) ((i : Nat) : Int)) e2.measurements e2.dropped))).length from by first | (simp; done) | (simp; omega))) ?_
 refine WX.respL (show ([(999, ⟨39, [.int .i64 (w_.topology.size), .slice K0 (w_.topology.links.length) M0, .slice K1 (w_.trust.keys.length) M1, .slice K2 (w_.trust.rules.length) M2, .slice K3 (w_.trust.anchors.length) M3, .slice K4 (w_.trust.certificates.length) M4, .slice K5 (w_.producers.length) M5, .slice (some a5) (a0.length) a2, .int .i64 (w_.downNodes), .slice K7 (w_.failedLinks.length) M7, .slice K8 (w_.inFlight.length) M8, .slice K9 (w_.consumers.length) M9, .int .i64 (w_.now), .int .i64 (w_.dropped)]⟩)] : Locs) = [(999, ⟨39, [.int .i64 (w_.topology.size), .slice K0 (w_.topology.links.length) M0, .slice K1 (w_.trust.keys.length) M1, .slice K2 (w_.trust.rules.length) M2, .slice K3 (w_.trust.anchors.length) M3, .slice K4 (w_.trust.certificates.length) M4, .slice K5 (w_.producers.length) M5, .slice (some a5) (((a0.set i (NodeP.mk e2.locl e2.cache e2.pending e2.seen (a2k w_.topology (a1h (a25 w_) w_.producers 1) ((i : Nat) : Int)) e2.measurements e2.dropped))).length) a2, .int .i64 (w_.downNodes), .slice K7 (w_.failedLinks.length) M7, .slice K8 (w_.inFlight.length) M8, .slice K9 (w_.consumers.length) M9, .int .i64 (w_.now), .int .i64 (w_.dropped)]⟩)] from by simp only [List.length_set]) ?_
 refine SL 29 ((a0.set i (NodeP.mk e2.locl e2.cache e2.pending e2.seen (a2k w_.topology (a1h (a25 w_) w_.producers 1) ((i : Nat) : Int)) e2.measurements e2.dropped))).length (e := by first | (simp; done) | (simp; omega)) ?_
 refine zU [64] 16 ?_
 have r2 := (okl (acy a1).2.2.1).1
 have r3 := (okl a9).1
 have r4 := (okl ab).1
 have r5 := (okl (ad6 a4).1).1
 have r6 := (okl (ad6 a4).2.2.1).1
 have r7 := (okl (ad6 a4).2.2.2.1).1
 have r8 := (okl (ad6 a4).2.2.2.2.2.1).1
 have r9 := i8 ((ad6 a4).2.2.2.2.2.2)
 exact IT (i + 1, (some a5), a2, (a0.set i (NodeP.mk e2.locl e2.cache e2.pending e2.seen (a2k w_.topology (a1h (a25 w_) w_.producers 1) ((i : Nat) : Int)) e2.measurements e2.dropped))) ⟨τ0, (ada τ2 (aef v2.2 (show ok n ((NodeP.mk e2.locl e2.cache e2.pending e2.seen (a2k w_.topology (a1h (a25 w_) w_.producers 1) ((i : Nat) : Int)) e2.measurements e2.dropped) : NodeP) from (An (ad6 a4).1 (An (ad6 a4).2.1 (An (ad6 a4).2.2.1 (An (ad6 a4).2.2.2.1 (An ab (An (ad6 a4).2.2.2.2.2.1 (ad6 a4).2.2.2.2.2.2)))))))) : ok n ((a0.set i (NodeP.mk e2.locl e2.cache e2.pending e2.seen (a2k w_.topology (a1h (a25 w_) w_.producers 1) ((i : Nat) : Int)) e2.measurements e2.dropped)) : List NodeP)), τ6, (by rw [v4, acx a7]; simp only [a2l, h2, a6, cT, cF])⟩ τ1 [10, 11, 12, 13, 14, 15, 16, 17, 18, 19, 33]
 refine SA ?_
 exact ITr Z (i + 1, a3, a2, a0) ⟨τ0, (afj v2), τ6, (by rw [v4, acx a7]; simp only [a2l, h2, cT, cF])⟩ τ1 [10, 11, 12, 13, 14, 15, 16, 17, 18, 19, 33]
 have ac := v4.trans (show _ = (a0 : List NodeP) by rw [dn (show w_.nodes.length ≤ i by omega)]; simp only [a2l, cT, cF])
 have ag : a5l w_ = (Network.mk w_.topology w_.trust w_.producers a0 w_.downNodes w_.failedLinks w_.inFlight w_.consumers w_.now w_.dropped) := by simp only [a5l, ac, cT, cF]
 refine R0 ?_
 refine WX.fin ttOk Z fun w1 G bs hI hΓ => ?_
 rw [ag]
 exact Post.ofL 999 [10, 11, 12, 13, 14, 15, 16, 17, 18, 19] (((), (K0, M0)), ((K1, M1), (K2, M2), (K3, M3), (K4, M4)), (K5, M5), (a3, a2), (), (K7, M7), (K8, M8), (K9, M9), (), ()) hI hΓ Z Z Z (by rw [hI.pin _ rfl]; first | done | rfl) (An (acy a1).1 (An (acy a1).2.1 (An (acy a1).2.2.1 (An (afj v2) (An (acy a1).2.2.2.2.1 (An (acy a1).2.2.2.2.2.1 (An (acy a1).2.2.2.2.2.2.1 (An (acy a1).2.2.2.2.2.2.2.1 (An (acy a1).2.2.2.2.2.2.2.2.1 (acy a1).2.2.2.2.2.2.2.2.2)))))))))
theorem f52 (hn : n + 1 ≤ 9) {H : GH} (hH : Le H (hp w)) (bw_ : Nat) (w_ : Network) (K0 : Option Addr) (M0 : Nat) (K1 : Option Addr) (M1 : Nat) (K2 : Option Addr) (M2 : Nat) (K3 : Option Addr) (M3 : Nat) (K4 : Option Addr) (M4 : Nat) (K5 : Option Addr) (M5 : Nat) (K6 : Option Addr) (M6 : Nat) (K7 : Option Addr) (M7 : Nat) (K8 : Option Addr) (M8 : Nat) (K9 : Option Addr) (M9 : Nat) (hown : Sep H (MF.bx bw_ 39 (GoT.sh w_ (((), (K0, M0)), ((K1, M1), (K2, M2), (K3, M3), (K4, M4)), (K5, M5), (K6, M6), (), (K7, M7), (K8, M8), (K9, M9), (), ())) :: GoT.oa w_ (((), (K0, M0)), ((K1, M1), (K2, M2), (K3, M3), (K4, M4)), (K5, M5), (K6, M6), (), (K7, M7), (K8, M8), (K9, M9), (), ()))) (a1 : ok n w_) :
 Does Tryz.prog 52 #[.pointer (some ⟨bw_, 0, none⟩)] w H (Post w H (fun x : GoT.X (Network) => .tuple #[]) (fun x => MF.bx bw_ 39 (GoT.sh ((a4d w_) : Network) (x)) :: GoT.oa ((a4d w_) : Network) x) (ok n ((a4d w_) : Network))) := by
 have hb := bS1 hn
 refine WX.enterP (tt := tt) (Γ := []) (cs := [.int .i64 (w_.topology.size), .slice K0 (w_.topology.links.length) M0, .slice K1 (w_.trust.keys.length) M1, .slice K2 (w_.trust.rules.length) M2, .slice K3 (w_.trust.anchors.length) M3, .slice K4 (w_.trust.certificates.length) M4, .slice K5 (w_.producers.length) M5, .slice K6 (w_.nodes.length) M6, .int .i64 (w_.downNodes), .slice K7 (w_.failedLinks.length) M7, .slice K8 (w_.inFlight.length) M8, .slice K9 (w_.consumers.length) M9, .int .i64 (w_.now), .int .i64 (w_.dropped)]) (fs := [MF.os K0 M0 w_.topology.links, MF.os K1 M1 w_.trust.keys, MF.os K2 M2 w_.trust.rules, MF.os K3 M3 w_.trust.anchors, MF.os K4 M4 w_.trust.certificates, MF.os K5 M5 w_.producers, MF.os K6 M6 w_.nodes, MF.os K7 M7 w_.failedLinks, MF.os K8 M8 w_.inFlight, MF.os K9 M9 w_.consumers]) 10 Tryz.func52 Z J Z adc hH hown (fun f hf => GoT.oak (a := w_) (x := (((), (K0, M0)), ((K1, M1), (K2, M2), (K3, M3), (K4, M4)), (K5, M5), (K6, M6), (), (K7, M7), (K8, M8), (K9, M9), (), ())) f hf) Z ?_
 refine zW 20 10 ?_
 refine zW 21 11 ?_
 refine zW 22 12 ?_
 refine zW 23 13 ?_
 refine zW 24 14 ?_
 refine zW 25 15 ?_
 refine zW 26 16 ?_
 refine zW 27 17 ?_
 refine zW 28 18 ?_
 refine zW 29 19 ?_
 refine R0 ?_
 refine WX.draw [] mixed fun bs G0 ag => ?_
 refine dT 3 [1, 3, 4, 9, 11, 13, 14] ?_
 refine DXF 3 30 Z J Z Z Z Z Z Z O Z (fun w γ => f145 n τ0 w_ (γ.q 20 Z) (γ.q 21 Z) (γ.q 22 Z) (γ.q 23 Z) (γ.q 24 Z) (γ.q 25 Z) (γ.q 26 Z) (γ.q 27 Z) (γ.q 28 Z) (γ.q 29 Z) a1) ?_
 rintro ⟨⟨⟩, ⟨p1, c1⟩⟩ ad
 dsimp only
 refine DXF 8 32 Z J Z Z Z Z Z Z O Z (fun w γ => f144 n τ0 (a3g w_) (γ.q 30 Z) (γ.q 25 Z) ad ((acy a1).2.2.1) (i6 1)) ?_
 rintro ⟨p2, c2⟩ a9
 dsimp only
 refine dT 0 [19] ?_
 refine DX.tail2 [] Z Z J ?_
 refine LM Z (0, K6, M6, (w_.nodes : List NodeP)) (fun | (i, a3, a2, a0) => (JL n a0 ∧ (a0.length = w_.nodes.length) ∧ (i ≤ w_.nodes.length) ∧ (a6u w_ 0 (w_.nodes : List NodeP) = a6u w_ i a0), w_.nodes.length + 1 - i, [(3, .v (vI i))], [(999, ⟨39, [.int .i64 (w_.topology.size), .slice K0 (w_.topology.links.length) M0, .slice K1 (w_.trust.keys.length) M1, .slice K2 (w_.trust.rules.length) M2, .slice K3 (w_.trust.anchors.length) M3, .slice K4 (w_.trust.certificates.length) M4, .slice K5 (w_.producers.length) M5, .slice a3 (a0.length) a2, .int .i64 (w_.downNodes), .slice K7 (w_.failedLinks.length) M7, .slice K8 (w_.inFlight.length) M8, .slice K9 (w_.consumers.length) M9, .int .i64 (w_.now), .int .i64 (w_.dropped)]⟩)], [], [(16, MF.os a3 a2 a0), (17, MF.os K7 M7 w_.failedLinks), (18, MF.os K8 M8 w_.inFlight), (19, MF.os K9 M9 w_.consumers), (33, MF.os p2 c2 (a28 (a3g w_) w_.producers 1))])) ⟨(acy a1).2.2.2.1, Z, zl, Z⟩ [2, 0] [] [10, 11, 12, 13, 14, 15] [10, 11, 12, 13, 14, 15, 16, 17, 18, 19, 33] ?_
 rintro ⟨i, a3, a2, a0⟩ ⟨v1, v2, v3, v4⟩
 have ah := v1.1
 refine yKD 20 ?_ ?_ <;> intro h1 a7
 refine zW 34 10 ?_
 refine zW 35 11 ?_
 refine zW 36 12 ?_
 refine zW 37 13 ?_
 refine zW 38 14 ?_
 refine zW 39 15 ?_
 refine zW 40 16 ?_
 refine zW 41 17 ?_
 refine zW 42 18 ?_
 refine zW 43 19 ?_
 refine KV Z Z Z Z Z Z O Z (fun w γ => f146 n τ0 (Network.mk w_.topology w_.trust w_.producers a0 w_.downNodes w_.failedLinks w_.inFlight w_.consumers w_.now w_.dropped) (γ.q 34 Z) (γ.q 35 Z) (γ.q 36 Z) (γ.q 37 Z) (γ.q 38 Z) (γ.q 39 Z) (γ.q 40 Z) (γ.q 41 Z) (γ.q 42 Z) (γ.q 43 Z) (An (acy a1).1 (An (acy a1).2.1 (An (acy a1).2.2.1 (An (afj v1) (An (acy a1).2.2.2.2.1 (An (acy a1).2.2.2.2.2.1 (An (acy a1).2.2.2.2.2.2.1 (An (acy a1).2.2.2.2.2.2.2.1 (An (acy a1).2.2.2.2.2.2.2.2.1 (acy a1).2.2.2.2.2.2.2.2.2))))))))) (i6 ((i : Nat) : Int))) fun ak => ?_
 refine yKA 27 ?_ ?_ <;> intro h2
 refine zW 44 33 ?_
 refine KF Z 45 Z Z Z Z Z O Z (fun w γ => f147 n τ0 w_.topology (γ.q 34 Z) (γ.q 44 Z) ((acy a1).1) a9 (i6 ((i : Nat) : Int))) ?_
 rintro ⟨p3, c3⟩ ab
 refine R0 ?_
 refine zN (kk := 8) 501 16 47 fun aj ai => ?_
 have a8 : i < a0.length := τ3
 refine zR 501 i a8 ?_
 rintro a5 rfl
 have aa : i < a0.length := τ3
 obtain ⟨e1, a6⟩ := gE aa
 have a4 : ok n e1 := v1.2 _ (List.mem_of_getElem? a6)
 refine R0 ?_
 refine zO (α := NodeP) (e := e1) 501 47 48 i a6 ?_
 rintro A1 B1 ⟨⟨p4, c4⟩, ⟨⟨⟩, ⟨p5, c5⟩⟩, ⟨p6, c6⟩, ⟨p7, c7⟩, ⟨p8, c8⟩, ⟨p9, c9⟩, ⟨⟩⟩ ae al
 refine zS 501 ae a8 ?_
 refine SA ?_
 refine R0 ?_
 refine WX.turn [54, 55, 56, 57, 46, 59, 60, 61] 62 Z (fun h hs => aej (α := NodeP) (e := (NodeP.mk e1.locl e1.cache e1.pending e1.seen (a3z w_.topology (a28 (a3g w_) w_.producers 1) ((i : Nat) : Int)) e1.measurements e1.dropped)) (x := ((p4, c4), ((), (p5, c5)), (p6, c6), (p7, c7), (p3, c3), (p9, c9), ())) aa hs) Z ?_
 refine zE 501 62 63 (hn := (show a0.length = ((a0.set i (NodeP.mk e1.locl e1.cache e1.pending e1.seen (a3z w_.topology (a28 (a3g w_) w_.producers 1) ((i : Nat) : Int)) e1.measurements e1.dropped))).length from by first | (simp; done) | (simp; omega))) ?_
 refine WX.respL (show ([(999, ⟨39, [.int .i64 (w_.topology.size), .slice K0 (w_.topology.links.length) M0, .slice K1 (w_.trust.keys.length) M1, .slice K2 (w_.trust.rules.length) M2, .slice K3 (w_.trust.anchors.length) M3, .slice K4 (w_.trust.certificates.length) M4, .slice K5 (w_.producers.length) M5, .slice (some a5) (a0.length) a2, .int .i64 (w_.downNodes), .slice K7 (w_.failedLinks.length) M7, .slice K8 (w_.inFlight.length) M8, .slice K9 (w_.consumers.length) M9, .int .i64 (w_.now), .int .i64 (w_.dropped)]⟩)] : Locs) = [(999, ⟨39, [.int .i64 (w_.topology.size), .slice K0 (w_.topology.links.length) M0, .slice K1 (w_.trust.keys.length) M1, .slice K2 (w_.trust.rules.length) M2, .slice K3 (w_.trust.anchors.length) M3, .slice K4 (w_.trust.certificates.length) M4, .slice K5 (w_.producers.length) M5, .slice (some a5) (((a0.set i (NodeP.mk e1.locl e1.cache e1.pending e1.seen (a3z w_.topology (a28 (a3g w_) w_.producers 1) ((i : Nat) : Int)) e1.measurements e1.dropped))).length) a2, .int .i64 (w_.downNodes), .slice K7 (w_.failedLinks.length) M7, .slice K8 (w_.inFlight.length) M8, .slice K9 (w_.consumers.length) M9, .int .i64 (w_.now), .int .i64 (w_.dropped)]⟩)] from by simp only [List.length_set]) ?_
 refine SL 38 ((a0.set i (NodeP.mk e1.locl e1.cache e1.pending e1.seen (a3z w_.topology (a28 (a3g w_) w_.producers 1) ((i : Nat) : Int)) e1.measurements e1.dropped))).length (e := by first | (simp; done) | (simp; omega)) ?_
 refine SL 18 ((a0.set i (NodeP.mk e1.locl e1.cache e1.pending e1.seen (a3z w_.topology (a28 (a3g w_) w_.producers 1) ((i : Nat) : Int)) e1.measurements e1.dropped))).length (e := by first | (simp; done) | (simp; omega)) ?_
 refine zU [64] 16 ?_
 have r1 := (okl (acy a1).2.2.1).1
 have r2 := (okl a9).1
 have r3 := (okl ab).1
 have r4 := (okl (ad6 a4).1).1
 have r5 := (okl (ad6 a4).2.2.1).1
 have r6 := (okl (ad6 a4).2.2.2.1).1
 have r7 := (okl (ad6 a4).2.2.2.2.2.1).1
 have r8 := i8 ((ad6 a4).2.2.2.2.2.2)
 exact IT (i + 1, (some a5), a2, (a0.set i (NodeP.mk e1.locl e1.cache e1.pending e1.seen (a3z w_.topology (a28 (a3g w_) w_.producers 1) ((i : Nat) : Int)) e1.measurements e1.dropped))) ⟨(ada τ2 (aef v1.2 (show ok n ((NodeP.mk e1.locl e1.cache e1.pending e1.seen (a3z w_.topology (a28 (a3g w_) w_.producers 1) ((i : Nat) : Int)) e1.measurements e1.dropped) : NodeP) from (An (ad6 a4).1 (An (ad6 a4).2.1 (An (ad6 a4).2.2.1 (An (ad6 a4).2.2.2.1 (An ab (An (ad6 a4).2.2.2.2.2.1 (ad6 a4).2.2.2.2.2.2)))))))) : ok n ((a0.set i (NodeP.mk e1.locl e1.cache e1.pending e1.seen (a3z w_.topology (a28 (a3g w_) w_.producers 1) ((i : Nat) : Int)) e1.measurements e1.dropped)) : List NodeP)), τ6, τ0, (by rw [v4]; rw [a6u]; simp only [(show i ≤ w_.nodes.length by omega), h1, a7, h2, a6, cT, cF, ↓reduceIte, Bool.false_eq_true])⟩ τ1 [10, 11, 12, 13, 14, 15, 16, 17, 18, 19, 33]
 refine SA ?_
 exact ITr Z (i + 1, a3, a2, a0) ⟨(afj v1), τ6, τ0, (by rw [v4]; rw [a6u]; simp only [(show i ≤ w_.nodes.length by omega), h1, a7, h2, cT, cF, ↓reduceIte, Bool.false_eq_true])⟩ τ1 [10, 11, 12, 13, 14, 15, 16, 17, 18, 19, 33]
 have ac := v4.trans (show _ = (i, (a0 : List NodeP)) by rw [a6u]; simp only [(show i ≤ w_.nodes.length by omega), h1, a7, cT, cF, ↓reduceIte, Bool.false_eq_true])
 have af : a4d w_ = (Network.mk w_.topology w_.trust w_.producers a0 w_.downNodes w_.failedLinks w_.inFlight w_.consumers w_.now w_.dropped) := by simp only [a4d, ac, cT, cF]
 refine R0 ?_
 refine WX.fin ttOk Z fun w1 G bs hI hΓ => ?_
 rw [af]
 exact Post.ofL 999 [10, 11, 12, 13, 14, 15, 16, 17, 18, 19] (((), (K0, M0)), ((K1, M1), (K2, M2), (K3, M3), (K4, M4)), (K5, M5), (a3, a2), (), (K7, M7), (K8, M8), (K9, M9), (), ()) hI hΓ Z Z Z (by rw [hI.pin _ rfl]; first | done | rfl) (An (acy a1).1 (An (acy a1).2.1 (An (acy a1).2.2.1 (An (afj v1) (An (acy a1).2.2.2.2.1 (An (acy a1).2.2.2.2.2.1 (An (acy a1).2.2.2.2.2.2.1 (An (acy a1).2.2.2.2.2.2.2.1 (An (acy a1).2.2.2.2.2.2.2.2.1 (acy a1).2.2.2.2.2.2.2.2.2)))))))))
theorem f7 (hn : n + 1 ≤ 9) (w_ : Network) (N0 : Rd w K0 M0 w_.topology.links) (N1 : Rd w K1 M1 w_.trust.keys) (N2 : Rd w K2 M2 w_.trust.rules) (N3 : Rd w K3 M3 w_.trust.anchors) (N4 : Rd w K4 M4 w_.trust.certificates) (N5 : Rd w K5 M5 w_.producers) (N6 : Rd w K6 M6 w_.nodes) (N7 : Rd w K7 M7 w_.failedLinks) (N8 : Rd w K8 M8 w_.inFlight) (N9 : Rd w K9 M9 w_.consumers) (a0 : ok n w_) :
 DP 7 #[afp w_ K0 M0 K1 M1 K2 M2 K3 M3 K4 M4 K5 M5 K6 M6 K7 M7 K8 M8 K9 M9] w (pA w n (a0b w_)) := by
 have hb := bS1 hn
 refine EN Tryz.func7 Z (aC 0 N0 (aC 1 N1 (aC 2 N2 (aC 3 N3 (aC 4 N4 (aC 5 N5 (aC 6 N6 (aC 7 N7 (aC 8 N8 (aC 9 N9 adc)))))))))) ?_
 refine KF Z 10 Z Z Z Z Z O Z (fun w γ => f38 n τ0 w_ (γ.q 0 Z) (γ.q 1 Z) (γ.q 2 Z) (γ.q 3 Z) (γ.q 4 Z) (γ.q 5 Z) (γ.q 6 Z) (γ.q 7 Z) (γ.q 8 Z) (γ.q 9 Z) a0) ?_
 rintro ⟨⟨⟨⟩, ⟨p1, c1⟩⟩, ⟨⟨p2, c2⟩, ⟨p3, c3⟩, ⟨p4, c4⟩, ⟨p5, c5⟩⟩, ⟨p6, c6⟩, ⟨p7, c7⟩, ⟨⟩, ⟨p8, c8⟩, ⟨p9, c9⟩, ⟨aa, ag⟩, ⟨⟩, ⟨⟩⟩ a3
 dsimp only
 refine R0 ?_
 refine CU (a5l (a9j w_)) 3 [20, 21, 22, 23, 24, 25, 26, 27, 28, 29] 30 Z Z Z Z Z Z Z O Z (fun w β H η σ γ => f39 n τ0 η (β 3) (a9j w_) p1 c1 p2 c2 p3 c3 p4 c4 p5 c5 p6 c6 p7 c7 p8 c8 p9 c9 aa ag σ a3) O ?_
 rintro ⟨⟨⟨⟩, ⟨ak, af⟩⟩, ⟨⟨ab, a1⟩, ⟨a7, ai⟩, ⟨aj, a9⟩, ⟨am, a2⟩⟩, ⟨ah, a4⟩, ⟨ae, ao⟩, ⟨⟩, ⟨ac, a6⟩, ⟨a8, al⟩, ⟨an, ad⟩, ⟨⟩, ⟨⟩⟩ a5
 dsimp only
 rw [show a0b w_ = (a5l (a9j w_)) by simp only [a0b, cT, cF]]
 exact yX [40, 41, 42, 43, 44, 45, 46, 47, 48, 49] (((), (ak, af)), ((ab, a1), (a7, ai), (aj, a9), (am, a2)), (ah, a4), (ae, ao), (), (ac, a6), (a8, al), (an, ad), (), ()) a5
theorem f10 (hn : n + 1 ≤ 9) (w_ : Network) (N0 : Rd w K0 M0 w_.topology.links) (N1 : Rd w K1 M1 w_.trust.keys) (N2 : Rd w K2 M2 w_.trust.rules) (N3 : Rd w K3 M3 w_.trust.anchors) (N4 : Rd w K4 M4 w_.trust.certificates) (N5 : Rd w K5 M5 w_.producers) (N6 : Rd w K6 M6 w_.nodes) (N7 : Rd w K7 M7 w_.failedLinks) (N8 : Rd w K8 M8 w_.inFlight) (N9 : Rd w K9 M9 w_.consumers) (a0 : ok n w_) :
 DP 10 #[afp w_ K0 M0 K1 M1 K2 M2 K3 M3 K4 M4 K5 M5 K6 M6 K7 M7 K8 M8 K9 M9] w (pA w n (abg w_)) := by
 have hb := bS1 hn
 refine EN Tryz.func10 Z (aC 0 N0 (aC 1 N1 (aC 2 N2 (aC 3 N3 (aC 4 N4 (aC 5 N5 (aC 6 N6 (aC 7 N7 (aC 8 N8 (aC 9 N9 adc)))))))))) ?_
 refine KF Z 10 Z Z Z Z Z O Z (fun w γ => f51 n τ0 w_ (γ.q 0 Z) (γ.q 1 Z) (γ.q 2 Z) (γ.q 3 Z) (γ.q 4 Z) (γ.q 5 Z) (γ.q 6 Z) (γ.q 7 Z) (γ.q 8 Z) (γ.q 9 Z) a0) ?_
 rintro ⟨⟨⟨⟩, ⟨p1, c1⟩⟩, ⟨⟨p2, c2⟩, ⟨p3, c3⟩, ⟨p4, c4⟩, ⟨p5, c5⟩⟩, ⟨p6, c6⟩, ⟨p7, c7⟩, ⟨⟩, ⟨p8, c8⟩, ⟨p9, c9⟩, ⟨aa, ag⟩, ⟨⟩, ⟨⟩⟩ a3
 dsimp only
 have q1 := l32n w_
 try dsimp only at q1
 try simp only [List.length_nil] at q1
 refine R0 ?_
 refine CU (a4d (a0c w_)) 3 [20, 21, 22, 23, 24, 25, 26, 27, 28, 29] 30 Z Z Z Z Z Z Z O Z (fun w β H η σ γ => f52 n τ0 η (β 3) (a0c w_) p1 c1 p2 c2 p3 c3 p4 c4 p5 c5 p6 c6 p7 c7 p8 c8 p9 c9 aa ag σ a3) O ?_
 rintro ⟨⟨⟨⟩, ⟨ak, af⟩⟩, ⟨⟨ab, a1⟩, ⟨a7, ai⟩, ⟨aj, a9⟩, ⟨am, a2⟩⟩, ⟨ah, a4⟩, ⟨ae, ao⟩, ⟨⟩, ⟨ac, a6⟩, ⟨a8, al⟩, ⟨an, ad⟩, ⟨⟩, ⟨⟩⟩ a5
 dsimp only
 rw [show abg w_ = (a4d (a0c w_)) by simp only [abg, cT, cF]]
 exact yX [40, 41, 42, 43, 44, 45, 46, 47, 48, 49] (((), (ak, af)), ((ab, a1), (a7, ai), (aj, a9), (am, a2)), (ah, a4), (ae, ao), (), (ac, a6), (a8, al), (an, ad), (), ()) a5
theorem f26 (hn : n + 1 ≤ 9) (g : Topology) (N0 : Rd w K0 M0 g.links) (t : TrustPolicy) (N1 : Rd w K1 M1 t.keys) (N2 : Rd w K2 M2 t.rules) (N3 : Rd w K3 M3 t.anchors) (N4 : Rd w K4 M4 t.certificates) {h_ : List TableEntry} (N5 : Rd w K5 M5 h_) {capacity : Int} (a1 : ok n g) (a4 : ok n t) (a2 : ok n h_) (a0 : ok n capacity) :
 DP 26 #[aeq g K0 M0, af4 t K1 M1 K2 M2 K3 M3 K4 M4, vS K5 h_ M5, vI capacity] w (pA w n (a09 g t h_ capacity)) := by
 have hb := bS1 hn
 refine EN Tryz.func26 Z (aS6 N0 N1 N2 N3 N4 N5) ?_
 refine KV Z Z Z Z Z Z O Z (fun w γ => f53 n τ0 g (γ.q 0 Z) a1) fun bg => ?_
 refine yKN 13 ?_ ?_ <;> intro h1 bf
 refine F1 6 Link ?_
 refine F1 7 Key ?_
 refine F1 8 Rule ?_
 refine F1 9 Name ?_
 refine F1 10 DataP ?_
 refine F1 11 TableEntry ?_
 refine F1 12 NodeP ?_
 refine F1 13 Int ?_
 refine F1 14 PacketInFlight ?_
 refine F1 15 Consumer ?_
 rw [show a09 g t h_ capacity = (Network.mk (Topology.mk 0 ([])) (TrustPolicy.mk ([]) ([]) ([]) ([])) ([]) ([]) 0 ([]) ([]) ([]) 0 0) by simp only [a09, h1, cT, cF]]
 exact yX [6, 7, 8, 9, 10, 11, 12, 13, 14, 15] (((), (none, 0)), ((none, 0), (none, 0), (none, 0), (none, 0)), (none, 0), (none, 0), (), (none, 0), (none, 0), (none, 0), (), ()) (An (An (i6 0) (adf (α := Link))) (An (An (adf (α := Key)) (An (adf (α := Rule)) (An (adf (α := Name)) (adf (α := DataP))))) (An (adf (α := TableEntry)) (An (adf (α := NodeP)) (An (i6 0) (An (adf (α := Int)) (An (adf (α := PacketInFlight)) (An (adf (α := Consumer)) (An (i6 0) (i6 0))))))))))
 refine KV Z Z Z Z Z Z O Z (fun w γ => f82 n τ0 t (γ.q 1 Z) (γ.q 2 Z) (γ.q 3 Z) (γ.q 4 Z) a4) fun bh => ?_
 refine yKN 18 ?_ ?_ <;> intro h2 bc
 refine F1 16 Link ?_
 refine F1 17 Key ?_
 refine F1 18 Rule ?_
 refine F1 19 Name ?_
 refine F1 20 DataP ?_
 refine F1 21 TableEntry ?_
 refine F1 22 NodeP ?_
 refine F1 23 Int ?_
 refine F1 24 PacketInFlight ?_
 refine F1 25 Consumer ?_
 rw [show a09 g t h_ capacity = (Network.mk (Topology.mk 0 ([])) (TrustPolicy.mk ([]) ([]) ([]) ([])) ([]) ([]) 0 ([]) ([]) ([]) 0 0) by simp only [a09, h1, h2, cT, cF]]
 exact yX [16, 17, 18, 19, 20, 21, 22, 23, 24, 25] (((), (none, 0)), ((none, 0), (none, 0), (none, 0), (none, 0)), (none, 0), (none, 0), (), (none, 0), (none, 0), (none, 0), (), ()) (An (An (i6 0) (adf (α := Link))) (An (An (adf (α := Key)) (An (adf (α := Rule)) (An (adf (α := Name)) (adf (α := DataP))))) (An (adf (α := TableEntry)) (An (adf (α := NodeP)) (An (i6 0) (An (adf (α := Int)) (An (adf (α := PacketInFlight)) (An (adf (α := Consumer)) (An (i6 0) (i6 0))))))))))
 refine KV Z Z Z Z Z Z O Z (fun w γ => f83 n τ0 (γ.q 5 Z) a2 ((ad0 a1).1)) fun be => ?_
 refine yKN 24 ?_ ?_ <;> intro h3 b9
 refine F1 26 Link ?_
 refine F1 27 Key ?_
 refine F1 28 Rule ?_
 refine F1 29 Name ?_
 refine F1 30 DataP ?_
 refine F1 31 TableEntry ?_
 refine F1 32 NodeP ?_
 refine F1 33 Int ?_
 refine F1 34 PacketInFlight ?_
 refine F1 35 Consumer ?_
 rw [show a09 g t h_ capacity = (Network.mk (Topology.mk 0 ([])) (TrustPolicy.mk ([]) ([]) ([]) ([])) ([]) ([]) 0 ([]) ([]) ([]) 0 0) by simp only [a09, h1, h2, h3, cT, cF]]
 exact yX [26, 27, 28, 29, 30, 31, 32, 33, 34, 35] (((), (none, 0)), ((none, 0), (none, 0), (none, 0), (none, 0)), (none, 0), (none, 0), (), (none, 0), (none, 0), (none, 0), (), ()) (An (An (i6 0) (adf (α := Link))) (An (An (adf (α := Key)) (An (adf (α := Rule)) (An (adf (α := Name)) (adf (α := DataP))))) (An (adf (α := TableEntry)) (An (adf (α := NodeP)) (An (i6 0) (An (adf (α := Int)) (An (adf (α := PacketInFlight)) (An (adf (α := Consumer)) (An (i6 0) (i6 0))))))))))
 refine R0 ?_
 refine WX.draw [8] mixed fun bs G0 aq => ?_
 refine dT 6 [0, 4, 9] ?_
 refine DX.pend 7 9 ⟨39, [.int .i64 (0), .slice none (0) 0, .slice none (0) 0, .slice none (0) 0, .slice none (0) 0, .slice none (0) 0, .slice none (0) 0, .slice none (0) 0, .int .i64 (0), .slice none (0) 0, .slice none (0) 0, .slice none (0) 0, .int .i64 (0), .int .i64 (0)]⟩ ?_
 refine DXA.callF 1 36 (fun _ _ h => GoT.ow_rd h) (fun _ f hf => GoT.fak f hf) ttOk Z Z Z Z Z Z Z J J J Z Z Z Z Z Z Z Z Z Z O Z Z (fun w G bs hI hΓ => f84 n τ0 g (hΓ.get 0 Z) a1) O O ?_
 rintro ⟨⟨⟩, ⟨p1, c1⟩⟩ al
 refine DXA.callF 3 38 (fun _ _ h => GoT.ow_rd h) (fun _ f hf => GoT.fak f hf) ttOk Z Z Z Z Z Z Z J J J Z Z Z Z Z Z Z Z Z Z O Z Z (fun w G bs hI hΓ => f85 n τ0 t (hΓ.get 1 Z) (hΓ.get 2 Z) (hΓ.get 3 Z) (hΓ.get 4 Z) a4) O O ?_
 rintro ⟨⟨p2, c2⟩, ⟨p3, c3⟩, ⟨p4, c4⟩, ⟨p5, c5⟩⟩ a7
 dsimp only
 refine DXA.callF 5 46 (fun _ _ h => GoT.ow_rd h) (fun _ f hf => GoT.fak f hf) ttOk Z Z Z Z Z Z Z J J J Z Z Z Z Z Z Z Z Z Z O Z Z (fun w G bs hI hΓ => f86 n τ0 (hΓ.get 5 Z) a2) O O ?_
 rintro ⟨p6, c6⟩ b5
 dsimp only
 have q1 := alg h_
 refine DXA.take 6 J J Z Z Z Z Z Z Z Z (akg ttOk Z) ?_
 refine DXA.tail [8] ttOk Z Z Z Z Z Z J Z Z J ?_
 refine R0 ?_
 refine WX.row0 501 8 none Z ?_
 refine F0 48 NodeP ?_
 have r1 := i8 ((ad0 a1).1)
 have bb := ast (show a3s g = true by assumption)
 refine LK (0, none, 0, [], ([] : List NodeP)) (fun | (i, a5, a6, a3, w_) => ((i ≤ g.size.toNat) ∧ JE n w_ ∧ (w_.length ≤ i) ∧ (a84 capacity (g.size.toNat) ([] : List NodeP) = a84 capacity (g.size.toNat - i) w_), g.size.toNat - i, [(35, .v (vI i))], [(9, ⟨39, [.int .i64 ((a2i g).size), .slice p1 (((a2i g).links).length) c1, .slice p2 (((a1b t).keys).length) c2, .slice p3 (((a1b t).rules).length) c3, .slice p4 (((a1b t).anchors).length) c4, .slice p5 (((a1b t).certificates).length) c5, .slice p6 (((a2w h_)).length) c6, .slice a5 (w_.length) a6, .int .i64 (0), .slice none (0) 0, .slice none (0) 0, .slice none (0) 0, .int .i64 (0), .int .i64 (0)]⟩)], [(501, ⟨8, a5, w_.length, a6, a3⟩)], [(48, MF.ol a3 (w_ : List NodeP))])) ⟨zl, nA, τ7, Z⟩ [34, 9, 8, 3] [8] [0, 1, 2, 3, 4, 5, 37, 42, 43, 44, 45, 47] [0, 1, 2, 3, 4, 5, 37, 42, 43, 44, 45, 47, 48] ?_
 rintro ⟨i, a5, a6, a3, w_⟩ ⟨v1, v2, v3, v4⟩
 refine yKD 36 ?_ ?_ <;> intro h4 ba
 refine zW 49 37 ?_
 refine zW 50 42 ?_
 refine zW 51 43 ?_
 refine zW 52 44 ?_
 refine zW 53 45 ?_
 refine zW 54 47 ?_
 refine R0 ?_
 refine WX.draw [5, 6, 7] mixed fun bs G0 aq => ?_
 refine dT 5 [1, 2, 5] ?_
 refine DXF 3 55 Z J Z Z Z Z Z Z O Z (fun w γ => f87 n τ0 a0) ?_
 rintro ⟨⟨p7, c7⟩, ⟨⟨⟩, ⟨p8, c8⟩⟩, ⟨p9, c9⟩, ⟨aj, ad⟩, ⟨b4, b2⟩, ⟨ak, ag⟩, ⟨⟩⟩ b3
 refine DX.tail2 [4, 5, 6, 7] Z Z J ?_
 refine zB fun bi => ?_
 refine zT (α := NodeP) [61, 62, 63, 64, 65, 66] 67 (a81 capacity) ((p7, c7), ((), (p8, c8)), (p9, c9), (aj, ad), (b4, b2), (ak, ag), ()) fun _ => ?_
 have r2 := i8 a0
 refine WX.know (fun G hΓ => (hΓ.get 67 Z : OwL _ _ _).rd.one) fun b0 => ?_
 refine zP 501 41 ((w_ ++ [(a81 capacity)]) : List NodeP).length b0 fun ae aw => ?_
 refine zV [48, 67] 68 ?_
 refine SA ?_
 refine zU [68] 48 ?_
 exact ITr Z (i + 1, ae, aw, _, ((w_ ++ [(a81 capacity)]) : List NodeP)) ⟨τ0, (aeb v2 (all_cons (α := NodeP) b3 nA)), τ2, (by rw [v4, show g.size.toNat - i = (g.size.toNat - (i + 1)) + 1 by omega]; simp only [a84, cT, cF])⟩ τ1 [0, 1, 2, 3, 4, 5, 37, 42, 43, 44, 45, 47, 48]
 have az := v4.trans (show _ = (w_ : List NodeP) by rw [show g.size.toNat - i = 0 by omega]; simp only [a84, cT, cF])
 refine yE 501 48 69 ?_
 refine zW 71 37 ?_
 refine zW 72 42 ?_
 refine zW 73 43 ?_
 refine zW 74 44 ?_
 refine zW 75 45 ?_
 refine zW 76 47 ?_
 refine CF 77 Z Z Z Z Z O Z (fun w γ => f7 n τ0 (Network.mk (a2i g) (a1b t) (a2w h_) w_ 0 ([]) ([]) ([]) 0 0) (γ.q 71 Z) (γ.q 72 Z) (γ.q 73 Z) (γ.q 74 Z) (γ.q 75 Z) (γ.q 76 Z) (γ.q 69 Z) (aib _ _ _) (aib _ _ _) (aib _ _ _) (An al (An a7 (An b5 (An (ada τ0 v2 : ok n (w_ : List NodeP)) (An (i6 0) (An (adf (α := Int)) (An (adf (α := PacketInFlight)) (An (adf (α := Consumer)) (An (i6 0) (i6 0))))))))))) ?_
 rintro ⟨⟨⟨⟩, ⟨b6, b1⟩⟩, ⟨⟨av, a8⟩, ⟨aa, ah⟩, ⟨au, b7⟩, ⟨ai, ar⟩⟩, ⟨af, ax⟩, ⟨an, ay⟩, ⟨⟩, ⟨am, ac⟩, ⟨b8, ap⟩, ⟨ab, a9⟩, ⟨⟩, ⟨⟩⟩ ao
 dsimp only
 rw [show a09 g t h_ capacity = (a0b (Network.mk (a2i g) (a1b t) (a2w h_) w_ 0 ([]) ([]) ([]) 0 0)) by simp only [a09, h1, h2, h3, az, cT, cF]]
 exact yX [87, 88, 89, 90, 91, 92, 93, 94, 95, 96] (((), (b6, b1)), ((av, a8), (aa, ah), (au, b7), (ai, ar)), (af, ax), (an, ay), (), (am, ac), (b8, ap), (ab, a9), (), ()) ao
theorem f22 (hn : n + 1 ≤ 9) (g : Topology) (N0 : Rd w K0 M0 g.links) (t : TrustPolicy) (N1 : Rd w K1 M1 t.keys) (N2 : Rd w K2 M2 t.rules) (N3 : Rd w K3 M3 t.anchors) (N4 : Rd w K4 M4 t.certificates) {h_ : List TableEntry} (N5 : Rd w K5 M5 h_) {caps : Int} (a2 : ok n g) (a4 : ok n t) (a3 : ok n h_) (a0 : ok n caps) :
 DP 22 #[aeq g K0 M0, af4 t K1 M1 K2 M2 K3 M3 K4 M4, vS K5 h_ M5, vI caps] w (pA w n (a1u g t h_ caps)) := by
 have hb := bS1 hn
 refine EN Tryz.func22 Z (aS6 N0 N1 N2 N3 N4 N5) ?_
 refine KV Z Z Z Z Z Z O Z (fun w γ => f72 n τ0 g (γ.q 0 Z) a2) fun bn => ?_
 refine yKN 14 ?_ ?_ <;> intro h1 bm
 refine F1 6 Link ?_
 refine F1 7 Key ?_
 refine F1 8 Rule ?_
 refine F1 9 Name ?_
 refine F1 10 DataP ?_
 refine F1 11 TableEntry ?_
 refine F1 12 NodeP ?_
 refine F1 13 Int ?_
 refine F1 14 PacketInFlight ?_
 refine F1 15 Consumer ?_
 rw [show a1u g t h_ caps = (Network.mk (Topology.mk 0 ([])) (TrustPolicy.mk ([]) ([]) ([]) ([])) ([]) ([]) 0 ([]) ([]) ([]) 0 0) by simp only [a1u, h1, cT, cF]]
 exact yX [6, 7, 8, 9, 10, 11, 12, 13, 14, 15] (((), (none, 0)), ((none, 0), (none, 0), (none, 0), (none, 0)), (none, 0), (none, 0), (), (none, 0), (none, 0), (none, 0), (), ()) (An (An (i6 0) (adf (α := Link))) (An (An (adf (α := Key)) (An (adf (α := Rule)) (An (adf (α := Name)) (adf (α := DataP))))) (An (adf (α := TableEntry)) (An (adf (α := NodeP)) (An (i6 0) (An (adf (α := Int)) (An (adf (α := PacketInFlight)) (An (adf (α := Consumer)) (An (i6 0) (i6 0))))))))))
 refine KV Z Z Z Z Z Z O Z (fun w γ => f73 n τ0 t (γ.q 1 Z) (γ.q 2 Z) (γ.q 3 Z) (γ.q 4 Z) a4) fun bp => ?_
 refine yKN 19 ?_ ?_ <;> intro h2 bk
 refine F1 16 Link ?_
 refine F1 17 Key ?_
 refine F1 18 Rule ?_
 refine F1 19 Name ?_
 refine F1 20 DataP ?_
 refine F1 21 TableEntry ?_
 refine F1 22 NodeP ?_
 refine F1 23 Int ?_
 refine F1 24 PacketInFlight ?_
 refine F1 25 Consumer ?_
 rw [show a1u g t h_ caps = (Network.mk (Topology.mk 0 ([])) (TrustPolicy.mk ([]) ([]) ([]) ([])) ([]) ([]) 0 ([]) ([]) ([]) 0 0) by simp only [a1u, h1, h2, cT, cF]]
 exact yX [16, 17, 18, 19, 20, 21, 22, 23, 24, 25] (((), (none, 0)), ((none, 0), (none, 0), (none, 0), (none, 0)), (none, 0), (none, 0), (), (none, 0), (none, 0), (none, 0), (), ()) (An (An (i6 0) (adf (α := Link))) (An (An (adf (α := Key)) (An (adf (α := Rule)) (An (adf (α := Name)) (adf (α := DataP))))) (An (adf (α := TableEntry)) (An (adf (α := NodeP)) (An (i6 0) (An (adf (α := Int)) (An (adf (α := PacketInFlight)) (An (adf (α := Consumer)) (An (i6 0) (i6 0))))))))))
 refine KV Z Z Z Z Z Z O Z (fun w γ => f74 n τ0 (γ.q 5 Z) a3 ((ad0 a2).1)) fun bl => ?_
 refine yKN 25 ?_ ?_ <;> intro h3 bf
 refine F1 26 Link ?_
 refine F1 27 Key ?_
 refine F1 28 Rule ?_
 refine F1 29 Name ?_
 refine F1 30 DataP ?_
 refine F1 31 TableEntry ?_
 refine F1 32 NodeP ?_
 refine F1 33 Int ?_
 refine F1 34 PacketInFlight ?_
 refine F1 35 Consumer ?_
 rw [show a1u g t h_ caps = (Network.mk (Topology.mk 0 ([])) (TrustPolicy.mk ([]) ([]) ([]) ([])) ([]) ([]) 0 ([]) ([]) ([]) 0 0) by simp only [a1u, h1, h2, h3, cT, cF]]
 exact yX [26, 27, 28, 29, 30, 31, 32, 33, 34, 35] (((), (none, 0)), ((none, 0), (none, 0), (none, 0), (none, 0)), (none, 0), (none, 0), (), (none, 0), (none, 0), (none, 0), (), ()) (An (An (i6 0) (adf (α := Link))) (An (An (adf (α := Key)) (An (adf (α := Rule)) (An (adf (α := Name)) (adf (α := DataP))))) (An (adf (α := TableEntry)) (An (adf (α := NodeP)) (An (i6 0) (An (adf (α := Int)) (An (adf (α := PacketInFlight)) (An (adf (α := Consumer)) (An (i6 0) (i6 0))))))))))
 refine KF Z 36 Z Z Z Z Z O Z (fun w γ => f51 n τ0 (Network.mk g t h_ ([]) 0 ([]) ([]) ([]) 0 0) (γ.q 0 Z) (γ.q 1 Z) (γ.q 2 Z) (γ.q 3 Z) (γ.q 4 Z) (γ.q 5 Z) (aib _ _ _) (aib _ _ _) (aib _ _ _) (aib _ _ _) (An a2 (An a4 (An a3 (An (adf (α := NodeP)) (An (i6 0) (An (adf (α := Int)) (An (adf (α := PacketInFlight)) (An (adf (α := Consumer)) (An (i6 0) (i6 0))))))))))) ?_
 rintro ⟨⟨⟨⟩, ⟨p1, c1⟩⟩, ⟨⟨p2, c2⟩, ⟨p3, c3⟩, ⟨p4, c4⟩, ⟨p5, c5⟩⟩, ⟨p6, c6⟩, ⟨p7, c7⟩, ⟨⟩, ⟨p8, c8⟩, ⟨p9, c9⟩, ⟨a8, a7⟩, ⟨⟩, ⟨⟩⟩ a1
 dsimp only
 have q1 := l32n (Network.mk g t h_ ([]) 0 ([]) ([]) ([]) 0 0)
 try dsimp only at q1
 try simp only [List.length_nil] at q1
 have r1 := i8 ((ad0 a2).1)
 have bj := apx (show a3c g = true by assumption)
 refine LM Z (0, p7, c7, ((a0c (Network.mk g t h_ ([]) 0 ([]) ([]) ([]) 0 0)).nodes : List NodeP)) (fun | (i, a5, a6, w_) => ((i ≤ g.size.toNat) ∧ JL n w_ ∧ (w_.length ≤ i + ((a0c (Network.mk g t h_ ([]) 0 ([]) ([]) ([]) 0 0)).nodes).length) ∧ (a3k caps (g.size.toNat) ((a0c (Network.mk g t h_ ([]) 0 ([]) ([]) ([]) 0 0)).nodes : List NodeP) = a3k caps (g.size.toNat - i) w_), g.size.toNat - i, [(10, .v (vI i))], [(9, ⟨39, [.int .i64 ((a0c (Network.mk g t h_ ([]) 0 ([]) ([]) ([]) 0 0)).topology.size), .slice p1 (((a0c (Network.mk g t h_ ([]) 0 ([]) ([]) ([]) 0 0)).topology.links).length) c1, .slice p2 (((a0c (Network.mk g t h_ ([]) 0 ([]) ([]) ([]) 0 0)).trust.keys).length) c2, .slice p3 (((a0c (Network.mk g t h_ ([]) 0 ([]) ([]) ([]) 0 0)).trust.rules).length) c3, .slice p4 (((a0c (Network.mk g t h_ ([]) 0 ([]) ([]) ([]) 0 0)).trust.anchors).length) c4, .slice p5 (((a0c (Network.mk g t h_ ([]) 0 ([]) ([]) ([]) 0 0)).trust.certificates).length) c5, .slice p6 (((a0c (Network.mk g t h_ ([]) 0 ([]) ([]) ([]) 0 0)).producers).length) c6, .slice a5 (w_.length) a6, .int .i64 ((a0c (Network.mk g t h_ ([]) 0 ([]) ([]) ([]) 0 0)).downNodes), .slice p8 (((a0c (Network.mk g t h_ ([]) 0 ([]) ([]) ([]) 0 0)).failedLinks).length) c8, .slice p9 (((a0c (Network.mk g t h_ ([]) 0 ([]) ([]) ([]) 0 0)).inFlight).length) c9, .slice a8 (((a0c (Network.mk g t h_ ([]) 0 ([]) ([]) ([]) 0 0)).consumers).length) a7, .int .i64 ((a0c (Network.mk g t h_ ([]) 0 ([]) ([]) ([]) 0 0)).now), .int .i64 ((a0c (Network.mk g t h_ ([]) 0 ([]) ([]) ([]) 0 0)).dropped)]⟩)], [], [(52, MF.os a5 a6 w_), (53, MF.os p8 c8 ((a0c (Network.mk g t h_ ([]) 0 ([]) ([]) ([]) 0 0)).failedLinks)), (54, MF.os p9 c9 ((a0c (Network.mk g t h_ ([]) 0 ([]) ([]) ([]) 0 0)).inFlight)), (55, MF.os a8 a7 ((a0c (Network.mk g t h_ ([]) 0 ([]) ([]) ([]) 0 0)).consumers))])) ⟨zl, (acy a1).2.2.2.1, τ7, Z⟩ [9, 8, 4, 3] [8, 4] [0, 1, 2, 3, 4, 5, 46, 47, 48, 49, 50, 51] [0, 1, 2, 3, 4, 5, 46, 47, 48, 49, 50, 51, 52, 53, 54, 55] ?_
 rintro ⟨i, a5, a6, w_⟩ ⟨v1, v2, v3, v4⟩
 have be := v2.1
 refine yKD 35 ?_ ?_ <;> intro h4 bi
 refine zW 56 46 ?_
 refine zW 57 47 ?_
 refine zW 58 48 ?_
 refine zW 59 49 ?_
 refine zW 60 50 ?_
 refine zW 61 51 ?_
 refine zW 62 52 ?_
 refine zW 63 53 ?_
 refine zW 64 54 ?_
 refine zW 65 55 ?_
 refine R0 ?_
 refine WX.draw [5, 6, 7] mixed fun bs G0 bo => ?_
 refine dT 5 [1, 2, 5] ?_
 refine DXF 3 66 Z J Z Z Z Z Z Z O Z (fun w γ => f75 n τ0 a0) ?_
 rintro ⟨⟨b7, b6⟩, ⟨⟨⟩, ⟨am, aj⟩⟩, ⟨b4, ax⟩, ⟨ag, b5⟩, ⟨b8, aa⟩, ⟨aw, ak⟩, ⟨⟩⟩ a9
 refine DX.tail2 [4, 5, 6, 7] Z Z J ?_
 refine zB fun bg => ?_
 refine zN (kk := 8) 501 52 78 fun bh bq => ?_
 refine zT (α := NodeP) [72, 73, 74, 75, 76, 77] 79 (a49 caps) ((b7, b6), ((), (am, aj)), (b4, ax), (ag, b5), (b8, aa), (aw, ak), ()) fun _ => ?_
 have r2 := i8 a0
 refine WX.know (fun G hΓ => (hΓ.get 79 Z : OwL _ _ _).rd.one) fun b3 => ?_
 refine zP 501 42 ((w_ ++ [(a49 caps)]) : List NodeP).length b3 fun av ba => ?_
 refine zV [78, 79] 80 ?_
 refine SA ?_
 refine yE 501 80 81 ?_
 refine zU [82] 52 ?_
 exact IT (i + 1, av, ba, (w_ ++ [(a49 caps)])) ⟨τ0, (ada τ6 (aeb v2.2 (all_cons (α := NodeP) a9 nA)) : ok n ((w_ ++ [(a49 caps)]) : List NodeP)), τ2, (by rw [v4, show g.size.toNat - i = (g.size.toNat - (i + 1)) + 1 by omega]; simp only [a3k, cT, cF])⟩ τ1 [0, 1, 2, 3, 4, 5, 46, 47, 48, 49, 50, 51, 52, 53, 54, 55]
 have b1 := v4.trans (show _ = (w_ : List NodeP) by rw [show g.size.toNat - i = 0 by omega]; simp only [a3k, cT, cF])
 refine R0 ?_
 refine CU (a4d (Network.mk ((a0c (Network.mk g t h_ ([]) 0 ([]) ([]) ([]) 0 0)).topology) ((a0c (Network.mk g t h_ ([]) 0 ([]) ([]) ([]) 0 0)).trust) ((a0c (Network.mk g t h_ ([]) 0 ([]) ([]) ([]) 0 0)).producers) w_ ((a0c (Network.mk g t h_ ([]) 0 ([]) ([]) ([]) 0 0)).downNodes) ((a0c (Network.mk g t h_ ([]) 0 ([]) ([]) ([]) 0 0)).failedLinks) ((a0c (Network.mk g t h_ ([]) 0 ([]) ([]) ([]) 0 0)).inFlight) ((a0c (Network.mk g t h_ ([]) 0 ([]) ([]) ([]) 0 0)).consumers) ((a0c (Network.mk g t h_ ([]) 0 ([]) ([]) ([]) 0 0)).now) ((a0c (Network.mk g t h_ ([]) 0 ([]) ([]) ([]) 0 0)).dropped))) 9 [46, 47, 48, 49, 50, 51, 52, 53, 54, 55] 83 Z Z Z Z Z Z Z O Z (fun w β H η σ γ => f52 n τ0 η (β 9) (Network.mk ((a0c (Network.mk g t h_ ([]) 0 ([]) ([]) ([]) 0 0)).topology) ((a0c (Network.mk g t h_ ([]) 0 ([]) ([]) ([]) 0 0)).trust) ((a0c (Network.mk g t h_ ([]) 0 ([]) ([]) ([]) 0 0)).producers) w_ ((a0c (Network.mk g t h_ ([]) 0 ([]) ([]) ([]) 0 0)).downNodes) ((a0c (Network.mk g t h_ ([]) 0 ([]) ([]) ([]) 0 0)).failedLinks) ((a0c (Network.mk g t h_ ([]) 0 ([]) ([]) ([]) 0 0)).inFlight) ((a0c (Network.mk g t h_ ([]) 0 ([]) ([]) ([]) 0 0)).consumers) ((a0c (Network.mk g t h_ ([]) 0 ([]) ([]) ([]) 0 0)).now) ((a0c (Network.mk g t h_ ([]) 0 ([]) ([]) ([]) 0 0)).dropped)) p1 c1 p2 c2 p3 c3 p4 c4 p5 c5 p6 c6 a5 a6 p8 c8 p9 c9 a8 a7 σ (An (acy a1).1 (An (acy a1).2.1 (An (acy a1).2.2.1 (An (afj v2) (An (acy a1).2.2.2.2.1 (An (acy a1).2.2.2.2.2.1 (An (acy a1).2.2.2.2.2.2.1 (An (acy a1).2.2.2.2.2.2.2.1 (An (acy a1).2.2.2.2.2.2.2.2.1 (acy a1).2.2.2.2.2.2.2.2.2)))))))))) O ?_
 rintro ⟨⟨⟨⟩, ⟨al, ar⟩⟩, ⟨⟨ah, az⟩, ⟨ap, b0⟩, ⟨ao, af⟩, ⟨bc, aq⟩⟩, ⟨ae, ad⟩, ⟨ay, b2⟩, ⟨⟩, ⟨au, an⟩, ⟨ac, bb⟩, ⟨ab, ai⟩, ⟨⟩, ⟨⟩⟩ b9
 dsimp only
 rw [show a1u g t h_ caps = (a4d (Network.mk ((a0c (Network.mk g t h_ ([]) 0 ([]) ([]) ([]) 0 0)).topology) ((a0c (Network.mk g t h_ ([]) 0 ([]) ([]) ([]) 0 0)).trust) ((a0c (Network.mk g t h_ ([]) 0 ([]) ([]) ([]) 0 0)).producers) w_ ((a0c (Network.mk g t h_ ([]) 0 ([]) ([]) ([]) 0 0)).downNodes) ((a0c (Network.mk g t h_ ([]) 0 ([]) ([]) ([]) 0 0)).failedLinks) ((a0c (Network.mk g t h_ ([]) 0 ([]) ([]) ([]) 0 0)).inFlight) ((a0c (Network.mk g t h_ ([]) 0 ([]) ([]) ([]) 0 0)).consumers) ((a0c (Network.mk g t h_ ([]) 0 ([]) ([]) ([]) 0 0)).now) ((a0c (Network.mk g t h_ ([]) 0 ([]) ([]) ([]) 0 0)).dropped))) by simp only [a1u, h1, h2, h3, b1, cT, cF]]
 exact yX [93, 94, 95, 96, 97, 98, 99, 100, 101, 102] (((), (al, ar)), ((ah, az), (ap, b0), (ao, af), (bc, aq)), (ae, ad), (ay, b2), (), (au, an), (ac, bb), (ab, ai), (), ()) b9
end Go.Proofs.YtpmejlbgjkiobaaGreat
namespace Go.Stp
theorem mkE {β : Type} {h : β → Int → Int} {k : Int} {n : Nat} {f : Int × β} (H : MkR k f.1 n (h f.2 k)) : ∃ k1 s, f = (k1, s) ∧ k ≤ k1 ∧ k1 ≤ k + 16 * (n : Int) ∧ h s k = k1 := by
 obtain ⟨a, b, c⟩ := H
 exact ⟨f.1, f.2, rfl, a, b, c⟩
theorem ax0 (a : Link) : a9t a a = true := by
 simp only [a9t, ad2, ade, cond_false, Bool.not_true]
theorem axm (a : Link) : a52 a = a := by
 simp only [a52]
theorem arm : ∀ (l p : (List Link)), a6v (p ++ l) l p.length = none
 | [], _ => rfl
 | e :: l, p => by
  have ih := arm l (p ++ [e])
  rw [aea, ae9] at ih
  simp only [a6v, mid, ax0 e, Bool.not_true, cond_false]
  exact ih
theorem avv (a : (List Link)) : a9u a a = true := by
 have h := arm a []
 simp only [List.nil_append, List.length_nil] at h
 simp only [a9u, ad2, cond_false, h]
theorem ar9 : ∀ (l p z : (List Link)), z.length = l.length → a8d l p.length (p ++ z) = p ++ l
 | [], p, [], _ => rfl
 | e :: l, p, y :: z, h => by
  have ih := ar9 l (p ++ [e]) z (by simpa using h)
  rw [aea p e l, ae9] at ih
  simp only [a8d, mid, afa, axm e]
  exact ih
theorem avo (a : (List Link)) : aag a = a := by
 simp only [aag]
 exact ar9 a [] _ (by simp)
theorem au2 (a : (List Link)) (left : Int) (h : GoT.ok 10 a) (h0 : 0 ≤ left) (h1 : left ≤ 1048576) : SzR (a5m a left) left (sz a) := by
 have hl : a.length ≤ 9223372036854775807 := h.1
 rw [aem, akj (fun b => aue b)]
 unfold a5m
 rw [afe h0 h1 hl]
 by_cases hc : left - (a.length : Int) < 0
 ·rw [dT hc, cond_true]; exact .inl rfl
 ·rw [dF (by omega), cond_false]; exact .inr ⟨by omega, rfl⟩
theorem aqd (e : Link) : sz e = 0 := by
 simp only [aue, Nat.add_assoc]
theorem arx : ∀ (l p : (List Link)) (k : Int), 0 ≤ k → k + 16 * ((l.length : Int) + szL l) ≤ 4611686018427387904 → ∃ l' k', a8l l.length p.length (p ++ l) k = (p ++ l', k') ∧ k ≤ k' ∧ k' ≤ k + 16 * ((l.length : Int) + szL l) ∧ a6b l' k = .nxt k'
 | [], p, k, _, _ => ⟨[], k, rfl, by omega, by simp [aed], rfl⟩
 | e :: l, p, k, h0, hb => by
  rw [ads, List.length_cons] at hb
  have hsz := aqd e
  have w1 := aft (x := k) (by omega) (by omega)
  have w2 := aft (x := (k + 1)) (by omega) (by omega)
  obtain ⟨l', k', r1, r2, r3, r4⟩ := arx l (p ++ [(Link.mk k (k + 1))]) ((k + 1) + 1) (by omega) (by omega)
  rw [ae9] at r1
  exact ⟨_ :: l', k', by simp only [List.length_cons, a8l, mid, afa, w1, w2]; rw [r1, aea], by omega, by rw [ads, List.length_cons]; omega, by simp only [a6b, ad2, ade, cond_false, w1, w2]; exact r4⟩
theorem avq (a : (List Link)) (k : Int) (h0 : 0 ≤ k) (hb : k + 16 * (sz a : Int) ≤ 4611686018427387904) : MkR k (a2n a k).1 (sz a) (a4o (a2n a k).2 k) := by
 rw [aem] at hb ⊢
 obtain ⟨l', k', r1, r2, r3, r4⟩ := arx a [] k h0 (by omega)
 simp only [List.nil_append, List.length_nil] at r1
 simp only [a2n, r1, a4o, r4]
 exact ⟨r2, by omega, rfl⟩
theorem anr (a : Topology) : a85 a a = true := by
 simp only [a85, ad2, ade, cond_false, Bool.not_true, avv]
theorem asc (a : Topology) : a06 a = a := by
 simp only [a06, avo]
theorem aii (a : Topology) (left : Int) (h : GoT.ok 10 a) (h0 : 0 ≤ left) (h1 : left ≤ 1048576) : SzR (a0w a left) left (sz a) := by
 rw [amv]
 unfold a0w
 rcases au2 a.links left (ad0 h).2 (by omega) (by omega) with r0 | ⟨q0, r0⟩
 ·rw [r0]; exact .inl rfl
 rw [r0, dF (by omega), cond_false]
 exact .inr ⟨by omega, by omega⟩
theorem ao4 (a : Topology) (k : Int) (h0 : 0 ≤ k) (hb : k + 16 * (sz a : Int) ≤ 4611686018427387904) : MkR k (a08 a k).1 (sz a) (a2o (a08 a k).2 k) := by
 rw [amv] at hb ⊢
 obtain ⟨k0, s0, m0, p0, q0, e0⟩ := mkE (avq a.links k (by omega) (by omega))
 have d0 := dF (show 0 ≤ k0 by omega)
 simp only [a08, m0, a2o, e0, d0, cond_false]
 exact ⟨by omega, by omega, rfl⟩
theorem an8 : ∀ (l p : (List Str)), a6w (p ++ l) l p.length = none
 | [], _ => rfl
 | e :: l, p => by
  have ih := an8 l (p ++ [e])
  rw [aea, ae9] at ih
  simp only [a6w, mid, ad2, ade, cond_false]
  exact ih
theorem apb (a : (List Str)) : a86 a a = true := by
 have h := an8 a []
 simp only [List.nil_append, List.length_nil] at h
 simp only [a86, ad2, cond_false, h]
theorem ans : ∀ (l p z : (List Str)), z.length = l.length → a8e l p.length (p ++ z) = p ++ l
 | [], p, [], _ => rfl
 | e :: l, p, y :: z, h => by
  have ih := ans l (p ++ [e]) z (by simpa using h)
  rw [aea p e l, ae9] at ih
  simp only [a8e, mid, afa]
  exact ih
theorem ap6 (a : (List Str)) : a7e a = a := by
 simp only [a7e]
 exact ans a [] _ (by simp)
theorem alk : ∀ (l : (List Str)) (left : Int), (∀ a ∈ l, GoT.ok 10 a) → 0 ≤ left → left ≤ 1048576 → SzL (a5n l left) left (szL l)
 | [], left, _, h0, _ => .inr ⟨by simp [aed]; omega, by simp [aed, a5n]⟩
 | e :: l, left, hk, h0, h1 => by
  have he : e.size ≤ 9223372036854775807 := hk e List.mem_cons_self
  rw [ads, ay3]
  unfold a5n
  rw [afe h0 h1 he]
  by_cases hc : left - (e.size : Int) < 0
  ·rw [dT hc, cond_true]; exact .inl rfl
  ·rw [dF (by omega), cond_false]
   rcases alk l (left - (e.size : Int)) (fun a ha => hk a (List.mem_cons_of_mem _ ha)) (by omega) (by omega) with r | ⟨q, r⟩
   ·exact .inl r
   ·exact .inr ⟨by omega, by rw [r]; congr 1; omega⟩
theorem ame (a : (List Str)) (left : Int) (h : GoT.ok 10 a) (h0 : 0 ≤ left) (h1 : left ≤ 1048576) : SzR (a31 a left) left (sz a) := by
 have hl : a.length ≤ 9223372036854775807 := h.1
 rw [aem]
 unfold a31
 rw [afe h0 h1 hl]
 by_cases hc : left - (a.length : Int) < 0
 ·rw [dT hc, cond_true]; exact .inl rfl
 ·rw [dF (by omega), cond_false]
  rcases alk a (left - (a.length : Int)) h.2 (by omega) (by omega) with r | ⟨q, r⟩
  ·rw [r]; exact .inl rfl
  ·rw [r]; exact .inr ⟨by omega, by show left - (a.length : Int) - (szL a : Int) = _; omega⟩
theorem aob : ∀ (l p : (List Str)) (k : Int), 0 ≤ k → k + 16 * ((l.length : Int) + szL l) ≤ 4611686018427387904 → ∃ l' k', a8m l.length p.length (p ++ l) k = (p ++ l', k') ∧ k ≤ k' ∧ k' ≤ k + 16 * ((l.length : Int) + szL l) ∧ a7k l' k = .nxt k'
 | [], p, k, _, _ => ⟨[], k, rfl, by omega, by simp [aed], rfl⟩
 | e :: l, p, k, h0, hb => by
  rw [ads, List.length_cons] at hb
  have w1 := aft (x := k) (by omega) (by omega)
  obtain ⟨l', k', r1, r2, r3, r4⟩ := aob l (p ++ [(a53 k)]) (k + 1) (by omega) (by omega)
  rw [ae9] at r1
  exact ⟨_ :: l', k', by simp only [List.length_cons, a8m, mid, afa, w1]; rw [r1, aea], by omega, by rw [ads, List.length_cons]; omega, by simp only [a7k, ad2, ade, cond_false, w1]; exact r4⟩
theorem aeu (a : (List Str)) (k : Int) (h0 : 0 ≤ k) (hb : k + 16 * (sz a : Int) ≤ 4611686018427387904) : MkR k (a00 a k).1 (sz a) (a02 (a00 a k).2 k) := by
 rw [aem] at hb ⊢
 obtain ⟨l', k', r1, r2, r3, r4⟩ := aob a [] k h0 (by omega)
 simp only [List.nil_append, List.length_nil] at r1
 simp only [a00, r1, a02, r4]
 exact ⟨r2, by omega, rfl⟩
theorem aht (a : Name) : a2m a a = true := by
 simp only [a2m, ad2, ade, cond_false, Bool.not_true, apb]
theorem aqh (a : Name) : a0y a = a := by
 simp only [a0y, ap6]
theorem ag1 (a : Name) (left : Int) (h : GoT.ok 10 a) (h0 : 0 ≤ left) (h1 : left ≤ 1048576) : SzR (a0k a left) left (sz a) := by
 rw [ah4]
 unfold a0k
 rcases ame a.parts left (ae4 h) (by omega) (by omega) with r0 | ⟨q0, r0⟩
 ·rw [r0]; exact .inl rfl
 rw [r0, dF (by omega), cond_false]
 exact .inr ⟨by omega, by omega⟩
theorem axu (a : Key) : a9v a a = true := by
 simp only [a9v, ad2, ade, cond_false, Bool.not_true, aht]
theorem axw (a : Key) : a7f a = a := by
 simp only [a7f, aqh]
theorem awa (a : Key) (left : Int) (h : GoT.ok 10 a) (h0 : 0 ≤ left) (h1 : left ≤ 1048576) : SzR (a5o a left) left (sz a) := by
 rw [awg]
 unfold a5o
 rcases ag1 a.name left (ag3 h).1 (by omega) (by omega) with r0 | ⟨q0, r0⟩
 ·rw [r0]; exact .inl rfl
 rw [r0, dF (by omega), cond_false]
 exact .inr ⟨by omega, by omega⟩
theorem atd : ∀ (l p : (List Key)), a6x (p ++ l) l p.length = none
 | [], _ => rfl
 | e :: l, p => by
  have ih := atd l (p ++ [e])
  rw [aea, ae9] at ih
  simp only [a6x, mid, axu e, Bool.not_true, cond_false]
  exact ih
theorem awn (a : (List Key)) : a9w a a = true := by
 have h := atd a []
 simp only [List.nil_append, List.length_nil] at h
 simp only [a9w, ad2, cond_false, h]
theorem at3 : ∀ (l p z : (List Key)), z.length = l.length → a8f l p.length (p ++ z) = p ++ l
 | [], p, [], _ => rfl
 | e :: l, p, y :: z, h => by
  have ih := at3 l (p ++ [e]) z (by simpa using h)
  rw [aea p e l, ae9] at ih
  simp only [a8f, mid, afa, axw e]
  exact ih
theorem awx (a : (List Key)) : aah a = a := by
 simp only [aah]
 exact at3 a [] _ (by simp)
theorem ap0 : ∀ (l : (List Key)) (left : Int), (∀ a ∈ l, GoT.ok 10 a) → 0 ≤ left → left ≤ 1048576 → SzL (a5p l left) left (szL l)
 | [], left, _, h0, _ => .inr ⟨by simp [aed]; omega, by simp [aed, a5p]⟩
 | e :: l, left, hk, h0, h1 => by
  rw [ads]
  unfold a5p
  rcases awa e left (hk e List.mem_cons_self) h0 h1 with r0 | ⟨q0, r0⟩
  ·rw [r0]; exact .inl rfl
  ·rw [r0, dF (by omega), cond_false]
   rcases ap0 l (left - (sz e : Int)) (fun a ha => hk a (List.mem_cons_of_mem _ ha)) (by omega) (by omega) with r | ⟨q, r⟩
   ·exact .inl r
   ·exact .inr ⟨by omega, by rw [r]; congr 1; omega⟩
theorem av6 (a : (List Key)) (left : Int) (h : GoT.ok 10 a) (h0 : 0 ≤ left) (h1 : left ≤ 1048576) : SzR (a32 a left) left (sz a) := by
 have hl : a.length ≤ 9223372036854775807 := h.1
 rw [aem]
 unfold a32
 rw [afe h0 h1 hl]
 by_cases hc : left - (a.length : Int) < 0
 ·rw [dT hc, cond_true]; exact .inl rfl
 ·rw [dF (by omega), cond_false]
  rcases ap0 a (left - (a.length : Int)) h.2 (by omega) (by omega) with r | ⟨q, r⟩
  ·rw [r]; exact .inl rfl
  ·rw [r]; exact .inr ⟨by omega, by show left - (a.length : Int) - (szL a : Int) = _; omega⟩
theorem aqu (e : Key) : sz e = sz e.name.parts := by
 simp only [awg, ah4, Nat.add_assoc]
theorem at9 : ∀ (l p : (List Key)) (k : Int), 0 ≤ k → k + 16 * ((l.length : Int) + szL l) ≤ 4611686018427387904 → ∃ l' k', a8n l.length p.length (p ++ l) k = (p ++ l', k') ∧ k ≤ k' ∧ k' ≤ k + 16 * ((l.length : Int) + szL l) ∧ a6c l' k = .nxt k'
 | [], p, k, _, _ => ⟨[], k, rfl, by omega, by simp [aed], rfl⟩
 | e :: l, p, k, h0, hb => by
  rw [ads, List.length_cons] at hb
  have hsz := aqu e
  obtain ⟨k1, s1, m1, p1, q1, e1⟩ := mkE (aeu e.name.parts k (by omega) (by omega))
  have d1 := dF (show 0 ≤ k1 by omega)
  have w2 := aft (x := k1) (by omega) (by omega)
  obtain ⟨l', k', r1, r2, r3, r4⟩ := at9 l (p ++ [(Key.mk (Name.mk s1) k1)]) (k1 + 1) (by omega) (by omega)
  rw [ae9] at r1
  exact ⟨_ :: l', k', by simp only [List.length_cons, a8n, mid, afa, m1, w2]; rw [r1, aea], by omega, by rw [ads, List.length_cons]; omega, by simp only [a6c, ad2, ade, cond_false, e1, d1, w2]; exact r4⟩
theorem axd (a : (List Key)) (k : Int) (h0 : 0 ≤ k) (hb : k + 16 * (sz a : Int) ≤ 4611686018427387904) : MkR k (a12 a k).1 (sz a) (a36 (a12 a k).2 k) := by
 rw [aem] at hb ⊢
 obtain ⟨l', k', r1, r2, r3, r4⟩ := at9 a [] k h0 (by omega)
 simp only [List.nil_append, List.length_nil] at r1
 simp only [a12, r1, a36, r4]
 exact ⟨r2, by omega, rfl⟩
theorem au9 (a : Pattern) : a9x a a = true := by
 simp only [a9x, ad2, ade, cond_false, Bool.not_true, apb]
theorem aua (a : Pattern) : a7g a = a := by
 simp only [a7g, ap6]
theorem am5 (a : Pattern) (left : Int) (h : GoT.ok 10 a) (h0 : 0 ≤ left) (h1 : left ≤ 1048576) : SzR (a3l a left) left (sz a) := by
 rw [aph]
 unfold a3l
 rcases ame a.parts left (ad9 h) (by omega) (by omega) with r0 | ⟨q0, r0⟩
 ·rw [r0]; exact .inl rfl
 rw [r0, dF (by omega), cond_false]
 exact .inr ⟨by omega, by omega⟩
theorem axb (a : Rule) : a9y a a = true := by
 simp only [a9y, ad2, ade, cond_false, Bool.not_true, au9]
theorem axl (a : Rule) : a7h a = a := by
 simp only [a7h, aua]
theorem av0 (a : Rule) (left : Int) (h : GoT.ok 10 a) (h0 : 0 ≤ left) (h1 : left ≤ 1048576) : SzR (a4e a left) left (sz a) := by
 rw [aum]
 unfold a4e
 rcases am5 a.dataPattern left (adx h).1 (by omega) (by omega) with r0 | ⟨q0, r0⟩
 ·rw [r0]; exact .inl rfl
 rw [r0, dF (by omega), cond_false]
 rcases am5 a.keyPattern (left - (sz a.dataPattern : Int)) (adx h).2 (by omega) (by omega) with r1 | ⟨q1, r1⟩
 ·rw [r1]; exact .inl rfl
 rw [r1, dF (by omega), cond_false]
 exact .inr ⟨by omega, by omega⟩
theorem as2 : ∀ (l p : (List Rule)), a6y (p ++ l) l p.length = none
 | [], _ => rfl
 | e :: l, p => by
  have ih := as2 l (p ++ [e])
  rw [aea, ae9] at ih
  simp only [a6y, mid, axb e, Bool.not_true, cond_false]
  exact ih
theorem awb (a : (List Rule)) : a9z a a = true := by
 have h := as2 a []
 simp only [List.nil_append, List.length_nil] at h
 simp only [a9z, ad2, cond_false, h]
theorem ar8 : ∀ (l p z : (List Rule)), z.length = l.length → a8g l p.length (p ++ z) = p ++ l
 | [], p, [], _ => rfl
 | e :: l, p, y :: z, h => by
  have ih := ar8 l (p ++ [e]) z (by simpa using h)
  rw [aea p e l, ae9] at ih
  simp only [a8g, mid, afa, axl e]
  exact ih
theorem avr (a : (List Rule)) : aai a = a := by
 simp only [aai]
 exact ar8 a [] _ (by simp)
theorem ano : ∀ (l : (List Rule)) (left : Int), (∀ a ∈ l, GoT.ok 10 a) → 0 ≤ left → left ≤ 1048576 → SzL (a5q l left) left (szL l)
 | [], left, _, h0, _ => .inr ⟨by simp [aed]; omega, by simp [aed, a5q]⟩
 | e :: l, left, hk, h0, h1 => by
  rw [ads]
  unfold a5q
  rcases av0 e left (hk e List.mem_cons_self) h0 h1 with r0 | ⟨q0, r0⟩
  ·rw [r0]; exact .inl rfl
  ·rw [r0, dF (by omega), cond_false]
   rcases ano l (left - (sz e : Int)) (fun a ha => hk a (List.mem_cons_of_mem _ ha)) (by omega) (by omega) with r | ⟨q, r⟩
   ·exact .inl r
   ·exact .inr ⟨by omega, by rw [r]; congr 1; omega⟩
theorem ati (a : (List Rule)) (left : Int) (h : GoT.ok 10 a) (h0 : 0 ≤ left) (h1 : left ≤ 1048576) : SzR (a3m a left) left (sz a) := by
 have hl : a.length ≤ 9223372036854775807 := h.1
 rw [aem]
 unfold a3m
 rw [afe h0 h1 hl]
 by_cases hc : left - (a.length : Int) < 0
 ·rw [dT hc, cond_true]; exact .inl rfl
 ·rw [dF (by omega), cond_false]
  rcases ano a (left - (a.length : Int)) h.2 (by omega) (by omega) with r | ⟨q, r⟩
  ·rw [r]; exact .inl rfl
  ·rw [r]; exact .inr ⟨by omega, by show left - (a.length : Int) - (szL a : Int) = _; omega⟩
theorem aqj (e : Rule) : sz e = sz e.dataPattern.parts + sz e.keyPattern.parts := by
 simp only [aum, aph, Nat.add_assoc]
theorem ars : ∀ (l p : (List Rule)) (k : Int), 0 ≤ k → k + 16 * ((l.length : Int) + szL l) ≤ 4611686018427387904 → ∃ l' k', a8o l.length p.length (p ++ l) k = (p ++ l', k') ∧ k ≤ k' ∧ k' ≤ k + 16 * ((l.length : Int) + szL l) ∧ a6d l' k = .nxt k'
 | [], p, k, _, _ => ⟨[], k, rfl, by omega, by simp [aed], rfl⟩
 | e :: l, p, k, h0, hb => by
  rw [ads, List.length_cons] at hb
  have hsz := aqj e
  obtain ⟨k1, s1, m1, p1, q1, e1⟩ := mkE (aeu e.dataPattern.parts k (by omega) (by omega))
  have d1 := dF (show 0 ≤ k1 by omega)
  obtain ⟨k2, s2, m2, p2, q2, e2⟩ := mkE (aeu e.keyPattern.parts k1 (by omega) (by omega))
  have d2 := dF (show 0 ≤ k2 by omega)
  obtain ⟨l', k', r1, r2, r3, r4⟩ := ars l (p ++ [(Rule.mk (Pattern.mk s1) (Pattern.mk s2))]) k2 (by omega) (by omega)
  rw [ae9] at r1
  exact ⟨_ :: l', k', by simp only [List.length_cons, a8o, mid, afa, m1, m2]; rw [r1, aea], by omega, by rw [ads, List.length_cons]; omega, by simp only [a6d, ad2, ade, cond_false, e1, d1, e2, d2]; exact r4⟩
theorem avn (a : (List Rule)) (k : Int) (h0 : 0 ≤ k) (hb : k + 16 * (sz a : Int) ≤ 4611686018427387904) : MkR k (a1d a k).1 (sz a) (a3p (a1d a k).2 k) := by
 rw [aem] at hb ⊢
 obtain ⟨l', k', r1, r2, r3, r4⟩ := ars a [] k h0 (by omega)
 simp only [List.nil_append, List.length_nil] at r1
 simp only [a1d, r1, a3p, r4]
 exact ⟨r2, by omega, rfl⟩
theorem ard : ∀ (l p : (List Name)), a6z (p ++ l) l p.length = none
 | [], _ => rfl
 | e :: l, p => by
  have ih := ard l (p ++ [e])
  rw [aea, ae9] at ih
  simp only [a6z, mid, aht e, Bool.not_true, cond_false]
  exact ih
theorem aw4 (a : (List Name)) : aa0 a a = true := by
 have h := ard a []
 simp only [List.nil_append, List.length_nil] at h
 simp only [aa0, ad2, cond_false, h]
theorem arr : ∀ (l p z : (List Name)), z.length = l.length → a8h l p.length (p ++ z) = p ++ l
 | [], p, [], _ => rfl
 | e :: l, p, y :: z, h => by
  have ih := arr l (p ++ [e]) z (by simpa using h)
  rw [aea p e l, ae9] at ih
  simp only [a8h, mid, afa, aqh e]
  exact ih
theorem aw0 (a : (List Name)) : aaj a = a := by
 simp only [aaj]
 exact arr a [] _ (by simp)
theorem amz : ∀ (l : (List Name)) (left : Int), (∀ a ∈ l, GoT.ok 10 a) → 0 ≤ left → left ≤ 1048576 → SzL (a5r l left) left (szL l)
 | [], left, _, h0, _ => .inr ⟨by simp [aed]; omega, by simp [aed, a5r]⟩
 | e :: l, left, hk, h0, h1 => by
  rw [ads]
  unfold a5r
  rcases ag1 e left (hk e List.mem_cons_self) h0 h1 with r0 | ⟨q0, r0⟩
  ·rw [r0]; exact .inl rfl
  ·rw [r0, dF (by omega), cond_false]
   rcases amz l (left - (sz e : Int)) (fun a ha => hk a (List.mem_cons_of_mem _ ha)) (by omega) (by omega) with r | ⟨q, r⟩
   ·exact .inl r
   ·exact .inr ⟨by omega, by rw [r]; congr 1; omega⟩
theorem atu (a : (List Name)) (left : Int) (h : GoT.ok 10 a) (h0 : 0 ≤ left) (h1 : left ≤ 1048576) : SzR (a41 a left) left (sz a) := by
 have hl : a.length ≤ 9223372036854775807 := h.1
 rw [aem]
 unfold a41
 rw [afe h0 h1 hl]
 by_cases hc : left - (a.length : Int) < 0
 ·rw [dT hc, cond_true]; exact .inl rfl
 ·rw [dF (by omega), cond_false]
  rcases amz a (left - (a.length : Int)) h.2 (by omega) (by omega) with r | ⟨q, r⟩
  ·rw [r]; exact .inl rfl
  ·rw [r]; exact .inr ⟨by omega, by show left - (a.length : Int) - (szL a : Int) = _; omega⟩
theorem aqa (e : Name) : sz e = sz e.parts := by
 simp only [ah4, Nat.add_assoc]
theorem arn : ∀ (l p : (List Name)) (k : Int), 0 ≤ k → k + 16 * ((l.length : Int) + szL l) ≤ 4611686018427387904 → ∃ l' k', a8p l.length p.length (p ++ l) k = (p ++ l', k') ∧ k ≤ k' ∧ k' ≤ k + 16 * ((l.length : Int) + szL l) ∧ a7l l' k = .nxt k'
 | [], p, k, _, _ => ⟨[], k, rfl, by omega, by simp [aed], rfl⟩
 | e :: l, p, k, h0, hb => by
  rw [ads, List.length_cons] at hb
  have hsz := aqa e
  obtain ⟨k1, s1, m1, p1, q1, e1⟩ := mkE (aeu e.parts k (by omega) (by omega))
  have d1 := dF (show 0 ≤ k1 by omega)
  obtain ⟨l', k', r1, r2, r3, r4⟩ := arn l (p ++ [(Name.mk s1)]) k1 (by omega) (by omega)
  rw [ae9] at r1
  exact ⟨_ :: l', k', by simp only [List.length_cons, a8p, mid, afa, m1]; rw [r1, aea], by omega, by rw [ads, List.length_cons]; omega, by simp only [a7l, ad2, ade, cond_false, e1, d1]; exact r4⟩
theorem avt (a : (List Name)) (k : Int) (h0 : 0 ≤ k) (hb : k + 16 * (sz a : Int) ≤ 4611686018427387904) : MkR k (a1y a k).1 (sz a) (a54 (a1y a k).2 k) := by
 rw [aem] at hb ⊢
 obtain ⟨l', k', r1, r2, r3, r4⟩ := arn a [] k h0 (by omega)
 simp only [List.nil_append, List.length_nil] at r1
 simp only [a1y, r1, a54, r4]
 exact ⟨r2, by omega, rfl⟩
theorem arq : ∀ (l p : (List UInt8)), a70 (p ++ l) l p.length = none
 | [], _ => rfl
 | e :: l, p => by
  have ih := arq l (p ++ [e])
  rw [aea, ae9] at ih
  simp only [a70, mid, ad2, ade, cond_false]
  exact ih
theorem aw8 (a : (List UInt8)) : aa1 a a = true := by
 have h := arq a []
 simp only [List.nil_append, List.length_nil] at h
 simp only [aa1, ad2, cond_false, h]
theorem aqv : ∀ (l p z : (List UInt8)), z.length = l.length → a8i l p.length (p ++ z) = p ++ l
 | [], p, [], _ => rfl
 | e :: l, p, y :: z, h => by
  have ih := aqv l (p ++ [e]) z (by simpa using h)
  rw [aea p e l, ae9] at ih
  simp only [a8i, mid, afa]
  exact ih
theorem avy (a : (List UInt8)) : aak a = a := by
 simp only [aak]
 exact aqv a [] _ (by simp)
theorem au8 (a : (List UInt8)) (left : Int) (h : GoT.ok 10 a) (h0 : 0 ≤ left) (h1 : left ≤ 1048576) : SzR (a50 a left) left (sz a) := by
 have hl : a.length ≤ 9223372036854775807 := h.1
 rw [aem, ay2]
 unfold a50
 rw [afe h0 h1 hl]
 by_cases hc : left - (a.length : Int) < 0
 ·rw [dT hc, cond_true]; exact .inl rfl
 ·rw [dF (by omega), cond_false]; exact .inr ⟨by omega, rfl⟩
theorem arj : ∀ (l p : (List UInt8)) (k : Int), 0 ≤ k → k + 16 * ((l.length : Int) + szL l) ≤ 4611686018427387904 → ∃ l' k', a8q l.length p.length (p ++ l) k = (p ++ l', k') ∧ k ≤ k' ∧ k' ≤ k + 16 * ((l.length : Int) + szL l) ∧ a7m l' k = .nxt k'
 | [], p, k, _, _ => ⟨[], k, rfl, by omega, by simp [aed], rfl⟩
 | e :: l, p, k, h0, hb => by
  rw [ads, List.length_cons] at hb
  have w1 := aft (x := k) (by omega) (by omega)
  obtain ⟨l', k', r1, r2, r3, r4⟩ := arj l (p ++ [(toU8 k)]) (k + 1) (by omega) (by omega)
  rw [ae9] at r1
  exact ⟨_ :: l', k', by simp only [List.length_cons, a8q, mid, afa, w1]; rw [r1, aea], by omega, by rw [ads, List.length_cons]; omega, by simp only [a7m, ad2, ade, cond_false, w1]; exact r4⟩
theorem amp (a : (List UInt8)) (k : Int) (h0 : 0 ≤ k) (hb : k + 16 * (sz a : Int) ≤ 4611686018427387904) : MkR k (a03 a k).1 (sz a) (a0s (a03 a k).2 k) := by
 rw [aem] at hb ⊢
 obtain ⟨l', k', r1, r2, r3, r4⟩ := arj a [] k h0 (by omega)
 simp only [List.nil_append, List.length_nil] at r1
 simp only [a03, r1, a0s, r4]
 exact ⟨r2, by omega, rfl⟩
theorem aq9 (a : DataP) : a44 a a = true := by
 simp only [a44, ad2, ade, cond_false, Bool.not_true, aht, aw8]
theorem awo (a : DataP) : a35 a = a := by
 simp only [a35, aqh, avy]
theorem akq (a : DataP) (left : Int) (h : GoT.ok 10 a) (h0 : 0 ≤ left) (h1 : left ≤ 1048576) : SzR (a1i a left) left (sz a) := by
 rw [ald]
 unfold a1i
 rcases ag1 a.name left (ado h).1 (by omega) (by omega) with r0 | ⟨q0, r0⟩
 ·rw [r0]; exact .inl rfl
 rw [r0, dF (by omega), cond_false]
 rcases au8 a.content (left - (sz a.name : Int)) (ado h).2.1 (by omega) (by omega) with r1 | ⟨q1, r1⟩
 ·rw [r1]; exact .inl rfl
 rw [r1, dF (by omega), cond_false]
 rcases ag1 a.keyName ((left - (sz a.name : Int)) - (sz a.content : Int)) (ado h).2.2.1 (by omega) (by omega) with r2 | ⟨q2, r2⟩
 ·rw [r2]; exact .inl rfl
 rw [r2, dF (by omega), cond_false]
 exact .inr ⟨by omega, by omega⟩
theorem as5 : ∀ (l p : (List DataP)), a71 (p ++ l) l p.length = none
 | [], _ => rfl
 | e :: l, p => by
  have ih := as5 l (p ++ [e])
  rw [aea, ae9] at ih
  simp only [a71, mid, aq9 e, Bool.not_true, cond_false]
  exact ih
theorem asy (a : (List DataP)) : a87 a a = true := by
 have h := as5 a []
 simp only [List.nil_append, List.length_nil] at h
 simp only [a87, ad2, cond_false, h]
theorem ark : ∀ (l p z : (List DataP)), z.length = l.length → a8j l p.length (p ++ z) = p ++ l
 | [], p, [], _ => rfl
 | e :: l, p, y :: z, h => by
  have ih := ark l (p ++ [e]) z (by simpa using h)
  rw [aea p e l, ae9] at ih
  simp only [a8j, mid, afa, awo e]
  exact ih
theorem aw2 (a : (List DataP)) : a7i a = a := by
 simp only [a7i]
 exact ark a [] _ (by simp)
theorem an7 : ∀ (l : (List DataP)) (left : Int), (∀ a ∈ l, GoT.ok 10 a) → 0 ≤ left → left ≤ 1048576 → SzL (a5s l left) left (szL l)
 | [], left, _, h0, _ => .inr ⟨by simp [aed]; omega, by simp [aed, a5s]⟩
 | e :: l, left, hk, h0, h1 => by
  rw [ads]
  unfold a5s
  rcases akq e left (hk e List.mem_cons_self) h0 h1 with r0 | ⟨q0, r0⟩
  ·rw [r0]; exact .inl rfl
  ·rw [r0, dF (by omega), cond_false]
   rcases an7 l (left - (sz e : Int)) (fun a ha => hk a (List.mem_cons_of_mem _ ha)) (by omega) (by omega) with r | ⟨q, r⟩
   ·exact .inl r
   ·exact .inr ⟨by omega, by rw [r]; congr 1; omega⟩
theorem aoy (a : (List DataP)) (left : Int) (h : GoT.ok 10 a) (h0 : 0 ≤ left) (h1 : left ≤ 1048576) : SzR (a1v a left) left (sz a) := by
 have hl : a.length ≤ 9223372036854775807 := h.1
 rw [aem]
 unfold a1v
 rw [afe h0 h1 hl]
 by_cases hc : left - (a.length : Int) < 0
 ·rw [dT hc, cond_true]; exact .inl rfl
 ·rw [dF (by omega), cond_false]
  rcases an7 a (left - (a.length : Int)) h.2 (by omega) (by omega) with r | ⟨q, r⟩
  ·rw [r]; exact .inl rfl
  ·rw [r]; exact .inr ⟨by omega, by show left - (a.length : Int) - (szL a : Int) = _; omega⟩
theorem aq5 (e : DataP) : sz e = sz e.name.parts + sz e.content + sz e.keyName.parts := by
 simp only [ald, ah4, Nat.add_assoc]
theorem ar4 : ∀ (l p : (List DataP)) (k : Int), 0 ≤ k → k + 16 * ((l.length : Int) + szL l) ≤ 4611686018427387904 → ∃ l' k', a8r l.length p.length (p ++ l) k = (p ++ l', k') ∧ k ≤ k' ∧ k' ≤ k + 16 * ((l.length : Int) + szL l) ∧ a45 l' k = .nxt k'
 | [], p, k, _, _ => ⟨[], k, rfl, by omega, by simp [aed], rfl⟩
 | e :: l, p, k, h0, hb => by
  rw [ads, List.length_cons] at hb
  have hsz := aq5 e
  obtain ⟨k1, s1, m1, p1, q1, e1⟩ := mkE (aeu e.name.parts k (by omega) (by omega))
  have d1 := dF (show 0 ≤ k1 by omega)
  obtain ⟨k2, s2, m2, p2, q2, e2⟩ := mkE (amp e.content k1 (by omega) (by omega))
  have d2 := dF (show 0 ≤ k2 by omega)
  obtain ⟨k3, s3, m3, p3, q3, e3⟩ := mkE (aeu e.keyName.parts k2 (by omega) (by omega))
  have d3 := dF (show 0 ≤ k3 by omega)
  have w4 := aft (x := k3) (by omega) (by omega)
  have w5 := aft (x := (k3 + 1)) (by omega) (by omega)
  obtain ⟨l', k', r1, r2, r3, r4⟩ := ar4 l (p ++ [(DataP.mk (Name.mk s1) s2 (Name.mk s3) k3 (k3 + 1))]) ((k3 + 1) + 1) (by omega) (by omega)
  rw [ae9] at r1
  exact ⟨_ :: l', k', by simp only [List.length_cons, a8r, mid, afa, m1, m2, m3, w4, w5]; rw [r1, aea], by omega, by rw [ads, List.length_cons]; omega, by simp only [a45, ad2, ade, cond_false, e1, d1, e2, d2, e3, d3, w4, w5]; exact r4⟩
theorem ate (a : (List DataP)) (k : Int) (h0 : 0 ≤ k) (hb : k + 16 * (sz a : Int) ≤ 4611686018427387904) : MkR k (a0d a k).1 (sz a) (a14 (a0d a k).2 k) := by
 rw [aem] at hb ⊢
 obtain ⟨l', k', r1, r2, r3, r4⟩ := ar4 a [] k h0 (by omega)
 simp only [List.nil_append, List.length_nil] at r1
 simp only [a0d, r1, a14, r4]
 exact ⟨r2, by omega, rfl⟩
theorem ajt (a : TrustPolicy) : a68 a a = true := by
 simp only [a68, ad2, ade, cond_false, Bool.not_true, awn, awb, aw4, asy]
theorem aoh (a : TrustPolicy) : a05 a = a := by
 simp only [a05, awx, avr, aw0, aw2]
theorem ah3 (a : TrustPolicy) (left : Int) (h : GoT.ok 10 a) (h0 : 0 ≤ left) (h1 : left ≤ 1048576) : SzR (a0x a left) left (sz a) := by
 rw [ak7]
 unfold a0x
 rcases av6 a.keys left (acz h).1 (by omega) (by omega) with r0 | ⟨q0, r0⟩
 ·rw [r0]; exact .inl rfl
 rw [r0, dF (by omega), cond_false]
 rcases ati a.rules (left - (sz a.keys : Int)) (acz h).2.1 (by omega) (by omega) with r1 | ⟨q1, r1⟩
 ·rw [r1]; exact .inl rfl
 rw [r1, dF (by omega), cond_false]
 rcases atu a.anchors ((left - (sz a.keys : Int)) - (sz a.rules : Int)) (acz h).2.2.1 (by omega) (by omega) with r2 | ⟨q2, r2⟩
 ·rw [r2]; exact .inl rfl
 rw [r2, dF (by omega), cond_false]
 rcases aoy a.certificates (((left - (sz a.keys : Int)) - (sz a.rules : Int)) - (sz a.anchors : Int)) (acz h).2.2.2 (by omega) (by omega) with r3 | ⟨q3, r3⟩
 ·rw [r3]; exact .inl rfl
 rw [r3, dF (by omega), cond_false]
 exact .inr ⟨by omega, by omega⟩
theorem ajw (a : TrustPolicy) (k : Int) (h0 : 0 ≤ k) (hb : k + 16 * (sz a : Int) ≤ 4611686018427387904) : MkR k (a0a a k).1 (sz a) (a1r (a0a a k).2 k) := by
 rw [ak7] at hb ⊢
 obtain ⟨k0, s0, m0, p0, q0, e0⟩ := mkE (axd a.keys k (by omega) (by omega))
 have d0 := dF (show 0 ≤ k0 by omega)
 obtain ⟨k1, s1, m1, p1, q1, e1⟩ := mkE (avn a.rules k0 (by omega) (by omega))
 have d1 := dF (show 0 ≤ k1 by omega)
 obtain ⟨k2, s2, m2, p2, q2, e2⟩ := mkE (avt a.anchors k1 (by omega) (by omega))
 have d2 := dF (show 0 ≤ k2 by omega)
 obtain ⟨k3, s3, m3, p3, q3, e3⟩ := mkE (ate a.certificates k2 (by omega) (by omega))
 have d3 := dF (show 0 ≤ k3 by omega)
 simp only [a0a, m0, m1, m2, m3, a1r, e0, d0, e1, d1, e2, d2, e3, d3, cond_false]
 exact ⟨by omega, by omega, rfl⟩
theorem apt (a : TableEntry) : aa2 a a = true := by
 simp only [aa2, ad2, ade, cond_false, Bool.not_true, aht]
theorem aq7 (a : TableEntry) : a7j a = a := by
 simp only [a7j, aqh]
theorem amw (a : TableEntry) (left : Int) (h : GoT.ok 10 a) (h0 : 0 ≤ left) (h1 : left ≤ 1048576) : SzR (a5t a left) left (sz a) := by
 rw [aie]
 unfold a5t
 rcases ag1 a.name left (adv h).1 (by omega) (by omega) with r0 | ⟨q0, r0⟩
 ·rw [r0]; exact .inl rfl
 rw [r0, dF (by omega), cond_false]
 exact .inr ⟨by omega, by omega⟩
theorem ait : ∀ (l p : (List TableEntry)), a72 (p ++ l) l p.length = none
 | [], _ => rfl
 | e :: l, p => by
  have ih := ait l (p ++ [e])
  rw [aea, ae9] at ih
  simp only [a72, mid, apt e, Bool.not_true, cond_false]
  exact ih
theorem ak3 (a : (List TableEntry)) : a88 a a = true := by
 have h := ait a []
 simp only [List.nil_append, List.length_nil] at h
 simp only [a88, ad2, cond_false, h]
theorem aiq : ∀ (l p z : (List TableEntry)), z.length = l.length → a8k l p.length (p ++ z) = p ++ l
 | [], p, [], _ => rfl
 | e :: l, p, y :: z, h => by
  have ih := aiq l (p ++ [e]) z (by simpa using h)
  rw [aea p e l, ae9] at ih
  simp only [a8k, mid, afa, aq7 e]
  exact ih
theorem aov (a : (List TableEntry)) : a07 a = a := by
 simp only [a07]
 exact aiq a [] _ (by simp)
theorem ai5 : ∀ (l : (List TableEntry)) (left : Int), (∀ a ∈ l, GoT.ok 10 a) → 0 ≤ left → left ≤ 1048576 → SzL (a5u l left) left (szL l)
 | [], left, _, h0, _ => .inr ⟨by simp [aed]; omega, by simp [aed, a5u]⟩
 | e :: l, left, hk, h0, h1 => by
  rw [ads]
  unfold a5u
  rcases amw e left (hk e List.mem_cons_self) h0 h1 with r0 | ⟨q0, r0⟩
  ·rw [r0]; exact .inl rfl
  ·rw [r0, dF (by omega), cond_false]
   rcases ai5 l (left - (sz e : Int)) (fun a ha => hk a (List.mem_cons_of_mem _ ha)) (by omega) (by omega) with r | ⟨q, r⟩
   ·exact .inl r
   ·exact .inr ⟨by omega, by rw [r]; congr 1; omega⟩
theorem ah2 (a : (List TableEntry)) (left : Int) (h : GoT.ok 10 a) (h0 : 0 ≤ left) (h1 : left ≤ 1048576) : SzR (a23 a left) left (sz a) := by
 have hl : a.length ≤ 9223372036854775807 := h.1
 rw [aem]
 unfold a23
 rw [afe h0 h1 hl]
 by_cases hc : left - (a.length : Int) < 0
 ·rw [dT hc, cond_true]; exact .inl rfl
 ·rw [dF (by omega), cond_false]
  rcases ai5 a (left - (a.length : Int)) h.2 (by omega) (by omega) with r | ⟨q, r⟩
  ·rw [r]; exact .inl rfl
  ·rw [r]; exact .inr ⟨by omega, by show left - (a.length : Int) - (szL a : Int) = _; omega⟩
theorem akd (e : TableEntry) : sz e = sz e.name.parts := by
 simp only [aie, ah4, Nat.add_assoc]
theorem aj8 : ∀ (l p : (List TableEntry)) (k : Int), 0 ≤ k → k + 16 * ((l.length : Int) + szL l) ≤ 4611686018427387904 → ∃ l' k', a8s l.length p.length (p ++ l) k = (p ++ l', k') ∧ k ≤ k' ∧ k' ≤ k + 16 * ((l.length : Int) + szL l) ∧ a6e l' k = .nxt k'
 | [], p, k, _, _ => ⟨[], k, rfl, by omega, by simp [aed], rfl⟩
 | e :: l, p, k, h0, hb => by
  rw [ads, List.length_cons] at hb
  have hsz := akd e
  obtain ⟨k1, s1, m1, p1, q1, e1⟩ := mkE (aeu e.name.parts k (by omega) (by omega))
  have d1 := dF (show 0 ≤ k1 by omega)
  have w2 := aft (x := k1) (by omega) (by omega)
  obtain ⟨l', k', r1, r2, r3, r4⟩ := aj8 l (p ++ [(TableEntry.mk (Name.mk s1) k1)]) (k1 + 1) (by omega) (by omega)
  rw [ae9] at r1
  exact ⟨_ :: l', k', by simp only [List.length_cons, a8s, mid, afa, m1, w2]; rw [r1, aea], by omega, by rw [ads, List.length_cons]; omega, by simp only [a6e, ad2, ade, cond_false, e1, d1, w2]; exact r4⟩
theorem ak0 (a : (List TableEntry)) (k : Int) (h0 : 0 ≤ k) (hb : k + 16 * (sz a : Int) ≤ 4611686018427387904) : MkR k (a0h a k).1 (sz a) (a2p (a0h a k).2 k) := by
 rw [aem] at hb ⊢
 obtain ⟨l', k', r1, r2, r3, r4⟩ := aj8 a [] k h0 (by omega)
 simp only [List.nil_append, List.length_nil] at r1
 simp only [a0h, r1, a2p, r4]
 exact ⟨r2, by omega, rfl⟩
theorem apv (a : CacheEntry) : aa3 a a = true := by
 simp only [aa3, ad2, ade, cond_false, Bool.not_true, aq9]
theorem amx (a : CacheEntry) (left : Int) (h : GoT.ok 10 a) (h0 : 0 ≤ left) (h1 : left ≤ 1048576) : SzR (a5v a left) left (sz a) := by
 rw [akl]
 unfold a5v
 rcases akq a.data left (aec h).1 (by omega) (by omega) with r0 | ⟨q0, r0⟩
 ·rw [r0]; exact .inl rfl
 rw [r0, dF (by omega), cond_false]
 exact .inr ⟨by omega, by omega⟩
theorem aiy : ∀ (l p : (List CacheEntry)), a73 (p ++ l) l p.length = none
 | [], _ => rfl
 | e :: l, p => by
  have ih := aiy l (p ++ [e])
  rw [aea, ae9] at ih
  simp only [a73, mid, apv e, Bool.not_true, cond_false]
  exact ih
theorem aof (a : (List CacheEntry)) : aa4 a a = true := by
 have h := aiy a []
 simp only [List.nil_append, List.length_nil] at h
 simp only [aa4, ad2, cond_false, h]
theorem ahw : ∀ (l : (List CacheEntry)) (left : Int), (∀ a ∈ l, GoT.ok 10 a) → 0 ≤ left → left ≤ 1048576 → SzL (a5w l left) left (szL l)
 | [], left, _, h0, _ => .inr ⟨by simp [aed]; omega, by simp [aed, a5w]⟩
 | e :: l, left, hk, h0, h1 => by
  rw [ads]
  unfold a5w
  rcases amx e left (hk e List.mem_cons_self) h0 h1 with r0 | ⟨q0, r0⟩
  ·rw [r0]; exact .inl rfl
  ·rw [r0, dF (by omega), cond_false]
   rcases ahw l (left - (sz e : Int)) (fun a ha => hk a (List.mem_cons_of_mem _ ha)) (by omega) (by omega) with r | ⟨q, r⟩
   ·exact .inl r
   ·exact .inr ⟨by omega, by rw [r]; congr 1; omega⟩
theorem amg (a : (List CacheEntry)) (left : Int) (h : GoT.ok 10 a) (h0 : 0 ≤ left) (h1 : left ≤ 1048576) : SzR (a4f a left) left (sz a) := by
 have hl : a.length ≤ 9223372036854775807 := h.1
 rw [aem]
 unfold a4f
 rw [afe h0 h1 hl]
 by_cases hc : left - (a.length : Int) < 0
 ·rw [dT hc, cond_true]; exact .inl rfl
 ·rw [dF (by omega), cond_false]
  rcases ahw a (left - (a.length : Int)) h.2 (by omega) (by omega) with r | ⟨q, r⟩
  ·rw [r]; exact .inl rfl
  ·rw [r]; exact .inr ⟨by omega, by show left - (a.length : Int) - (szL a : Int) = _; omega⟩
theorem akc (e : CacheEntry) : sz e = sz e.data.name.parts + sz e.data.content + sz e.data.keyName.parts := by
 simp only [akl, ald, ah4, Nat.add_assoc]
theorem air : ∀ (l p : (List CacheEntry)) (k : Int), 0 ≤ k → k + 16 * ((l.length : Int) + szL l) ≤ 4611686018427387904 → ∃ l' k', a8t l.length p.length (p ++ l) k = (p ++ l', k') ∧ k ≤ k' ∧ k' ≤ k + 16 * ((l.length : Int) + szL l) ∧ a3q l' k = .nxt k'
 | [], p, k, _, _ => ⟨[], k, rfl, by omega, by simp [aed], rfl⟩
 | e :: l, p, k, h0, hb => by
  rw [ads, List.length_cons] at hb
  have hsz := akc e
  obtain ⟨k1, s1, m1, p1, q1, e1⟩ := mkE (aeu e.data.name.parts k (by omega) (by omega))
  have d1 := dF (show 0 ≤ k1 by omega)
  obtain ⟨k2, s2, m2, p2, q2, e2⟩ := mkE (amp e.data.content k1 (by omega) (by omega))
  have d2 := dF (show 0 ≤ k2 by omega)
  obtain ⟨k3, s3, m3, p3, q3, e3⟩ := mkE (aeu e.data.keyName.parts k2 (by omega) (by omega))
  have d3 := dF (show 0 ≤ k3 by omega)
  have w4 := aft (x := k3) (by omega) (by omega)
  have w5 := aft (x := (k3 + 1)) (by omega) (by omega)
  have w6 := aft (x := ((k3 + 1) + 1)) (by omega) (by omega)
  obtain ⟨l', k', r1, r2, r3, r4⟩ := air l (p ++ [(CacheEntry.mk (DataP.mk (Name.mk s1) s2 (Name.mk s3) k3 (k3 + 1)) ((k3 + 1) + 1))]) (((k3 + 1) + 1) + 1) (by omega) (by omega)
  rw [ae9] at r1
  exact ⟨_ :: l', k', by simp only [List.length_cons, a8t, mid, afa, m1, m2, m3, w4, w5, w6]; rw [r1, aea], by omega, by rw [ads, List.length_cons]; omega, by simp only [a3q, ad2, ade, cond_false, e1, d1, e2, d2, e3, d3, w4, w5, w6]; exact r4⟩
theorem aon (a : (List CacheEntry)) (k : Int) (h0 : 0 ≤ k) (hb : k + 16 * (sz a : Int) ≤ 4611686018427387904) : MkR k (a0i a k).1 (sz a) (a18 (a0i a k).2 k) := by
 rw [aem] at hb ⊢
 obtain ⟨l', k', r1, r2, r3, r4⟩ := air a [] k h0 (by omega)
 simp only [List.nil_append, List.length_nil] at r1
 simp only [a0i, r1, a18, r4]
 exact ⟨r2, by omega, rfl⟩
theorem aoe (a : ContentStore) : aa5 a a = true := by
 simp only [aa5, ad2, ade, cond_false, Bool.not_true, aof]
theorem aly (a : ContentStore) (left : Int) (h : GoT.ok 10 a) (h0 : 0 ≤ left) (h1 : left ≤ 1048576) : SzR (a3n a left) left (sz a) := by
 rw [aj5]
 unfold a3n
 rcases amg a.entries left (aei h).2 (by omega) (by omega) with r0 | ⟨q0, r0⟩
 ·rw [r0]; exact .inl rfl
 rw [r0, dF (by omega), cond_false]
 exact .inr ⟨by omega, by omega⟩
theorem aro (a : Requester) : a89 a a = true := by
 simp only [a89, ad2, ade, cond_false, Bool.not_true]
theorem ajx : ∀ (l p : (List Requester)), a74 (p ++ l) l p.length = none
 | [], _ => rfl
 | e :: l, p => by
  have ih := ajx l (p ++ [e])
  rw [aea, ae9] at ih
  simp only [a74, mid, aro e, Bool.not_true, cond_false]
  exact ih
theorem apq (a : (List Requester)) : aa6 a a = true := by
 have h := ajx a []
 simp only [List.nil_append, List.length_nil] at h
 simp only [aa6, ad2, cond_false, h]
theorem aoa (a : (List Requester)) (left : Int) (h : GoT.ok 10 a) (h0 : 0 ≤ left) (h1 : left ≤ 1048576) : SzR (a5x a left) left (sz a) := by
 have hl : a.length ≤ 9223372036854775807 := h.1
 rw [aem, akj (fun b => am6 b)]
 unfold a5x
 rw [afe h0 h1 hl]
 by_cases hc : left - (a.length : Int) < 0
 ·rw [dT hc, cond_true]; exact .inl rfl
 ·rw [dF (by omega), cond_false]; exact .inr ⟨by omega, rfl⟩
theorem akw (e : Requester) : sz e = 0 := by
 simp only [am6, Nat.add_assoc]
theorem ak2 : ∀ (l p : (List Requester)) (k : Int), 0 ≤ k → k + 16 * ((l.length : Int) + szL l) ≤ 4611686018427387904 → ∃ l' k', a8u l.length p.length (p ++ l) k = (p ++ l', k') ∧ k ≤ k' ∧ k' ≤ k + 16 * ((l.length : Int) + szL l) ∧ a55 l' k = .nxt k'
 | [], p, k, _, _ => ⟨[], k, rfl, by omega, by simp [aed], rfl⟩
 | e :: l, p, k, h0, hb => by
  rw [ads, List.length_cons] at hb
  have hsz := akw e
  have w1 := aft (x := k) (by omega) (by omega)
  have w2 := aft (x := (k + 1)) (by omega) (by omega)
  have w3 := aft (x := ((k + 1) + 1)) (by omega) (by omega)
  obtain ⟨l', k', r1, r2, r3, r4⟩ := ak2 l (p ++ [(Requester.mk k (k + 1) ((k + 1) + 1))]) (((k + 1) + 1) + 1) (by omega) (by omega)
  rw [ae9] at r1
  exact ⟨_ :: l', k', by simp only [List.length_cons, a8u, mid, afa, w1, w2, w3]; rw [r1, aea], by omega, by rw [ads, List.length_cons]; omega, by simp only [a55, ad2, ade, cond_false, w1, w2, w3]; exact r4⟩
theorem apu (a : (List Requester)) (k : Int) (h0 : 0 ≤ k) (hb : k + 16 * (sz a : Int) ≤ 4611686018427387904) : MkR k (a1j a k).1 (sz a) (a37 (a1j a k).2 k) := by
 rw [aem] at hb ⊢
 obtain ⟨l', k', r1, r2, r3, r4⟩ := ak2 a [] k h0 (by omega)
 simp only [List.nil_append, List.length_nil] at r1
 simp only [a1j, r1, a37, r4]
 exact ⟨r2, by omega, rfl⟩
theorem al7 (a : PendingInterest) : a8a a a = true := by
 simp only [a8a, ad2, ade, cond_false, Bool.not_true, aht, apq]
theorem ajn (a : PendingInterest) (left : Int) (h : GoT.ok 10 a) (h0 : 0 ≤ left) (h1 : left ≤ 1048576) : SzR (a4g a left) left (sz a) := by
 rw [ahm]
 unfold a4g
 rcases ag1 a.name left (ad8 h).1 (by omega) (by omega) with r0 | ⟨q0, r0⟩
 ·rw [r0]; exact .inl rfl
 rw [r0, dF (by omega), cond_false]
 rcases aoa a.requesters (left - (sz a.name : Int)) (ad8 h).2.1 (by omega) (by omega) with r1 | ⟨q1, r1⟩
 ·rw [r1]; exact .inl rfl
 rw [r1, dF (by omega), cond_false]
 exact .inr ⟨by omega, by omega⟩
theorem ah6 : ∀ (l p : (List PendingInterest)), a75 (p ++ l) l p.length = none
 | [], _ => rfl
 | e :: l, p => by
  have ih := ah6 l (p ++ [e])
  rw [aea, ae9] at ih
  simp only [a75, mid, al7 e, Bool.not_true, cond_false]
  exact ih
theorem aki (a : (List PendingInterest)) : aa7 a a = true := by
 have h := ah6 a []
 simp only [List.nil_append, List.length_nil] at h
 simp only [aa7, ad2, cond_false, h]
theorem agq : ∀ (l : (List PendingInterest)) (left : Int), (∀ a ∈ l, GoT.ok 10 a) → 0 ≤ left → left ≤ 1048576 → SzL (a5y l left) left (szL l)
 | [], left, _, h0, _ => .inr ⟨by simp [aed]; omega, by simp [aed, a5y]⟩
 | e :: l, left, hk, h0, h1 => by
  rw [ads]
  unfold a5y
  rcases ajn e left (hk e List.mem_cons_self) h0 h1 with r0 | ⟨q0, r0⟩
  ·rw [r0]; exact .inl rfl
  ·rw [r0, dF (by omega), cond_false]
   rcases agq l (left - (sz e : Int)) (fun a ha => hk a (List.mem_cons_of_mem _ ha)) (by omega) (by omega) with r | ⟨q, r⟩
   ·exact .inl r
   ·exact .inr ⟨by omega, by rw [r]; congr 1; omega⟩
theorem aix (a : (List PendingInterest)) (left : Int) (h : GoT.ok 10 a) (h0 : 0 ≤ left) (h1 : left ≤ 1048576) : SzR (a33 a left) left (sz a) := by
 have hl : a.length ≤ 9223372036854775807 := h.1
 rw [aem]
 unfold a33
 rw [afe h0 h1 hl]
 by_cases hc : left - (a.length : Int) < 0
 ·rw [dT hc, cond_true]; exact .inl rfl
 ·rw [dF (by omega), cond_false]
  rcases agq a (left - (a.length : Int)) h.2 (by omega) (by omega) with r | ⟨q, r⟩
  ·rw [r]; exact .inl rfl
  ·rw [r]; exact .inr ⟨by omega, by show left - (a.length : Int) - (szL a : Int) = _; omega⟩
theorem ahy (e : PendingInterest) : sz e = sz e.name.parts + sz e.requesters := by
 simp only [ahm, ah4, Nat.add_assoc]
theorem ah5 : ∀ (l p : (List PendingInterest)) (k : Int), 0 ≤ k → k + 16 * ((l.length : Int) + szL l) ≤ 4611686018427387904 → ∃ l' k', a8v l.length p.length (p ++ l) k = (p ++ l', k') ∧ k ≤ k' ∧ k' ≤ k + 16 * ((l.length : Int) + szL l) ∧ a56 l' k = .nxt k'
 | [], p, k, _, _ => ⟨[], k, rfl, by omega, by simp [aed], rfl⟩
 | e :: l, p, k, h0, hb => by
  rw [ads, List.length_cons] at hb
  have hsz := ahy e
  obtain ⟨k1, s1, m1, p1, q1, e1⟩ := mkE (aeu e.name.parts k (by omega) (by omega))
  have d1 := dF (show 0 ≤ k1 by omega)
  obtain ⟨k2, s2, m2, p2, q2, e2⟩ := mkE (apu e.requesters k1 (by omega) (by omega))
  have d2 := dF (show 0 ≤ k2 by omega)
  have w3 := aft (x := k2) (by omega) (by omega)
  obtain ⟨l', k', r1, r2, r3, r4⟩ := ah5 l (p ++ [(PendingInterest.mk (Name.mk s1) s2 k2)]) (k2 + 1) (by omega) (by omega)
  rw [ae9] at r1
  exact ⟨_ :: l', k', by simp only [List.length_cons, a8v, mid, afa, m1, m2, w3]; rw [r1, aea], by omega, by rw [ads, List.length_cons]; omega, by simp only [a56, ad2, ade, cond_false, e1, d1, e2, d2, w3]; exact r4⟩
theorem ak8 (a : (List PendingInterest)) (k : Int) (h0 : 0 ≤ k) (hb : k + 16 * (sz a : Int) ≤ 4611686018427387904) : MkR k (a0m a k).1 (sz a) (a29 (a0m a k).2 k) := by
 rw [aem] at hb ⊢
 obtain ⟨l', k', r1, r2, r3, r4⟩ := ah5 a [] k h0 (by omega)
 simp only [List.nil_append, List.length_nil] at r1
 simp only [a0m, r1, a29, r4]
 exact ⟨r2, by omega, rfl⟩
theorem ary (a : SeenNonce) : aa8 a a = true := by
 simp only [aa8, ad2, ade, cond_false, Bool.not_true, aht]
theorem aou (a : SeenNonce) (left : Int) (h : GoT.ok 10 a) (h0 : 0 ≤ left) (h1 : left ≤ 1048576) : SzR (a5z a left) left (sz a) := by
 rw [am7]
 unfold a5z
 rcases ag1 a.name left (aew h).1 (by omega) (by omega) with r0 | ⟨q0, r0⟩
 ·rw [r0]; exact .inl rfl
 rw [r0, dF (by omega), cond_false]
 exact .inr ⟨by omega, by omega⟩
theorem aju : ∀ (l p : (List SeenNonce)), a76 (p ++ l) l p.length = none
 | [], _ => rfl
 | e :: l, p => by
  have ih := aju l (p ++ [e])
  rw [aea, ae9] at ih
  simp only [a76, mid, ary e, Bool.not_true, cond_false]
  exact ih
theorem apz (a : (List SeenNonce)) : aa9 a a = true := by
 have h := aju a []
 simp only [List.nil_append, List.length_nil] at h
 simp only [aa9, ad2, cond_false, h]
theorem ain : ∀ (l : (List SeenNonce)) (left : Int), (∀ a ∈ l, GoT.ok 10 a) → 0 ≤ left → left ≤ 1048576 → SzL (a60 l left) left (szL l)
 | [], left, _, h0, _ => .inr ⟨by simp [aed]; omega, by simp [aed, a60]⟩
 | e :: l, left, hk, h0, h1 => by
  rw [ads]
  unfold a60
  rcases aou e left (hk e List.mem_cons_self) h0 h1 with r0 | ⟨q0, r0⟩
  ·rw [r0]; exact .inl rfl
  ·rw [r0, dF (by omega), cond_false]
   rcases ain l (left - (sz e : Int)) (fun a ha => hk a (List.mem_cons_of_mem _ ha)) (by omega) (by omega) with r | ⟨q, r⟩
   ·exact .inl r
   ·exact .inr ⟨by omega, by rw [r]; congr 1; omega⟩
theorem an4 (a : (List SeenNonce)) (left : Int) (h : GoT.ok 10 a) (h0 : 0 ≤ left) (h1 : left ≤ 1048576) : SzR (a3o a left) left (sz a) := by
 have hl : a.length ≤ 9223372036854775807 := h.1
 rw [aem]
 unfold a3o
 rw [afe h0 h1 hl]
 by_cases hc : left - (a.length : Int) < 0
 ·rw [dT hc, cond_true]; exact .inl rfl
 ·rw [dF (by omega), cond_false]
  rcases ain a (left - (a.length : Int)) h.2 (by omega) (by omega) with r | ⟨q, r⟩
  ·rw [r]; exact .inl rfl
  ·rw [r]; exact .inr ⟨by omega, by show left - (a.length : Int) - (szL a : Int) = _; omega⟩
theorem ale (e : SeenNonce) : sz e = sz e.name.parts := by
 simp only [am7, ah4, Nat.add_assoc]
theorem ak5 : ∀ (l p : (List SeenNonce)) (k : Int), 0 ≤ k → k + 16 * ((l.length : Int) + szL l) ≤ 4611686018427387904 → ∃ l' k', a8w l.length p.length (p ++ l) k = (p ++ l', k') ∧ k ≤ k' ∧ k' ≤ k + 16 * ((l.length : Int) + szL l) ∧ a6f l' k = .nxt k'
 | [], p, k, _, _ => ⟨[], k, rfl, by omega, by simp [aed], rfl⟩
 | e :: l, p, k, h0, hb => by
  rw [ads, List.length_cons] at hb
  have hsz := ale e
  obtain ⟨k1, s1, m1, p1, q1, e1⟩ := mkE (aeu e.name.parts k (by omega) (by omega))
  have d1 := dF (show 0 ≤ k1 by omega)
  have w2 := aft (x := k1) (by omega) (by omega)
  obtain ⟨l', k', r1, r2, r3, r4⟩ := ak5 l (p ++ [(SeenNonce.mk (Name.mk s1) k1)]) (k1 + 1) (by omega) (by omega)
  rw [ae9] at r1
  exact ⟨_ :: l', k', by simp only [List.length_cons, a8w, mid, afa, m1, w2]; rw [r1, aea], by omega, by rw [ads, List.length_cons]; omega, by simp only [a6f, ad2, ade, cond_false, e1, d1, w2]; exact r4⟩
theorem aqi (a : (List SeenNonce)) (k : Int) (h0 : 0 ≤ k) (hb : k + 16 * (sz a : Int) ≤ 4611686018427387904) : MkR k (a0n a k).1 (sz a) (a38 (a0n a k).2 k) := by
 rw [aem] at hb ⊢
 obtain ⟨l', k', r1, r2, r3, r4⟩ := ak5 a [] k h0 (by omega)
 simp only [List.nil_append, List.length_nil] at r1
 simp only [a0n, r1, a38, r4]
 exact ⟨r2, by omega, rfl⟩
theorem awe (a : Route) : a8b a a = true := by
 simp only [a8b, ad2, ade, cond_false, Bool.not_true, aht]
theorem ato (a : Route) (left : Int) (h : GoT.ok 10 a) (h0 : 0 ≤ left) (h1 : left ≤ 1048576) : SzR (a61 a left) left (sz a) := by
 rw [alb]
 unfold a61
 rcases ag1 a.pfx left (adn h).1 (by omega) (by omega) with r0 | ⟨q0, r0⟩
 ·rw [r0]; exact .inl rfl
 rw [r0, dF (by omega), cond_false]
 exact .inr ⟨by omega, by omega⟩
theorem apm : ∀ (l p : (List Route)), a77 (p ++ l) l p.length = none
 | [], _ => rfl
 | e :: l, p => by
  have ih := apm l (p ++ [e])
  rw [aea, ae9] at ih
  simp only [a77, mid, awe e, Bool.not_true, cond_false]
  exact ih
theorem av5 (a : (List Route)) : aaa a a = true := by
 have h := apm a []
 simp only [List.nil_append, List.length_nil] at h
 simp only [aaa, ad2, cond_false, h]
theorem ama : ∀ (l : (List Route)) (left : Int), (∀ a ∈ l, GoT.ok 10 a) → 0 ≤ left → left ≤ 1048576 → SzL (a62 l left) left (szL l)
 | [], left, _, h0, _ => .inr ⟨by simp [aed]; omega, by simp [aed, a62]⟩
 | e :: l, left, hk, h0, h1 => by
  rw [ads]
  unfold a62
  rcases ato e left (hk e List.mem_cons_self) h0 h1 with r0 | ⟨q0, r0⟩
  ·rw [r0]; exact .inl rfl
  ·rw [r0, dF (by omega), cond_false]
   rcases ama l (left - (sz e : Int)) (fun a ha => hk a (List.mem_cons_of_mem _ ha)) (by omega) (by omega) with r | ⟨q, r⟩
   ·exact .inl r
   ·exact .inr ⟨by omega, by rw [r]; congr 1; omega⟩
theorem asj (a : (List Route)) (left : Int) (h : GoT.ok 10 a) (h0 : 0 ≤ left) (h1 : left ≤ 1048576) : SzR (a42 a left) left (sz a) := by
 have hl : a.length ≤ 9223372036854775807 := h.1
 rw [aem]
 unfold a42
 rw [afe h0 h1 hl]
 by_cases hc : left - (a.length : Int) < 0
 ·rw [dT hc, cond_true]; exact .inl rfl
 ·rw [dF (by omega), cond_false]
  rcases ama a (left - (a.length : Int)) h.2 (by omega) (by omega) with r | ⟨q, r⟩
  ·rw [r]; exact .inl rfl
  ·rw [r]; exact .inr ⟨by omega, by show left - (a.length : Int) - (szL a : Int) = _; omega⟩
theorem aoi (e : Route) : sz e = sz e.pfx.parts := by
 simp only [alb, ah4, Nat.add_assoc]
theorem ap5 : ∀ (l p : (List Route)) (k : Int), 0 ≤ k → k + 16 * ((l.length : Int) + szL l) ≤ 4611686018427387904 → ∃ l' k', a8x l.length p.length (p ++ l) k = (p ++ l', k') ∧ k ≤ k' ∧ k' ≤ k + 16 * ((l.length : Int) + szL l) ∧ a57 l' k = .nxt k'
 | [], p, k, _, _ => ⟨[], k, rfl, by omega, by simp [aed], rfl⟩
 | e :: l, p, k, h0, hb => by
  rw [ads, List.length_cons] at hb
  have hsz := aoi e
  obtain ⟨k1, s1, m1, p1, q1, e1⟩ := mkE (aeu e.pfx.parts k (by omega) (by omega))
  have d1 := dF (show 0 ≤ k1 by omega)
  have w2 := aft (x := k1) (by omega) (by omega)
  have w3 := aft (x := (k1 + 1)) (by omega) (by omega)
  obtain ⟨l', k', r1, r2, r3, r4⟩ := ap5 l (p ++ [(Route.mk (Name.mk s1) k1 (k1 + 1))]) ((k1 + 1) + 1) (by omega) (by omega)
  rw [ae9] at r1
  exact ⟨_ :: l', k', by simp only [List.length_cons, a8x, mid, afa, m1, w2, w3]; rw [r1, aea], by omega, by rw [ads, List.length_cons]; omega, by simp only [a57, ad2, ade, cond_false, e1, d1, w2, w3]; exact r4⟩
theorem av4 (a : (List Route)) (k : Int) (h0 : 0 ≤ k) (hb : k + 16 * (sz a : Int) ≤ 4611686018427387904) : MkR k (a0z a k).1 (sz a) (a2q (a0z a k).2 k) := by
 rw [aem] at hb ⊢
 obtain ⟨l', k', r1, r2, r3, r4⟩ := ap5 a [] k h0 (by omega)
 simp only [List.nil_append, List.length_nil] at r1
 simp only [a0z, r1, a2q, r4]
 exact ⟨r2, by omega, rfl⟩
theorem aog (a : Measurement) : a8c a a = true := by
 simp only [a8c, ad2, ade, cond_false, Bool.not_true, aht]
theorem amj (a : Measurement) (left : Int) (h : GoT.ok 10 a) (h0 : 0 ≤ left) (h1 : left ≤ 1048576) : SzR (a63 a left) left (sz a) := by
 rw [ak6]
 unfold a63
 rcases ag1 a.pfx left (ae3 h).1 (by omega) (by omega) with r0 | ⟨q0, r0⟩
 ·rw [r0]; exact .inl rfl
 rw [r0, dF (by omega), cond_false]
 exact .inr ⟨by omega, by omega⟩
theorem aij : ∀ (l p : (List Measurement)), a78 (p ++ l) l p.length = none
 | [], _ => rfl
 | e :: l, p => by
  have ih := aij l (p ++ [e])
  rw [aea, ae9] at ih
  simp only [a78, mid, aog e, Bool.not_true, cond_false]
  exact ih
theorem anf (a : (List Measurement)) : aab a a = true := by
 have h := aij a []
 simp only [List.nil_append, List.length_nil] at h
 simp only [aab, ad2, cond_false, h]
theorem ahl : ∀ (l : (List Measurement)) (left : Int), (∀ a ∈ l, GoT.ok 10 a) → 0 ≤ left → left ≤ 1048576 → SzL (a64 l left) left (szL l)
 | [], left, _, h0, _ => .inr ⟨by simp [aed]; omega, by simp [aed, a64]⟩
 | e :: l, left, hk, h0, h1 => by
  rw [ads]
  unfold a64
  rcases amj e left (hk e List.mem_cons_self) h0 h1 with r0 | ⟨q0, r0⟩
  ·rw [r0]; exact .inl rfl
  ·rw [r0, dF (by omega), cond_false]
   rcases ahl l (left - (sz e : Int)) (fun a ha => hk a (List.mem_cons_of_mem _ ha)) (by omega) (by omega) with r | ⟨q, r⟩
   ·exact .inl r
   ·exact .inr ⟨by omega, by rw [r]; congr 1; omega⟩
theorem alv (a : (List Measurement)) (left : Int) (h : GoT.ok 10 a) (h0 : 0 ≤ left) (h1 : left ≤ 1048576) : SzR (a4h a left) left (sz a) := by
 have hl : a.length ≤ 9223372036854775807 := h.1
 rw [aem]
 unfold a4h
 rw [afe h0 h1 hl]
 by_cases hc : left - (a.length : Int) < 0
 ·rw [dT hc, cond_true]; exact .inl rfl
 ·rw [dF (by omega), cond_false]
  rcases ahl a (left - (a.length : Int)) h.2 (by omega) (by omega) with r | ⟨q, r⟩
  ·rw [r]; exact .inl rfl
  ·rw [r]; exact .inr ⟨by omega, by show left - (a.length : Int) - (szL a : Int) = _; omega⟩
theorem ajl (e : Measurement) : sz e = sz e.pfx.parts := by
 simp only [ak6, ah4, Nat.add_assoc]
theorem aim : ∀ (l p : (List Measurement)) (k : Int), 0 ≤ k → k + 16 * ((l.length : Int) + szL l) ≤ 4611686018427387904 → ∃ l' k', a8y l.length p.length (p ++ l) k = (p ++ l', k') ∧ k ≤ k' ∧ k' ≤ k + 16 * ((l.length : Int) + szL l) ∧ a58 l' k = .nxt k'
 | [], p, k, _, _ => ⟨[], k, rfl, by omega, by simp [aed], rfl⟩
 | e :: l, p, k, h0, hb => by
  rw [ads, List.length_cons] at hb
  have hsz := ajl e
  obtain ⟨k1, s1, m1, p1, q1, e1⟩ := mkE (aeu e.pfx.parts k (by omega) (by omega))
  have d1 := dF (show 0 ≤ k1 by omega)
  have w2 := aft (x := k1) (by omega) (by omega)
  have w3 := aft (x := (k1 + 1)) (by omega) (by omega)
  obtain ⟨l', k', r1, r2, r3, r4⟩ := aim l (p ++ [(Measurement.mk (Name.mk s1) k1 (k1 + 1))]) ((k1 + 1) + 1) (by omega) (by omega)
  rw [ae9] at r1
  exact ⟨_ :: l', k', by simp only [List.length_cons, a8y, mid, afa, m1, w2, w3]; rw [r1, aea], by omega, by rw [ads, List.length_cons]; omega, by simp only [a58, ad2, ade, cond_false, e1, d1, w2, w3]; exact r4⟩
theorem anh (a : (List Measurement)) (k : Int) (h0 : 0 ≤ k) (hb : k + 16 * (sz a : Int) ≤ 4611686018427387904) : MkR k (a1k a k).1 (sz a) (a39 (a1k a k).2 k) := by
 rw [aem] at hb ⊢
 obtain ⟨l', k', r1, r2, r3, r4⟩ := aim a [] k h0 (by omega)
 simp only [List.nil_append, List.length_nil] at r1
 simp only [a1k, r1, a39, r4]
 exact ⟨r2, by omega, rfl⟩
theorem axa (a : NodeP) : a4m a a = true := by
 simp only [a4m, ad2, ade, cond_false, Bool.not_true, asy, aoe, aki, apz, av5, anf]
theorem auj (a : NodeP) (left : Int) (h : GoT.ok 10 a) (h0 : 0 ≤ left) (h1 : left ≤ 1048576) : SzR (a1w a left) left (sz a) := by
 rw [amt]
 unfold a1w
 rcases aoy a.locl left (ad6 h).1 (by omega) (by omega) with r0 | ⟨q0, r0⟩
 ·rw [r0]; exact .inl rfl
 rw [r0, dF (by omega), cond_false]
 rcases aly a.cache (left - (sz a.locl : Int)) (ad6 h).2.1 (by omega) (by omega) with r1 | ⟨q1, r1⟩
 ·rw [r1]; exact .inl rfl
 rw [r1, dF (by omega), cond_false]
 rcases aix a.pending ((left - (sz a.locl : Int)) - (sz a.cache : Int)) (ad6 h).2.2.1 (by omega) (by omega) with r2 | ⟨q2, r2⟩
 ·rw [r2]; exact .inl rfl
 rw [r2, dF (by omega), cond_false]
 rcases an4 a.seen (((left - (sz a.locl : Int)) - (sz a.cache : Int)) - (sz a.pending : Int)) (ad6 h).2.2.2.1 (by omega) (by omega) with r3 | ⟨q3, r3⟩
 ·rw [r3]; exact .inl rfl
 rw [r3, dF (by omega), cond_false]
 rcases asj a.routes ((((left - (sz a.locl : Int)) - (sz a.cache : Int)) - (sz a.pending : Int)) - (sz a.seen : Int)) (ad6 h).2.2.2.2.1 (by omega) (by omega) with r4 | ⟨q4, r4⟩
 ·rw [r4]; exact .inl rfl
 rw [r4, dF (by omega), cond_false]
 rcases alv a.measurements (((((left - (sz a.locl : Int)) - (sz a.cache : Int)) - (sz a.pending : Int)) - (sz a.seen : Int)) - (sz a.routes : Int)) (ad6 h).2.2.2.2.2.1 (by omega) (by omega) with r5 | ⟨q5, r5⟩
 ·rw [r5]; exact .inl rfl
 rw [r5, dF (by omega), cond_false]
 exact .inr ⟨by omega, by omega⟩
theorem aqq : ∀ (l p : (List NodeP)), a79 (p ++ l) l p.length = none
 | [], _ => rfl
 | e :: l, p => by
  have ih := aqq l (p ++ [e])
  rw [aea, ae9] at ih
  simp only [a79, mid, axa e, Bool.not_true, cond_false]
  exact ih
theorem aw9 (a : (List NodeP)) : aac a a = true := by
 have h := aqq a []
 simp only [List.nil_append, List.length_nil] at h
 simp only [aac, ad2, cond_false, h]
theorem anw : ∀ (l : (List NodeP)) (left : Int), (∀ a ∈ l, GoT.ok 10 a) → 0 ≤ left → left ≤ 1048576 → SzL (a65 l left) left (szL l)
 | [], left, _, h0, _ => .inr ⟨by simp [aed]; omega, by simp [aed, a65]⟩
 | e :: l, left, hk, h0, h1 => by
  rw [ads]
  unfold a65
  rcases auj e left (hk e List.mem_cons_self) h0 h1 with r0 | ⟨q0, r0⟩
  ·rw [r0]; exact .inl rfl
  ·rw [r0, dF (by omega), cond_false]
   rcases anw l (left - (sz e : Int)) (fun a ha => hk a (List.mem_cons_of_mem _ ha)) (by omega) (by omega) with r | ⟨q, r⟩
   ·exact .inl r
   ·exact .inr ⟨by omega, by rw [r]; congr 1; omega⟩
theorem atm (a : (List NodeP)) (left : Int) (h : GoT.ok 10 a) (h0 : 0 ≤ left) (h1 : left ≤ 1048576) : SzR (a34 a left) left (sz a) := by
 have hl : a.length ≤ 9223372036854775807 := h.1
 rw [aem]
 unfold a34
 rw [afe h0 h1 hl]
 by_cases hc : left - (a.length : Int) < 0
 ·rw [dT hc, cond_true]; exact .inl rfl
 ·rw [dF (by omega), cond_false]
  rcases anw a (left - (a.length : Int)) h.2 (by omega) (by omega) with r | ⟨q, r⟩
  ·rw [r]; exact .inl rfl
  ·rw [r]; exact .inr ⟨by omega, by show left - (a.length : Int) - (szL a : Int) = _; omega⟩
theorem aqf (e : NodeP) : sz e = sz e.locl + sz e.cache.entries + sz e.pending + sz e.seen + sz e.routes + sz e.measurements := by
 simp only [amt, aj5, Nat.add_assoc]
theorem arg : ∀ (l p : (List NodeP)) (k : Int), 0 ≤ k → k + 16 * ((l.length : Int) + szL l) ≤ 4611686018427387904 → ∃ l' k', a8z l.length p.length (p ++ l) k = (p ++ l', k') ∧ k ≤ k' ∧ k' ≤ k + 16 * ((l.length : Int) + szL l) ∧ a2r l' k = .nxt k'
 | [], p, k, _, _ => ⟨[], k, rfl, by omega, by simp [aed], rfl⟩
 | e :: l, p, k, h0, hb => by
  rw [ads, List.length_cons] at hb
  have hsz := aqf e
  obtain ⟨k1, s1, m1, p1, q1, e1⟩ := mkE (ate e.locl k (by omega) (by omega))
  have d1 := dF (show 0 ≤ k1 by omega)
  have w2 := aft (x := k1) (by omega) (by omega)
  obtain ⟨k3, s3, m3, p3, q3, e3⟩ := mkE (aon e.cache.entries (k1 + 1) (by omega) (by omega))
  have d3 := dF (show 0 ≤ k3 by omega)
  obtain ⟨k4, s4, m4, p4, q4, e4⟩ := mkE (ak8 e.pending k3 (by omega) (by omega))
  have d4 := dF (show 0 ≤ k4 by omega)
  obtain ⟨k5, s5, m5, p5, q5, e5⟩ := mkE (aqi e.seen k4 (by omega) (by omega))
  have d5 := dF (show 0 ≤ k5 by omega)
  obtain ⟨k6, s6, m6, p6, q6, e6⟩ := mkE (av4 e.routes k5 (by omega) (by omega))
  have d6 := dF (show 0 ≤ k6 by omega)
  obtain ⟨k7, s7, m7, p7, q7, e7⟩ := mkE (anh e.measurements k6 (by omega) (by omega))
  have d7 := dF (show 0 ≤ k7 by omega)
  have w8 := aft (x := k7) (by omega) (by omega)
  obtain ⟨l', k', r1, r2, r3, r4⟩ := arg l (p ++ [(NodeP.mk s1 (ContentStore.mk k1 s3) s4 s5 s6 s7 k7)]) (k7 + 1) (by omega) (by omega)
  rw [ae9] at r1
  exact ⟨_ :: l', k', by simp only [List.length_cons, a8z, mid, afa, m1, w2, m3, m4, m5, m6, m7, w8]; rw [r1, aea], by omega, by rw [ads, List.length_cons]; omega, by simp only [a2r, ad2, ade, cond_false, e1, d1, w2, e3, d3, e4, d4, e5, d5, e6, d6, e7, d7, w8]; exact r4⟩
theorem avm (a : (List NodeP)) (k : Int) (h0 : 0 ≤ k) (hb : k + 16 * (sz a : Int) ≤ 4611686018427387904) : MkR k (a0l a k).1 (sz a) (a16 (a0l a k).2 k) := by
 rw [aem] at hb ⊢
 obtain ⟨l', k', r1, r2, r3, r4⟩ := arg a [] k h0 (by omega)
 simp only [List.nil_append, List.length_nil] at r1
 simp only [a0l, r1, a16, r4]
 exact ⟨r2, by omega, rfl⟩
theorem atb : ∀ (l p : (List Int)), a7a (p ++ l) l p.length = none
 | [], _ => rfl
 | e :: l, p => by
  have ih := atb l (p ++ [e])
  rw [aea, ae9] at ih
  simp only [a7a, mid, ad2, ade, cond_false]
  exact ih
theorem ax7 (a : (List Int)) : aad a a = true := by
 have h := atb a []
 simp only [List.nil_append, List.length_nil] at h
 simp only [aad, ad2, cond_false, h]
theorem aug (a : (List Int)) (left : Int) (h : GoT.ok 10 a) (h0 : 0 ≤ left) (h1 : left ≤ 1048576) : SzR (a4i a left) left (sz a) := by
 have hl : a.length ≤ 9223372036854775807 := h.1
 rw [aem, awt]
 unfold a4i
 rw [afe h0 h1 hl]
 by_cases hc : left - (a.length : Int) < 0
 ·rw [dT hc, cond_true]; exact .inl rfl
 ·rw [dF (by omega), cond_false]; exact .inr ⟨by omega, rfl⟩
theorem at6 : ∀ (l p : (List Int)) (k : Int), 0 ≤ k → k + 16 * ((l.length : Int) + szL l) ≤ 4611686018427387904 → ∃ l' k', a90 l.length p.length (p ++ l) k = (p ++ l', k') ∧ k ≤ k' ∧ k' ≤ k + 16 * ((l.length : Int) + szL l) ∧ a7n l' k = .nxt k'
 | [], p, k, _, _ => ⟨[], k, rfl, by omega, by simp [aed], rfl⟩
 | e :: l, p, k, h0, hb => by
  rw [ads, List.length_cons] at hb
  have w1 := aft (x := k) (by omega) (by omega)
  obtain ⟨l', k', r1, r2, r3, r4⟩ := at6 l (p ++ [k]) (k + 1) (by omega) (by omega)
  rw [ae9] at r1
  exact ⟨_ :: l', k', by simp only [List.length_cons, a90, mid, afa, w1]; rw [r1, aea], by omega, by rw [ads, List.length_cons]; omega, by simp only [a7n, ad2, ade, cond_false, w1]; exact r4⟩
theorem ax8 (a : (List Int)) (k : Int) (h0 : 0 ≤ k) (hb : k + 16 * (sz a : Int) ≤ 4611686018427387904) : MkR k (a0o a k).1 (sz a) (a4p (a0o a k).2 k) := by
 rw [aem] at hb ⊢
 obtain ⟨l', k', r1, r2, r3, r4⟩ := at6 a [] k h0 (by omega)
 simp only [List.nil_append, List.length_nil] at r1
 simp only [a0o, r1, a4p, r4]
 exact ⟨r2, by omega, rfl⟩
theorem ass (a : Interest) : a7b a a = true := by
 simp only [a7b, ad2, ade, cond_false, Bool.not_true, aht]
theorem aqb (a : Interest) (left : Int) (h : GoT.ok 10 a) (h0 : 0 ≤ left) (h1 : left ≤ 1048576) : SzR (a51 a left) left (sz a) := by
 rw [aoc]
 unfold a51
 rcases ag1 a.name left (aep h).1 (by omega) (by omega) with r0 | ⟨q0, r0⟩
 ·rw [r0]; exact .inl rfl
 rw [r0, dF (by omega), cond_false]
 exact .inr ⟨by omega, by omega⟩
theorem alx (a : PacketInFlight) : a69 a a = true := by
 simp only [a69, ad2, ade, cond_false, Bool.not_true, ass, aq9]
theorem ake (a : PacketInFlight) (left : Int) (h : GoT.ok 10 a) (h0 : 0 ≤ left) (h1 : left ≤ 1048576) : SzR (a4j a left) left (sz a) := by
 rw [ai4]
 unfold a4j
 rcases aqb a.interest left (ad5 h).2.2.2.1 (by omega) (by omega) with r0 | ⟨q0, r0⟩
 ·rw [r0]; exact .inl rfl
 rw [r0, dF (by omega), cond_false]
 rcases akq a.data (left - (sz a.interest : Int)) (ad5 h).2.2.2.2 (by omega) (by omega) with r1 | ⟨q1, r1⟩
 ·rw [r1]; exact .inl rfl
 rw [r1, dF (by omega), cond_false]
 exact .inr ⟨by omega, by omega⟩
theorem ahh : ∀ (l p : (List PacketInFlight)), a7c (p ++ l) l p.length = none
 | [], _ => rfl
 | e :: l, p => by
  have ih := ahh l (p ++ [e])
  rw [aea, ae9] at ih
  simp only [a7c, mid, alx e, Bool.not_true, cond_false]
  exact ih
theorem alj (a : (List PacketInFlight)) : aae a a = true := by
 have h := ahh a []
 simp only [List.nil_append, List.length_nil] at h
 simp only [aae, ad2, cond_false, h]
theorem ah1 : ∀ (l : (List PacketInFlight)) (left : Int), (∀ a ∈ l, GoT.ok 10 a) → 0 ≤ left → left ≤ 1048576 → SzL (a66 l left) left (szL l)
 | [], left, _, h0, _ => .inr ⟨by simp [aed]; omega, by simp [aed, a66]⟩
 | e :: l, left, hk, h0, h1 => by
  rw [ads]
  unfold a66
  rcases ake e left (hk e List.mem_cons_self) h0 h1 with r0 | ⟨q0, r0⟩
  ·rw [r0]; exact .inl rfl
  ·rw [r0, dF (by omega), cond_false]
   rcases ah1 l (left - (sz e : Int)) (fun a ha => hk a (List.mem_cons_of_mem _ ha)) (by omega) (by omega) with r | ⟨q, r⟩
   ·exact .inl r
   ·exact .inr ⟨by omega, by rw [r]; congr 1; omega⟩
theorem ajo (a : (List PacketInFlight)) (left : Int) (h : GoT.ok 10 a) (h0 : 0 ≤ left) (h1 : left ≤ 1048576) : SzR (a43 a left) left (sz a) := by
 have hl : a.length ≤ 9223372036854775807 := h.1
 rw [aem]
 unfold a43
 rw [afe h0 h1 hl]
 by_cases hc : left - (a.length : Int) < 0
 ·rw [dT hc, cond_true]; exact .inl rfl
 ·rw [dF (by omega), cond_false]
  rcases ah1 a (left - (a.length : Int)) h.2 (by omega) (by omega) with r | ⟨q, r⟩
  ·rw [r]; exact .inl rfl
  ·rw [r]; exact .inr ⟨by omega, by show left - (a.length : Int) - (szL a : Int) = _; omega⟩
theorem aia (e : PacketInFlight) : sz e = sz e.interest.name.parts + sz e.data.name.parts + sz e.data.content + sz e.data.keyName.parts := by
 simp only [ai4, aoc, ah4, ald, Nat.add_assoc]
theorem ahe : ∀ (l p : (List PacketInFlight)) (k : Int), 0 ≤ k → k + 16 * ((l.length : Int) + szL l) ≤ 4611686018427387904 → ∃ l' k', a91 l.length p.length (p ++ l) k = (p ++ l', k') ∧ k ≤ k' ∧ k' ≤ k + 16 * ((l.length : Int) + szL l) ∧ a1z l' k = .nxt k'
 | [], p, k, _, _ => ⟨[], k, rfl, by omega, by simp [aed], rfl⟩
 | e :: l, p, k, h0, hb => by
  rw [ads, List.length_cons] at hb
  have hsz := aia e
  have w1 := aft (x := k) (by omega) (by omega)
  have w2 := aft (x := (k + 1)) (by omega) (by omega)
  have w3 := aft (x := ((k + 1) + 1)) (by omega) (by omega)
  obtain ⟨k4, s4, m4, p4, q4, e4⟩ := mkE (aeu e.interest.name.parts (((k + 1) + 1) + 1) (by omega) (by omega))
  have d4 := dF (show 0 ≤ k4 by omega)
  have w5 := aft (x := k4) (by omega) (by omega)
  have w6 := aft (x := (k4 + 1)) (by omega) (by omega)
  have w7 := aft (x := ((k4 + 1) + 1)) (by omega) (by omega)
  obtain ⟨k8, s8, m8, p8, q8, e8⟩ := mkE (aeu e.data.name.parts (((k4 + 1) + 1) + 1) (by omega) (by omega))
  have d8 := dF (show 0 ≤ k8 by omega)
  obtain ⟨k9, s9, m9, p9, q9, e9⟩ := mkE (amp e.data.content k8 (by omega) (by omega))
  have d9 := dF (show 0 ≤ k9 by omega)
  obtain ⟨k10, s10, m10, p10, q10, e10⟩ := mkE (aeu e.data.keyName.parts k9 (by omega) (by omega))
  have d10 := dF (show 0 ≤ k10 by omega)
  have w11 := aft (x := k10) (by omega) (by omega)
  have w12 := aft (x := (k10 + 1)) (by omega) (by omega)
  obtain ⟨l', k', r1, r2, r3, r4⟩ := ahe l (p ++ [(PacketInFlight.mk k (k + 1) ((Int.tmod ((k + 1) + 1) 3) == 0) (Interest.mk (Name.mk s4) k4 (k4 + 1) ((k4 + 1) + 1)) (DataP.mk (Name.mk s8) s9 (Name.mk s10) k10 (k10 + 1)))]) ((k10 + 1) + 1) (by omega) (by omega)
  rw [ae9] at r1
  exact ⟨_ :: l', k', by simp only [List.length_cons, a91, mid, afa, w1, w2, w3, m4, w5, w6, w7, m8, m9, m10, w11, w12]; rw [r1, aea], by omega, by rw [ads, List.length_cons]; omega, by simp only [a1z, ad2, ade, cond_false, w1, w2, w3, e4, d4, w5, w6, w7, e8, d8, e9, d9, e10, d10, w11, w12]; exact r4⟩
theorem al0 (a : (List PacketInFlight)) (k : Int) (h0 : 0 ≤ k) (hb : k + 16 * (sz a : Int) ≤ 4611686018427387904) : MkR k (a13 a k).1 (sz a) (a0q (a13 a k).2 k) := by
 rw [aem] at hb ⊢
 obtain ⟨l', k', r1, r2, r3, r4⟩ := ahe a [] k h0 (by omega)
 simp only [List.nil_append, List.length_nil] at r1
 simp only [a13, r1, a0q, r4]
 exact ⟨r2, by omega, rfl⟩
theorem asr (a : Consumer) : a4n a a = true := by
 simp only [a4n, ad2, ade, cond_false, Bool.not_true, aht, aq9]
theorem aq6 (a : Consumer) (left : Int) (h : GoT.ok 10 a) (h0 : 0 ≤ left) (h1 : left ≤ 1048576) : SzR (a4k a left) left (sz a) := by
 rw [anm]
 unfold a4k
 rcases ag1 a.name left (adp h).2.2.1 (by omega) (by omega) with r0 | ⟨q0, r0⟩
 ·rw [r0]; exact .inl rfl
 rw [r0, dF (by omega), cond_false]
 rcases akq a.data (left - (sz a.name : Int)) (adp h).2.2.2.2.2.2 (by omega) (by omega) with r1 | ⟨q1, r1⟩
 ·rw [r1]; exact .inl rfl
 rw [r1, dF (by omega), cond_false]
 exact .inr ⟨by omega, by omega⟩
theorem al2 : ∀ (l p : (List Consumer)), a7d (p ++ l) l p.length = none
 | [], _ => rfl
 | e :: l, p => by
  have ih := al2 l (p ++ [e])
  rw [aea, ae9] at ih
  simp only [a7d, mid, asr e, Bool.not_true, cond_false]
  exact ih
theorem aqw (a : (List Consumer)) : aaf a a = true := by
 have h := al2 a []
 simp only [List.nil_append, List.length_nil] at h
 simp only [aaf, ad2, cond_false, h]
theorem aj7 : ∀ (l : (List Consumer)) (left : Int), (∀ a ∈ l, GoT.ok 10 a) → 0 ≤ left → left ≤ 1048576 → SzL (a67 l left) left (szL l)
 | [], left, _, h0, _ => .inr ⟨by simp [aed]; omega, by simp [aed, a67]⟩
 | e :: l, left, hk, h0, h1 => by
  rw [ads]
  unfold a67
  rcases aq6 e left (hk e List.mem_cons_self) h0 h1 with r0 | ⟨q0, r0⟩
  ·rw [r0]; exact .inl rfl
  ·rw [r0, dF (by omega), cond_false]
   rcases aj7 l (left - (sz e : Int)) (fun a ha => hk a (List.mem_cons_of_mem _ ha)) (by omega) (by omega) with r | ⟨q, r⟩
   ·exact .inl r
   ·exact .inr ⟨by omega, by rw [r]; congr 1; omega⟩
theorem aos (a : (List Consumer)) (left : Int) (h : GoT.ok 10 a) (h0 : 0 ≤ left) (h1 : left ≤ 1048576) : SzR (a4l a left) left (sz a) := by
 have hl : a.length ≤ 9223372036854775807 := h.1
 rw [aem]
 unfold a4l
 rw [afe h0 h1 hl]
 by_cases hc : left - (a.length : Int) < 0
 ·rw [dT hc, cond_true]; exact .inl rfl
 ·rw [dF (by omega), cond_false]
  rcases aj7 a (left - (a.length : Int)) h.2 (by omega) (by omega) with r | ⟨q, r⟩
  ·rw [r]; exact .inl rfl
  ·rw [r]; exact .inr ⟨by omega, by show left - (a.length : Int) - (szL a : Int) = _; omega⟩
theorem alo (e : Consumer) : sz e = sz e.name.parts + sz e.data.name.parts + sz e.data.content + sz e.data.keyName.parts := by
 simp only [anm, ah4, ald, Nat.add_assoc]
theorem aky : ∀ (l p : (List Consumer)) (k : Int), 0 ≤ k → k + 16 * ((l.length : Int) + szL l) ≤ 4611686018427387904 → ∃ l' k', a92 l.length p.length (p ++ l) k = (p ++ l', k') ∧ k ≤ k' ∧ k' ≤ k + 16 * ((l.length : Int) + szL l) ∧ a24 l' k = .nxt k'
 | [], p, k, _, _ => ⟨[], k, rfl, by omega, by simp [aed], rfl⟩
 | e :: l, p, k, h0, hb => by
  rw [ads, List.length_cons] at hb
  have hsz := alo e
  have w1 := aft (x := k) (by omega) (by omega)
  have w2 := aft (x := (k + 1)) (by omega) (by omega)
  obtain ⟨k3, s3, m3, p3, q3, e3⟩ := mkE (aeu e.name.parts ((k + 1) + 1) (by omega) (by omega))
  have d3 := dF (show 0 ≤ k3 by omega)
  have w4 := aft (x := k3) (by omega) (by omega)
  have w5 := aft (x := (k3 + 1)) (by omega) (by omega)
  have w6 := aft (x := ((k3 + 1) + 1)) (by omega) (by omega)
  obtain ⟨k7, s7, m7, p7, q7, e7⟩ := mkE (aeu e.data.name.parts (((k3 + 1) + 1) + 1) (by omega) (by omega))
  have d7 := dF (show 0 ≤ k7 by omega)
  obtain ⟨k8, s8, m8, p8, q8, e8⟩ := mkE (amp e.data.content k7 (by omega) (by omega))
  have d8 := dF (show 0 ≤ k8 by omega)
  obtain ⟨k9, s9, m9, p9, q9, e9⟩ := mkE (aeu e.data.keyName.parts k8 (by omega) (by omega))
  have d9 := dF (show 0 ≤ k9 by omega)
  have w10 := aft (x := k9) (by omega) (by omega)
  have w11 := aft (x := (k9 + 1)) (by omega) (by omega)
  obtain ⟨l', k', r1, r2, r3, r4⟩ := aky l (p ++ [(Consumer.mk k (k + 1) (Name.mk s3) k3 (k3 + 1) ((Int.tmod ((k3 + 1) + 1) 3) == 0) (DataP.mk (Name.mk s7) s8 (Name.mk s9) k9 (k9 + 1)))]) ((k9 + 1) + 1) (by omega) (by omega)
  rw [ae9] at r1
  exact ⟨_ :: l', k', by simp only [List.length_cons, a92, mid, afa, w1, w2, m3, w4, w5, w6, m7, m8, m9, w10, w11]; rw [r1, aea], by omega, by rw [ads, List.length_cons]; omega, by simp only [a24, ad2, ade, cond_false, w1, w2, e3, d3, w4, w5, w6, e7, d7, e8, d8, e9, d9, w10, w11]; exact r4⟩
theorem aqz (a : (List Consumer)) (k : Int) (h0 : 0 ≤ k) (hb : k + 16 * (sz a : Int) ≤ 4611686018427387904) : MkR k (a1q a k).1 (sz a) (a0v (a1q a k).2 k) := by
 rw [aem] at hb ⊢
 obtain ⟨l', k', r1, r2, r3, r4⟩ := aky a [] k h0 (by omega)
 simp only [List.nil_append, List.length_nil] at r1
 simp only [a1q, r1, a0v, r4]
 exact ⟨r2, by omega, rfl⟩
theorem au6 (a : Network) : a2g a a = true := by
 simp only [a2g, ad2, ade, cond_false, Bool.not_true, anr, ajt, ak3, aw9, ax7, alj, aqw]
theorem ar2 (a : Network) (left : Int) (h : GoT.ok 10 a) (h0 : 0 ≤ left) (h1 : left ≤ 1048576) : SzR (a1x a left) left (sz a) := by
 rw [ai8]
 unfold a1x
 rcases aii a.topology left (acy h).1 (by omega) (by omega) with r0 | ⟨q0, r0⟩
 ·rw [r0]; exact .inl rfl
 rw [r0, dF (by omega), cond_false]
 rcases ah3 a.trust (left - (sz a.topology : Int)) (acy h).2.1 (by omega) (by omega) with r1 | ⟨q1, r1⟩
 ·rw [r1]; exact .inl rfl
 rw [r1, dF (by omega), cond_false]
 rcases ah2 a.producers ((left - (sz a.topology : Int)) - (sz a.trust : Int)) (acy h).2.2.1 (by omega) (by omega) with r2 | ⟨q2, r2⟩
 ·rw [r2]; exact .inl rfl
 rw [r2, dF (by omega), cond_false]
 rcases atm a.nodes (((left - (sz a.topology : Int)) - (sz a.trust : Int)) - (sz a.producers : Int)) (acy h).2.2.2.1 (by omega) (by omega) with r3 | ⟨q3, r3⟩
 ·rw [r3]; exact .inl rfl
 rw [r3, dF (by omega), cond_false]
 rcases aug a.failedLinks ((((left - (sz a.topology : Int)) - (sz a.trust : Int)) - (sz a.producers : Int)) - (sz a.nodes : Int)) (acy h).2.2.2.2.2.1 (by omega) (by omega) with r4 | ⟨q4, r4⟩
 ·rw [r4]; exact .inl rfl
 rw [r4, dF (by omega), cond_false]
 rcases ajo a.inFlight (((((left - (sz a.topology : Int)) - (sz a.trust : Int)) - (sz a.producers : Int)) - (sz a.nodes : Int)) - (sz a.failedLinks : Int)) (acy h).2.2.2.2.2.2.1 (by omega) (by omega) with r5 | ⟨q5, r5⟩
 ·rw [r5]; exact .inl rfl
 rw [r5, dF (by omega), cond_false]
 rcases aos a.consumers ((((((left - (sz a.topology : Int)) - (sz a.trust : Int)) - (sz a.producers : Int)) - (sz a.nodes : Int)) - (sz a.failedLinks : Int)) - (sz a.inFlight : Int)) (acy h).2.2.2.2.2.2.2.1 (by omega) (by omega) with r6 | ⟨q6, r6⟩
 ·rw [r6]; exact .inl rfl
 rw [r6, dF (by omega), cond_false]
 exact .inr ⟨by omega, by omega⟩
theorem atv (a : Network) (k : Int) (h0 : 0 ≤ k) (hb : k + 16 * (sz a : Int) ≤ 4611686018427387904) : MkR k (a01 a k).1 (sz a) (a1l (a01 a k).2 k) := by
 rw [ai8] at hb ⊢
 obtain ⟨p0, q0, e0⟩ := ao4 a.topology (k) (by omega) (by omega)
 have d0 := dF (show 0 ≤ (a08 a.topology (k)).1 by omega)
 have f0 : (a01 a k).2.topology = (a08 a.topology (k)).2 := rfl
 obtain ⟨p1, q1, e1⟩ := ajw a.trust ((a08 a.topology (k)).1) (by omega) (by omega)
 have d1 := dF (show 0 ≤ (a0a a.trust ((a08 a.topology (k)).1)).1 by omega)
 have f1 : (a01 a k).2.trust = (a0a a.trust ((a08 a.topology (k)).1)).2 := rfl
 obtain ⟨p2, q2, e2⟩ := ak0 a.producers ((a0a a.trust ((a08 a.topology (k)).1)).1) (by omega) (by omega)
 have d2 := dF (show 0 ≤ (a0h a.producers ((a0a a.trust ((a08 a.topology (k)).1)).1)).1 by omega)
 have f2 : (a01 a k).2.producers = (a0h a.producers ((a0a a.trust ((a08 a.topology (k)).1)).1)).2 := rfl
 obtain ⟨p3, q3, e3⟩ := avm a.nodes ((a0h a.producers ((a0a a.trust ((a08 a.topology (k)).1)).1)).1) (by omega) (by omega)
 have d3 := dF (show 0 ≤ (a0l a.nodes ((a0h a.producers ((a0a a.trust ((a08 a.topology (k)).1)).1)).1)).1 by omega)
 have f3 : (a01 a k).2.nodes = (a0l a.nodes ((a0h a.producers ((a0a a.trust ((a08 a.topology (k)).1)).1)).1)).2 := rfl
 obtain ⟨p4, q4, e4⟩ := ax8 a.failedLinks ((a0l a.nodes ((a0h a.producers ((a0a a.trust ((a08 a.topology (k)).1)).1)).1)).1) (by omega) (by omega)
 have d4 := dF (show 0 ≤ (a0o a.failedLinks ((a0l a.nodes ((a0h a.producers ((a0a a.trust ((a08 a.topology (k)).1)).1)).1)).1)).1 by omega)
 have f4 : (a01 a k).2.failedLinks = (a0o a.failedLinks ((a0l a.nodes ((a0h a.producers ((a0a a.trust ((a08 a.topology (k)).1)).1)).1)).1)).2 := rfl
 obtain ⟨p5, q5, e5⟩ := al0 a.inFlight ((a0o a.failedLinks ((a0l a.nodes ((a0h a.producers ((a0a a.trust ((a08 a.topology (k)).1)).1)).1)).1)).1) (by omega) (by omega)
 have d5 := dF (show 0 ≤ (a13 a.inFlight ((a0o a.failedLinks ((a0l a.nodes ((a0h a.producers ((a0a a.trust ((a08 a.topology (k)).1)).1)).1)).1)).1)).1 by omega)
 have f5 : (a01 a k).2.inFlight = (a13 a.inFlight ((a0o a.failedLinks ((a0l a.nodes ((a0h a.producers ((a0a a.trust ((a08 a.topology (k)).1)).1)).1)).1)).1)).2 := rfl
 obtain ⟨p6, q6, e6⟩ := aqz a.consumers ((a13 a.inFlight ((a0o a.failedLinks ((a0l a.nodes ((a0h a.producers ((a0a a.trust ((a08 a.topology (k)).1)).1)).1)).1)).1)).1) (by omega) (by omega)
 have d6 := dF (show 0 ≤ (a1q a.consumers ((a13 a.inFlight ((a0o a.failedLinks ((a0l a.nodes ((a0h a.producers ((a0a a.trust ((a08 a.topology (k)).1)).1)).1)).1)).1)).1)).1 by omega)
 have f6 : (a01 a k).2.consumers = (a1q a.consumers ((a13 a.inFlight ((a0o a.failedLinks ((a0l a.nodes ((a0h a.producers ((a0a a.trust ((a08 a.topology (k)).1)).1)).1)).1)).1)).1)).2 := rfl
 refine ⟨show k ≤ (a1q a.consumers ((a13 a.inFlight ((a0o a.failedLinks ((a0l a.nodes ((a0h a.producers ((a0a a.trust ((a08 a.topology (k)).1)).1)).1)).1)).1)).1)).1 by omega, show (a1q a.consumers ((a13 a.inFlight ((a0o a.failedLinks ((a0l a.nodes ((a0h a.producers ((a0a a.trust ((a08 a.topology (k)).1)).1)).1)).1)).1)).1)).1 ≤ _ by omega, ?_⟩
 show _ = (a1q a.consumers ((a13 a.inFlight ((a0o a.failedLinks ((a0l a.nodes ((a0h a.producers ((a0a a.trust ((a08 a.topology (k)).1)).1)).1)).1)).1)).1)).1
 simp only [a1l, f0, e0, d0, f1, e1, d1, f2, e2, d2, f3, e3, d3, f4, e4, d4, f5, e5, d5, f6, e6, d6, cond_false]
end Go.Stp
namespace Go.Stp
def a40 (aG : Topology) (aT : TrustPolicy) (aH : (List TableEntry)) (aCapacity : Int) : Bool := bif decide ((a0w aG 1048576) < 0) then true else bif decide ((a0x aT (a0w aG 1048576)) < 0) then true else bif decide ((a23 aH (a0x aT (a0w aG 1048576))) < 0) then true else bif (!(a2g (a09 (a06 aG) (a05 aT) (a07 aH) aCapacity) (a1u (a06 aG) (a05 aT) (a07 aH) aCapacity))) then false else bif (!(a85 (a06 aG) (a06 aG))) then false else bif (!(a68 (a05 aT) (a05 aT))) then false else bif (!(a88 (a07 aH) (a07 aH))) then false else bif decide ((a0h (a07 aH) ((a0a (a05 aT) ((a08 (a06 aG) 1).1)).1)).1 < 0) then false else bif decide ((a1l ((a01 (a09 (a06 aG) (a05 aT) (a07 aH) aCapacity) 1).2) 1) < 0) then false else bif ((a1l ((a01 (a09 (a06 aG) (a05 aT) (a07 aH) aCapacity) 1).2) 1) != (a01 (a09 (a06 aG) (a05 aT) (a07 aH) aCapacity) 1).1) then false else true
def a9q (aW : Network) : Bool := bif decide ((a1x aW 1048576) < 0) then true else bif (!(a2g (a0b (a04 aW)) (abg (a04 aW)))) then false else bif (!(a2g (a04 aW) (a04 aW))) then false else bif decide ((a01 (a04 aW) 1).1 < 0) then false else bif decide ((a1l ((a01 (a0b (a04 aW)) 1).2) 1) < 0) then false else bif ((a1l ((a01 (a0b (a04 aW)) 1).2) 1) != (a01 (a0b (a04 aW)) 1).1) then false else true
end Go.Stp
namespace Go.Proofs.YtpmejlbgjkiobaaGreat
open Go.Stp
open Go.Stp.GoT (ok)
variable {w : World} (n : Nat) {K0 K1 K2 K3 K4 K5 K6 K7 K8 K9 : Option Addr} {M0 M1 M2 M3 M4 M5 M6 M7 M8 M9 : Nat}
theorem f4 (hn : n + 1 ≤ 9) (aG : Topology) (N0 : Rd w K0 M0 aG.links) (aT : TrustPolicy) (N1 : Rd w K1 M1 aT.keys) (N2 : Rd w K2 M2 aT.rules) (N3 : Rd w K3 M3 aT.anchors) (N4 : Rd w K4 M4 aT.certificates) {aH : List TableEntry} (N5 : Rd w K5 M5 aH) {aCapacity : Int} (a6 : ok 10 aG) (a5 : ok 10 aT) (a4 : ok 10 aH) (a0 : ok 10 aCapacity) :
 DP 4 #[aeq aG K0 M0, af4 aT K1 M1 K2 M2 K3 M3 K4 M4, vS K5 aH M5, vI aCapacity] w (pB (a40 aG aT aH aCapacity)) := by
 have hb := bS1 hn
 refine EN Tryz.func4 Z (aS6 N0 N1 N2 N3 N4 N5) ?_
 refine KV Z Z Z Z Z Z O Z (fun w γ => f19 10 aG (γ.q 0 Z) a6 (i6 1048576)) fun cm => ?_
 refine yKD 23 ?_ ?_ <;> intro h1 e7
 exact R4r Z Z (by simp only [a40, h1, cT, cF])
 obtain ⟨dz, ey⟩ := (aii aG 1048576 a6 τ0 τ0).pos τ0
 have ak : ok n aG := GoT.okm (Nat.zero_le n) (Sz.low a6 (show sz aG ≤ 1048576 by omega))
 refine KV Z Z Z Z Z Z O Z (fun w γ => f20 10 aT (γ.q 1 Z) (γ.q 2 Z) (γ.q 3 Z) (γ.q 4 Z) a5 cm) fun co => ?_
 refine yKD 28 ?_ ?_ <;> intro h2 e2
 exact R4r Z Z (by simp only [a40, h1, h2, cT, cF])
 obtain ⟨d4, e9⟩ := (ah3 aT (a0w aG 1048576) a5 τ0 τ0).pos τ0
 have aj : ok n aT := GoT.okm (Nat.zero_le n) (Sz.low a5 (show sz aT ≤ 1048576 by omega))
 refine KV Z Z Z Z Z Z O Z (fun w γ => f21 10 (γ.q 5 Z) a4 co) fun e6 => ?_
 refine yKD 33 ?_ ?_ <;> intro h3 d8
 exact R4r Z Z (by simp only [a40, h1, h2, h3, cT, cF])
 obtain ⟨db, ek⟩ := (ah2 aH (a0x aT (a0w aG 1048576)) a4 τ0 τ0).pos τ0
 have al : ok n aH := GoT.okm (Nat.zero_le n) (Sz.low a4 (show sz aH ≤ 1048576 by omega))
 refine R0 ?_
 refine WX.draw [9] mixed fun bs G0 b6 => ?_
 refine dT 6 [0, 4, 9, 13] ?_
 refine DX.pend 8 10 ⟨39, [.int .i64 (0), .slice none (0) 0, .slice none (0) 0, .slice none (0) 0, .slice none (0) 0, .slice none (0) 0, .slice none (0) 0, .slice none (0) 0, .int .i64 (0), .slice none (0) 0, .slice none (0) 0, .slice none (0) 0, .int .i64 (0), .int .i64 (0)]⟩ ?_
 refine DXA.callF 1 6 (fun _ _ h => GoT.ow_rd h) (fun _ f hf => GoT.fak f hf) ttOk Z Z Z Z Z Z Z J J J Z Z Z Z Z Z Z Z Z Z O Z Z (fun w G bs hI hΓ => f23 n τ0 aG (hΓ.get 0 Z) ak) O O ?_
 rintro ⟨⟨⟩, ⟨p1, c1⟩⟩ a9
 refine DXA.callF 3 8 (fun _ _ h => GoT.ow_rd h) (fun _ f hf => GoT.fak f hf) ttOk Z Z Z Z Z Z Z J J J Z Z Z Z Z Z Z Z Z Z O Z Z (fun w G bs hI hΓ => f24 n τ0 aT (hΓ.get 1 Z) (hΓ.get 2 Z) (hΓ.get 3 Z) (hΓ.get 4 Z) aj) O O ?_
 rintro ⟨⟨p2, c2⟩, ⟨p3, c3⟩, ⟨p4, c4⟩, ⟨p5, c5⟩⟩ bw
 dsimp only
 refine DXA.callF 5 16 (fun _ _ h => GoT.ow_rd h) (fun _ f hf => GoT.fak f hf) ttOk Z Z Z Z Z Z Z J J J Z Z Z Z Z Z Z Z Z Z O Z Z (fun w G bs hI hΓ => f25 n τ0 (hΓ.get 5 Z) al) O O ?_
 rintro ⟨p6, c6⟩ cy
 dsimp only
 refine DXA.callF 7 18 (fun _ _ h => GoT.ow_rd h) (fun _ f hf => GoT.fak f hf) ttOk Z Z Z Z Z Z Z J J J Z Z Z Z Z Z Z Z Z Z O Z Z (fun w G bs hI hΓ => f22 n τ0 (a06 aG) (hΓ.get 6 Z) (a05 aT) (hΓ.get 8 Z) (hΓ.get 9 Z) (hΓ.get 10 Z) (hΓ.get 11 Z) (hΓ.get 16 Z) a9 bw cy a0) O O ?_
 rintro ⟨⟨⟨⟩, ⟨p7, c7⟩⟩, ⟨⟨p8, c8⟩, ⟨p9, c9⟩, ⟨dv, dc⟩, ⟨f0, ex⟩⟩, ⟨dw, dq⟩, ⟨eq, eh⟩, ⟨⟩, ⟨dj, es⟩, ⟨f2, d2⟩, ⟨ef, dr⟩, ⟨⟩, ⟨⟩⟩ bg
 dsimp only
 refine DXA.tail [9] ttOk Z Z Z Z Z Z J Z Z J ?_
 refine KF Z 38 Z Z Z Z Z O Z (fun w γ => f23 n τ0 aG (γ.q 0 Z) ak) ?_
 rintro ⟨⟨⟩, ⟨c0, cz⟩⟩ b5
 dsimp only
 refine KF Z 40 Z Z Z Z Z O Z (fun w γ => f24 n τ0 aT (γ.q 1 Z) (γ.q 2 Z) (γ.q 3 Z) (γ.q 4 Z) aj) ?_
 rintro ⟨⟨cr, cp⟩, ⟨cf, ct⟩, ⟨cd, cv⟩, ⟨ck, ca⟩⟩ bh
 dsimp only
 refine KF Z 48 Z Z Z Z Z O Z (fun w γ => f25 n τ0 (γ.q 5 Z) al) ?_
 rintro ⟨ci, cl⟩ a8
 dsimp only
 refine KF Z 50 Z Z Z Z Z O Z (fun w γ => f26 n τ0 (a06 aG) (γ.q 38 Z) (a05 aT) (γ.q 40 Z) (γ.q 41 Z) (γ.q 42 Z) (γ.q 43 Z) (γ.q 48 Z) (An (ad0 a9).1 (ad0 b5).2) bh a8 a0) ?_
 rintro ⟨⟨⟨⟩, ⟨bk, ap⟩⟩, ⟨⟨aq, bc⟩, ⟨b8, b0⟩, ⟨b7, bj⟩, ⟨ao, av⟩⟩, ⟨an, aw⟩, ⟨au, ar⟩, ⟨⟩, ⟨bb, am⟩, ⟨bf, ax⟩, ⟨be, b3⟩, ⟨⟩, ⟨⟩⟩ a2
 dsimp only
 refine KV Z Z Z Z Z Z O Z (fun w γ => f27 n τ0 (a09 (a06 aG) (a05 aT) (a07 aH) aCapacity) (γ.q 50 Z) (γ.q 51 Z) (γ.q 52 Z) (γ.q 53 Z) (γ.q 54 Z) (γ.q 55 Z) (γ.q 56 Z) (γ.q 57 Z) (γ.q 58 Z) (γ.q 59 Z) (a1u (a06 aG) (a05 aT) (a07 aH) aCapacity) (γ.q 18 Z) (γ.q 19 Z) (γ.q 20 Z) (γ.q 21 Z) (γ.q 22 Z) (γ.q 23 Z) (γ.q 24 Z) (γ.q 25 Z) (γ.q 26 Z) (γ.q 27 Z) a2 bg) fun cs => ?_
 refine yKN 56 ?_ ?_ <;> intro h4 ds
 exact R4r Z Z (by simp only [a40, h1, h2, h3, h4, cT, cF])
 refine R0 ?_
 refine WX.draw [] mixed fun bs G0 b6 => ?_
 refine dT 3 [0, 2] ?_
 refine DXF 2 70 Z J Z Z Z Z Z Z O Z (fun w γ => f23 n τ0 aG (γ.q 0 Z) ak) ?_
 rintro ⟨⟨⟩, ⟨dx, f7⟩⟩ b1
 dsimp only
 refine DXV 3 Z J Z Z Z Z Z Z O Z (fun w γ => f28 n τ0 (a06 aG) (γ.q 38 Z) (a06 aG) (γ.q 70 Z) (An (ad0 a9).1 (ad0 b5).2) (An (ad0 a9).1 (ad0 b1).2)) fun cb => ?_
 refine dT 0 [9] ?_
 refine DX.tail2 [] Z Z J ?_
 refine yKN 61 ?_ ?_ <;> intro h5 dy
 exact R4r Z Z (by simp only [a40, h1, h2, h3, h4, h5, cT, cF])
 refine R0 ?_
 refine WX.draw [] mixed fun bs G0 b6 => ?_
 refine dT 3 [0, 2] ?_
 refine DXF 2 72 Z J Z Z Z Z Z Z O Z (fun w γ => f24 n τ0 aT (γ.q 1 Z) (γ.q 2 Z) (γ.q 3 Z) (γ.q 4 Z) aj) ?_
 rintro ⟨⟨ea, ez⟩, ⟨e1, da⟩, ⟨di, dt⟩, ⟨dk, ew⟩⟩ bi
 dsimp only
 refine DXV 3 Z J Z Z Z Z Z Z O Z (fun w γ => f29 n τ0 (a05 aT) (γ.q 40 Z) (γ.q 41 Z) (γ.q 42 Z) (γ.q 43 Z) (a05 aT) (γ.q 72 Z) (γ.q 73 Z) (γ.q 74 Z) (γ.q 75 Z) bh bi) fun bx => ?_
 refine dT 0 [9] ?_
 refine DX.tail2 [] Z Z J ?_
 refine yKN 66 ?_ ?_ <;> intro h6 eo
 exact R4r Z Z (by simp only [a40, h1, h2, h3, h4, h5, h6, cT, cF])
 refine KF Z 80 Z Z Z Z Z O Z (fun w γ => f25 n τ0 (γ.q 5 Z) al) ?_
 rintro ⟨ei, dl⟩ ba
 dsimp only
 refine CV Z Z Z Z Z O Z (fun w γ => f30 n τ0 (γ.q 48 Z) (γ.q 80 Z) a8 ba) fun ch => ?_
 refine yKN 71 ?_ ?_ <;> intro h7 ec
 exact R4r Z Z (by simp only [a40, h1, h2, h3, h4, h5, h6, h7, cT, cF])
 refine R0 ?_
 refine CN [39] 82 Z Z Z Z Z Z O Z (fun w β H η σ γ => f31 n τ0 (a06 aG) c0 cz η σ (An (ad0 a9).1 (ad0 b5).2) (i6 1)) ?_
 rintro ⟨⟩ ae
 have e4 : ((a08 (a06 aG) 1).2.links).length = ((a06 aG).links).length := ae.2.2
 refine R0 ?_
 refine CN [44, 45, 46, 47] 84 Z Z Z Z Z Z O Z (fun w β H η σ γ => f32 n τ0 (a05 aT) cr cp cf ct cd cv ck ca η σ bh ae.1.1) ?_
 rintro ⟨⟩ a7
 have ej : ((a0a (a05 aT) ((a08 (a06 aG) 1).1)).2.keys).length = ((a05 aT).keys).length := a7.2.1
 have df : ((a0a (a05 aT) ((a08 (a06 aG) 1).1)).2.rules).length = ((a05 aT).rules).length := a7.2.2.1
 have ee : ((a0a (a05 aT) ((a08 (a06 aG) 1).1)).2.anchors).length = ((a05 aT).anchors).length := a7.2.2.2.1
 have e8 : ((a0a (a05 aT) ((a08 (a06 aG) 1).1)).2.certificates).length = ((a05 aT).certificates).length := a7.2.2.2.2
 refine R0 ?_
 refine CN [49] 92 Z Z Z Z Z Z O Z (fun w β H η σ γ => f33 n τ0 (a07 aH) ci cl η σ a8 a7.1.1) ?_
 rintro ⟨⟩ b4
 have dd : ((a0h (a07 aH) ((a0a (a05 aT) ((a08 (a06 aG) 1).1)).1)).2).length = ((a07 aH)).length := b4.2
 refine yKD 83 ?_ ?_ <;> intro h8 d9
 exact R4r Z Z (by simp only [a40, h1, h2, h3, h4, h5, h6, h7, h8, cT, cF])
 refine zW 94 60 ?_
 refine zW 95 61 ?_
 refine zW 96 62 ?_
 refine zW 97 63 ?_
 refine zW 98 64 ?_
 refine zW 99 65 ?_
 refine zW 100 66 ?_
 refine zW 101 67 ?_
 refine zW 102 68 ?_
 refine zW 103 69 ?_
 refine zW 104 28 ?_
 refine zW 105 29 ?_
 refine zW 106 30 ?_
 refine zW 107 31 ?_
 refine zW 108 32 ?_
 refine zW 109 33 ?_
 refine zW 110 34 ?_
 refine zW 111 35 ?_
 refine zW 112 36 ?_
 refine zW 113 37 ?_
 refine KV Z Z Z Z Z Z O Z (fun w γ => f27 n τ0 (a09 (a06 aG) (a05 aT) (a07 aH) aCapacity) (γ.q 94 Z) (γ.q 95 Z) (γ.q 96 Z) (γ.q 97 Z) (γ.q 98 Z) (γ.q 99 Z) (γ.q 100 Z) (γ.q 101 Z) (γ.q 102 Z) (γ.q 103 Z) (a1u (a06 aG) (a05 aT) (a07 aH) aCapacity) (γ.q 104 Z) (γ.q 105 Z) (γ.q 106 Z) (γ.q 107 Z) (γ.q 108 Z) (γ.q 109 Z) (γ.q 110 Z) (γ.q 111 Z) (γ.q 112 Z) (γ.q 113 Z) a2 bg) fun bz => ?_
 refine yKN 88 ?_ ?_ <;> intro h9 d5
 exact absurd (h4.symm.trans h9) Bool.false_ne_true
 refine R0 ?_
 refine CN [60, 61, 62, 63, 64, 65, 66, 67, 68, 69] 114 Z Z Z Z Z Z O Z (fun w β H η σ γ => f34 n τ0 (a09 (a06 aG) (a05 aT) (a07 aH) aCapacity) bk ap aq bc b8 b0 b7 bj ao av an aw au ar bb am bf ax be b3 η σ a2 (i6 1)) ?_
 rintro ⟨⟩ a1
 have br : ((a01 (a09 (a06 aG) (a05 aT) (a07 aH) aCapacity) 1).2.topology.links).length = ((a09 (a06 aG) (a05 aT) (a07 aH) aCapacity).topology.links).length := a1.2.2.1
 have bp : ((a01 (a09 (a06 aG) (a05 aT) (a07 aH) aCapacity) 1).2.trust.keys).length = ((a09 (a06 aG) (a05 aT) (a07 aH) aCapacity).trust.keys).length := a1.2.2.2.1
 have bo : ((a01 (a09 (a06 aG) (a05 aT) (a07 aH) aCapacity) 1).2.trust.rules).length = ((a09 (a06 aG) (a05 aT) (a07 aH) aCapacity).trust.rules).length := a1.2.2.2.2.1
 have aa : ((a01 (a09 (a06 aG) (a05 aT) (a07 aH) aCapacity) 1).2.trust.anchors).length = ((a09 (a06 aG) (a05 aT) (a07 aH) aCapacity).trust.anchors).length := a1.2.2.2.2.2.1
 have ag : ((a01 (a09 (a06 aG) (a05 aT) (a07 aH) aCapacity) 1).2.trust.certificates).length = ((a09 (a06 aG) (a05 aT) (a07 aH) aCapacity).trust.certificates).length := a1.2.2.2.2.2.2.1
 have ab : ((a01 (a09 (a06 aG) (a05 aT) (a07 aH) aCapacity) 1).2.producers).length = ((a09 (a06 aG) (a05 aT) (a07 aH) aCapacity).producers).length := a1.2.2.2.2.2.2.2.1
 have ad : ((a01 (a09 (a06 aG) (a05 aT) (a07 aH) aCapacity) 1).2.nodes).length = ((a09 (a06 aG) (a05 aT) (a07 aH) aCapacity).nodes).length := a1.2.2.2.2.2.2.2.2.1
 have ac : ((a01 (a09 (a06 aG) (a05 aT) (a07 aH) aCapacity) 1).2.failedLinks).length = ((a09 (a06 aG) (a05 aT) (a07 aH) aCapacity).failedLinks).length := a1.2.2.2.2.2.2.2.2.2.2.1
 have ah : ((a01 (a09 (a06 aG) (a05 aT) (a07 aH) aCapacity) 1).2.inFlight).length = ((a09 (a06 aG) (a05 aT) (a07 aH) aCapacity).inFlight).length := a1.2.2.2.2.2.2.2.2.2.2.2.1
 have af : ((a01 (a09 (a06 aG) (a05 aT) (a07 aH) aCapacity) 1).2.consumers).length = ((a09 (a06 aG) (a05 aT) (a07 aH) aCapacity).consumers).length := a1.2.2.2.2.2.2.2.2.2.2.2.2.1
 have bt : (a01 (a09 (a06 aG) (a05 aT) (a07 aH) aCapacity) 1).2.topology.size = (a09 (a06 aG) (a05 aT) (a07 aH) aCapacity).topology.size := a1.2.1
 have bq : (a01 (a09 (a06 aG) (a05 aT) (a07 aH) aCapacity) 1).2.downNodes = (a09 (a06 aG) (a05 aT) (a07 aH) aCapacity).downNodes := a1.2.2.2.2.2.2.2.2.2.1
 have bv : (a01 (a09 (a06 aG) (a05 aT) (a07 aH) aCapacity) 1).2.now = (a09 (a06 aG) (a05 aT) (a07 aH) aCapacity).now := a1.2.2.2.2.2.2.2.2.2.2.2.2.2.1
 have bm : (a01 (a09 (a06 aG) (a05 aT) (a07 aH) aCapacity) 1).2.dropped = (a09 (a06 aG) (a05 aT) (a07 aH) aCapacity).dropped := a1.2.2.2.2.2.2.2.2.2.2.2.2.2.2
 refine R0 ?_
 refine WX.slot 92 (y := .v (.agg #[.int .i64 ((a01 (a09 (a06 aG) (a05 aT) (a07 aH) aCapacity) 1).2.topology.size), .slice bk (((a01 (a09 (a06 aG) (a05 aT) (a07 aH) aCapacity) 1).2.topology.links).length) ap, .slice aq (((a01 (a09 (a06 aG) (a05 aT) (a07 aH) aCapacity) 1).2.trust.keys).length) bc, .slice b8 (((a01 (a09 (a06 aG) (a05 aT) (a07 aH) aCapacity) 1).2.trust.rules).length) b0, .slice b7 (((a01 (a09 (a06 aG) (a05 aT) (a07 aH) aCapacity) 1).2.trust.anchors).length) bj, .slice ao (((a01 (a09 (a06 aG) (a05 aT) (a07 aH) aCapacity) 1).2.trust.certificates).length) av, .slice an (((a01 (a09 (a06 aG) (a05 aT) (a07 aH) aCapacity) 1).2.producers).length) aw, .slice au (((a01 (a09 (a06 aG) (a05 aT) (a07 aH) aCapacity) 1).2.nodes).length) ar, .int .i64 ((a01 (a09 (a06 aG) (a05 aT) (a07 aH) aCapacity) 1).2.downNodes), .slice bb (((a01 (a09 (a06 aG) (a05 aT) (a07 aH) aCapacity) 1).2.failedLinks).length) am, .slice bf (((a01 (a09 (a06 aG) (a05 aT) (a07 aH) aCapacity) 1).2.inFlight).length) ax, .slice be (((a01 (a09 (a06 aG) (a05 aT) (a07 aH) aCapacity) 1).2.consumers).length) b3, .int .i64 ((a01 (a09 (a06 aG) (a05 aT) (a07 aH) aCapacity) 1).2.now), .int .i64 ((a01 (a09 (a06 aG) (a05 aT) (a07 aH) aCapacity) 1).2.dropped)])) Z (fun _ => by simp only [conc, br, bp, bo, aa, ag, ab, ad, ac, ah, af, bt, bq, bv, bm]) ?_
 refine CV Z Z Z Z Z O Z (fun w γ => f35 n τ0 ((a01 (a09 (a06 aG) (a05 aT) (a07 aH) aCapacity) 1).2) (γ.q 114 Z) (γ.q 115 Z) (γ.q 116 Z) (γ.q 117 Z) (γ.q 118 Z) (γ.q 119 Z) (γ.q 120 Z) (γ.q 121 Z) (γ.q 122 Z) (γ.q 123 Z) a1.1.2 (i6 1)) fun cc => ?_
 refine yKD 96 ?_ ?_ <;> intro ai cx
 exact R4r Z Z (by simp only [a40, h1, h2, h3, h4, h5, h6, h7, h8, h9, ai, cT, cF])
 refine yKM 99 ?_ ?_ <;> intro b9 cq
 exact R4r Z Z (by simp only [a40, h1, h2, h3, h4, h5, h6, h7, h8, h9, ai, b9, cT, cF])
 refine zW 134 88 ?_
 refine zW 135 89 ?_
 refine zW 136 90 ?_
 refine zW 137 91 ?_
 refine zW 138 83 ?_
 refine zW 139 28 ?_
 refine zW 140 29 ?_
 refine zW 141 30 ?_
 refine zW 142 31 ?_
 refine zW 143 32 ?_
 refine zW 144 33 ?_
 refine zW 145 34 ?_
 refine zW 146 35 ?_
 refine zW 147 36 ?_
 refine zW 148 37 ?_
 refine R0 ?_
 refine WX.draw [9] mixed fun bs G0 b6 => ?_
 refine dT 6 [0, 4, 9, 13] ?_
 refine DX.pend 8 18 ⟨39, [.int .i64 (0), .slice none (0) 0, .slice none (0) 0, .slice none (0) 0, .slice none (0) 0, .slice none (0) 0, .slice none (0) 0, .slice none (0) 0, .int .i64 (0), .slice none (0) 0, .slice none (0) 0, .slice none (0) 0, .int .i64 (0), .int .i64 (0)]⟩ ?_
 refine DXA.callF 1 149 (fun _ _ h => GoT.ow_rd h) (fun _ f hf => GoT.fak f hf) ttOk Z Z Z Z Z Z Z J J J Z Z Z Z Z Z Z Z Z Z O Z Z (fun w G bs hI hΓ => f23 n τ0 aG (hΓ.get 0 Z) ak) O O ?_
 rintro ⟨⟨⟩, ⟨en, d6⟩⟩ az
 dsimp only
 refine DXA.callF 3 151 (fun _ _ h => GoT.ow_rd h) (fun _ f hf => GoT.fak f hf) ttOk Z Z Z Z Z Z Z J J J Z Z Z Z Z Z Z Z Z Z O Z Z (fun w G bs hI hΓ => f24 n τ0 aT (hΓ.get 1 Z) (hΓ.get 2 Z) (hΓ.get 3 Z) (hΓ.get 4 Z) aj) O O ?_
 rintro ⟨⟨et, eb⟩, ⟨dm, f8⟩, ⟨dn, ep⟩, ⟨d3, dg⟩⟩ ay
 dsimp only
 refine DXA.callF 5 159 (fun _ _ h => GoT.ow_rd h) (fun _ f hf => GoT.fak f hf) ttOk Z Z Z Z Z Z Z J J J Z Z Z Z Z Z Z Z Z Z O Z Z (fun w G bs hI hΓ => f25 n τ0 (hΓ.get 5 Z) al) O O ?_
 rintro ⟨em, d1⟩ b2
 dsimp only
 refine DXA.callF 7 161 (fun _ _ h => GoT.ow_rd h) (fun _ f hf => GoT.fak f hf) ttOk Z Z Z Z Z Z Z J J J Z Z Z Z Z Z Z Z Z Z O Z Z (fun w G bs hI hΓ => f26 n τ0 (a06 aG) (hΓ.get 149 Z) (a05 aT) (hΓ.get 151 Z) (hΓ.get 152 Z) (hΓ.get 153 Z) (hΓ.get 154 Z) (hΓ.get 159 Z) (An (ad0 a9).1 (ad0 az).2) ay b2 a0) O O ?_
 rintro ⟨⟨⟨⟩, ⟨el, f9⟩⟩, ⟨⟨de, f6⟩, ⟨d0, d7⟩, ⟨dp, dh⟩, ⟨eu, du⟩⟩, ⟨e5, f3⟩, ⟨e3, er⟩, ⟨⟩, ⟨e0, f1⟩, ⟨eg, ev⟩, ⟨f5, ed⟩, ⟨⟩, ⟨⟩⟩ a3
 dsimp only
 refine DXA.tail [9] ttOk Z Z Z Z Z Z J Z Z J ?_
 refine KV Z Z Z Z Z Z O Z (fun w γ => f27 n τ0 (a09 (a06 aG) (a05 aT) (a07 aH) aCapacity) (γ.q 161 Z) (γ.q 162 Z) (γ.q 163 Z) (γ.q 164 Z) (γ.q 165 Z) (γ.q 166 Z) (γ.q 167 Z) (γ.q 168 Z) (γ.q 169 Z) (γ.q 170 Z) (a1u (a06 aG) (a05 aT) (a07 aH) aCapacity) (γ.q 139 Z) (γ.q 140 Z) (γ.q 141 Z) (γ.q 142 Z) (γ.q 143 Z) (γ.q 144 Z) (γ.q 145 Z) (γ.q 146 Z) (γ.q 147 Z) (γ.q 148 Z) (An (An (ad0 (acy a2).1).1 (ad0 (acy a3).1).2) (An (acy a3).2.1 (An (acy a3).2.2.1 (An (acy a3).2.2.2.1 (An (acy a2).2.2.2.2.1 (An (acy a3).2.2.2.2.2.1 (An (acy a3).2.2.2.2.2.2.1 (An (acy a3).2.2.2.2.2.2.2.1 (An (acy a2).2.2.2.2.2.2.2.2.1 (acy a2).2.2.2.2.2.2.2.2.2))))))))) bg) fun cw => ?_
 refine yKN 111 ?_ ?_ <;> intro bl cj
 exact absurd (h4.symm.trans bl) Bool.false_ne_true
 refine R0 ?_
 refine WX.slot 112 (y := .v (.agg #[.int .i64 ((a01 (a09 (a06 aG) (a05 aT) (a07 aH) aCapacity) 1).2.topology.size), .slice bk (((a01 (a09 (a06 aG) (a05 aT) (a07 aH) aCapacity) 1).2.topology.links).length) ap, .slice aq (((a01 (a09 (a06 aG) (a05 aT) (a07 aH) aCapacity) 1).2.trust.keys).length) bc, .slice b8 (((a01 (a09 (a06 aG) (a05 aT) (a07 aH) aCapacity) 1).2.trust.rules).length) b0, .slice b7 (((a01 (a09 (a06 aG) (a05 aT) (a07 aH) aCapacity) 1).2.trust.anchors).length) bj, .slice ao (((a01 (a09 (a06 aG) (a05 aT) (a07 aH) aCapacity) 1).2.trust.certificates).length) av, .slice an (((a01 (a09 (a06 aG) (a05 aT) (a07 aH) aCapacity) 1).2.producers).length) aw, .slice au (((a01 (a09 (a06 aG) (a05 aT) (a07 aH) aCapacity) 1).2.nodes).length) ar, .int .i64 ((a01 (a09 (a06 aG) (a05 aT) (a07 aH) aCapacity) 1).2.downNodes), .slice bb (((a01 (a09 (a06 aG) (a05 aT) (a07 aH) aCapacity) 1).2.failedLinks).length) am, .slice bf (((a01 (a09 (a06 aG) (a05 aT) (a07 aH) aCapacity) 1).2.inFlight).length) ax, .slice be (((a01 (a09 (a06 aG) (a05 aT) (a07 aH) aCapacity) 1).2.consumers).length) b3, .int .i64 ((a01 (a09 (a06 aG) (a05 aT) (a07 aH) aCapacity) 1).2.now), .int .i64 ((a01 (a09 (a06 aG) (a05 aT) (a07 aH) aCapacity) 1).2.dropped)])) Z (fun _ => by simp only [conc, br, bp, bo, aa, ag, ab, ad, ac, ah, af, bt, bq, bv, bm]) ?_
 refine CV Z Z Z Z Z O Z (fun w γ => f35 n τ0 ((a01 (a09 (a06 aG) (a05 aT) (a07 aH) aCapacity) 1).2) (γ.q 114 Z) (γ.q 115 Z) (γ.q 116 Z) (γ.q 117 Z) (γ.q 118 Z) (γ.q 119 Z) (γ.q 120 Z) (γ.q 121 Z) (γ.q 122 Z) (γ.q 123 Z) a1.1.2 (i6 1)) fun cn => ?_
 refine yKD 116 ?_ ?_ <;> intro bn ce
 exact absurd (ai.symm.trans bn) Bool.false_ne_true
 refine yKM 119 ?_ ?_ <;> intro bu cg
 exact absurd (b9.symm.trans bu) Bool.false_ne_true
 exact R4r Z Z (by simp only [a40, h1, h2, h3, h4, h5, h6, h7, h8, h9, ai, b9, bl, bn, bu, cT, cF])
theorem f5 (hn : n + 1 ≤ 9) (aW : Network) (N0 : Rd w K0 M0 aW.topology.links) (N1 : Rd w K1 M1 aW.trust.keys) (N2 : Rd w K2 M2 aW.trust.rules) (N3 : Rd w K3 M3 aW.trust.anchors) (N4 : Rd w K4 M4 aW.trust.certificates) (N5 : Rd w K5 M5 aW.producers) (N6 : Rd w K6 M6 aW.nodes) (N7 : Rd w K7 M7 aW.failedLinks) (N8 : Rd w K8 M8 aW.inFlight) (N9 : Rd w K9 M9 aW.consumers) (a5 : ok 10 aW) :
 DP 5 #[afp aW K0 M0 K1 M1 K2 M2 K3 M3 K4 M4 K5 M5 K6 M6 K7 M7 K8 M8 K9 M9] w (pB (a9q aW)) := by
 have hb := bS1 hn
 refine EN Tryz.func5 Z (aC 0 N0 (aC 1 N1 (aC 2 N2 (aC 3 N3 (aC 4 N4 (aC 5 N5 (aC 6 N6 (aC 7 N7 (aC 8 N8 (aC 9 N9 adc)))))))))) ?_
 refine KV Z Z Z Z Z Z O Z (fun w γ => f36 10 aW (γ.q 0 Z) (γ.q 1 Z) (γ.q 2 Z) (γ.q 3 Z) (γ.q 4 Z) (γ.q 5 Z) (γ.q 6 Z) (γ.q 7 Z) (γ.q 8 Z) (γ.q 9 Z) a5 (i6 1048576)) fun dz => ?_
 refine yKD 15 ?_ ?_ <;> intro h1 du
 exact R4r Z Z (by simp only [a9q, h1, cT, cF])
 obtain ⟨dh, ez⟩ := (ar2 aW 1048576 a5 τ0 τ0).pos τ0
 have aj : ok n aW := GoT.okm (Nat.zero_le n) (Sz.low a5 (show sz aW ≤ 1048576 by omega))
 refine KF Z 10 Z Z Z Z Z O Z (fun w γ => f37 n τ0 aW (γ.q 0 Z) (γ.q 1 Z) (γ.q 2 Z) (γ.q 3 Z) (γ.q 4 Z) (γ.q 5 Z) (γ.q 6 Z) (γ.q 7 Z) (γ.q 8 Z) (γ.q 9 Z) aj) ?_
 rintro ⟨⟨⟨⟩, ⟨p1, c1⟩⟩, ⟨⟨p2, c2⟩, ⟨p3, c3⟩, ⟨p4, c4⟩, ⟨p5, c5⟩⟩, ⟨p6, c6⟩, ⟨p7, c7⟩, ⟨⟩, ⟨p8, c8⟩, ⟨p9, c9⟩, ⟨da, cr⟩, ⟨⟩, ⟨⟩⟩ a2
 dsimp only
 refine CF 30 Z Z Z Z Z O Z (fun w γ => f10 n τ0 (a04 aW) (γ.q 10 Z) (γ.q 11 Z) (γ.q 12 Z) (γ.q 13 Z) (γ.q 14 Z) (γ.q 15 Z) (γ.q 16 Z) (γ.q 17 Z) (γ.q 18 Z) (γ.q 19 Z) a2) ?_
 rintro ⟨⟨⟨⟩, ⟨f0, ev⟩⟩, ⟨⟨db, d5⟩, ⟨en, ea⟩, ⟨cy, ep⟩, ⟨f2, cg⟩⟩, ⟨e7, d6⟩, ⟨cq, f8⟩, ⟨⟩, ⟨e3, e1⟩, ⟨d7, ed⟩, ⟨d3, eg⟩, ⟨⟩, ⟨⟩⟩ av
 dsimp only
 refine KF Z 50 Z Z Z Z Z O Z (fun w γ => f37 n τ0 aW (γ.q 0 Z) (γ.q 1 Z) (γ.q 2 Z) (γ.q 3 Z) (γ.q 4 Z) (γ.q 5 Z) (γ.q 6 Z) (γ.q 7 Z) (γ.q 8 Z) (γ.q 9 Z) aj) ?_
 rintro ⟨⟨⟨⟩, ⟨bt, bk⟩⟩, ⟨⟨br, bu⟩, ⟨cd, bh⟩, ⟨bj, c0⟩, ⟨bw, bp⟩⟩, ⟨bv, cc⟩, ⟨bg, bn⟩, ⟨⟩, ⟨bf, bo⟩, ⟨bm, bl⟩, ⟨bz, be⟩, ⟨⟩, ⟨⟩⟩ a1
 dsimp only
 refine KF Z 70 Z Z Z Z Z O Z (fun w γ => f7 n τ0 (a04 aW) (γ.q 50 Z) (γ.q 51 Z) (γ.q 52 Z) (γ.q 53 Z) (γ.q 54 Z) (γ.q 55 Z) (γ.q 56 Z) (γ.q 57 Z) (γ.q 58 Z) (γ.q 59 Z) (An (An (ad0 (acy a2).1).1 (ad0 (acy a1).1).2) (An (acy a1).2.1 (An (acy a1).2.2.1 (An (acy a1).2.2.2.1 (An (acy a2).2.2.2.2.1 (An (acy a1).2.2.2.2.2.1 (An (acy a1).2.2.2.2.2.2.1 (An (acy a1).2.2.2.2.2.2.2.1 (An (acy a2).2.2.2.2.2.2.2.2.1 (acy a2).2.2.2.2.2.2.2.2.2)))))))))) ?_
 rintro ⟨⟨⟨⟩, ⟨b2, aq⟩⟩, ⟨⟨b1, aw⟩, ⟨ar, b6⟩, ⟨ax, b5⟩, ⟨au, al⟩⟩, ⟨am, ap⟩, ⟨an, b4⟩, ⟨⟩, ⟨az, ao⟩, ⟨b0, ak⟩, ⟨b3, ay⟩, ⟨⟩, ⟨⟩⟩ a7
 dsimp only
 refine KV Z Z Z Z Z Z O Z (fun w γ => f27 n τ0 (a0b (a04 aW)) (γ.q 70 Z) (γ.q 71 Z) (γ.q 72 Z) (γ.q 73 Z) (γ.q 74 Z) (γ.q 75 Z) (γ.q 76 Z) (γ.q 77 Z) (γ.q 78 Z) (γ.q 79 Z) (abg (a04 aW)) (γ.q 30 Z) (γ.q 31 Z) (γ.q 32 Z) (γ.q 33 Z) (γ.q 34 Z) (γ.q 35 Z) (γ.q 36 Z) (γ.q 37 Z) (γ.q 38 Z) (γ.q 39 Z) a7 av) fun f3 => ?_
 refine yKN 26 ?_ ?_ <;> intro h2 dk
 exact R4r Z Z (by simp only [a9q, h1, h2, cT, cF])
 refine R0 ?_
 refine WX.draw [] mixed fun bs G0 e0 => ?_
 refine dT 3 [0, 2] ?_
 refine DXF 2 90 Z J Z Z Z Z Z Z O Z (fun w γ => f37 n τ0 aW (γ.q 0 Z) (γ.q 1 Z) (γ.q 2 Z) (γ.q 3 Z) (γ.q 4 Z) (γ.q 5 Z) (γ.q 6 Z) (γ.q 7 Z) (γ.q 8 Z) (γ.q 9 Z) aj) ?_
 rintro ⟨⟨⟨⟩, ⟨d1, fd⟩⟩, ⟨⟨d2, el⟩, ⟨ch, cw⟩, ⟨eh, cf⟩, ⟨ee, fe⟩⟩, ⟨ct, f9⟩, ⟨ce, cj⟩, ⟨⟩, ⟨d4, cx⟩, ⟨es, d9⟩, ⟨dq, f4⟩, ⟨⟩, ⟨⟩⟩ a8
 dsimp only
 refine DXV 3 Z J Z Z Z Z Z Z O Z (fun w γ => f27 n τ0 (a04 aW) (γ.q 50 Z) (γ.q 51 Z) (γ.q 52 Z) (γ.q 53 Z) (γ.q 54 Z) (γ.q 55 Z) (γ.q 56 Z) (γ.q 57 Z) (γ.q 58 Z) (γ.q 59 Z) (a04 aW) (γ.q 90 Z) (γ.q 91 Z) (γ.q 92 Z) (γ.q 93 Z) (γ.q 94 Z) (γ.q 95 Z) (γ.q 96 Z) (γ.q 97 Z) (γ.q 98 Z) (γ.q 99 Z) (An (An (ad0 (acy a2).1).1 (ad0 (acy a1).1).2) (An (acy a1).2.1 (An (acy a1).2.2.1 (An (acy a1).2.2.2.1 (An (acy a2).2.2.2.2.1 (An (acy a1).2.2.2.2.2.1 (An (acy a1).2.2.2.2.2.2.1 (An (acy a1).2.2.2.2.2.2.2.1 (An (acy a2).2.2.2.2.2.2.2.2.1 (acy a2).2.2.2.2.2.2.2.2.2))))))))) (An (An (ad0 (acy a2).1).1 (ad0 (acy a8).1).2) (An (acy a8).2.1 (An (acy a8).2.2.1 (An (acy a8).2.2.2.1 (An (acy a2).2.2.2.2.1 (An (acy a8).2.2.2.2.2.1 (An (acy a8).2.2.2.2.2.2.1 (An (acy a8).2.2.2.2.2.2.2.1 (An (acy a2).2.2.2.2.2.2.2.2.1 (acy a2).2.2.2.2.2.2.2.2.2)))))))))) fun dv => ?_
 refine dT 0 [9] ?_
 refine DX.tail2 [] Z Z J ?_
 refine yKN 31 ?_ ?_ <;> intro h3 cl
 exact R4r Z Z (by simp only [a9q, h1, h2, h3, cT, cF])
 refine R0 ?_
 refine CN [60, 61, 62, 63, 64, 65, 66, 67, 68, 69] 110 Z Z Z Z Z Z O Z (fun w β H η σ γ => f34 n τ0 (a04 aW) bt bk br bu cd bh bj c0 bw bp bv cc bg bn bf bo bm bl bz be η σ (An (An (ad0 (acy a2).1).1 (ad0 (acy a1).1).2) (An (acy a1).2.1 (An (acy a1).2.2.1 (An (acy a1).2.2.2.1 (An (acy a2).2.2.2.2.1 (An (acy a1).2.2.2.2.2.1 (An (acy a1).2.2.2.2.2.2.1 (An (acy a1).2.2.2.2.2.2.2.1 (An (acy a2).2.2.2.2.2.2.2.2.1 (acy a2).2.2.2.2.2.2.2.2.2))))))))) (i6 1)) ?_
 rintro ⟨⟩ a6
 have dp : ((a01 (a04 aW) 1).2.topology.links).length = ((a04 aW).topology.links).length := a6.2.2.1
 have ec : ((a01 (a04 aW) 1).2.trust.keys).length = ((a04 aW).trust.keys).length := a6.2.2.2.1
 have cv : ((a01 (a04 aW) 1).2.trust.rules).length = ((a04 aW).trust.rules).length := a6.2.2.2.2.1
 have e6 : ((a01 (a04 aW) 1).2.trust.anchors).length = ((a04 aW).trust.anchors).length := a6.2.2.2.2.2.1
 have dw : ((a01 (a04 aW) 1).2.trust.certificates).length = ((a04 aW).trust.certificates).length := a6.2.2.2.2.2.2.1
 have cs : ((a01 (a04 aW) 1).2.producers).length = ((a04 aW).producers).length := a6.2.2.2.2.2.2.2.1
 have er : ((a01 (a04 aW) 1).2.nodes).length = ((a04 aW).nodes).length := a6.2.2.2.2.2.2.2.2.1
 have ef : ((a01 (a04 aW) 1).2.failedLinks).length = ((a04 aW).failedLinks).length := a6.2.2.2.2.2.2.2.2.2.2.1
 have dx : ((a01 (a04 aW) 1).2.inFlight).length = ((a04 aW).inFlight).length := a6.2.2.2.2.2.2.2.2.2.2.2.1
 have bi : ((a01 (a04 aW) 1).2.consumers).length = ((a04 aW).consumers).length := a6.2.2.2.2.2.2.2.2.2.2.2.2.1
 refine yKD 37 ?_ ?_ <;> intro h4 d8
 exact R4r Z Z (by simp only [a9q, h1, h2, h3, h4, cT, cF])
 refine zW 130 80 ?_
 refine zW 131 81 ?_
 refine zW 132 82 ?_
 refine zW 133 83 ?_
 refine zW 134 84 ?_
 refine zW 135 85 ?_
 refine zW 136 86 ?_
 refine zW 137 87 ?_
 refine zW 138 88 ?_
 refine zW 139 89 ?_
 refine zW 140 40 ?_
 refine zW 141 41 ?_
 refine zW 142 42 ?_
 refine zW 143 43 ?_
 refine zW 144 44 ?_
 refine zW 145 45 ?_
 refine zW 146 46 ?_
 refine zW 147 47 ?_
 refine zW 148 48 ?_
 refine zW 149 49 ?_
 refine KV Z Z Z Z Z Z O Z (fun w γ => f27 n τ0 (a0b (a04 aW)) (γ.q 130 Z) (γ.q 131 Z) (γ.q 132 Z) (γ.q 133 Z) (γ.q 134 Z) (γ.q 135 Z) (γ.q 136 Z) (γ.q 137 Z) (γ.q 138 Z) (γ.q 139 Z) (abg (a04 aW)) (γ.q 140 Z) (γ.q 141 Z) (γ.q 142 Z) (γ.q 143 Z) (γ.q 144 Z) (γ.q 145 Z) (γ.q 146 Z) (γ.q 147 Z) (γ.q 148 Z) (γ.q 149 Z) a7 av) fun bq => ?_
 refine yKN 42 ?_ ?_ <;> intro h5 de
 exact absurd (h2.symm.trans h5) Bool.false_ne_true
 refine R0 ?_
 refine CN [80, 81, 82, 83, 84, 85, 86, 87, 88, 89] 150 Z Z Z Z Z Z O Z (fun w β H η σ γ => f34 n τ0 (a0b (a04 aW)) b2 aq b1 aw ar b6 ax b5 au al am ap an b4 az ao b0 ak b3 ay η σ a7 (i6 1)) ?_
 rintro ⟨⟩ a0
 have ag : ((a01 (a0b (a04 aW)) 1).2.topology.links).length = ((a0b (a04 aW)).topology.links).length := a0.2.2.1
 have a9 : ((a01 (a0b (a04 aW)) 1).2.trust.keys).length = ((a0b (a04 aW)).trust.keys).length := a0.2.2.2.1
 have ab : ((a01 (a0b (a04 aW)) 1).2.trust.rules).length = ((a0b (a04 aW)).trust.rules).length := a0.2.2.2.2.1
 have aa : ((a01 (a0b (a04 aW)) 1).2.trust.anchors).length = ((a0b (a04 aW)).trust.anchors).length := a0.2.2.2.2.2.1
 have ai : ((a01 (a0b (a04 aW)) 1).2.trust.certificates).length = ((a0b (a04 aW)).trust.certificates).length := a0.2.2.2.2.2.2.1
 have ad : ((a01 (a0b (a04 aW)) 1).2.producers).length = ((a0b (a04 aW)).producers).length := a0.2.2.2.2.2.2.2.1
 have ae : ((a01 (a0b (a04 aW)) 1).2.nodes).length = ((a0b (a04 aW)).nodes).length := a0.2.2.2.2.2.2.2.2.1
 have af : ((a01 (a0b (a04 aW)) 1).2.failedLinks).length = ((a0b (a04 aW)).failedLinks).length := a0.2.2.2.2.2.2.2.2.2.2.1
 have ah : ((a01 (a0b (a04 aW)) 1).2.inFlight).length = ((a0b (a04 aW)).inFlight).length := a0.2.2.2.2.2.2.2.2.2.2.2.1
 have ac : ((a01 (a0b (a04 aW)) 1).2.consumers).length = ((a0b (a04 aW)).consumers).length := a0.2.2.2.2.2.2.2.2.2.2.2.2.1
 have b7 : (a01 (a0b (a04 aW)) 1).2.topology.size = (a0b (a04 aW)).topology.size := a0.2.1
 have bb : (a01 (a0b (a04 aW)) 1).2.downNodes = (a0b (a04 aW)).downNodes := a0.2.2.2.2.2.2.2.2.2.1
 have ba : (a01 (a0b (a04 aW)) 1).2.now = (a0b (a04 aW)).now := a0.2.2.2.2.2.2.2.2.2.2.2.2.2.1
 have b8 : (a01 (a0b (a04 aW)) 1).2.dropped = (a0b (a04 aW)).dropped := a0.2.2.2.2.2.2.2.2.2.2.2.2.2.2
 refine R0 ?_
 refine WX.slot 46 (y := .v (.agg #[.int .i64 ((a01 (a0b (a04 aW)) 1).2.topology.size), .slice b2 (((a01 (a0b (a04 aW)) 1).2.topology.links).length) aq, .slice b1 (((a01 (a0b (a04 aW)) 1).2.trust.keys).length) aw, .slice ar (((a01 (a0b (a04 aW)) 1).2.trust.rules).length) b6, .slice ax (((a01 (a0b (a04 aW)) 1).2.trust.anchors).length) b5, .slice au (((a01 (a0b (a04 aW)) 1).2.trust.certificates).length) al, .slice am (((a01 (a0b (a04 aW)) 1).2.producers).length) ap, .slice an (((a01 (a0b (a04 aW)) 1).2.nodes).length) b4, .int .i64 ((a01 (a0b (a04 aW)) 1).2.downNodes), .slice az (((a01 (a0b (a04 aW)) 1).2.failedLinks).length) ao, .slice b0 (((a01 (a0b (a04 aW)) 1).2.inFlight).length) ak, .slice b3 (((a01 (a0b (a04 aW)) 1).2.consumers).length) ay, .int .i64 ((a01 (a0b (a04 aW)) 1).2.now), .int .i64 ((a01 (a0b (a04 aW)) 1).2.dropped)])) Z (fun _ => by simp only [conc, ag, a9, ab, aa, ai, ad, ae, af, ah, ac, b7, bb, ba, b8]) ?_
 refine CV Z Z Z Z Z O Z (fun w γ => f35 n τ0 ((a01 (a0b (a04 aW)) 1).2) (γ.q 150 Z) (γ.q 151 Z) (γ.q 152 Z) (γ.q 153 Z) (γ.q 154 Z) (γ.q 155 Z) (γ.q 156 Z) (γ.q 157 Z) (γ.q 158 Z) (γ.q 159 Z) a0.1.2 (i6 1)) fun bx => ?_
 refine yKD 50 ?_ ?_ <;> intro h6 ei
 exact R4r Z Z (by simp only [a9q, h1, h2, h3, h4, h5, h6, cT, cF])
 refine yKM 53 ?_ ?_ <;> intro h7 e2
 exact R4r Z Z (by simp only [a9q, h1, h2, h3, h4, h5, h6, h7, cT, cF])
 refine KF Z 170 Z Z Z Z Z O Z (fun w γ => f37 n τ0 aW (γ.q 0 Z) (γ.q 1 Z) (γ.q 2 Z) (γ.q 3 Z) (γ.q 4 Z) (γ.q 5 Z) (γ.q 6 Z) (γ.q 7 Z) (γ.q 8 Z) (γ.q 9 Z) aj) ?_
 rintro ⟨⟨⟨⟩, ⟨dl, eo⟩⟩, ⟨⟨di, f1⟩, ⟨e9, et⟩, ⟨f6, e5⟩, ⟨cz, df⟩⟩, ⟨fa, ek⟩, ⟨dt, dr⟩, ⟨⟩, ⟨eb, dm⟩, ⟨ex, eu⟩, ⟨fc, dn⟩, ⟨⟩, ⟨⟩⟩ a4
 dsimp only
 refine CF 190 Z Z Z Z Z O Z (fun w γ => f7 n τ0 (a04 aW) (γ.q 170 Z) (γ.q 171 Z) (γ.q 172 Z) (γ.q 173 Z) (γ.q 174 Z) (γ.q 175 Z) (γ.q 176 Z) (γ.q 177 Z) (γ.q 178 Z) (γ.q 179 Z) (An (An (ad0 (acy a2).1).1 (ad0 (acy a4).1).2) (An (acy a4).2.1 (An (acy a4).2.2.1 (An (acy a4).2.2.2.1 (An (acy a2).2.2.2.2.1 (An (acy a4).2.2.2.2.2.1 (An (acy a4).2.2.2.2.2.2.1 (An (acy a4).2.2.2.2.2.2.2.1 (An (acy a2).2.2.2.2.2.2.2.2.1 (acy a2).2.2.2.2.2.2.2.2.2)))))))))) ?_
 rintro ⟨⟨⟨⟩, ⟨ew, cp⟩⟩, ⟨⟨e4, ey⟩, ⟨ff, e8⟩, ⟨eq, dy⟩, ⟨em, ej⟩⟩, ⟨dc, dj⟩, ⟨ds, dg⟩, ⟨⟩, ⟨ck, fb⟩, ⟨co, cn⟩, ⟨dd, d0⟩, ⟨⟩, ⟨⟩⟩ a3
 dsimp only
 refine zW 210 40 ?_
 refine zW 211 41 ?_
 refine zW 212 42 ?_
 refine zW 213 43 ?_
 refine zW 214 44 ?_
 refine zW 215 45 ?_
 refine zW 216 46 ?_
 refine zW 217 47 ?_
 refine zW 218 48 ?_
 refine zW 219 49 ?_
 refine KV Z Z Z Z Z Z O Z (fun w γ => f27 n τ0 (a0b (a04 aW)) (γ.q 190 Z) (γ.q 191 Z) (γ.q 192 Z) (γ.q 193 Z) (γ.q 194 Z) (γ.q 195 Z) (γ.q 196 Z) (γ.q 197 Z) (γ.q 198 Z) (γ.q 199 Z) (abg (a04 aW)) (γ.q 210 Z) (γ.q 211 Z) (γ.q 212 Z) (γ.q 213 Z) (γ.q 214 Z) (γ.q 215 Z) (γ.q 216 Z) (γ.q 217 Z) (γ.q 218 Z) (γ.q 219 Z) (An (An (ad0 (acy a7).1).1 (ad0 (acy a3).1).2) (An (acy a3).2.1 (An (acy a3).2.2.1 (An (acy a3).2.2.2.1 (An (acy a7).2.2.2.2.1 (An (acy a3).2.2.2.2.2.1 (An (acy a3).2.2.2.2.2.2.1 (An (acy a3).2.2.2.2.2.2.2.1 (An (acy a7).2.2.2.2.2.2.2.2.1 (acy a7).2.2.2.2.2.2.2.2.2))))))))) av) fun cb => ?_
 refine yKN 60 ?_ ?_ <;> intro h8 cm
 exact absurd (h2.symm.trans h8) Bool.false_ne_true
 refine R0 ?_
 refine WX.slot 61 (y := .v (.agg #[.int .i64 ((a01 (a0b (a04 aW)) 1).2.topology.size), .slice b2 (((a01 (a0b (a04 aW)) 1).2.topology.links).length) aq, .slice b1 (((a01 (a0b (a04 aW)) 1).2.trust.keys).length) aw, .slice ar (((a01 (a0b (a04 aW)) 1).2.trust.rules).length) b6, .slice ax (((a01 (a0b (a04 aW)) 1).2.trust.anchors).length) b5, .slice au (((a01 (a0b (a04 aW)) 1).2.trust.certificates).length) al, .slice am (((a01 (a0b (a04 aW)) 1).2.producers).length) ap, .slice an (((a01 (a0b (a04 aW)) 1).2.nodes).length) b4, .int .i64 ((a01 (a0b (a04 aW)) 1).2.downNodes), .slice az (((a01 (a0b (a04 aW)) 1).2.failedLinks).length) ao, .slice b0 (((a01 (a0b (a04 aW)) 1).2.inFlight).length) ak, .slice b3 (((a01 (a0b (a04 aW)) 1).2.consumers).length) ay, .int .i64 ((a01 (a0b (a04 aW)) 1).2.now), .int .i64 ((a01 (a0b (a04 aW)) 1).2.dropped)])) Z (fun _ => by simp only [conc, ag, a9, ab, aa, ai, ad, ae, af, ah, ac, b7, bb, ba, b8]) ?_
 refine CV Z Z Z Z Z O Z (fun w γ => f35 n τ0 ((a01 (a0b (a04 aW)) 1).2) (γ.q 150 Z) (γ.q 151 Z) (γ.q 152 Z) (γ.q 153 Z) (γ.q 154 Z) (γ.q 155 Z) (γ.q 156 Z) (γ.q 157 Z) (γ.q 158 Z) (γ.q 159 Z) a0.1.2 (i6 1)) fun bc => ?_
 refine yKD 65 ?_ ?_ <;> intro h9 ci
 exact absurd (h6.symm.trans h9) Bool.false_ne_true
 refine yKM 68 ?_ ?_ <;> intro b9 ca
 exact absurd (h7.symm.trans b9) Bool.false_ne_true
 exact R4r Z Z (by simp only [a9q, h1, h2, h3, h4, h5, h6, h7, h8, h9, b9, cT, cF])
end Go.Proofs.YtpmejlbgjkiobaaGreat
