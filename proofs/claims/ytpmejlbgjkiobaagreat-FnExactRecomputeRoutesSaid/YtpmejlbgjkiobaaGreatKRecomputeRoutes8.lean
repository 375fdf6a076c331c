/-
  What the proof of one law needs: rules of the program logic, functions as Lean functions, contracts. No condition but what each says. Written by a program (pack.py) out of my own texts.
-/
import Derived.Test.YtpmejlbgjkiobaaGreatKRecomputeRoutes7
open Go.IntKind (i64)
set_option linter.unusedVariables false
set_option linter.unusedSimpArgs false
namespace Go.Proofs.YtpmejlbgjkiobaaGreat
open Go.Stp
open Go.Stp.GoT (ok)
variable {w : World} (n : Nat) {K0 K1 : Option Addr} {M0 M1 : Nat}
theorem f163 (hn : n + 1 ≤ 9) {l : List Route} (N0 : Rd w K0 M0 l) (r : Route) (N1 : Rd w K1 M1 r.pfx.parts) (a1 : ok n l) (a0 : ok n r) :
 DP 163 #[vS K0 l M0, anh r K1 M1] w (pSB w n (a1m l r)) := by
 have hb := bS1 hn
 refine EN Tryz.func163 Z (aS2 N0 N1) ?_
 refine KF Z 2 Z Z Z Z Z O Z (fun w γ => f152 n τ0 (γ.q 0 Z) a1) ?_
 rintro ⟨p1, c1⟩ a2
 have q1 := congrArg List.length (ajd l)
 refine KV Z Z Z Z Z Z O Z (fun w γ => f162 n τ0 (γ.q 0 Z) r.pfx (γ.q 1 Z) a1 ((adk a0).1) ((adk a0).2.1)) fun ac => ?_
 have q2 := ava l r.pfx r.face
 refine yKD 17 ?_ ?_ <;> intro h1 ah
 have r1 := (okl a1).1
 have r2 := i8 ((adk a0).2.1)
 have r3 := i8 ac
 refine R0 ?_
 refine SI 19 ?_
 refine zN (kk := 3) 501 3 4 fun ag au => ?_
 have a6 : ((a0r l r.pfx r.face)).toNat < ((a0y l)).length := τ3
 refine zR 501 (((a0r l r.pfx r.face)).toNat) a6 ?_
 rintro ad rfl
 have a8 : ((a0r l r.pfx r.face)).toNat < ((a0y l)).length := τ3
 obtain ⟨e1, a3⟩ := gE a8
 have a4 := okE a2 a3
 refine R0 ?_
 refine zO (α := Route) (e := e1) 501 4 5 (((a0r l r.pfx r.face)).toNat) a3 ?_
 rintro A1 B1 ⟨⟨p2, c2⟩, ⟨⟩, ⟨⟩⟩ af an
 refine zS 501 af a6 ?_
 refine R0 ?_
 refine WX.turn [6, 7, 8] 9 Z (fun h hs => aej (α := Route) (e := (Route.mk e1.pfx e1.face r.cost)) (x := ((p2, c2), (), ())) a8 hs) Z ?_
 refine zE 501 9 10 (hn := (show ((a0y l)).length = (((a0y l).set (((a0r l r.pfx r.face)).toNat) (Route.mk e1.pfx e1.face r.cost))).length from by first | (simp; done) | (simp; omega))) ?_
 refine SL 35 (((a0y l).set (((a0r l r.pfx r.face)).toNat) (Route.mk e1.pfx e1.face r.cost))).length (e := by first | (simp; done) | (simp; omega)) ?_
 refine SL 18 (((a0y l).set (((a0r l r.pfx r.face)).toNat) (Route.mk e1.pfx e1.face r.cost))).length (e := by first | (simp; done) | (simp; omega)) ?_
 refine SL 6 (((a0y l).set (((a0r l r.pfx r.face)).toNat) (Route.mk e1.pfx e1.face r.cost))).length (e := by first | (simp; done) | (simp; omega)) ?_
 refine SL 9 (((a0y l).set (((a0r l r.pfx r.face)).toNat) (Route.mk e1.pfx e1.face r.cost))).length (e := by first | (simp; done) | (simp; omega)) ?_
 have r4 := i8 ((adk a0).2.2)
 have r5 := (okl a2).1
 have r6 := i8 ((adk a4).2.1)
 refine CV Z Z Z Z Z O Z (fun w γ => f273 n τ0 (γ.q 10 Z) (ada τ6 (aeh (okl a2).2 (show ok n ((Route.mk e1.pfx e1.face r.cost) : Route) from (An (adk a4).1 (An (adk a4).2.1 (adk a0).2.2)))) : ok n (((a0y l).set (((a0r l r.pfx r.face)).toNat) (Route.mk e1.pfx e1.face r.cost)) : List Route))) fun am => ?_
 refine yKN 37 ?_ ?_ <;> intro h2 aq
 refine KF Z 12 Z Z Z Z Z O Z (fun w γ => f152 n τ0 (γ.q 0 Z) a1) ?_
 rintro ⟨p3, c3⟩ ai
 have q3 := congrArg List.length (ajd l)
 have a9 : a1m l r = (a0y l, false) := by simp only [a1m, h1, a3, h2, cT, cF]
 refine R0 ?_
 rw [a9]
 exact zX [13] (p3, c3) (by have z_ := (show ok n (a1m l r).1 from akq a1 a0); rw [a9] at z_; exact GoT.okm τ0 z_)
 have a5 : a1m l r = ((a0y l).set (((a0r l r.pfx r.face)).toNat) (Route.mk e1.pfx e1.face r.cost), true) := by simp only [a1m, h1, a3, h2, cT, cF]
 refine R0 ?_
 rw [a5]
 exact zX [11] ((some ad), c1) (by have z_ := (show ok n (a1m l r).1 from akq a1 a0); rw [a5] at z_; exact GoT.okm τ0 z_)
 refine R0 ?_
 refine WX.draw [10, 11] mixed fun bs G0 ap => ?_
 refine dT 5 [1, 3, 4, 9, 10, 13, 14] ?_
 refine DXF 3 14 Z J Z Z Z Z Z Z O Z (fun w γ => f56 n τ0 r.pfx (γ.q 1 Z) ((adk a0).1)) ?_
 rintro ⟨p4, c4⟩ ae
 refine dT 3 [17] ?_
 refine DX.tail2 [9, 10, 11] Z Z J ?_
 refine zB fun p5 => ?_
 refine zN (kk := 3) 502 3 16 fun ak al => ?_
 refine zT (α := Route) [15] 17 (Route.mk (a0f r.pfx) r.face r.cost) ((p4, c4), (), ()) fun _ => ?_
 have r7 := (okl a1).1
 have r8 := i8 ((adk a0).2.1)
 have r9 := i8 ((adk a0).2.2)
 have av := (okl a2).1
 refine WX.know (fun G hΓ => (hΓ.get 17 Z : OwL _ _ _).rd.one) fun ab => ?_
 refine zP 502 33 (((a0y l) ++ [(Route.mk (a0f r.pfx) r.face r.cost)]) : List Route).length ab fun p6 c5 => ?_
 refine zV [16, 17] 18 ?_
 refine yE 502 18 19 ?_
 refine CV Z Z Z Z Z O Z (fun w γ => f273 (n + 1) τ0 (γ.q 19 Z) (ada τ6 (fun a ha => GoT.okm (show n ≤ (n + 1) by omega) ((aec (okl a2).2 (all_cons (α := Route) (An ae (An (adk a0).2.1 (adk a0).2.2)) nA)) a ha)) : ok (n + 1) (((a0y l) ++ [(Route.mk (a0f r.pfx) r.face r.cost)]) : List Route))) fun aj => ?_
 refine yKN 37 ?_ ?_ <;> intro h3 ao
 refine KF Z 21 Z Z Z Z Z O Z (fun w γ => f152 n τ0 (γ.q 0 Z) a1) ?_
 rintro ⟨p7, c6⟩ ar
 have q4 := congrArg List.length (ajd l)
 have a7 : a1m l r = (a0y l, false) := by simp only [a1m, h1, h3, cT, cF]
 refine R0 ?_
 rw [a7]
 exact zX [22] (p7, c6) (by have z_ := (show ok n (a1m l r).1 from akq a1 a0); rw [a7] at z_; exact GoT.okm τ0 z_)
 have aa : a1m l r = ((a0y l) ++ [(Route.mk (a0f r.pfx) r.face r.cost)], true) := by simp only [a1m, h1, h3, cT, cF]
 refine R0 ?_
 rw [aa]
 exact zX [20] (p6, c5) (by have z_ := (show ok n (a1m l r).1 from akq a1 a0); rw [aa] at z_; exact GoT.okm τ0 z_)
theorem f264 (hn : n + 1 ≤ 9) {l : List Route} (N0 : Rd w K0 M0 l) (r : Route) (N1 : Rd w K1 M1 r.pfx.parts) (a1 : ok n l) (a0 : ok n r) :
 DP 264 #[vS K0 l M0, anh r K1 M1] w (pSB w n (a1t l r)) := by
 have hb := bS1 hn
 refine EN Tryz.func264 Z (aS2 N0 N1) ?_
 refine KF Z 2 Z Z Z Z Z O Z (fun w γ => f251 n τ0 (γ.q 0 Z) a1) ?_
 rintro ⟨p1, c1⟩ a2
 have q1 := congrArg List.length (akb l)
 refine KV Z Z Z Z Z Z O Z (fun w γ => f263 n τ0 (γ.q 0 Z) r.pfx (γ.q 1 Z) a1 ((adk a0).1) ((adk a0).2.1)) fun ac => ?_
 have q2 := avo l r.pfx r.face
 refine yKD 18 ?_ ?_ <;> intro h1 ah
 have r1 := (okl a1).1
 have r2 := i8 ((adk a0).2.1)
 have r3 := i8 ac
 refine R0 ?_
 refine SI 20 ?_
 refine zN (kk := 3) 501 3 4 fun ag ar => ?_
 have a6 : ((a0p l r.pfx r.face)).toNat < ((a0z l)).length := τ3
 refine zR 501 (((a0p l r.pfx r.face)).toNat) a6 ?_
 rintro ad rfl
 have a8 : ((a0p l r.pfx r.face)).toNat < ((a0z l)).length := τ3
 obtain ⟨e1, a3⟩ := gE a8
 have a4 := okE a2 a3
 refine R0 ?_
 refine zO (α := Route) (e := e1) 501 4 5 (((a0p l r.pfx r.face)).toNat) a3 ?_
 rintro A1 B1 ⟨⟨p2, c2⟩, ⟨⟩, ⟨⟩⟩ af an
 refine zS 501 af a6 ?_
 refine R0 ?_
 refine WX.turn [6, 7, 8] 9 Z (fun h hs => aej (α := Route) (e := (Route.mk e1.pfx e1.face r.cost)) (x := ((p2, c2), (), ())) a8 hs) Z ?_
 refine zE 501 9 10 (hn := (show ((a0z l)).length = (((a0z l).set (((a0p l r.pfx r.face)).toNat) (Route.mk e1.pfx e1.face r.cost))).length from by first | (simp; done) | (simp; omega))) ?_
 refine SL 37 (((a0z l).set (((a0p l r.pfx r.face)).toNat) (Route.mk e1.pfx e1.face r.cost))).length (e := by first | (simp; done) | (simp; omega)) ?_
 refine SL 19 (((a0z l).set (((a0p l r.pfx r.face)).toNat) (Route.mk e1.pfx e1.face r.cost))).length (e := by first | (simp; done) | (simp; omega)) ?_
 refine SL 6 (((a0z l).set (((a0p l r.pfx r.face)).toNat) (Route.mk e1.pfx e1.face r.cost))).length (e := by first | (simp; done) | (simp; omega)) ?_
 refine SL 10 (((a0z l).set (((a0p l r.pfx r.face)).toNat) (Route.mk e1.pfx e1.face r.cost))).length (e := by first | (simp; done) | (simp; omega)) ?_
 have r4 := i8 ((adk a0).2.2)
 have r5 := (okl a2).1
 have r6 := i8 ((adk a4).2.1)
 refine CV Z Z Z Z Z O Z (fun w γ => f348 n τ0 (γ.q 10 Z) (ada τ6 (aeh (okl a2).2 (show ok n ((Route.mk e1.pfx e1.face r.cost) : Route) from (An (adk a4).1 (An (adk a4).2.1 (adk a0).2.2)))) : ok n (((a0z l).set (((a0p l r.pfx r.face)).toNat) (Route.mk e1.pfx e1.face r.cost)) : List Route))) fun am => ?_
 refine yKN 39 ?_ ?_ <;> intro h2 ap
 refine KF Z 12 Z Z Z Z Z O Z (fun w γ => f251 n τ0 (γ.q 0 Z) a1) ?_
 rintro ⟨p3, c3⟩ ai
 have q3 := congrArg List.length (akb l)
 have a9 : a1t l r = (a0z l, false) := by simp only [a1t, h1, a3, h2, cT, cF]
 refine R0 ?_
 rw [a9]
 exact zX [13] (p3, c3) (by have z_ := (show ok n (a1t l r).1 from al3 a1 a0); rw [a9] at z_; exact GoT.okm τ0 z_)
 have a5 : a1t l r = ((a0z l).set (((a0p l r.pfx r.face)).toNat) (Route.mk e1.pfx e1.face r.cost), true) := by simp only [a1t, h1, a3, h2, cT, cF]
 refine R0 ?_
 rw [a5]
 exact zX [11] ((some ad), c1) (by have z_ := (show ok n (a1t l r).1 from al3 a1 a0); rw [a5] at z_; exact GoT.okm τ0 z_)
 refine KF Z 14 Z Z Z Z Z O Z (fun w γ => f246 n τ0 r.pfx (γ.q 1 Z) ((adk a0).1)) ?_
 rintro ⟨p4, c4⟩ ae
 refine yB fun p5 => ?_
 refine zN (kk := 3) 502 3 16 fun ak al => ?_
 refine zT (α := Route) [15] 17 (Route.mk (a0g r.pfx) r.face r.cost) ((p4, c4), (), ()) fun _ => ?_
 have r7 := (okl a1).1
 have r8 := i8 ((adk a0).2.1)
 have r9 := i8 ((adk a0).2.2)
 have au := (okl a2).1
 refine WX.know (fun G hΓ => (hΓ.get 17 Z : OwL _ _ _).rd.one) fun ab => ?_
 refine zP 502 35 (((a0z l) ++ [(Route.mk (a0g r.pfx) r.face r.cost)]) : List Route).length ab fun p6 c5 => ?_
 refine zV [16, 17] 18 ?_
 refine yE 502 18 19 ?_
 refine CV Z Z Z Z Z O Z (fun w γ => f348 (n + 1) τ0 (γ.q 19 Z) (ada τ6 (fun a ha => GoT.okm (show n ≤ (n + 1) by omega) ((aec (okl a2).2 (all_cons (α := Route) (An ae (An (adk a0).2.1 (adk a0).2.2)) nA)) a ha)) : ok (n + 1) (((a0z l) ++ [(Route.mk (a0g r.pfx) r.face r.cost)]) : List Route))) fun aj => ?_
 refine yKN 39 ?_ ?_ <;> intro h3 ao
 refine KF Z 21 Z Z Z Z Z O Z (fun w γ => f251 n τ0 (γ.q 0 Z) a1) ?_
 rintro ⟨p7, c6⟩ aq
 have q4 := congrArg List.length (akb l)
 have a7 : a1t l r = (a0z l, false) := by simp only [a1t, h1, h3, cT, cF]
 refine R0 ?_
 rw [a7]
 exact zX [22] (p7, c6) (by have z_ := (show ok n (a1t l r).1 from al3 a1 a0); rw [a7] at z_; exact GoT.okm τ0 z_)
 have aa : a1t l r = ((a0z l) ++ [(Route.mk (a0g r.pfx) r.face r.cost)], true) := by simp only [a1t, h1, h3, cT, cF]
 refine R0 ?_
 rw [aa]
 exact zX [20] (p6, c5) (by have z_ := (show ok n (a1t l r).1 from al3 a1 a0); rw [aa] at z_; exact GoT.okm τ0 z_)
theorem f161 (hn : n + 0 ≤ 9) (n_ : Topology) (N0 : Rd w K0 M0 n_.links) {a : Int} {b : Int} (a0 : ok n n_) (a2 : ok n a) (a1 : ok n b) :
 DP 161 #[aeu n_ K0 M0, vI a, vI b] w (pI n (a1z n_ a b)) := by
 have hb := bS0 hn
 refine EN Tryz.func161 Z (aS1 N0) ?_
 refine KF Z 1 Z Z Z Z Z O Z (fun w γ => f55 n τ0 n_ (γ.q 0 Z) a0 a2) ?_
 rintro ⟨p1, c1⟩ a3
 refine KV Z Z Z Z Z Z O Z (fun w γ => f164 n τ0 (γ.q 1 Z) a3 a1) fun a4 => ?_
 refine SW0 ?_
 rw [show a1z n_ a b = (i64.wrap ((aey (a4m n_ a) b) + 1)) by simp only [a1z, cT, cF]]
 exact R6r Z Z (ad3 _)
theorem f262 (hn : n + 0 ≤ 9) (n_ : Topology) (N0 : Rd w K0 M0 n_.links) {a : Int} {b : Int} (a1 : ok n n_) (a0 : ok n a) (a6 : ok n b) :
 DP 262 #[aeu n_ K0 M0, vI a, vI b] w (pI n (a13 n_ a b)) := by
 have hb := bS0 hn
 refine EN Tryz.func262 Z (aS1 N0) ?_
 refine KF Z 1 Z Z Z Z Z O Z (fun w γ => f255 n τ0 n_ (γ.q 0 Z) a1 a0) ?_
 rintro ⟨p1, c1⟩ a4
 have r1 := i8 a0
 have r2 := (okl a4).1
 refine LM Z 0 (fun i => ((i ≤ ((a17 n_ a)).length) ∧ (a6b b (a17 n_ a) 0 = a6b b (((a17 n_ a)).drop i) i), ((a17 n_ a)).length - i, [(8, .v (vI i))], [], [], [])) ⟨zl, Z⟩ [7, 2] [] [0, 2] [0, 2] ?_
 rintro i ⟨v1, v2⟩
 refine yKD 15 ?_ ?_ <;> intro h1 a8
 have a3 : i < ((a17 n_ a)).length := τ0
 obtain ⟨e1, a2⟩ := gE a3
 have aa := okE a4 a2
 refine zW 3 2 ?_
 refine yI 3 i a3 ?_
 rintro a9 rfl
 refine zL 3 4 e1 a2 ?_
 rintro ⟨⟩
 refine yKE 23 ?_ ?_ <;> intro h2 ab
 refine SA ?_
 have a5 := v2.trans (show _ = (some (((i : Nat) : Int) + 1)) by rw [acx a2]; simp only [a6b, h2, cT, cF])
 rw [show a13 n_ a b = (((i : Nat) : Int) + 1) by simp only [a13, a5, cT, cF]]
 exact R6r Z Z (i6 (((i : Nat) : Int) + 1))
 refine SA ?_
 exact ITr Z (i + 1) ⟨τ0, (by rw [v2, acx a2]; simp only [a6b, h2, cT, cF])⟩ τ1 [0, 2]
 have a7 := v2.trans (show _ = none by rw [dn (show ((a17 n_ a)).length ≤ i by omega)]; simp only [a6b, cT, cF])
 rw [show a13 n_ a b = 0 by simp only [a13, a7, cT, cF]]
 exact R6r Z Z (i6 0)
theorem f60 (hn : n + 1 ≤ 9) (n_ : Topology) (N0 : Rd w K0 M0 n_.links) {l : List Advertisement} (N1 : Rd w K1 M1 l) {a : Int} (ac : ok n n_) (a9 : ok n l) (aa : ok n a) :
 DP 60 #[aeu n_ K0 M0, vS K1 l M1, vI a] w (pS w n (a2g n_ l a)) := by
 have hb := bS1 hn
 refine EN Tryz.func60 Z (aS2 N0 N1) ?_
 refine yB fun p1 => ?_
 refine KF Z 2 Z Z Z Z Z O Z (fun w γ => f16 n τ0 (γ.q 1 Z) a9 aa) ?_
 rintro ⟨p2, c1⟩ ar
 refine F0 4 Route ?_
 refine yE 17 4 5 ?_
 have r1 := (okl a9).1
 have r2 := i8 aa
 have r3 := (okl ar).1
 refine WX.loop (ι := (Option Addr) × Nat × (List Route) × Nat) ⟨fun | (a6, a7, a8, i) => (i ≤ ((a15 l a)).length) ∧ (a8.length ≤ bd n ∧ ∀ z_ ∈ a8, ok n z_) ∧ (a2t n_ l a (a15 l a) ([] : List Route) = a2t n_ l a (((a15 l a)).drop i) a8), fun | (a6, a7, a8, i) => ((a15 l a)).length - i, fun | (a6, a7, a8, i) => [(7, .v (.slice a6 (a8.length) a7)), (22, .v (.int .i64 (((i : Nat) : Int)))), (21, .v (.int .i64 (((((a15 l a)).length : Nat) : Int)))), (20, .v (.slice p2 (((a15 l a)).length) c1)), (3, .p 3 0), (1, .v (.slice K1 (l.length) M1)), (2, .v (.int .i64 a))], fun | (a6, a7, a8, i) => [(3, ⟨26, [.int .i64 (n_.size), .slice K0 (n_.links.length) M0]⟩)], fun | (a6, a7, a8, i) => [], fun | (a6, a7, a8, i) => [(0, MF.rs .stb K0 M0 n_.links), (1, MF.rs .stb K1 M1 l), (3, MF.os p2 c1 (a15 l a)), (6, MF.os a6 a7 a8)]⟩ (p1, 0, ([] : List Route), 0) ⟨zl, (ada zl nA : ok n ([] : List Route)), Z⟩
   (.cons Z (.cons Z (.cons Z (.cons Z (.cons Z (.cons Z (.cons Z (.nil)))))))) (.cons Z (.nil)) .nil [0, 1, 3, 6] Z ?_
 rintro ⟨a6, a7, a8, i⟩ ⟨v1, v2, v3⟩
 have bh := v2.1
 refine yKD 23 ?_ ?_ <;> intro h1 bb
 have ay : i < ((a15 l a)).length := τ0
 obtain ⟨e1, ad⟩ := gE ay
 have ah := okE ar ad
 have ba := av7 ad
 refine zW 7 3 ?_
 refine yI 7 i ay ?_
 rintro ae rfl
 refine zL 7 8 e1 ad ?_
 rintro ⟨⟩
 refine yKE 28 ?_ ?_ <;> intro h2 b8
 refine SA ?_
 refine R0 ?_
 exact WX.iter (a6, a7, a8, i + 1) ⟨τ0, (afi v2), (by rw [v3, acx ad]; simp only [a2t, h2, cT, cF])⟩ τ1 (.cons Z (.cons Z (.cons Z (.cons Z (.cons Z (.cons Z (.cons Z (.nil)))))))) (.cons Z (.nil)) .nil [0, 1, 3, 6] Z
 refine KV Z Z Z Z Z Z O Z (fun w γ => f17 n τ0 (γ.q 1 Z) a9 aa ah) fun am => ?_
 refine KV Z Z Z Z Z Z O Z (fun w γ => f159 n τ0 (γ.q 1 Z) a9 ah) fun b4 => ?_
 have q1 := are l e1
 have r4 := i8 ah
 have r5 := i8 b4
 refine SI 36 ?_
 have ao : ((a0t l e1)).toNat < l.length := τ3
 obtain ⟨e2, al⟩ := gE ao
 have an := okE a9 al
 refine zI 1 (((a0t l e1)).toNat) ao ?_
 rintro ai rfl
 refine yL 1 8 e2 al ?_
 rintro ⟨⟨⟩, ⟨⟩, ⟨p3, c2⟩, ⟨p4, c3⟩⟩
 have r6 := (okl (afd an).2.2.2).1
 refine R0 ?_
 refine WX.loop (ι := (Option Addr) × Nat × (List Route) × Nat) ⟨fun | (a2, a4, a5, i2) => (i2 ≤ e2.prefixes.length) ∧ (a5.length ≤ bd n ∧ ∀ z_ ∈ a5, ok n z_) ∧ (a4p n_ l a e1 e2.prefixes (a8 : List Route) = a4p n_ l a e1 (e2.prefixes.drop i2) a5), fun | (a2, a4, a5, i2) => e2.prefixes.length - i2, fun | (a2, a4, a5, i2) => [(7, .v (.slice a2 (a5.length) a4)), (41, .v (.int .i64 (((i2 : Nat) : Int)))), (40, .v (.int .i64 (((e2.prefixes.length : Nat) : Int)))), (39, .v (.slice p4 (e2.prefixes.length) c3)), (10, .v (.int .i64 ((a1s l a e1)))), (9, .v (.int .i64 e1)), (22, .v (.int .i64 (((i : Nat) : Int)))), (21, .v (.int .i64 (((((a15 l a)).length : Nat) : Int)))), (20, .v (.slice (some ae) (((a15 l a)).length) c1)), (3, .p 3 0), (1, .v (.slice (some ai) (l.length) M1)), (2, .v (.int .i64 a))], fun | (a2, a4, a5, i2) => [(3, ⟨26, [.int .i64 (n_.size), .slice K0 (n_.links.length) M0]⟩)], fun | (a2, a4, a5, i2) => [], fun | (a2, a4, a5, i2) => [(0, MF.rs .stb K0 M0 n_.links), (1, MF.rs .stb (some ai) M1 l), (3, MF.os (some ae) c1 (a15 l a)), (6, MF.os a2 a4 a5), (8, MF.rs .stb p3 c2 e2.neighbors), (9, MF.rs .stb p4 c3 e2.prefixes)]⟩ (a6, a7, (a8 : List Route), 0) ⟨zl, (afi v2), Z⟩
   (.cons Z (.cons Z (.cons Z (.cons Z (.cons Z (.cons Z (.cons Z (.cons Z (.cons Z (.cons Z (.cons Z (.cons Z (.nil))))))))))))) (.cons Z (.nil)) .nil [0, 1, 3, 6, 8, 9] Z ?_
 rintro ⟨a2, a4, a5, i2⟩ ⟨v4, v5, v6⟩
 have b9 := v5.1
 refine yKD 42 ?_ ?_ <;> intro h3 bc
 have aq : i2 < e2.prefixes.length := τ0
 obtain ⟨e3, aj⟩ := gE aq
 have ak := okE (afd an).2.2.2 aj
 refine yI 9 i2 aq ?_
 rintro au rfl
 refine zL 9 10 e3 aj ?_
 rintro ⟨p5, c4⟩
 refine KF Z 11 Z Z Z Z Z O Z (fun w γ => f160 n τ0 (γ.q 1 Z) a9 aa ah) ?_
 rintro ⟨p6, c5⟩ ax
 have r7 := (okl ax).1
 refine R0 ?_
 refine WX.loop (ι := (Option Addr) × Nat × (List Route) × Nat) ⟨fun | (a3, a1, a0, i3) => (i3 ≤ ((a3d l a e1)).length) ∧ (a0.length ≤ bd n ∧ ∀ z_ ∈ a0, ok n z_) ∧ (a2b n_ l a e1 e3 (a3d l a e1) (a5 : List Route) = a2b n_ l a e1 e3 (((a3d l a e1)).drop i3) a0), fun | (a3, a1, a0, i3) => ((a3d l a e1)).length - i3, fun | (a3, a1, a0, i3) => [(7, .v (.slice a3 (a0.length) a1)), (50, .v (.int .i64 (((i3 : Nat) : Int)))), (49, .v (.int .i64 (((((a3d l a e1)).length : Nat) : Int)))), (48, .v (.slice p6 (((a3d l a e1)).length) c5)), (12, .p 12 0), (41, .v (.int .i64 (((i2 : Nat) : Int)))), (40, .v (.int .i64 (((e2.prefixes.length : Nat) : Int)))), (39, .v (.slice (some au) (e2.prefixes.length) c3)), (10, .v (.int .i64 ((a1s l a e1)))), (9, .v (.int .i64 e1)), (22, .v (.int .i64 (((i : Nat) : Int)))), (21, .v (.int .i64 (((((a15 l a)).length : Nat) : Int)))), (20, .v (.slice (some ae) (((a15 l a)).length) c1)), (3, .p 3 0), (1, .v (.slice (some ai) (l.length) M1)), (2, .v (.int .i64 a))], fun | (a3, a1, a0, i3) => [(12, ⟨49, [.slice p5 (e3.parts.length) c4]⟩), (3, ⟨26, [.int .i64 (n_.size), .slice K0 (n_.links.length) M0]⟩)], fun | (a3, a1, a0, i3) => [], fun | (a3, a1, a0, i3) => [(0, MF.rs .stb K0 M0 n_.links), (1, MF.rs .stb (some ai) M1 l), (3, MF.os (some ae) c1 (a15 l a)), (6, MF.os a3 a1 a0), (8, MF.rs .stb p3 c2 e2.neighbors), (9, MF.rs .stb (some au) c3 e2.prefixes), (10, MF.rs .stb p5 c4 e3.parts), (12, MF.os p6 c5 (a3d l a e1))]⟩ (a2, a4, (a5 : List Route), 0) ⟨zl, (afi v5), Z⟩
   (.cons Z (.cons Z (.cons Z (.cons Z (.cons Z (.cons Z (.cons Z (.cons Z (.cons Z (.cons Z (.cons Z (.cons Z (.cons Z (.cons Z (.cons Z (.cons Z (.nil))))))))))))))))) (.cons Z (.cons Z (.nil))) .nil [0, 1, 3, 6, 8, 9, 10, 12] Z ?_
 rintro ⟨a3, a1, a0, i3⟩ ⟨v7, v8, v9⟩
 have bf := v8.1
 refine yKD 51 ?_ ?_ <;> intro h4 b7
 have ap : i3 < ((a3d l a e1)).length := τ0
 obtain ⟨e4, ab⟩ := gE ap
 have av := okE ax ab
 refine zW 13 12 ?_
 refine yI 13 i3 ap ?_
 rintro bj rfl
 refine zL 13 14 e4 ab ?_
 rintro ⟨⟩
 refine KV Z Z Z Z Z Z O Z (fun w γ => f161 n τ0 n_ (γ.q 0 Z) ac aa av) fun af => ?_
 refine zW 14 6 ?_
 refine KV Z Z Z Z Z Z O Z (fun w γ => f162 n τ0 (γ.q 14 Z) e3 (γ.q 10 Z) (afi v8) ak af) fun b2 => ?_
 have q2 := ava a0 e3 (a1z n_ a e4)
 refine yKM 64 ?_ ?_ <;> intro h5 bk
 refine yKD 67 ?_ ?_ <;> intro h6 bi
 refine KF Z 15 Z Z Z Z Z O Z (fun w γ => f163 n τ0 (γ.q 14 Z) (Route.mk e3 (a1z n_ a e4) (a1s l a e1)) (γ.q 10 Z) (afi v8) (An ak (An af am))) ?_
 rintro ⟨p7, c6⟩ b0
 refine SA ?_
 refine zU [16] 6 ?_
 refine R0 ?_
 exact WX.iter (p7, c6, (a1m a0 (Route.mk e3 (a1z n_ a e4) (a1s l a e1))).1, i3 + 1) ⟨τ0, b0, (by rw [v9, acx ab]; simp only [a2b, h5, h6, cT, cF])⟩ τ1 (.cons Z (.cons Z (.cons Z (.cons Z (.cons Z (.cons Z (.cons Z (.cons Z (.cons Z (.cons Z (.cons Z (.cons Z (.cons Z (.cons Z (.cons Z (.cons Z (.nil))))))))))))))))) (.cons Z (.cons Z (.nil))) .nil [0, 1, 3, 6, 8, 9, 10, 12] Z
 have r8 := i8 av
 have r9 := i8 af
 have bl := i8 b2
 refine R0 ?_
 refine SI 69 ?_
 have aw : ((a0r a0 e3 (a1z n_ a e4))).toNat < a0.length := τ3
 obtain ⟨e5, ag⟩ := gE aw
 have bg : ok n e5 := v8.2 _ (List.mem_of_getElem? ag)
 refine zI 14 (((a0r a0 e3 (a1z n_ a e4))).toNat) aw ?_
 rintro b1 rfl
 refine yL 14 17 e5 ag ?_
 rintro ⟨⟨p8, c7⟩, ⟨⟩, ⟨⟩⟩
 refine yKD 76 ?_ ?_ <;> intro h7 be
 refine KF Z 18 Z Z Z Z Z O Z (fun w γ => f163 n τ0 (γ.q 14 Z) (Route.mk e3 (a1z n_ a e4) (a1s l a e1)) (γ.q 10 Z) (afi v8) (An ak (An af am))) ?_
 rintro ⟨p9, c8⟩ az
 refine SA ?_
 refine zU [19] 6 ?_
 refine R0 ?_
 exact WX.iter (p9, c8, (a1m a0 (Route.mk e3 (a1z n_ a e4) (a1s l a e1))).1, i3 + 1) ⟨τ0, az, (by rw [v9, acx ab]; simp only [a2b, h5, h6, ag, h7, cT, cF])⟩ τ1 (.cons Z (.cons Z (.cons Z (.cons Z (.cons Z (.cons Z (.cons Z (.cons Z (.cons Z (.cons Z (.cons Z (.cons Z (.cons Z (.cons Z (.cons Z (.cons Z (.nil))))))))))))))))) (.cons Z (.cons Z (.nil))) .nil [0, 1, 3, 6, 8, 9, 10, 12] Z
 refine SA ?_
 refine R0 ?_
 exact WX.iter ((some b1), a1, a0, i3 + 1) ⟨τ0, (afi v8), (by rw [v9, acx ab]; simp only [a2b, h5, h6, ag, h7, cT, cF])⟩ τ1 (.cons Z (.cons Z (.cons Z (.cons Z (.cons Z (.cons Z (.cons Z (.cons Z (.cons Z (.cons Z (.cons Z (.cons Z (.cons Z (.cons Z (.cons Z (.cons Z (.nil))))))))))))))))) (.cons Z (.cons Z (.nil))) .nil [0, 1, 3, 6, 8, 9, 10, 12] Z
 refine SA ?_
 refine R0 ?_
 exact WX.iter (a3, a1, a0, i3 + 1) ⟨τ0, (afi v8), (by rw [v9, acx ab]; simp only [a2b, h5, cT, cF])⟩ τ1 (.cons Z (.cons Z (.cons Z (.cons Z (.cons Z (.cons Z (.cons Z (.cons Z (.cons Z (.cons Z (.cons Z (.cons Z (.cons Z (.cons Z (.cons Z (.cons Z (.nil))))))))))))))))) (.cons Z (.cons Z (.nil))) .nil [0, 1, 3, 6, 8, 9, 10, 12] Z
 have b6 := v9.trans (show _ = (a0 : List Route) by rw [dn (show ((a3d l a e1)).length ≤ i3 by omega)]; simp only [a2b, cT, cF])
 refine SA ?_
 refine R0 ?_
 exact WX.iter (a3, a1, a0, i2 + 1) ⟨τ0, (afi v8), (by rw [v6, acx aj]; simp only [a4p, b6, cT, cF])⟩ τ1 (.cons Z (.cons Z (.cons Z (.cons Z (.cons Z (.cons Z (.cons Z (.cons Z (.cons Z (.cons Z (.cons Z (.cons Z (.nil))))))))))))) (.cons Z (.nil)) .nil [0, 1, 3, 6, 8, 9] Z
 have b3 := v6.trans (show _ = (a5 : List Route) by rw [dn (show e2.prefixes.length ≤ i2 by omega)]; simp only [a4p, cT, cF])
 refine SA ?_
 refine R0 ?_
 exact WX.iter (a2, a4, a5, i + 1) ⟨τ0, (afi v5), (by rw [v3, acx ad]; simp only [a2t, h2, al, b3, cT, cF])⟩ τ1 (.cons Z (.cons Z (.cons Z (.cons Z (.cons Z (.cons Z (.cons Z (.nil)))))))) (.cons Z (.nil)) .nil [0, 1, 3, 6] Z
 have b5 := v3.trans (show _ = (a8 : List Route) by rw [dn (show ((a15 l a)).length ≤ i by omega)]; simp only [a2t, cT, cF])
 rw [show a2g n_ l a = a8 by simp only [a2g, b5, cT, cF]]
 exact yX [6] (a6, a7) (afi v2)
theorem f147 (hn : n + 1 ≤ 9) (n_ : Topology) (N0 : Rd w K0 M0 n_.links) {l : List Advertisement} (N1 : Rd w K1 M1 l) {a : Int} (ag : ok n n_) (a6 : ok n l) (a7 : ok n a) :
 DP 147 #[aeu n_ K0 M0, vS K1 l M1, vI a] w (pS w n (a3v n_ l a)) := by
 have hb := bS1 hn
 refine EN Tryz.func147 Z (aS2 N0 N1) ?_
 refine yB fun p1 => ?_
 refine KF Z 2 Z Z Z Z Z O Z (fun w γ => f258 n τ0 (γ.q 1 Z) a6 a7) ?_
 rintro ⟨p2, c1⟩ av
 refine F0 4 Route ?_
 refine yE 19 4 5 ?_
 have r1 := (okl a6).1
 have r2 := i8 a7
 have r3 := (okl av).1
 refine LK (p1, 0, ([] : List Route), 0) (fun | (a8, a9, aa, i) => ((i ≤ ((a2a l a)).length) ∧ JL n aa ∧ (a6c n_ l a (a2a l a) ([] : List Route) = a6c n_ l a (((a2a l a)).drop i) aa), ((a2a l a)).length - i, [(7, .v (vS a8 aa a9)), (9, .v (vI i))], [], [], [(6, MF.os a8 a9 aa)])) ⟨zl, (ada zl nA : ok n ([] : List Route)), Z⟩ [8, 3, 1, 2] [3] [0, 1, 3] [0, 1, 3, 6] ?_
 rintro ⟨a8, a9, aa, i⟩ ⟨v1, v2, v3⟩
 have ce := v2.1
 refine yKA 26 ?_ ?_ <;> intro h1
 have b5 : (((i : Nat) : Int) < ((((a2a l a)).length : Nat) : Int)) := B.dt h1
 have ah : i < ((a2a l a)).length := τ0
 obtain ⟨e1, ab⟩ := gE ah
 have an := okE av ab
 have bv := att ab
 refine zW 7 3 ?_
 refine yI 7 i ah ?_
 rintro bn rfl
 refine zL 7 8 e1 ab ?_
 rintro ⟨⟩
 refine CV Z Z Z Z Z O Z (fun w γ => f259 n τ0 (γ.q 1 Z) a6 an) fun az => ?_
 have q1 := ari l e1
 refine yI 7 i ah ?_
 rintro ci ⟨⟩
 refine zL 7 8 e1 ab ?_
 rintro ⟨⟩
 refine CF 8 Z Z Z Z Z O Z (fun w γ => f260 n τ0 (γ.q 1 Z) a6 a7 an) ?_
 rintro ⟨p3, c2⟩ aq
 refine yI 7 i ah ?_
 rintro cf ⟨⟩
 refine zL 7 10 e1 ab ?_
 rintro ⟨⟩
 refine CV Z Z Z Z Z O Z (fun w γ => f261 n τ0 (γ.q 1 Z) a6 a7 an) fun ay => ?_
 refine LM Z (a8, a9, (aa : List Route), 0) (fun | (a2, a4, a1, i2) => (JL n a1 ∧ (i2 ≤ pfxL l (a0e l e1)) ∧ (pfxL l (a0e l e1) ≤ bd n) ∧ (a59 n_ l a e1 0 (aa : List Route) = a59 n_ l a e1 i2 a1), pfxL l (a0e l e1) + 1 - i2, [(7, .v (vS a2 a1 a4)), (13, .v (vI i2))], [], [], [(6, MF.os a2 a4 a1), (9, MF.os p3 c2 (a29 l a e1))])) ⟨(afi v2), zl, (axo a6 _), Z⟩ [12, 11, 10, 9, 8, 3, 1, 2] [3] [0, 1, 3] [0, 1, 3, 6, 9] ?_
 rintro ⟨a2, a4, a1, i2⟩ ⟨v4, v5, v6, v7⟩
 have ch := v4.1
 have r4 := i8 an
 have r5 := i8 az
 refine R0 ?_
 refine SI 51 ?_
 have af : ((a0e l e1)).toNat < l.length := τ3
 obtain ⟨e2, ad⟩ := gE af
 have b0 := okE a6 ad
 refine zI 1 (((a0e l e1)).toNat) af ?_
 rintro cg rfl
 refine yL 1 10 e2 ad ?_
 rintro ⟨⟨⟩, ⟨⟩, ⟨p4, c3⟩, ⟨p5, c4⟩⟩
 refine yKA 57 ?_ ?_ <;> intro h2
 have ak : (((i2 : Nat) : Int) < ((e2.prefixes.length : Nat) : Int)) := B.dt h2
 refine zW 12 3 ?_
 refine yI 12 i ah ?_
 rintro cb ⟨⟩
 refine zL 12 13 e1 ab ?_
 rintro ⟨⟩
 refine yKM 64 ?_ ?_ <;> intro h3 bz
 have r6 := (okl aq).1
 refine LM Z (a2, a4, (a1 : List Route), 0) (fun | (a5, a3, a0, i3) => ((i3 ≤ ((a29 l a e1)).length) ∧ JL n a0 ∧ (a3e n_ l a e1 e2 i2 (a29 l a e1) (a1 : List Route) = a3e n_ l a e1 e2 i2 (((a29 l a e1)).drop i3) a0), ((a29 l a e1)).length - i3, [(7, .v (vS a5 a0 a3)), (14, .v (vI i3))], [], [], [(6, MF.os a5 a3 a0), (9, MF.os p3 c2 (a29 l a e1)), (10, MF.rs .stb p4 c3 e2.neighbors), (11, MF.rs .stb p5 c4 e2.prefixes)])) ⟨zl, (afi v4), Z⟩ [63, 62, 61, 60, 59, 58, 13, 12, 11, 10, 9, 8, 3, 1, 2] [3] [0, 1, 3] [0, 1, 3, 6, 9, 10, 11] ?_
 rintro ⟨a5, a3, a0, i3⟩ ⟨v8, v9, ai⟩
 have br := v9.1
 refine yKA 70 ?_ ?_ <;> intro h4
 have b2 : (((i3 : Nat) : Int) < ((((a29 l a e1)).length : Nat) : Int)) := B.dt h4
 have ar : i3 < ((a29 l a e1)).length := τ0
 obtain ⟨e3, ae⟩ := gE ar
 have ax := okE aq ae
 refine zW 13 9 ?_
 refine R0 ?_
 refine WX.draw [] mixed fun bs G0 au => ?_
 refine dT 4 [0, 3, 5, 7] ?_
 refine zDI 4 13 i3 au Z ar ?_
 rintro ca rfl
 refine zDL 5 13 14 e3 au ae ?_
 rintro ⟨⟩
 refine DXV 6 Z J Z Z Z Z Z Z O Z (fun w γ => f262 n τ0 n_ (γ.q 0 Z) ag a7 ax) fun aj => ?_
 refine dT 0 [15] ?_
 refine DX.tail2 [] Z Z J ?_
 refine R0 ?_
 refine SI 82 ?_
 refine zI 1 (((a0e l e1)).toNat) af ?_
 rintro bq ⟨⟩
 refine yL 1 14 e2 ad ?_
 rintro ⟨⟨⟩, ⟨⟩, ⟨p6, c5⟩, ⟨p7, c6⟩⟩
 have al : i2 < e2.prefixes.length := τ3
 obtain ⟨e4, ac⟩ := gE al
 have ao := okE (afd b0).2.2.2 ac
 refine yI 15 i2 al ?_
 rintro bm rfl
 refine zL 15 16 e4 ac ?_
 rintro ⟨p8, c7⟩
 refine zW 17 6 ?_
 refine KV Z Z Z Z Z Z O Z (fun w γ => f263 n τ0 (γ.q 17 Z) e4 (γ.q 16 Z) (afi v9) ao aj) fun ba => ?_
 have q2 := avo a0 e4 (a13 n_ a e3)
 refine yKA 93 ?_ ?_ <;> intro h5
 have bh : ((a13 n_ a e3) > 0) := B.dt h5
 refine yKA 96 ?_ ?_ <;> intro h6
 have bc : ((a0p a0 e4 (a13 n_ a e3)) < 0) := B.dt h6
 refine R0 ?_
 refine SI 109 ?_
 refine zI 1 (((a0e l e1)).toNat) af ?_
 rintro ck ⟨⟩
 refine yL 1 18 e2 ad ?_
 rintro ⟨⟨⟩, ⟨⟩, ⟨p9, c8⟩, ⟨cl, c9⟩⟩
 refine yI 19 i2 al ?_
 rintro bf rfl
 refine zL 19 20 e4 ac ?_
 rintro ⟨cc, bw⟩
 refine KF Z 21 Z Z Z Z Z O Z (fun w γ => f264 n τ0 (γ.q 17 Z) (Route.mk e4 (a13 n_ a e3) (a1a l a e1)) (γ.q 20 Z) (afi v9) (An ao (An aj ay))) ?_
 rintro ⟨be, bi⟩ b3
 refine SA ?_
 refine zU [22] 6 ?_
 exact ITr Z (be, bi, (a1t a0 (Route.mk e4 (a13 n_ a e3) (a1a l a e1))).1, i3 + 1) ⟨τ0, b3, (by rw [ai, acx ae]; simp only [a3e, ac, h5, h6, cT, cF])⟩ τ1 [0, 1, 3, 6, 9, 10, 11]
 have bc : ¬ ((a0p a0 e4 (a13 n_ a e3)) < 0) := B.df h6
 have r7 := i8 ax
 have r8 := i8 aj
 have r9 := i8 ba
 refine R0 ?_
 refine SI 98 ?_
 have aw : ((a0p a0 e4 (a13 n_ a e3))).toNat < a0.length := τ3
 obtain ⟨e5, am⟩ := gE aw
 have cd : ok n e5 := v9.2 _ (List.mem_of_getElem? am)
 refine zI 17 (((a0p a0 e4 (a13 n_ a e3))).toNat) aw ?_
 rintro ap rfl
 refine yL 17 23 e5 am ?_
 rintro ⟨⟨bl, bo⟩, ⟨⟩, ⟨⟩⟩
 refine yKA 105 ?_ ?_ <;> intro h7
 have b9 : (e5.cost > (a1a l a e1)) := B.dt h7
 refine R0 ?_
 refine SI 109 ?_
 refine zI 1 (((a0e l e1)).toNat) af ?_
 rintro b7 ⟨⟩
 refine yL 1 24 e2 ad ?_
 rintro ⟨⟨⟩, ⟨⟩, ⟨bp, cj⟩, ⟨bx, bt⟩⟩
 refine yI 25 i2 al ?_
 rintro bg rfl
 refine zL 25 26 e4 ac ?_
 rintro ⟨bu, c0⟩
 refine KF Z 27 Z Z Z Z Z O Z (fun w γ => f264 n τ0 (γ.q 17 Z) (Route.mk e4 (a13 n_ a e3) (a1a l a e1)) (γ.q 26 Z) (afi v9) (An ao (An aj ay))) ?_
 rintro ⟨b4, b8⟩ b1
 refine SA ?_
 refine zU [28] 6 ?_
 exact ITr Z (b4, b8, (a1t a0 (Route.mk e4 (a13 n_ a e3) (a1a l a e1))).1, i3 + 1) ⟨τ0, b1, (by rw [ai, acx ae]; simp only [a3e, ac, h5, h6, am, h7, cT, cF])⟩ τ1 [0, 1, 3, 6, 9, 10, 11]
 have b9 : ¬ (e5.cost > (a1a l a e1)) := B.df h7
 refine SA ?_
 exact ITr Z ((some ap), a3, a0, i3 + 1) ⟨τ0, (afi v9), (by rw [ai, acx ae]; simp only [a3e, ac, h5, h6, am, h7, cT, cF])⟩ τ1 [0, 1, 3, 6, 9, 10, 11]
 have bh : ¬ ((a13 n_ a e3) > 0) := B.df h5
 refine SA ?_
 exact ITr Z (a5, a3, a0, i3 + 1) ⟨τ0, (afi v9), (by rw [ai, acx ae]; simp only [a3e, ac, h5, cT, cF])⟩ τ1 [0, 1, 3, 6, 9, 10, 11]
 have b2 : ¬ (((i3 : Nat) : Int) < ((((a29 l a e1)).length : Nat) : Int)) := B.df h4
 have bk := ai.trans (show _ = (a0 : List Route) by rw [dn (show ((a29 l a e1)).length ≤ i3 by omega)]; simp only [a3e, cT, cF])
 refine SA ?_
 exact ITr Z (a5, a3, a0, i2 + 1) ⟨(afi v9), (by have z_ := aup (show l[(a0e l e1).toNat]? = some _ by assumption); omega), (by assumption), (by rw [v7]; rw [a59]; simp only [(show i2 ≤ pfxL l (a0e l e1) by omega), ad, h2, ak, h3, bk, cT, cF, ↓reduceIte, Bool.false_eq_true])⟩ τ1 [0, 1, 3, 6, 9]
 have bb := v7.trans (show _ = (i2, (a1 : List Route)) by rw [a59]; simp only [(show i2 ≤ pfxL l (a0e l e1) by omega), ad, h2, ak, h3, cT, cF, ↓reduceIte, Bool.false_eq_true])
 refine SA ?_
 exact ITr Z (a2, a4, a1, i + 1) ⟨τ0, (afi v4), (by rw [v3, acx ab]; simp only [a6c, bb, cT, cF])⟩ τ1 [0, 1, 3, 6]
 have ak : ¬ (((i2 : Nat) : Int) < ((e2.prefixes.length : Nat) : Int)) := B.df h2
 have bj := v7.trans (show _ = (i2, (a1 : List Route)) by rw [a59]; simp only [(show i2 ≤ pfxL l (a0e l e1) by omega), ad, h2, ak, cT, cF, ↓reduceIte, Bool.false_eq_true])
 refine SA ?_
 exact ITr Z (a2, a4, a1, i + 1) ⟨τ0, (afi v4), (by rw [v3, acx ab]; simp only [a6c, bj, cT, cF])⟩ τ1 [0, 1, 3, 6]
 have b5 : ¬ (((i : Nat) : Int) < ((((a2a l a)).length : Nat) : Int)) := B.df h1
 have b6 := v3.trans (show _ = (aa : List Route) by rw [dn (show ((a2a l a)).length ≤ i by omega)]; simp only [a6c, cT, cF])
 rw [show a3v n_ l a = aa by simp only [a3v, b6, cT, cF]]
 exact yX [6] (a8, a9) (afi v2)
theorem f11 (hn : n + 0 ≤ 9) (n_ : Topology) (N0 : Rd w K0 M0 n_.links) {producers : List TableEntry} (N1 : Rd w K1 M1 producers) {version : Int} (a7 : ok n n_) (a1 : ok n producers) (a0 : ok n version) :
 DP 11 #[aeu n_ K0 M0, vS K1 producers M1, vI version] w (pS w n (a1f n_ producers version)) := by
 have hb := bS0 hn
 refine EN Tryz.func11 Z (aS2 N0 N1) ?_
 refine KV Z Z Z Z Z Z O Z (fun w γ => f53 n τ0 n_ (γ.q 0 Z) a7) fun ap => ?_
 refine yKN 15 ?_ ?_ <;> intro h1 aj
 refine F1 2 Advertisement ?_
 rw [show a1f n_ producers version = ([] : List Advertisement) by simp only [a1f, h1, cT, cF]]
 exact yX [2] (none, 0) (adg (α := Advertisement))
 refine KV Z Z Z Z Z Z O Z (fun w γ => f54 n τ0 a0 (i6 1) (i6 1000)) fun al => ?_
 refine yKN 19 ?_ ?_ <;> intro h2 aw
 refine F1 3 Advertisement ?_
 rw [show a1f n_ producers version = ([] : List Advertisement) by simp only [a1f, h1, h2, cT, cF]]
 exact yX [3] (none, 0) (adg (α := Advertisement))
 have av := agm (B.nf h2)
 refine yB fun p1 => ?_
 refine F0 4 Advertisement ?_
 have r1 := i8 ((ad0 a7).1)
 have aq := atm (show a3l n_ = true by assumption)
 refine LM Z (p1, 0, [], ([] : List Advertisement), 0) (fun | (a5, a6, a2, a3, i) => ((i ≤ n_.size.toNat) ∧ JE n a3 ∧ (a3.length ≤ i) ∧ (a4q n_ producers version (n_.size.toNat) 0 ([] : List Advertisement) = a4q n_ producers version (n_.size.toNat - i) i a3), n_.size.toNat - i, [(7, .v (vS a5 a3 a6)), (23, .v (vI i))], [], [(20, ⟨4, a5, a3.length, a6, a2⟩)], [(4, MF.ol a2 (a3 : List Advertisement))])) ⟨zl, nA, τ7, Z⟩ [22, 3, 1, 2] [3] [0, 1] [0, 1, 4] ?_
 rintro ⟨a5, a6, a2, a3, i⟩ ⟨v1, v2, v3, v4⟩
 refine yKD 24 ?_ ?_ <;> intro h3 an
 refine KF Z 5 Z Z Z Z Z O Z (fun w γ => f55 n τ0 n_ (γ.q 0 Z) a7 (i6 ((i : Nat) : Int))) ?_
 rintro ⟨p2, c1⟩ ac
 refine R0 ?_
 refine WX.row0 501 1 none Z ?_
 refine F0 7 Name ?_
 have r2 := (okl a1).1
 refine LK (0, none, 0, [], ([] : List Name)) (fun | (i2, a8, a9, a4, x_) => ((i2 ≤ producers.length) ∧ JE n x_ ∧ (x_.length ≤ i2) ∧ (a23 i producers ([] : List Name) = a23 i (producers.drop i2) x_), producers.length - i2, [(34, .v (vI i2))], [(9, ⟨123, [.int .i64 (((i : Nat) : Int)), .int .i64 version, .slice p2 (((a4m n_ ((i : Nat) : Int))).length) c1, .slice a8 (x_.length) a9]⟩)], [(20, ⟨4, a5, a3.length, a6, a2⟩), (501, ⟨1, a8, x_.length, a9, a4⟩)], [(7, MF.ol a4 (x_ : List Name))])) ⟨zl, nA, τ7, Z⟩ [33, 32, 9, 8, 7, 23, 22, 3, 1, 2] [3] [0, 1, 4, 6] [0, 1, 4, 6, 7] ?_
 rintro ⟨i2, a8, a9, a4, x_⟩ ⟨v5, v6, v7, v8⟩
 refine yKD 35 ?_ ?_ <;> intro h4 au
 have ab : i2 < producers.length := τ0
 obtain ⟨e1, aa⟩ := gE ab
 have ag := okE a1 aa
 refine yI 1 i2 ab ?_
 rintro am rfl
 refine zL 1 8 e1 aa ?_
 rintro ⟨⟨p3, c2⟩, ⟨⟩⟩
 refine yKE 42 ?_ ?_ <;> intro h5 ak
 refine yKD 47 ?_ ?_ <;> intro h6 ar
 refine zW 9 6 ?_
 refine R0 ?_
 refine WX.draw [6, 7, 8] mixed fun bs G0 ao => ?_
 refine dT 5 [1, 2, 5, 6] ?_
 refine DXF 4 10 Z J Z Z Z Z Z Z O Z (fun w γ => f56 n τ0 e1.name (γ.q 8 Z) ((ads ag).1)) ?_
 rintro ⟨p4, c3⟩ ae
 refine DX.tail2 [5, 6, 7, 8] Z Z J ?_
 refine zB fun p5 => ?_
 refine zT (α := Name) [11] 12 (a0f e1.name) (p4, c3) fun ad => ?_
 refine zP 501 53 ((x_ ++ [(a0f e1.name)]) : List Name).length ad fun p6 c4 => ?_
 refine zV [7, 12] 13 ?_
 refine SA ?_
 refine zU [13] 7 ?_
 exact ITr Z (i2 + 1, p6, c4, _, ((x_ ++ [(a0f e1.name)]) : List Name)) ⟨τ0, (aec v6 (all_cons (α := Name) ae nA)), τ2, (by rw [v8, acx aa]; simp only [a23, h5, h6, cT, cF])⟩ τ1 [0, 1, 4, 6, 7]
 refine SA ?_
 exact ITr Z (i2 + 1, a8, a9, a4, (x_ : List Name)) ⟨τ0, v6, τ2, (by rw [v8, acx aa]; simp only [a23, h5, h6, cT, cF])⟩ τ1 [0, 1, 4, 6, 7]
 refine SA ?_
 exact ITr Z (i2 + 1, a8, a9, a4, (x_ : List Name)) ⟨τ0, v6, τ2, (by rw [v8, acx aa]; simp only [a23, h5, cT, cF])⟩ τ1 [0, 1, 4, 6, 7]
 have ai := v8.trans (show _ = (x_ : List Name) by rw [dn (show producers.length ≤ i2 by omega)]; simp only [a23, cT, cF])
 refine yE 501 7 14 ?_
 refine zB fun p7 => ?_
 refine zT (α := Advertisement) [6, 15] 16 (Advertisement.mk ((i : Nat) : Int) version (a4m n_ ((i : Nat) : Int)) x_) ((), (), (p2, c1), (a8, a9)) fun _ => ?_
 have r3 := i8 a0
 have r4 := (okl ac).1
 refine WX.know (fun G hΓ => (hΓ.get 16 Z : OwL _ _ _).rd.one) fun ah => ?_
 refine zP 20 59 ((a3 ++ [(Advertisement.mk ((i : Nat) : Int) version (a4m n_ ((i : Nat) : Int)) x_)]) : List Advertisement).length ah fun p8 c5 => ?_
 refine zV [4, 16] 17 ?_
 refine SA ?_
 refine zU [17] 4 ?_
 exact ITr Z (p8, c5, _, ((a3 ++ [(Advertisement.mk ((i : Nat) : Int) version (a4m n_ ((i : Nat) : Int)) x_)]) : List Advertisement), i + 1) ⟨τ0, (aec v2 (all_cons (α := Advertisement) (An (i6 ((i : Nat) : Int)) (An a0 (An ac (ada τ0 v6 : ok n (x_ : List Name))))) nA)), τ2, (by rw [v4, show n_.size.toNat - i = (n_.size.toNat - (i + 1)) + 1 by omega]; simp only [a4q, ai, cT, cF])⟩ τ1 [0, 1, 4]
 have af := v4.trans (show _ = (a3 : List Advertisement) by rw [show n_.size.toNat - i = 0 by omega]; simp only [a4q, cT, cF])
 refine yE 20 4 18 ?_
 rw [show a1f n_ producers version = a3 by simp only [a1f, h1, h2, af, cT, cF]]
 exact zX [19] (a5, a6) (ada τ0 v2 : ok n (a3 : List Advertisement))
theorem f144 (hn : n + 0 ≤ 9) (n_ : Topology) (N0 : Rd w K0 M0 n_.links) {names : List TableEntry} (N1 : Rd w K1 M1 names) {ver : Int} (a6 : ok n n_) (a1 : ok n names) (a0 : ok n ver) :
 DP 144 #[aeu n_ K0 M0, vS K1 names M1, vI ver] w (pS w n (a24 n_ names ver)) := by
 have hb := bS0 hn
 refine EN Tryz.func144 Z (aS2 N0 N1) ?_
 refine yB fun p1 => ?_
 refine KV Z Z Z Z Z Z O Z (fun w γ => f72 n τ0 n_ (γ.q 0 Z) a6) fun aw => ?_
 refine yKN 15 ?_ ?_ <;> intro h1 ar
 refine F0 2 Advertisement ?_
 refine yE 11 2 3 ?_
 rw [show a24 n_ names ver = ([]) by simp only [a24, h1, cT, cF]]
 exact zX [4] (p1, 0) (ada zl nA : ok n ([] : List Advertisement))
 refine KV Z Z Z Z Z Z O Z (fun w γ => f171 n τ0 a0 (i6 1) (i6 1000)) fun an => ?_
 refine yKN 19 ?_ ?_ <;> intro h2 aq
 refine F0 5 Advertisement ?_
 refine yE 11 5 6 ?_
 rw [show a24 n_ names ver = ([]) by simp only [a24, h1, h2, cT, cF]]
 exact zX [7] (p1, 0) (ada zl nA : ok n ([] : List Advertisement))
 have ay := ag0 (B.nf h2)
 refine F0 8 Advertisement ?_
 have r1 := i8 ((ad0 a6).1)
 have av := atg (show a3m n_ = true by assumption)
 refine LM Z (p1, 0, [], ([] : List Advertisement), 0) (fun | (a4, a5, a3, a2, i) => ((i ≤ n_.size.toNat) ∧ JE n a2 ∧ (a2.length ≤ i) ∧ (a6d n_ names ver (n_.size.toNat) 0 ([] : List Advertisement) = a6d n_ names ver (n_.size.toNat - i) i a2), n_.size.toNat - i, [(7, .v (vS a4 a2 a5)), (8, .v (vI i))], [], [(11, ⟨4, a4, a2.length, a5, a3⟩)], [(8, MF.ol a3 (a2 : List Advertisement))])) ⟨zl, nA, τ7, Z⟩ [3, 1, 2] [3] [0, 1] [0, 1, 8] ?_
 rintro ⟨a4, a5, a3, a2, i⟩ ⟨v1, v2, v3, v4⟩
 refine yKD 24 ?_ ?_ <;> intro h3 au
 refine KF Z 9 Z Z Z Z Z O Z (fun w γ => f255 n τ0 n_ (γ.q 0 Z) a6 (i6 ((i : Nat) : Int))) ?_
 rintro ⟨p2, c1⟩ ab
 refine R0 ?_
 refine WX.row0 501 1 none Z ?_
 refine F0 11 Name ?_
 have r2 := (okl a1).1
 refine LK (0, none, 0, [], ([] : List Name)) (fun | (i2, a9, a8, a7, x_) => ((i2 ≤ names.length) ∧ JE n x_ ∧ (x_.length ≤ i2) ∧ (a45 i names ([] : List Name) = a45 i (names.drop i2) x_), names.length - i2, [(10, .v (vI i2))], [(9, ⟨123, [.int .i64 (((i : Nat) : Int)), .int .i64 ver, .slice p2 (((a17 n_ ((i : Nat) : Int))).length) c1, .slice a9 (x_.length) a8]⟩)], [(11, ⟨4, a4, a2.length, a5, a3⟩), (501, ⟨1, a9, x_.length, a8, a7⟩)], [(11, MF.ol a7 (x_ : List Name))])) ⟨zl, nA, τ7, Z⟩ [9, 7, 8, 3, 1, 2] [3] [0, 1, 8, 10] [0, 1, 8, 10, 11] ?_
 rintro ⟨i2, a9, a8, a7, x_⟩ ⟨v5, v6, v7, v8⟩
 refine yKD 37 ?_ ?_ <;> intro h4 ap
 have ac : i2 < names.length := τ0
 obtain ⟨e1, aa⟩ := gE ac
 have ai := okE a1 aa
 refine yKD 42 ?_ ?_ <;> intro h5 az
 refine yI 1 i2 ac ?_
 rintro ao rfl
 refine yL 1 12 e1 aa ?_
 rintro ⟨⟨p3, c2⟩, ⟨⟩⟩
 refine yKE 51 ?_ ?_ <;> intro h6 ax
 refine zW 13 10 ?_
 refine R0 ?_
 refine WX.draw [9, 10, 11] mixed fun bs G0 ad => ?_
 refine dT 8 [1, 2, 5, 7] ?_
 refine zDI 4 1 i2 ad Z ac ?_
 rintro b0 ⟨⟩
 refine dT 6 [11] ?_
 refine zDL 6 1 14 e1 ad aa ?_
 rintro ⟨⟨p4, c3⟩, ⟨⟩⟩
 refine DXF 7 15 Z J Z Z Z Z Z Z O Z (fun w γ => f246 n τ0 e1.name (γ.q 14 Z) ((ads ai).1)) ?_
 rintro ⟨p5, c4⟩ ak
 refine DX.tail2 [8, 9, 10, 11] Z Z J ?_
 refine zB fun p6 => ?_
 refine zT (α := Name) [16] 17 (a0g e1.name) (p5, c4) fun aj => ?_
 refine zP 501 60 ((x_ ++ [(a0g e1.name)]) : List Name).length aj fun p7 c5 => ?_
 refine zV [11, 17] 18 ?_
 refine SA ?_
 refine zU [18] 11 ?_
 exact ITr Z (i2 + 1, p7, c5, _, ((x_ ++ [(a0g e1.name)]) : List Name)) ⟨τ0, (aec v6 (all_cons (α := Name) ak nA)), τ2, (by rw [v8, acx aa]; simp only [a45, h5, h6, cT, cF])⟩ τ1 [0, 1, 8, 10, 11]
 refine SA ?_
 exact ITr Z (i2 + 1, a9, a8, a7, (x_ : List Name)) ⟨τ0, v6, τ2, (by rw [v8, acx aa]; simp only [a45, h5, h6, cT, cF])⟩ τ1 [0, 1, 8, 10, 11]
 have am := v8.trans (show _ = (x_ : List Name) by rw [acx aa]; simp only [a45, h5, cT, cF])
 refine yE 501 11 19 ?_
 refine zB fun p8 => ?_
 refine zT (α := Advertisement) [10, 20] 21 (Advertisement.mk ((i : Nat) : Int) ver (a17 n_ ((i : Nat) : Int)) x_) ((), (), (p2, c1), (a9, a8)) fun _ => ?_
 have r3 := i8 a0
 have r4 := (okl ab).1
 refine WX.know (fun G hΓ => (hΓ.get 21 Z : OwL _ _ _).rd.one) fun af => ?_
 refine zP 11 65 ((a2 ++ [(Advertisement.mk ((i : Nat) : Int) ver (a17 n_ ((i : Nat) : Int)) x_)]) : List Advertisement).length af fun p9 c6 => ?_
 refine zV [8, 21] 22 ?_
 refine SA ?_
 refine zU [22] 8 ?_
 exact ITr Z (p9, c6, _, ((a2 ++ [(Advertisement.mk ((i : Nat) : Int) ver (a17 n_ ((i : Nat) : Int)) x_)]) : List Advertisement), i + 1) ⟨τ0, (aec v2 (all_cons (α := Advertisement) (An (i6 ((i : Nat) : Int)) (An a0 (An ab (ada τ0 v6 : ok n (x_ : List Name))))) nA)), τ2, (by rw [v4, show n_.size.toNat - i = (n_.size.toNat - (i + 1)) + 1 by omega]; simp only [a6d, am, cT, cF])⟩ τ1 [0, 1, 8]
 have ah := v8.trans (show _ = (x_ : List Name) by rw [dn (show names.length ≤ i2 by omega)]; simp only [a45, cT, cF])
 refine yE 501 11 23 ?_
 refine zB fun b1 => ?_
 refine zT (α := Advertisement) [10, 24] 25 (Advertisement.mk ((i : Nat) : Int) ver (a17 n_ ((i : Nat) : Int)) x_) ((), (), (p2, c1), (a9, a8)) fun _ => ?_
 have r5 := i8 a0
 have r6 := (okl ab).1
 refine WX.know (fun G hΓ => (hΓ.get 25 Z : OwL _ _ _).rd.one) fun ae => ?_
 refine zP 11 65 ((a2 ++ [(Advertisement.mk ((i : Nat) : Int) ver (a17 n_ ((i : Nat) : Int)) x_)]) : List Advertisement).length ae fun ag c7 => ?_
 refine zV [8, 25] 26 ?_
 refine SA ?_
 refine zU [26] 8 ?_
 exact ITr Z (ag, c7, _, ((a2 ++ [(Advertisement.mk ((i : Nat) : Int) ver (a17 n_ ((i : Nat) : Int)) x_)]) : List Advertisement), i + 1) ⟨τ0, (aec v2 (all_cons (α := Advertisement) (An (i6 ((i : Nat) : Int)) (An a0 (An ab (ada τ0 v6 : ok n (x_ : List Name))))) nA)), τ2, (by rw [v4, show n_.size.toNat - i = (n_.size.toNat - (i + 1)) + 1 by omega]; simp only [a6d, ah, cT, cF])⟩ τ1 [0, 1, 8]
 have al := v4.trans (show _ = (a2 : List Advertisement) by rw [show n_.size.toNat - i = 0 by omega]; simp only [a6d, cT, cF])
 refine yE 11 8 27 ?_
 rw [show a24 n_ names ver = a2 by simp only [a24, h1, h2, al, cT, cF]]
 exact zX [28] (a4, a5) (ada τ0 v2 : ok n (a2 : List Advertisement))
end Go.Proofs.YtpmejlbgjkiobaaGreat
namespace Go.Stp
def a2h (w_ : Network) : List NodeP → Nat → (List NodeP) → (List NodeP) | [], i, wNodes => ((wNodes) : List NodeP) | _ :: rest_, i, wNodes => bif (abp (Network.mk w_.topology w_.trust w_.producers wNodes w_.downNodes w_.failedLinks w_.inFlight w_.consumers w_.now w_.dropped) ((i : Nat) : Int)) then match (wNodes)[i]? with | none => default | some e2 => a2h w_ rest_ (i + 1) (((wNodes.set i (NodeP.mk e2.locl e2.cache e2.pending e2.seen (a2g w_.topology (a1f (a21 w_) w_.producers 1) ((i : Nat) : Int)) e2.measurements e2.dropped))) : List NodeP) else a2h w_ rest_ (i + 1) ((wNodes) : List NodeP)
def a5a (w_ : Network) : Network := match a2h w_ w_.nodes 0 (w_.nodes : List NodeP) with | wNodes => (Network.mk w_.topology w_.trust w_.producers wNodes w_.downNodes w_.failedLinks w_.inFlight w_.consumers w_.now w_.dropped)
def a6e (w_ : Network) (i : Nat) (wNodes : List NodeP) : Nat × (List NodeP) := if i ≤ w_.nodes.length then if ((i : Nat) : Int) < (((wNodes).length : Nat) : Int) then if (aca (Network.mk w_.topology w_.trust w_.producers wNodes w_.downNodes w_.failedLinks w_.inFlight w_.consumers w_.now w_.dropped) ((i : Nat) : Int)) = true then match (wNodes)[i]? with | none => default | some e1 => a6e w_ (i + 1) (((wNodes.set i (NodeP.mk e1.locl e1.cache e1.pending e1.seen (a3v w_.topology (a24 (a3b w_) w_.producers 1) ((i : Nat) : Int)) e1.measurements e1.dropped))) : List NodeP) else a6e w_ (i + 1) ((wNodes) : List NodeP) else (i, ((wNodes) : List NodeP)) else default
termination_by w_.nodes.length + 1 - i
decreasing_by all_goals (simp_wf; omega)
def a46 (w_ : Network) : Network := match a6e w_ 0 (w_.nodes : List NodeP) with | (i, wNodes) => (Network.mk w_.topology w_.trust w_.producers wNodes w_.downNodes w_.failedLinks w_.inFlight w_.consumers w_.now w_.dropped)
def a09 (w_ : Network) : Network := (a5a (a9i w_))
def a3w (w_ : Network) : Network := (a46 (a0c w_))
def acb (capacity : Int) : Nat → (List NodeP) → (List NodeP) | 0, w_ => ((w_) : List NodeP) | m_ + 1, w_ => acb capacity m_ (((w_ ++ [(abo capacity)])) : List NodeP)
def a0a (g : Topology) (t : TrustPolicy) (h_ : (List TableEntry)) (capacity : Int) : Network := bif (!(a3l g)) then (Network.mk (Topology.mk 0 ([])) (TrustPolicy.mk ([]) ([]) ([]) ([])) ([]) ([]) 0 ([]) ([]) ([]) 0 0) else bif (!(a96 t)) then (Network.mk (Topology.mk 0 ([])) (TrustPolicy.mk ([]) ([]) ([]) ([])) ([]) ([]) 0 ([]) ([]) ([]) 0 0) else bif (!(acm h_ g.size)) then (Network.mk (Topology.mk 0 ([])) (TrustPolicy.mk ([]) ([]) ([]) ([])) ([]) ([]) 0 ([]) ([]) ([]) 0 0) else match acb capacity ((g.size).toNat) ([] : List NodeP) with | w_ => (a09 (Network.mk (a2r g) (a19 t) (a2q h_) w_ 0 ([]) ([]) ([]) 0 0))
def acd (caps : Int) : Nat → (List NodeP) → (List NodeP) | 0, w_ => ((w_) : List NodeP) | m_ + 1, w_ => acd caps m_ (((w_ ++ [(a9j caps)])) : List NodeP)
def a47 (g : Topology) (t : TrustPolicy) (h_ : (List TableEntry)) (caps : Int) : Network := bif (!(a3m g)) then (Network.mk (Topology.mk 0 ([])) (TrustPolicy.mk ([]) ([]) ([]) ([])) ([]) ([]) 0 ([]) ([]) ([]) 0 0) else bif (!(a7k t)) then (Network.mk (Topology.mk 0 ([])) (TrustPolicy.mk ([]) ([]) ([]) ([])) ([]) ([]) 0 ([]) ([]) ([]) 0 0) else bif (!(acn h_ g.size)) then (Network.mk (Topology.mk 0 ([])) (TrustPolicy.mk ([]) ([]) ([]) ([])) ([]) ([]) 0 ([]) ([]) ([]) 0 0) else match acd caps ((g.size).toNat) ((a0c (Network.mk g t h_ ([]) 0 ([]) ([]) ([]) 0 0)).nodes : List NodeP) with | w_ => (a46 (Network.mk ((a0c (Network.mk g t h_ ([]) 0 ([]) ([]) ([]) 0 0)).topology) ((a0c (Network.mk g t h_ ([]) 0 ([]) ([]) ([]) 0 0)).trust) ((a0c (Network.mk g t h_ ([]) 0 ([]) ([]) ([]) 0 0)).producers) w_ ((a0c (Network.mk g t h_ ([]) 0 ([]) ([]) ([]) 0 0)).downNodes) ((a0c (Network.mk g t h_ ([]) 0 ([]) ([]) ([]) 0 0)).failedLinks) ((a0c (Network.mk g t h_ ([]) 0 ([]) ([]) ([]) 0 0)).inFlight) ((a0c (Network.mk g t h_ ([]) 0 ([]) ([]) ([]) 0 0)).consumers) ((a0c (Network.mk g t h_ ([]) 0 ([]) ([]) ([]) 0 0)).now) ((a0c (Network.mk g t h_ ([]) 0 ([]) ([]) ([]) 0 0)).dropped)))
end Go.Stp
namespace Go.Proofs.YtpmejlbgjkiobaaGreat
open Go.Stp
open Go.Stp.GoT (ok)
variable {w : World} (n : Nat) {K0 K1 K2 K3 K4 K5 K6 K7 K8 K9 : Option Addr} {M0 M1 M2 M3 M4 M5 M6 M7 M8 M9 : Nat}
theorem f39 (hn : n + 1 ≤ 9) {H : GH} (hH : Le H (hp w)) (bw_ : Nat) (w_ : Network) (K0 : Option Addr) (M0 : Nat) (K1 : Option Addr) (M1 : Nat) (K2 : Option Addr) (M2 : Nat) (K3 : Option Addr) (M3 : Nat) (K4 : Option Addr) (M4 : Nat) (K5 : Option Addr) (M5 : Nat) (K6 : Option Addr) (M6 : Nat) (K7 : Option Addr) (M7 : Nat) (K8 : Option Addr) (M8 : Nat) (K9 : Option Addr) (M9 : Nat) (hown : Sep H (MF.bx bw_ 39 (GoT.sh w_ (((), (K0, M0)), ((K1, M1), (K2, M2), (K3, M3), (K4, M4)), (K5, M5), (K6, M6), (), (K7, M7), (K8, M8), (K9, M9), (), ())) :: GoT.oa w_ (((), (K0, M0)), ((K1, M1), (K2, M2), (K3, M3), (K4, M4)), (K5, M5), (K6, M6), (), (K7, M7), (K8, M8), (K9, M9), (), ()))) (a1 : ok n w_) :
 Does Tryz.prog 39 #[.pointer (some ⟨bw_, 0, none⟩)] w H (Post w H (fun x : GoT.X (Network) => .tuple #[]) (fun x => MF.bx bw_ 39 (GoT.sh ((a5a w_) : Network) (x)) :: GoT.oa ((a5a w_) : Network) x) (ok n ((a5a w_) : Network))) := by
 have hb := bS1 hn
 refine WX.enterP (tt := tt) (Γ := []) (cs := [.int .i64 (w_.topology.size), .slice K0 (w_.topology.links.length) M0, .slice K1 (w_.trust.keys.length) M1, .slice K2 (w_.trust.rules.length) M2, .slice K3 (w_.trust.anchors.length) M3, .slice K4 (w_.trust.certificates.length) M4, .slice K5 (w_.producers.length) M5, .slice K6 (w_.nodes.length) M6, .int .i64 (w_.downNodes), .slice K7 (w_.failedLinks.length) M7, .slice K8 (w_.inFlight.length) M8, .slice K9 (w_.consumers.length) M9, .int .i64 (w_.now), .int .i64 (w_.dropped)]) (fs := [MF.os K0 M0 w_.topology.links, MF.os K1 M1 w_.trust.keys, MF.os K2 M2 w_.trust.rules, MF.os K3 M3 w_.trust.anchors, MF.os K4 M4 w_.trust.certificates, MF.os K5 M5 w_.producers, MF.os K6 M6 w_.nodes, MF.os K7 M7 w_.failedLinks, MF.os K8 M8 w_.inFlight, MF.os K9 M9 w_.consumers]) 10 Tryz.func39 Z J Z adb hH hown (fun f hf => GoT.oak (a := w_) (x := (((), (K0, M0)), ((K1, M1), (K2, M2), (K3, M3), (K4, M4)), (K5, M5), (K6, M6), (), (K7, M7), (K8, M8), (K9, M9), (), ())) f hf) Z ?_
 refine zW 20 10 ?_
 refine zW 21 11 ?_
 refine zW 22 12 ?_
 refine zW 23 13 ?_
 refine zW 24 14 ?_
 refine zW 25 15 ?_
 refine zW 26 16 ?_
 refine zW 27 17 ?_
 refine zW 28 18 ?_
 refine zW 29 19 ?_
 refine R0 ?_
 refine WX.draw [] mixed fun bs G0 ad => ?_
 refine dT 3 [1, 3, 4, 9, 11, 13, 14] ?_
 refine DXF 3 30 Z J Z Z Z Z Z Z O Z (fun w γ => f12 n τ0 w_ (γ.q 20 Z) (γ.q 21 Z) (γ.q 22 Z) (γ.q 23 Z) (γ.q 24 Z) (γ.q 25 Z) (γ.q 26 Z) (γ.q 27 Z) (γ.q 28 Z) (γ.q 29 Z) a1) ?_
 rintro ⟨⟨⟩, ⟨p1, c1⟩⟩ af
 dsimp only
 refine DXF 8 32 Z J Z Z Z Z Z Z O Z (fun w γ => f11 n τ0 (a21 w_) (γ.q 30 Z) (γ.q 25 Z) af ((acy a1).2.2.1) (i6 1)) ?_
 rintro ⟨p2, c2⟩ a9
 dsimp only
 refine dT 0 [19] ?_
 refine DX.tail2 [] Z Z J ?_
 have r1 := (okl (acy a1).2.2.2.1).1
 refine LM Z (0, K6, M6, (w_.nodes : List NodeP)) (fun | (i, a3, a2, a0) => ((i ≤ w_.nodes.length) ∧ JL n a0 ∧ (a0.length = w_.nodes.length) ∧ (a2h w_ w_.nodes 0 (w_.nodes : List NodeP) = a2h w_ (w_.nodes.drop i) i a0), w_.nodes.length - i, [(18, .v (vI i))], [(999, ⟨39, [.int .i64 (w_.topology.size), .slice K0 (w_.topology.links.length) M0, .slice K1 (w_.trust.keys.length) M1, .slice K2 (w_.trust.rules.length) M2, .slice K3 (w_.trust.anchors.length) M3, .slice K4 (w_.trust.certificates.length) M4, .slice K5 (w_.producers.length) M5, .slice a3 (a0.length) a2, .int .i64 (w_.downNodes), .slice K7 (w_.failedLinks.length) M7, .slice K8 (w_.inFlight.length) M8, .slice K9 (w_.consumers.length) M9, .int .i64 (w_.now), .int .i64 (w_.dropped)]⟩)], [], [(16, MF.os a3 a2 a0), (17, MF.os K7 M7 w_.failedLinks), (18, MF.os K8 M8 w_.inFlight), (19, MF.os K9 M9 w_.consumers), (33, MF.os p2 c2 (a1f (a21 w_) w_.producers 1))])) ⟨zl, (acy a1).2.2.2.1, Z, Z⟩ [17, 2, 0] [] [10, 11, 12, 13, 14, 15] [10, 11, 12, 13, 14, 15, 16, 17, 18, 19, 33] ?_
 rintro ⟨i, a3, a2, a0⟩ ⟨v1, v2, v3, v4⟩
 have am := v2.1
 refine yKD 19 ?_ ?_ <;> intro h1 aj
 have ac : i < w_.nodes.length := τ0
 obtain ⟨e1, a7⟩ := gE ac
 have an := okE (acy a1).2.2.2.1 a7
 refine zW 34 10 ?_
 refine zW 35 11 ?_
 refine zW 36 12 ?_
 refine zW 37 13 ?_
 refine zW 38 14 ?_
 refine zW 39 15 ?_
 refine zW 40 16 ?_
 refine zW 41 17 ?_
 refine zW 42 18 ?_
 refine zW 43 19 ?_
 refine KV Z Z Z Z Z Z O Z (fun w γ => f13 n τ0 (Network.mk w_.topology w_.trust w_.producers a0 w_.downNodes w_.failedLinks w_.inFlight w_.consumers w_.now w_.dropped) (γ.q 34 Z) (γ.q 35 Z) (γ.q 36 Z) (γ.q 37 Z) (γ.q 38 Z) (γ.q 39 Z) (γ.q 40 Z) (γ.q 41 Z) (γ.q 42 Z) (γ.q 43 Z) (An (acy a1).1 (An (acy a1).2.1 (An (acy a1).2.2.1 (An (afi v2) (An (acy a1).2.2.2.2.1 (An (acy a1).2.2.2.2.2.1 (An (acy a1).2.2.2.2.2.2.1 (An (acy a1).2.2.2.2.2.2.2.1 (An (acy a1).2.2.2.2.2.2.2.2.1 (acy a1).2.2.2.2.2.2.2.2.2))))))))) (i6 ((i : Nat) : Int))) fun ak => ?_
 refine yKA 25 ?_ ?_ <;> intro h2
 refine zW 44 33 ?_
 refine R0 ?_
 refine WX.draw [12, 13, 14] mixed fun bs G0 ad => ?_
 refine dT 4 [1, 3, 5, 6, 9, 11, 13, 15, 16, 19, 21] ?_
 refine DXF 11 45 Z J Z Z Z Z Z Z O Z (fun w γ => f60 n τ0 w_.topology (γ.q 34 Z) (γ.q 44 Z) ((acy a1).1) a9 (i6 ((i : Nat) : Int))) ?_
 rintro ⟨p3, c3⟩ aa
 refine DX.tail2 [12, 13, 14] Z Z J ?_
 refine zN (kk := 8) 501 16 47 fun ai ao => ?_
 have a8 : i < a0.length := τ3
 refine zR 501 i a8 ?_
 rintro a5 rfl
 have ab : i < a0.length := τ3
 obtain ⟨e2, a6⟩ := gE ab
 have a4 : ok n e2 := v2.2 _ (List.mem_of_getElem? a6)
 refine R0 ?_
 refine zO (α := NodeP) (e := e2) 501 47 48 i a6 ?_
 rintro A1 B1 ⟨⟨p4, c4⟩, ⟨⟨⟩, ⟨p5, c5⟩⟩, ⟨p6, c6⟩, ⟨p7, c7⟩, ⟨p8, c8⟩, ⟨p9, c9⟩, ⟨⟩⟩ ag al
 refine zS 501 ag a8 ?_
 refine SA ?_
 refine R0 ?_
 refine WX.turn [54, 55, 56, 57, 46, 59, 60, 61] 62 Z (fun h hs => aej (α := NodeP) (e := (NodeP.mk e2.locl e2.cache e2.pending e2.seen (a2g w_.topology (a1f (a21 w_) w_.producers 1) ((i : Nat) : Int)) e2.measurements e2.dropped)) (x := ((p4, c4), ((), (p5, c5)), (p6, c6), (p7, c7), (p3, c3), (p9, c9), ())) ab hs) Z ?_
 refine zE 501 62 63 (hn := (show a0.length = ((a0.set i (NodeP.mk e2.locl e2.cache e2.pending e2.seen (a2g w_.topology (a1f (a21 w_) w_.producers 1) ((i : Nat) : Int)) e2.measurements e2.dropped))).length from by first | (simp; done) | (simp; omega))) ?_
 refine WX.respL (show ([(999, ⟨39, [.int .i64 (w_.topology.size), .slice K0 (w_.topology.links.length) M0, .slice K1 (w_.trust.keys.length) M1, .slice K2 (w_.trust.rules.length) M2, .slice K3 (w_.trust.anchors.length) M3, .slice K4 (w_.trust.certificates.length) M4, .slice K5 (w_.producers.length) M5, .slice (some a5) (a0.length) a2, .int .i64 (w_.downNodes), .slice K7 (w_.failedLinks.length) M7, .slice K8 (w_.inFlight.length) M8, .slice K9 (w_.consumers.length) M9, .int .i64 (w_.now), .int .i64 (w_.dropped)]⟩)] : Locs) = [(999, ⟨39, [.int .i64 (w_.topology.size), .slice K0 (w_.topology.links.length) M0, .slice K1 (w_.trust.keys.length) M1, .slice K2 (w_.trust.rules.length) M2, .slice K3 (w_.trust.anchors.length) M3, .slice K4 (w_.trust.certificates.length) M4, .slice K5 (w_.producers.length) M5, .slice (some a5) (((a0.set i (NodeP.mk e2.locl e2.cache e2.pending e2.seen (a2g w_.topology (a1f (a21 w_) w_.producers 1) ((i : Nat) : Int)) e2.measurements e2.dropped))).length) a2, .int .i64 (w_.downNodes), .slice K7 (w_.failedLinks.length) M7, .slice K8 (w_.inFlight.length) M8, .slice K9 (w_.consumers.length) M9, .int .i64 (w_.now), .int .i64 (w_.dropped)]⟩)] from by simp only [List.length_set]) ?_
 refine SL 29 ((a0.set i (NodeP.mk e2.locl e2.cache e2.pending e2.seen (a2g w_.topology (a1f (a21 w_) w_.producers 1) ((i : Nat) : Int)) e2.measurements e2.dropped))).length (e := by first | (simp; done) | (simp; omega)) ?_
 refine zU [64] 16 ?_
 have r2 := (okl (acy a1).2.2.1).1
 have r3 := (okl a9).1
 have r4 := (okl aa).1
 have r5 := (okl (ad7 a4).1).1
 have r6 := (okl (ad7 a4).2.2.1).1
 have r7 := (okl (ad7 a4).2.2.2.1).1
 have r8 := (okl (ad7 a4).2.2.2.2.2.1).1
 have r9 := i8 ((ad7 a4).2.2.2.2.2.2)
 exact IT (i + 1, (some a5), a2, (a0.set i (NodeP.mk e2.locl e2.cache e2.pending e2.seen (a2g w_.topology (a1f (a21 w_) w_.producers 1) ((i : Nat) : Int)) e2.measurements e2.dropped))) ⟨τ0, (ada τ2 (aeh v2.2 (show ok n ((NodeP.mk e2.locl e2.cache e2.pending e2.seen (a2g w_.topology (a1f (a21 w_) w_.producers 1) ((i : Nat) : Int)) e2.measurements e2.dropped) : NodeP) from (An (ad7 a4).1 (An (ad7 a4).2.1 (An (ad7 a4).2.2.1 (An (ad7 a4).2.2.2.1 (An aa (An (ad7 a4).2.2.2.2.2.1 (ad7 a4).2.2.2.2.2.2)))))))) : ok n ((a0.set i (NodeP.mk e2.locl e2.cache e2.pending e2.seen (a2g w_.topology (a1f (a21 w_) w_.producers 1) ((i : Nat) : Int)) e2.measurements e2.dropped)) : List NodeP)), τ6, (by rw [v4, acx a7]; simp only [a2h, h2, a6, cT, cF])⟩ τ1 [10, 11, 12, 13, 14, 15, 16, 17, 18, 19, 33]
 refine SA ?_
 exact ITr Z (i + 1, a3, a2, a0) ⟨τ0, (afi v2), τ6, (by rw [v4, acx a7]; simp only [a2h, h2, cT, cF])⟩ τ1 [10, 11, 12, 13, 14, 15, 16, 17, 18, 19, 33]
 have ah := v4.trans (show _ = (a0 : List NodeP) by rw [dn (show w_.nodes.length ≤ i by omega)]; simp only [a2h, cT, cF])
 have ae : a5a w_ = (Network.mk w_.topology w_.trust w_.producers a0 w_.downNodes w_.failedLinks w_.inFlight w_.consumers w_.now w_.dropped) := by simp only [a5a, ah, cT, cF]
 refine R0 ?_
 refine WX.fin ttOk Z fun w1 G bs hI hΓ => ?_
 rw [ae]
 exact Post.ofL 999 [10, 11, 12, 13, 14, 15, 16, 17, 18, 19] (((), (K0, M0)), ((K1, M1), (K2, M2), (K3, M3), (K4, M4)), (K5, M5), (a3, a2), (), (K7, M7), (K8, M8), (K9, M9), (), ()) hI hΓ Z Z Z (by rw [hI.pin _ rfl]; first | done | rfl) (An (acy a1).1 (An (acy a1).2.1 (An (acy a1).2.2.1 (An (afi v2) (An (acy a1).2.2.2.2.1 (An (acy a1).2.2.2.2.2.1 (An (acy a1).2.2.2.2.2.2.1 (An (acy a1).2.2.2.2.2.2.2.1 (An (acy a1).2.2.2.2.2.2.2.2.1 (acy a1).2.2.2.2.2.2.2.2.2)))))))))
theorem f52 (hn : n + 1 ≤ 9) {H : GH} (hH : Le H (hp w)) (bw_ : Nat) (w_ : Network) (K0 : Option Addr) (M0 : Nat) (K1 : Option Addr) (M1 : Nat) (K2 : Option Addr) (M2 : Nat) (K3 : Option Addr) (M3 : Nat) (K4 : Option Addr) (M4 : Nat) (K5 : Option Addr) (M5 : Nat) (K6 : Option Addr) (M6 : Nat) (K7 : Option Addr) (M7 : Nat) (K8 : Option Addr) (M8 : Nat) (K9 : Option Addr) (M9 : Nat) (hown : Sep H (MF.bx bw_ 39 (GoT.sh w_ (((), (K0, M0)), ((K1, M1), (K2, M2), (K3, M3), (K4, M4)), (K5, M5), (K6, M6), (), (K7, M7), (K8, M8), (K9, M9), (), ())) :: GoT.oa w_ (((), (K0, M0)), ((K1, M1), (K2, M2), (K3, M3), (K4, M4)), (K5, M5), (K6, M6), (), (K7, M7), (K8, M8), (K9, M9), (), ()))) (a1 : ok n w_) :
 Does Tryz.prog 52 #[.pointer (some ⟨bw_, 0, none⟩)] w H (Post w H (fun x : GoT.X (Network) => .tuple #[]) (fun x => MF.bx bw_ 39 (GoT.sh ((a46 w_) : Network) (x)) :: GoT.oa ((a46 w_) : Network) x) (ok n ((a46 w_) : Network))) := by
 have hb := bS1 hn
 refine WX.enterP (tt := tt) (Γ := []) (cs := [.int .i64 (w_.topology.size), .slice K0 (w_.topology.links.length) M0, .slice K1 (w_.trust.keys.length) M1, .slice K2 (w_.trust.rules.length) M2, .slice K3 (w_.trust.anchors.length) M3, .slice K4 (w_.trust.certificates.length) M4, .slice K5 (w_.producers.length) M5, .slice K6 (w_.nodes.length) M6, .int .i64 (w_.downNodes), .slice K7 (w_.failedLinks.length) M7, .slice K8 (w_.inFlight.length) M8, .slice K9 (w_.consumers.length) M9, .int .i64 (w_.now), .int .i64 (w_.dropped)]) (fs := [MF.os K0 M0 w_.topology.links, MF.os K1 M1 w_.trust.keys, MF.os K2 M2 w_.trust.rules, MF.os K3 M3 w_.trust.anchors, MF.os K4 M4 w_.trust.certificates, MF.os K5 M5 w_.producers, MF.os K6 M6 w_.nodes, MF.os K7 M7 w_.failedLinks, MF.os K8 M8 w_.inFlight, MF.os K9 M9 w_.consumers]) 10 Tryz.func52 Z J Z adb hH hown (fun f hf => GoT.oak (a := w_) (x := (((), (K0, M0)), ((K1, M1), (K2, M2), (K3, M3), (K4, M4)), (K5, M5), (K6, M6), (), (K7, M7), (K8, M8), (K9, M9), (), ())) f hf) Z ?_
 refine zW 20 10 ?_
 refine zW 21 11 ?_
 refine zW 22 12 ?_
 refine zW 23 13 ?_
 refine zW 24 14 ?_
 refine zW 25 15 ?_
 refine zW 26 16 ?_
 refine zW 27 17 ?_
 refine zW 28 18 ?_
 refine zW 29 19 ?_
 refine R0 ?_
 refine WX.draw [] mixed fun bs G0 aj => ?_
 refine dT 3 [1, 3, 4, 9, 11, 13, 14] ?_
 refine DXF 3 30 Z J Z Z Z Z Z Z O Z (fun w γ => f145 n τ0 w_ (γ.q 20 Z) (γ.q 21 Z) (γ.q 22 Z) (γ.q 23 Z) (γ.q 24 Z) (γ.q 25 Z) (γ.q 26 Z) (γ.q 27 Z) (γ.q 28 Z) (γ.q 29 Z) a1) ?_
 rintro ⟨⟨⟩, ⟨p1, c1⟩⟩ ad
 dsimp only
 refine DXF 8 32 Z J Z Z Z Z Z Z O Z (fun w γ => f144 n τ0 (a3b w_) (γ.q 30 Z) (γ.q 25 Z) ad ((acy a1).2.2.1) (i6 1)) ?_
 rintro ⟨p2, c2⟩ a9
 dsimp only
 refine dT 0 [19] ?_
 refine DX.tail2 [] Z Z J ?_
 refine LM Z (0, K6, M6, (w_.nodes : List NodeP)) (fun | (i, a3, a2, a0) => (JL n a0 ∧ (a0.length = w_.nodes.length) ∧ (i ≤ w_.nodes.length) ∧ (a6e w_ 0 (w_.nodes : List NodeP) = a6e w_ i a0), w_.nodes.length + 1 - i, [(3, .v (vI i))], [(999, ⟨39, [.int .i64 (w_.topology.size), .slice K0 (w_.topology.links.length) M0, .slice K1 (w_.trust.keys.length) M1, .slice K2 (w_.trust.rules.length) M2, .slice K3 (w_.trust.anchors.length) M3, .slice K4 (w_.trust.certificates.length) M4, .slice K5 (w_.producers.length) M5, .slice a3 (a0.length) a2, .int .i64 (w_.downNodes), .slice K7 (w_.failedLinks.length) M7, .slice K8 (w_.inFlight.length) M8, .slice K9 (w_.consumers.length) M9, .int .i64 (w_.now), .int .i64 (w_.dropped)]⟩)], [], [(16, MF.os a3 a2 a0), (17, MF.os K7 M7 w_.failedLinks), (18, MF.os K8 M8 w_.inFlight), (19, MF.os K9 M9 w_.consumers), (33, MF.os p2 c2 (a24 (a3b w_) w_.producers 1))])) ⟨(acy a1).2.2.2.1, Z, zl, Z⟩ [2, 0] [] [10, 11, 12, 13, 14, 15] [10, 11, 12, 13, 14, 15, 16, 17, 18, 19, 33] ?_
 rintro ⟨i, a3, a2, a0⟩ ⟨v1, v2, v3, v4⟩
 have ak := v1.1
 refine yKD 20 ?_ ?_ <;> intro h1 a5
 refine zW 34 10 ?_
 refine zW 35 11 ?_
 refine zW 36 12 ?_
 refine zW 37 13 ?_
 refine zW 38 14 ?_
 refine zW 39 15 ?_
 refine zW 40 16 ?_
 refine zW 41 17 ?_
 refine zW 42 18 ?_
 refine zW 43 19 ?_
 refine KV Z Z Z Z Z Z O Z (fun w γ => f146 n τ0 (Network.mk w_.topology w_.trust w_.producers a0 w_.downNodes w_.failedLinks w_.inFlight w_.consumers w_.now w_.dropped) (γ.q 34 Z) (γ.q 35 Z) (γ.q 36 Z) (γ.q 37 Z) (γ.q 38 Z) (γ.q 39 Z) (γ.q 40 Z) (γ.q 41 Z) (γ.q 42 Z) (γ.q 43 Z) (An (acy a1).1 (An (acy a1).2.1 (An (acy a1).2.2.1 (An (afi v1) (An (acy a1).2.2.2.2.1 (An (acy a1).2.2.2.2.2.1 (An (acy a1).2.2.2.2.2.2.1 (An (acy a1).2.2.2.2.2.2.2.1 (An (acy a1).2.2.2.2.2.2.2.2.1 (acy a1).2.2.2.2.2.2.2.2.2))))))))) (i6 ((i : Nat) : Int))) fun ah => ?_
 refine yKA 27 ?_ ?_ <;> intro h2
 refine zW 44 33 ?_
 refine KF Z 45 Z Z Z Z Z O Z (fun w γ => f147 n τ0 w_.topology (γ.q 34 Z) (γ.q 44 Z) ((acy a1).1) a9 (i6 ((i : Nat) : Int))) ?_
 rintro ⟨p3, c3⟩ aa
 refine R0 ?_
 refine zN (kk := 8) 501 16 47 fun ag al => ?_
 have a8 : i < a0.length := τ3
 refine zR 501 i a8 ?_
 rintro a6 rfl
 have ab : i < a0.length := τ3
 obtain ⟨e1, a7⟩ := gE ab
 have a4 : ok n e1 := v1.2 _ (List.mem_of_getElem? a7)
 refine R0 ?_
 refine zO (α := NodeP) (e := e1) 501 47 48 i a7 ?_
 rintro A1 B1 ⟨⟨p4, c4⟩, ⟨⟨⟩, ⟨p5, c5⟩⟩, ⟨p6, c6⟩, ⟨p7, c7⟩, ⟨p8, c8⟩, ⟨p9, c9⟩, ⟨⟩⟩ ae ai
 refine zS 501 ae a8 ?_
 refine SA ?_
 refine R0 ?_
 refine WX.turn [54, 55, 56, 57, 46, 59, 60, 61] 62 Z (fun h hs => aej (α := NodeP) (e := (NodeP.mk e1.locl e1.cache e1.pending e1.seen (a3v w_.topology (a24 (a3b w_) w_.producers 1) ((i : Nat) : Int)) e1.measurements e1.dropped)) (x := ((p4, c4), ((), (p5, c5)), (p6, c6), (p7, c7), (p3, c3), (p9, c9), ())) ab hs) Z ?_
 refine zE 501 62 63 (hn := (show a0.length = ((a0.set i (NodeP.mk e1.locl e1.cache e1.pending e1.seen (a3v w_.topology (a24 (a3b w_) w_.producers 1) ((i : Nat) : Int)) e1.measurements e1.dropped))).length from by first | (simp; done) | (simp; omega))) ?_
 refine WX.respL (show ([(999, ⟨39, [.int .i64 (w_.topology.size), .slice K0 (w_.topology.links.length) M0, .slice K1 (w_.trust.keys.length) M1, .slice K2 (w_.trust.rules.length) M2, .slice K3 (w_.trust.anchors.length) M3, .slice K4 (w_.trust.certificates.length) M4, .slice K5 (w_.producers.length) M5, .slice (some a6) (a0.length) a2, .int .i64 (w_.downNodes), .slice K7 (w_.failedLinks.length) M7, .slice K8 (w_.inFlight.length) M8, .slice K9 (w_.consumers.length) M9, .int .i64 (w_.now), .int .i64 (w_.dropped)]⟩)] : Locs) = [(999, ⟨39, [.int .i64 (w_.topology.size), .slice K0 (w_.topology.links.length) M0, .slice K1 (w_.trust.keys.length) M1, .slice K2 (w_.trust.rules.length) M2, .slice K3 (w_.trust.anchors.length) M3, .slice K4 (w_.trust.certificates.length) M4, .slice K5 (w_.producers.length) M5, .slice (some a6) (((a0.set i (NodeP.mk e1.locl e1.cache e1.pending e1.seen (a3v w_.topology (a24 (a3b w_) w_.producers 1) ((i : Nat) : Int)) e1.measurements e1.dropped))).length) a2, .int .i64 (w_.downNodes), .slice K7 (w_.failedLinks.length) M7, .slice K8 (w_.inFlight.length) M8, .slice K9 (w_.consumers.length) M9, .int .i64 (w_.now), .int .i64 (w_.dropped)]⟩)] from by simp only [List.length_set]) ?_
 refine SL 38 ((a0.set i (NodeP.mk e1.locl e1.cache e1.pending e1.seen (a3v w_.topology (a24 (a3b w_) w_.producers 1) ((i : Nat) : Int)) e1.measurements e1.dropped))).length (e := by first | (simp; done) | (simp; omega)) ?_
 refine SL 18 ((a0.set i (NodeP.mk e1.locl e1.cache e1.pending e1.seen (a3v w_.topology (a24 (a3b w_) w_.producers 1) ((i : Nat) : Int)) e1.measurements e1.dropped))).length (e := by first | (simp; done) | (simp; omega)) ?_
 refine zU [64] 16 ?_
 have r1 := (okl (acy a1).2.2.1).1
 have r2 := (okl a9).1
 have r3 := (okl aa).1
 have r4 := (okl (ad7 a4).1).1
 have r5 := (okl (ad7 a4).2.2.1).1
 have r6 := (okl (ad7 a4).2.2.2.1).1
 have r7 := (okl (ad7 a4).2.2.2.2.2.1).1
 have r8 := i8 ((ad7 a4).2.2.2.2.2.2)
 exact IT (i + 1, (some a6), a2, (a0.set i (NodeP.mk e1.locl e1.cache e1.pending e1.seen (a3v w_.topology (a24 (a3b w_) w_.producers 1) ((i : Nat) : Int)) e1.measurements e1.dropped))) ⟨(ada τ2 (aeh v1.2 (show ok n ((NodeP.mk e1.locl e1.cache e1.pending e1.seen (a3v w_.topology (a24 (a3b w_) w_.producers 1) ((i : Nat) : Int)) e1.measurements e1.dropped) : NodeP) from (An (ad7 a4).1 (An (ad7 a4).2.1 (An (ad7 a4).2.2.1 (An (ad7 a4).2.2.2.1 (An aa (An (ad7 a4).2.2.2.2.2.1 (ad7 a4).2.2.2.2.2.2)))))))) : ok n ((a0.set i (NodeP.mk e1.locl e1.cache e1.pending e1.seen (a3v w_.topology (a24 (a3b w_) w_.producers 1) ((i : Nat) : Int)) e1.measurements e1.dropped)) : List NodeP)), τ6, τ0, (by rw [v4]; rw [a6e]; simp only [(show i ≤ w_.nodes.length by omega), h1, a5, h2, a7, cT, cF, ↓reduceIte, Bool.false_eq_true])⟩ τ1 [10, 11, 12, 13, 14, 15, 16, 17, 18, 19, 33]
 refine SA ?_
 exact ITr Z (i + 1, a3, a2, a0) ⟨(afi v1), τ6, τ0, (by rw [v4]; rw [a6e]; simp only [(show i ≤ w_.nodes.length by omega), h1, a5, h2, cT, cF, ↓reduceIte, Bool.false_eq_true])⟩ τ1 [10, 11, 12, 13, 14, 15, 16, 17, 18, 19, 33]
 have af := v4.trans (show _ = (i, (a0 : List NodeP)) by rw [a6e]; simp only [(show i ≤ w_.nodes.length by omega), h1, a5, cT, cF, ↓reduceIte, Bool.false_eq_true])
 have ac : a46 w_ = (Network.mk w_.topology w_.trust w_.producers a0 w_.downNodes w_.failedLinks w_.inFlight w_.consumers w_.now w_.dropped) := by simp only [a46, af, cT, cF]
 refine R0 ?_
 refine WX.fin ttOk Z fun w1 G bs hI hΓ => ?_
 rw [ac]
 exact Post.ofL 999 [10, 11, 12, 13, 14, 15, 16, 17, 18, 19] (((), (K0, M0)), ((K1, M1), (K2, M2), (K3, M3), (K4, M4)), (K5, M5), (a3, a2), (), (K7, M7), (K8, M8), (K9, M9), (), ()) hI hΓ Z Z Z (by rw [hI.pin _ rfl]; first | done | rfl) (An (acy a1).1 (An (acy a1).2.1 (An (acy a1).2.2.1 (An (afi v1) (An (acy a1).2.2.2.2.1 (An (acy a1).2.2.2.2.2.1 (An (acy a1).2.2.2.2.2.2.1 (An (acy a1).2.2.2.2.2.2.2.1 (An (acy a1).2.2.2.2.2.2.2.2.1 (acy a1).2.2.2.2.2.2.2.2.2)))))))))
theorem f7 (hn : n + 1 ≤ 9) (w_ : Network) (N0 : Rd w K0 M0 w_.topology.links) (N1 : Rd w K1 M1 w_.trust.keys) (N2 : Rd w K2 M2 w_.trust.rules) (N3 : Rd w K3 M3 w_.trust.anchors) (N4 : Rd w K4 M4 w_.trust.certificates) (N5 : Rd w K5 M5 w_.producers) (N6 : Rd w K6 M6 w_.nodes) (N7 : Rd w K7 M7 w_.failedLinks) (N8 : Rd w K8 M8 w_.inFlight) (N9 : Rd w K9 M9 w_.consumers) (a0 : ok n w_) :
 DP 7 #[afs w_ K0 M0 K1 M1 K2 M2 K3 M3 K4 M4 K5 M5 K6 M6 K7 M7 K8 M8 K9 M9] w (pA w n (a09 w_)) := by
 have hb := bS1 hn
 refine EN Tryz.func7 Z (aC 0 N0 (aC 1 N1 (aC 2 N2 (aC 3 N3 (aC 4 N4 (aC 5 N5 (aC 6 N6 (aC 7 N7 (aC 8 N8 (aC 9 N9 adb)))))))))) ?_
 refine KF Z 10 Z Z Z Z Z O Z (fun w γ => f38 n τ0 w_ (γ.q 0 Z) (γ.q 1 Z) (γ.q 2 Z) (γ.q 3 Z) (γ.q 4 Z) (γ.q 5 Z) (γ.q 6 Z) (γ.q 7 Z) (γ.q 8 Z) (γ.q 9 Z) a0) ?_
 rintro ⟨⟨⟨⟩, ⟨p1, c1⟩⟩, ⟨⟨p2, c2⟩, ⟨p3, c3⟩, ⟨p4, c4⟩, ⟨p5, c5⟩⟩, ⟨p6, c6⟩, ⟨p7, c7⟩, ⟨⟩, ⟨p8, c8⟩, ⟨p9, c9⟩, ⟨ae, a5⟩, ⟨⟩, ⟨⟩⟩ ah
 dsimp only
 refine R0 ?_
 refine CU (a5a (a9i w_)) 3 [20, 21, 22, 23, 24, 25, 26, 27, 28, 29] 30 Z Z Z Z Z Z Z O Z (fun w β H η σ γ => f39 n τ0 η (β 3) (a9i w_) p1 c1 p2 c2 p3 c3 p4 c4 p5 c5 p6 c6 p7 c7 p8 c8 p9 c9 ae a5 σ ah) O ?_
 rintro ⟨⟨⟨⟩, ⟨a4, ai⟩⟩, ⟨⟨am, a7⟩, ⟨a1, a8⟩, ⟨a9, aj⟩, ⟨a6, an⟩⟩, ⟨ao, ak⟩, ⟨a2, ac⟩, ⟨⟩, ⟨ab, aa⟩, ⟨ad, ag⟩, ⟨al, af⟩, ⟨⟩, ⟨⟩⟩ a3
 dsimp only
 rw [show a09 w_ = (a5a (a9i w_)) by simp only [a09, cT, cF]]
 exact yX [40, 41, 42, 43, 44, 45, 46, 47, 48, 49] (((), (a4, ai)), ((am, a7), (a1, a8), (a9, aj), (a6, an)), (ao, ak), (a2, ac), (), (ab, aa), (ad, ag), (al, af), (), ()) a3
theorem f10 (hn : n + 1 ≤ 9) (w_ : Network) (N0 : Rd w K0 M0 w_.topology.links) (N1 : Rd w K1 M1 w_.trust.keys) (N2 : Rd w K2 M2 w_.trust.rules) (N3 : Rd w K3 M3 w_.trust.anchors) (N4 : Rd w K4 M4 w_.trust.certificates) (N5 : Rd w K5 M5 w_.producers) (N6 : Rd w K6 M6 w_.nodes) (N7 : Rd w K7 M7 w_.failedLinks) (N8 : Rd w K8 M8 w_.inFlight) (N9 : Rd w K9 M9 w_.consumers) (a0 : ok n w_) :
 DP 10 #[afs w_ K0 M0 K1 M1 K2 M2 K3 M3 K4 M4 K5 M5 K6 M6 K7 M7 K8 M8 K9 M9] w (pA w n (a3w w_)) := by
 have hb := bS1 hn
 refine EN Tryz.func10 Z (aC 0 N0 (aC 1 N1 (aC 2 N2 (aC 3 N3 (aC 4 N4 (aC 5 N5 (aC 6 N6 (aC 7 N7 (aC 8 N8 (aC 9 N9 adb)))))))))) ?_
 refine KF Z 10 Z Z Z Z Z O Z (fun w γ => f51 n τ0 w_ (γ.q 0 Z) (γ.q 1 Z) (γ.q 2 Z) (γ.q 3 Z) (γ.q 4 Z) (γ.q 5 Z) (γ.q 6 Z) (γ.q 7 Z) (γ.q 8 Z) (γ.q 9 Z) a0) ?_
 rintro ⟨⟨⟨⟩, ⟨p1, c1⟩⟩, ⟨⟨p2, c2⟩, ⟨p3, c3⟩, ⟨p4, c4⟩, ⟨p5, c5⟩⟩, ⟨p6, c6⟩, ⟨p7, c7⟩, ⟨⟩, ⟨p8, c8⟩, ⟨p9, c9⟩, ⟨ae, a5⟩, ⟨⟩, ⟨⟩⟩ ah
 dsimp only
 have q1 := l32n w_
 try dsimp only at q1
 try simp only [List.length_nil] at q1
 refine R0 ?_
 refine CU (a46 (a0c w_)) 3 [20, 21, 22, 23, 24, 25, 26, 27, 28, 29] 30 Z Z Z Z Z Z Z O Z (fun w β H η σ γ => f52 n τ0 η (β 3) (a0c w_) p1 c1 p2 c2 p3 c3 p4 c4 p5 c5 p6 c6 p7 c7 p8 c8 p9 c9 ae a5 σ ah) O ?_
 rintro ⟨⟨⟨⟩, ⟨a4, ai⟩⟩, ⟨⟨am, a7⟩, ⟨a1, a8⟩, ⟨a9, aj⟩, ⟨a6, an⟩⟩, ⟨ao, ak⟩, ⟨a2, ac⟩, ⟨⟩, ⟨ab, aa⟩, ⟨ad, ag⟩, ⟨al, af⟩, ⟨⟩, ⟨⟩⟩ a3
 dsimp only
 rw [show a3w w_ = (a46 (a0c w_)) by simp only [a3w, cT, cF]]
 exact yX [40, 41, 42, 43, 44, 45, 46, 47, 48, 49] (((), (a4, ai)), ((am, a7), (a1, a8), (a9, aj), (a6, an)), (ao, ak), (a2, ac), (), (ab, aa), (ad, ag), (al, af), (), ()) a3
theorem f26 (hn : n + 1 ≤ 9) (g : Topology) (N0 : Rd w K0 M0 g.links) (t : TrustPolicy) (N1 : Rd w K1 M1 t.keys) (N2 : Rd w K2 M2 t.rules) (N3 : Rd w K3 M3 t.anchors) (N4 : Rd w K4 M4 t.certificates) {h_ : List TableEntry} (N5 : Rd w K5 M5 h_) {capacity : Int} (a1 : ok n g) (a4 : ok n t) (a2 : ok n h_) (a0 : ok n capacity) :
 DP 26 #[aeu g K0 M0, af7 t K1 M1 K2 M2 K3 M3 K4 M4, vS K5 h_ M5, vI capacity] w (pA w n (a0a g t h_ capacity)) := by
 have hb := bS1 hn
 refine EN Tryz.func26 Z (aS6 N0 N1 N2 N3 N4 N5) ?_
 refine KV Z Z Z Z Z Z O Z (fun w γ => f53 n τ0 g (γ.q 0 Z) a1) fun bi => ?_
 refine yKN 13 ?_ ?_ <;> intro h1 be
 refine F1 6 Link ?_
 refine F1 7 Key ?_
 refine F1 8 Rule ?_
 refine F1 9 Name ?_
 refine F1 10 DataP ?_
 refine F1 11 TableEntry ?_
 refine F1 12 NodeP ?_
 refine F1 13 Int ?_
 refine F1 14 PacketInFlight ?_
 refine F1 15 Consumer ?_
 rw [show a0a g t h_ capacity = (Network.mk (Topology.mk 0 ([])) (TrustPolicy.mk ([]) ([]) ([]) ([])) ([]) ([]) 0 ([]) ([]) ([]) 0 0) by simp only [a0a, h1, cT, cF]]
 exact yX [6, 7, 8, 9, 10, 11, 12, 13, 14, 15] (((), (none, 0)), ((none, 0), (none, 0), (none, 0), (none, 0)), (none, 0), (none, 0), (), (none, 0), (none, 0), (none, 0), (), ()) (An (An (i6 0) (adg (α := Link))) (An (An (adg (α := Key)) (An (adg (α := Rule)) (An (adg (α := Name)) (adg (α := DataP))))) (An (adg (α := TableEntry)) (An (adg (α := NodeP)) (An (i6 0) (An (adg (α := Int)) (An (adg (α := PacketInFlight)) (An (adg (α := Consumer)) (An (i6 0) (i6 0))))))))))
 refine KV Z Z Z Z Z Z O Z (fun w γ => f82 n τ0 t (γ.q 1 Z) (γ.q 2 Z) (γ.q 3 Z) (γ.q 4 Z) a4) fun ba => ?_
 refine yKN 18 ?_ ?_ <;> intro h2 bc
 refine F1 16 Link ?_
 refine F1 17 Key ?_
 refine F1 18 Rule ?_
 refine F1 19 Name ?_
 refine F1 20 DataP ?_
 refine F1 21 TableEntry ?_
 refine F1 22 NodeP ?_
 refine F1 23 Int ?_
 refine F1 24 PacketInFlight ?_
 refine F1 25 Consumer ?_
 rw [show a0a g t h_ capacity = (Network.mk (Topology.mk 0 ([])) (TrustPolicy.mk ([]) ([]) ([]) ([])) ([]) ([]) 0 ([]) ([]) ([]) 0 0) by simp only [a0a, h1, h2, cT, cF]]
 exact yX [16, 17, 18, 19, 20, 21, 22, 23, 24, 25] (((), (none, 0)), ((none, 0), (none, 0), (none, 0), (none, 0)), (none, 0), (none, 0), (), (none, 0), (none, 0), (none, 0), (), ()) (An (An (i6 0) (adg (α := Link))) (An (An (adg (α := Key)) (An (adg (α := Rule)) (An (adg (α := Name)) (adg (α := DataP))))) (An (adg (α := TableEntry)) (An (adg (α := NodeP)) (An (i6 0) (An (adg (α := Int)) (An (adg (α := PacketInFlight)) (An (adg (α := Consumer)) (An (i6 0) (i6 0))))))))))
 refine KV Z Z Z Z Z Z O Z (fun w γ => f83 n τ0 (γ.q 5 Z) a2 ((ad0 a1).1)) fun bh => ?_
 refine yKN 24 ?_ ?_ <;> intro h3 bf
 refine F1 26 Link ?_
 refine F1 27 Key ?_
 refine F1 28 Rule ?_
 refine F1 29 Name ?_
 refine F1 30 DataP ?_
 refine F1 31 TableEntry ?_
 refine F1 32 NodeP ?_
 refine F1 33 Int ?_
 refine F1 34 PacketInFlight ?_
 refine F1 35 Consumer ?_
 rw [show a0a g t h_ capacity = (Network.mk (Topology.mk 0 ([])) (TrustPolicy.mk ([]) ([]) ([]) ([])) ([]) ([]) 0 ([]) ([]) ([]) 0 0) by simp only [a0a, h1, h2, h3, cT, cF]]
 exact yX [26, 27, 28, 29, 30, 31, 32, 33, 34, 35] (((), (none, 0)), ((none, 0), (none, 0), (none, 0), (none, 0)), (none, 0), (none, 0), (), (none, 0), (none, 0), (none, 0), (), ()) (An (An (i6 0) (adg (α := Link))) (An (An (adg (α := Key)) (An (adg (α := Rule)) (An (adg (α := Name)) (adg (α := DataP))))) (An (adg (α := TableEntry)) (An (adg (α := NodeP)) (An (i6 0) (An (adg (α := Int)) (An (adg (α := PacketInFlight)) (An (adg (α := Consumer)) (An (i6 0) (i6 0))))))))))
 refine R0 ?_
 refine WX.draw [8] mixed fun bs G0 aq => ?_
 refine dT 6 [0, 4, 9] ?_
 refine DX.pend 7 9 ⟨39, [.int .i64 (0), .slice none (0) 0, .slice none (0) 0, .slice none (0) 0, .slice none (0) 0, .slice none (0) 0, .slice none (0) 0, .slice none (0) 0, .int .i64 (0), .slice none (0) 0, .slice none (0) 0, .slice none (0) 0, .int .i64 (0), .int .i64 (0)]⟩ ?_
 refine DXA.callF 1 36 (fun _ _ h => GoT.ow_rd h) (fun _ f hf => GoT.fak f hf) ttOk Z Z Z Z Z Z Z J J J Z Z Z Z Z Z Z Z Z Z O Z Z (fun w G bs hI hΓ => f84 n τ0 g (hΓ.get 0 Z) a1) O O ?_
 rintro ⟨⟨⟩, ⟨p1, c1⟩⟩ ay
 refine DXA.callF 3 38 (fun _ _ h => GoT.ow_rd h) (fun _ f hf => GoT.fak f hf) ttOk Z Z Z Z Z Z Z J J J Z Z Z Z Z Z Z Z Z Z O Z Z (fun w G bs hI hΓ => f85 n τ0 t (hΓ.get 1 Z) (hΓ.get 2 Z) (hΓ.get 3 Z) (hΓ.get 4 Z) a4) O O ?_
 rintro ⟨⟨p2, c2⟩, ⟨p3, c3⟩, ⟨p4, c4⟩, ⟨p5, c5⟩⟩ a7
 dsimp only
 refine DXA.callF 5 46 (fun _ _ h => GoT.ow_rd h) (fun _ f hf => GoT.fak f hf) ttOk Z Z Z Z Z Z Z J J J Z Z Z Z Z Z Z Z Z Z O Z Z (fun w G bs hI hΓ => f86 n τ0 (hΓ.get 5 Z) a2) O O ?_
 rintro ⟨p6, c6⟩ an
 dsimp only
 have q1 := aln h_
 refine DXA.take 6 J J Z Z Z Z Z Z Z Z (akj ttOk Z) ?_
 refine DXA.tail [8] ttOk Z Z Z Z Z Z J Z Z J ?_
 refine R0 ?_
 refine WX.row0 501 8 none Z ?_
 refine F0 48 NodeP ?_
 have r1 := i8 ((ad0 a1).1)
 have bg := atm (show a3l g = true by assumption)
 refine LK (0, none, 0, [], ([] : List NodeP)) (fun | (i, a5, a6, a3, w_) => ((i ≤ g.size.toNat) ∧ JE n w_ ∧ (w_.length ≤ i) ∧ (acb capacity (g.size.toNat) ([] : List NodeP) = acb capacity (g.size.toNat - i) w_), g.size.toNat - i, [(35, .v (vI i))], [(9, ⟨39, [.int .i64 ((a2r g).size), .slice p1 (((a2r g).links).length) c1, .slice p2 (((a19 t).keys).length) c2, .slice p3 (((a19 t).rules).length) c3, .slice p4 (((a19 t).anchors).length) c4, .slice p5 (((a19 t).certificates).length) c5, .slice p6 (((a2q h_)).length) c6, .slice a5 (w_.length) a6, .int .i64 (0), .slice none (0) 0, .slice none (0) 0, .slice none (0) 0, .int .i64 (0), .int .i64 (0)]⟩)], [(501, ⟨8, a5, w_.length, a6, a3⟩)], [(48, MF.ol a3 (w_ : List NodeP))])) ⟨zl, nA, τ7, Z⟩ [34, 9, 8, 3] [8] [0, 1, 2, 3, 4, 5, 37, 42, 43, 44, 45, 47] [0, 1, 2, 3, 4, 5, 37, 42, 43, 44, 45, 47, 48] ?_
 rintro ⟨i, a5, a6, a3, w_⟩ ⟨v1, v2, v3, v4⟩
 refine yKD 36 ?_ ?_ <;> intro h4 bb
 refine zW 49 37 ?_
 refine zW 50 42 ?_
 refine zW 51 43 ?_
 refine zW 52 44 ?_
 refine zW 53 45 ?_
 refine zW 54 47 ?_
 refine R0 ?_
 refine WX.draw [5, 6, 7] mixed fun bs G0 aq => ?_
 refine dT 5 [1, 2, 5] ?_
 refine DXF 3 55 Z J Z Z Z Z Z Z O Z (fun w γ => f87 n τ0 a0) ?_
 rintro ⟨⟨p7, c7⟩, ⟨⟨⟩, ⟨p8, c8⟩⟩, ⟨p9, c9⟩, ⟨b4, ai⟩, ⟨ao, b5⟩, ⟨av, a8⟩, ⟨⟩⟩ ae
 refine DX.tail2 [4, 5, 6, 7] Z Z J ?_
 refine zB fun b9 => ?_
 refine zT (α := NodeP) [61, 62, 63, 64, 65, 66] 67 (abo capacity) ((p7, c7), ((), (p8, c8)), (p9, c9), (b4, ai), (ao, b5), (av, a8), ()) fun _ => ?_
 have r2 := i8 a0
 refine WX.know (fun G hΓ => (hΓ.get 67 Z : OwL _ _ _).rd.one) fun ax => ?_
 refine zP 501 41 ((w_ ++ [(abo capacity)]) : List NodeP).length ax fun aa b0 => ?_
 refine zV [48, 67] 68 ?_
 refine SA ?_
 refine zU [68] 48 ?_
 exact ITr Z (i + 1, aa, b0, _, ((w_ ++ [(abo capacity)]) : List NodeP)) ⟨τ0, (aec v2 (all_cons (α := NodeP) ae nA)), τ2, (by rw [v4, show g.size.toNat - i = (g.size.toNat - (i + 1)) + 1 by omega]; simp only [acb, cT, cF])⟩ τ1 [0, 1, 2, 3, 4, 5, 37, 42, 43, 44, 45, 47, 48]
 have b8 := v4.trans (show _ = (w_ : List NodeP) by rw [show g.size.toNat - i = 0 by omega]; simp only [acb, cT, cF])
 refine yE 501 48 69 ?_
 refine zW 71 37 ?_
 refine zW 72 42 ?_
 refine zW 73 43 ?_
 refine zW 74 44 ?_
 refine zW 75 45 ?_
 refine zW 76 47 ?_
 refine CF 77 Z Z Z Z Z O Z (fun w γ => f7 n τ0 (Network.mk (a2r g) (a19 t) (a2q h_) w_ 0 ([]) ([]) ([]) 0 0) (γ.q 71 Z) (γ.q 72 Z) (γ.q 73 Z) (γ.q 74 Z) (γ.q 75 Z) (γ.q 76 Z) (γ.q 69 Z) (ai9 _ _ _) (ai9 _ _ _) (ai9 _ _ _) (An ay (An a7 (An an (An (ada τ0 v2 : ok n (w_ : List NodeP)) (An (i6 0) (An (adg (α := Int)) (An (adg (α := PacketInFlight)) (An (adg (α := Consumer)) (An (i6 0) (i6 0))))))))))) ?_
 rintro ⟨⟨⟨⟩, ⟨aj, ad⟩⟩, ⟨⟨af, am⟩, ⟨ah, al⟩, ⟨ak, ab⟩, ⟨b3, ap⟩⟩, ⟨b6, au⟩, ⟨ag, ar⟩, ⟨⟩, ⟨b2, aw⟩, ⟨b7, a9⟩, ⟨b1, az⟩, ⟨⟩, ⟨⟩⟩ ac
 dsimp only
 rw [show a0a g t h_ capacity = (a09 (Network.mk (a2r g) (a19 t) (a2q h_) w_ 0 ([]) ([]) ([]) 0 0)) by simp only [a0a, h1, h2, h3, b8, cT, cF]]
 exact yX [87, 88, 89, 90, 91, 92, 93, 94, 95, 96] (((), (aj, ad)), ((af, am), (ah, al), (ak, ab), (b3, ap)), (b6, au), (ag, ar), (), (b2, aw), (b7, a9), (b1, az), (), ()) ac
theorem f22 (hn : n + 1 ≤ 9) (g : Topology) (N0 : Rd w K0 M0 g.links) (t : TrustPolicy) (N1 : Rd w K1 M1 t.keys) (N2 : Rd w K2 M2 t.rules) (N3 : Rd w K3 M3 t.anchors) (N4 : Rd w K4 M4 t.certificates) {h_ : List TableEntry} (N5 : Rd w K5 M5 h_) {caps : Int} (a2 : ok n g) (a4 : ok n t) (a3 : ok n h_) (a0 : ok n caps) :
 DP 22 #[aeu g K0 M0, af7 t K1 M1 K2 M2 K3 M3 K4 M4, vS K5 h_ M5, vI caps] w (pA w n (a47 g t h_ caps)) := by
 have hb := bS1 hn
 refine EN Tryz.func22 Z (aS6 N0 N1 N2 N3 N4 N5) ?_
 refine KV Z Z Z Z Z Z O Z (fun w γ => f72 n τ0 g (γ.q 0 Z) a2) fun bp => ?_
 refine yKN 14 ?_ ?_ <;> intro h1 bj
 refine F1 6 Link ?_
 refine F1 7 Key ?_
 refine F1 8 Rule ?_
 refine F1 9 Name ?_
 refine F1 10 DataP ?_
 refine F1 11 TableEntry ?_
 refine F1 12 NodeP ?_
 refine F1 13 Int ?_
 refine F1 14 PacketInFlight ?_
 refine F1 15 Consumer ?_
 rw [show a47 g t h_ caps = (Network.mk (Topology.mk 0 ([])) (TrustPolicy.mk ([]) ([]) ([]) ([])) ([]) ([]) 0 ([]) ([]) ([]) 0 0) by simp only [a47, h1, cT, cF]]
 exact yX [6, 7, 8, 9, 10, 11, 12, 13, 14, 15] (((), (none, 0)), ((none, 0), (none, 0), (none, 0), (none, 0)), (none, 0), (none, 0), (), (none, 0), (none, 0), (none, 0), (), ()) (An (An (i6 0) (adg (α := Link))) (An (An (adg (α := Key)) (An (adg (α := Rule)) (An (adg (α := Name)) (adg (α := DataP))))) (An (adg (α := TableEntry)) (An (adg (α := NodeP)) (An (i6 0) (An (adg (α := Int)) (An (adg (α := PacketInFlight)) (An (adg (α := Consumer)) (An (i6 0) (i6 0))))))))))
 refine KV Z Z Z Z Z Z O Z (fun w γ => f73 n τ0 t (γ.q 1 Z) (γ.q 2 Z) (γ.q 3 Z) (γ.q 4 Z) a4) fun be => ?_
 refine yKN 19 ?_ ?_ <;> intro h2 bg
 refine F1 16 Link ?_
 refine F1 17 Key ?_
 refine F1 18 Rule ?_
 refine F1 19 Name ?_
 refine F1 20 DataP ?_
 refine F1 21 TableEntry ?_
 refine F1 22 NodeP ?_
 refine F1 23 Int ?_
 refine F1 24 PacketInFlight ?_
 refine F1 25 Consumer ?_
 rw [show a47 g t h_ caps = (Network.mk (Topology.mk 0 ([])) (TrustPolicy.mk ([]) ([]) ([]) ([])) ([]) ([]) 0 ([]) ([]) ([]) 0 0) by simp only [a47, h1, h2, cT, cF]]
 exact yX [16, 17, 18, 19, 20, 21, 22, 23, 24, 25] (((), (none, 0)), ((none, 0), (none, 0), (none, 0), (none, 0)), (none, 0), (none, 0), (), (none, 0), (none, 0), (none, 0), (), ()) (An (An (i6 0) (adg (α := Link))) (An (An (adg (α := Key)) (An (adg (α := Rule)) (An (adg (α := Name)) (adg (α := DataP))))) (An (adg (α := TableEntry)) (An (adg (α := NodeP)) (An (i6 0) (An (adg (α := Int)) (An (adg (α := PacketInFlight)) (An (adg (α := Consumer)) (An (i6 0) (i6 0))))))))))
 refine KV Z Z Z Z Z Z O Z (fun w γ => f74 n τ0 (γ.q 5 Z) a3 ((ad0 a2).1)) fun bm => ?_
 refine yKN 25 ?_ ?_ <;> intro h3 bk
 refine F1 26 Link ?_
 refine F1 27 Key ?_
 refine F1 28 Rule ?_
 refine F1 29 Name ?_
 refine F1 30 DataP ?_
 refine F1 31 TableEntry ?_
 refine F1 32 NodeP ?_
 refine F1 33 Int ?_
 refine F1 34 PacketInFlight ?_
 refine F1 35 Consumer ?_
 rw [show a47 g t h_ caps = (Network.mk (Topology.mk 0 ([])) (TrustPolicy.mk ([]) ([]) ([]) ([])) ([]) ([]) 0 ([]) ([]) ([]) 0 0) by simp only [a47, h1, h2, h3, cT, cF]]
 exact yX [26, 27, 28, 29, 30, 31, 32, 33, 34, 35] (((), (none, 0)), ((none, 0), (none, 0), (none, 0), (none, 0)), (none, 0), (none, 0), (), (none, 0), (none, 0), (none, 0), (), ()) (An (An (i6 0) (adg (α := Link))) (An (An (adg (α := Key)) (An (adg (α := Rule)) (An (adg (α := Name)) (adg (α := DataP))))) (An (adg (α := TableEntry)) (An (adg (α := NodeP)) (An (i6 0) (An (adg (α := Int)) (An (adg (α := PacketInFlight)) (An (adg (α := Consumer)) (An (i6 0) (i6 0))))))))))
 refine KF Z 36 Z Z Z Z Z O Z (fun w γ => f51 n τ0 (Network.mk g t h_ ([]) 0 ([]) ([]) ([]) 0 0) (γ.q 0 Z) (γ.q 1 Z) (γ.q 2 Z) (γ.q 3 Z) (γ.q 4 Z) (γ.q 5 Z) (ai9 _ _ _) (ai9 _ _ _) (ai9 _ _ _) (ai9 _ _ _) (An a2 (An a4 (An a3 (An (adg (α := NodeP)) (An (i6 0) (An (adg (α := Int)) (An (adg (α := PacketInFlight)) (An (adg (α := Consumer)) (An (i6 0) (i6 0))))))))))) ?_
 rintro ⟨⟨⟨⟩, ⟨p1, c1⟩⟩, ⟨⟨p2, c2⟩, ⟨p3, c3⟩, ⟨p4, c4⟩, ⟨p5, c5⟩⟩, ⟨p6, c6⟩, ⟨p7, c7⟩, ⟨⟩, ⟨p8, c8⟩, ⟨p9, c9⟩, ⟨a8, a7⟩, ⟨⟩, ⟨⟩⟩ a1
 dsimp only
 have q1 := l32n (Network.mk g t h_ ([]) 0 ([]) ([]) ([]) 0 0)
 try dsimp only at q1
 try simp only [List.length_nil] at q1
 have r1 := i8 ((ad0 a2).1)
 have bl := atg (show a3m g = true by assumption)
 refine LM Z (0, p7, c7, ((a0c (Network.mk g t h_ ([]) 0 ([]) ([]) ([]) 0 0)).nodes : List NodeP)) (fun | (i, a5, a6, w_) => ((i ≤ g.size.toNat) ∧ JL n w_ ∧ (w_.length ≤ i + ((a0c (Network.mk g t h_ ([]) 0 ([]) ([]) ([]) 0 0)).nodes).length) ∧ (acd caps (g.size.toNat) ((a0c (Network.mk g t h_ ([]) 0 ([]) ([]) ([]) 0 0)).nodes : List NodeP) = acd caps (g.size.toNat - i) w_), g.size.toNat - i, [(10, .v (vI i))], [(9, ⟨39, [.int .i64 ((a0c (Network.mk g t h_ ([]) 0 ([]) ([]) ([]) 0 0)).topology.size), .slice p1 (((a0c (Network.mk g t h_ ([]) 0 ([]) ([]) ([]) 0 0)).topology.links).length) c1, .slice p2 (((a0c (Network.mk g t h_ ([]) 0 ([]) ([]) ([]) 0 0)).trust.keys).length) c2, .slice p3 (((a0c (Network.mk g t h_ ([]) 0 ([]) ([]) ([]) 0 0)).trust.rules).length) c3, .slice p4 (((a0c (Network.mk g t h_ ([]) 0 ([]) ([]) ([]) 0 0)).trust.anchors).length) c4, .slice p5 (((a0c (Network.mk g t h_ ([]) 0 ([]) ([]) ([]) 0 0)).trust.certificates).length) c5, .slice p6 (((a0c (Network.mk g t h_ ([]) 0 ([]) ([]) ([]) 0 0)).producers).length) c6, .slice a5 (w_.length) a6, .int .i64 ((a0c (Network.mk g t h_ ([]) 0 ([]) ([]) ([]) 0 0)).downNodes), .slice p8 (((a0c (Network.mk g t h_ ([]) 0 ([]) ([]) ([]) 0 0)).failedLinks).length) c8, .slice p9 (((a0c (Network.mk g t h_ ([]) 0 ([]) ([]) ([]) 0 0)).inFlight).length) c9, .slice a8 (((a0c (Network.mk g t h_ ([]) 0 ([]) ([]) ([]) 0 0)).consumers).length) a7, .int .i64 ((a0c (Network.mk g t h_ ([]) 0 ([]) ([]) ([]) 0 0)).now), .int .i64 ((a0c (Network.mk g t h_ ([]) 0 ([]) ([]) ([]) 0 0)).dropped)]⟩)], [], [(52, MF.os a5 a6 w_), (53, MF.os p8 c8 ((a0c (Network.mk g t h_ ([]) 0 ([]) ([]) ([]) 0 0)).failedLinks)), (54, MF.os p9 c9 ((a0c (Network.mk g t h_ ([]) 0 ([]) ([]) ([]) 0 0)).inFlight)), (55, MF.os a8 a7 ((a0c (Network.mk g t h_ ([]) 0 ([]) ([]) ([]) 0 0)).consumers))])) ⟨zl, (acy a1).2.2.2.1, τ7, Z⟩ [9, 8, 4, 3] [8, 4] [0, 1, 2, 3, 4, 5, 46, 47, 48, 49, 50, 51] [0, 1, 2, 3, 4, 5, 46, 47, 48, 49, 50, 51, 52, 53, 54, 55] ?_
 rintro ⟨i, a5, a6, w_⟩ ⟨v1, v2, v3, v4⟩
 have bn := v2.1
 refine yKD 35 ?_ ?_ <;> intro h4 bf
 refine zW 56 46 ?_
 refine zW 57 47 ?_
 refine zW 58 48 ?_
 refine zW 59 49 ?_
 refine zW 60 50 ?_
 refine zW 61 51 ?_
 refine zW 62 52 ?_
 refine zW 63 53 ?_
 refine zW 64 54 ?_
 refine zW 65 55 ?_
 refine R0 ?_
 refine WX.draw [5, 6, 7] mixed fun bs G0 bo => ?_
 refine dT 5 [1, 2, 5] ?_
 refine DXF 3 66 Z J Z Z Z Z Z Z O Z (fun w γ => f75 n τ0 a0) ?_
 rintro ⟨⟨ap, b8⟩, ⟨⟨⟩, ⟨ay, ab⟩⟩, ⟨a9, b3⟩, ⟨ac, af⟩, ⟨aj, an⟩, ⟨ag, am⟩, ⟨⟩⟩ aa
 refine DX.tail2 [4, 5, 6, 7] Z Z J ?_
 refine zB fun bi => ?_
 refine zN (kk := 8) 501 52 78 fun bh bq => ?_
 refine zT (α := NodeP) [72, 73, 74, 75, 76, 77] 79 (a9j caps) ((ap, b8), ((), (ay, ab)), (a9, b3), (ac, af), (aj, an), (ag, am), ()) fun _ => ?_
 have r2 := i8 a0
 refine WX.know (fun G hΓ => (hΓ.get 79 Z : OwL _ _ _).rd.one) fun b0 => ?_
 refine zP 501 42 ((w_ ++ [(a9j caps)]) : List NodeP).length b0 fun al ae => ?_
 refine zV [78, 79] 80 ?_
 refine SA ?_
 refine yE 501 80 81 ?_
 refine zU [82] 52 ?_
 exact IT (i + 1, al, ae, (w_ ++ [(a9j caps)])) ⟨τ0, (ada τ6 (aec v2.2 (all_cons (α := NodeP) aa nA)) : ok n ((w_ ++ [(a9j caps)]) : List NodeP)), τ2, (by rw [v4, show g.size.toNat - i = (g.size.toNat - (i + 1)) + 1 by omega]; simp only [acd, cT, cF])⟩ τ1 [0, 1, 2, 3, 4, 5, 46, 47, 48, 49, 50, 51, 52, 53, 54, 55]
 have bb := v4.trans (show _ = (w_ : List NodeP) by rw [show g.size.toNat - i = 0 by omega]; simp only [acd, cT, cF])
 refine R0 ?_
 refine CU (a46 (Network.mk ((a0c (Network.mk g t h_ ([]) 0 ([]) ([]) ([]) 0 0)).topology) ((a0c (Network.mk g t h_ ([]) 0 ([]) ([]) ([]) 0 0)).trust) ((a0c (Network.mk g t h_ ([]) 0 ([]) ([]) ([]) 0 0)).producers) w_ ((a0c (Network.mk g t h_ ([]) 0 ([]) ([]) ([]) 0 0)).downNodes) ((a0c (Network.mk g t h_ ([]) 0 ([]) ([]) ([]) 0 0)).failedLinks) ((a0c (Network.mk g t h_ ([]) 0 ([]) ([]) ([]) 0 0)).inFlight) ((a0c (Network.mk g t h_ ([]) 0 ([]) ([]) ([]) 0 0)).consumers) ((a0c (Network.mk g t h_ ([]) 0 ([]) ([]) ([]) 0 0)).now) ((a0c (Network.mk g t h_ ([]) 0 ([]) ([]) ([]) 0 0)).dropped))) 9 [46, 47, 48, 49, 50, 51, 52, 53, 54, 55] 83 Z Z Z Z Z Z Z O Z (fun w β H η σ γ => f52 n τ0 η (β 9) (Network.mk ((a0c (Network.mk g t h_ ([]) 0 ([]) ([]) ([]) 0 0)).topology) ((a0c (Network.mk g t h_ ([]) 0 ([]) ([]) ([]) 0 0)).trust) ((a0c (Network.mk g t h_ ([]) 0 ([]) ([]) ([]) 0 0)).producers) w_ ((a0c (Network.mk g t h_ ([]) 0 ([]) ([]) ([]) 0 0)).downNodes) ((a0c (Network.mk g t h_ ([]) 0 ([]) ([]) ([]) 0 0)).failedLinks) ((a0c (Network.mk g t h_ ([]) 0 ([]) ([]) ([]) 0 0)).inFlight) ((a0c (Network.mk g t h_ ([]) 0 ([]) ([]) ([]) 0 0)).consumers) ((a0c (Network.mk g t h_ ([]) 0 ([]) ([]) ([]) 0 0)).now) ((a0c (Network.mk g t h_ ([]) 0 ([]) ([]) ([]) 0 0)).dropped)) p1 c1 p2 c2 p3 c3 p4 c4 p5 c5 p6 c6 a5 a6 p8 c8 p9 c9 a8 a7 σ (An (acy a1).1 (An (acy a1).2.1 (An (acy a1).2.2.1 (An (afi v2) (An (acy a1).2.2.2.2.1 (An (acy a1).2.2.2.2.2.1 (An (acy a1).2.2.2.2.2.2.1 (An (acy a1).2.2.2.2.2.2.2.1 (An (acy a1).2.2.2.2.2.2.2.2.1 (acy a1).2.2.2.2.2.2.2.2.2)))))))))) O ?_
 rintro ⟨⟨⟨⟩, ⟨b6, aq⟩⟩, ⟨⟨b9, au⟩, ⟨ah, ar⟩, ⟨b5, az⟩, ⟨ba, ad⟩⟩, ⟨b4, b1⟩, ⟨b7, ax⟩, ⟨⟩, ⟨ak, av⟩, ⟨aw, b2⟩, ⟨bc, ai⟩, ⟨⟩, ⟨⟩⟩ ao
 dsimp only
 rw [show a47 g t h_ caps = (a46 (Network.mk ((a0c (Network.mk g t h_ ([]) 0 ([]) ([]) ([]) 0 0)).topology) ((a0c (Network.mk g t h_ ([]) 0 ([]) ([]) ([]) 0 0)).trust) ((a0c (Network.mk g t h_ ([]) 0 ([]) ([]) ([]) 0 0)).producers) w_ ((a0c (Network.mk g t h_ ([]) 0 ([]) ([]) ([]) 0 0)).downNodes) ((a0c (Network.mk g t h_ ([]) 0 ([]) ([]) ([]) 0 0)).failedLinks) ((a0c (Network.mk g t h_ ([]) 0 ([]) ([]) ([]) 0 0)).inFlight) ((a0c (Network.mk g t h_ ([]) 0 ([]) ([]) ([]) 0 0)).consumers) ((a0c (Network.mk g t h_ ([]) 0 ([]) ([]) ([]) 0 0)).now) ((a0c (Network.mk g t h_ ([]) 0 ([]) ([]) ([]) 0 0)).dropped))) by simp only [a47, h1, h2, h3, bb, cT, cF]]
 exact yX [93, 94, 95, 96, 97, 98, 99, 100, 101, 102] (((), (b6, aq)), ((b9, au), (ah, ar), (b5, az), (ba, ad)), (b4, b1), (b7, ax), (), (ak, av), (aw, b2), (bc, ai), (), ()) ao
end Go.Proofs.YtpmejlbgjkiobaaGreat
namespace Go.Stp
theorem mkE {β : Type} {h : β → Int → Int} {k : Int} {n : Nat} {f : Int × β} (H : MkR k f.1 n (h f.2 k)) : ∃ k1 s, f = (k1, s) ∧ k ≤ k1 ∧ k1 ≤ k + 16 * (n : Int) ∧ h s k = k1 := by
 obtain ⟨a, b, c⟩ := H
 exact ⟨f.1, f.2, rfl, a, b, c⟩
theorem ax2 (a : Link) : a9r a a = true := by
 simp only [a9r, ad2, ade, cond_false, Bool.not_true]
theorem ax5 (a : Link) : a4u a = a := by
 simp only [a4u]
theorem arn : ∀ (l p : (List Link)), a6g (p ++ l) l p.length = none
 | [], _ => rfl
 | e :: l, p => by
  have ih := arn l (p ++ [e])
  rw [adz, ady] at ih
  simp only [a6g, mid, ax2 e, Bool.not_true, cond_false]
  exact ih
theorem aw9 (a : (List Link)) : a9s a a = true := by
 have h := arn a []
 simp only [List.nil_append, List.length_nil] at h
 simp only [a9s, ad2, cond_false, h]
theorem arj : ∀ (l p z : (List Link)), z.length = l.length → a80 l p.length (p ++ z) = p ++ l
 | [], p, [], _ => rfl
 | e :: l, p, y :: z, h => by
  have ih := arj l (p ++ [e]) z (by simpa using h)
  rw [adz p e l, ady] at ih
  simp only [a80, mid, aev, ax5 e]
  exact ih
theorem avz (a : (List Link)) : aae a = a := by
 simp only [aae]
 exact arj a [] _ (by simp)
theorem aum (a : (List Link)) (left : Int) (h : GoT.ok 10 a) (h0 : 0 ≤ left) (h1 : left ≤ 1048576) : SzR (a5b a left) left (sz a) := by
 have hl : a.length ≤ 9223372036854775807 := h.1
 rw [aem, alc (fun b => auz b)]
 unfold a5b
 rw [afe h0 h1 hl]
 by_cases hc : left - (a.length : Int) < 0
 ·rw [dT hc, cond_true]; exact .inl rfl
 ·rw [dF (by omega), cond_false]; exact .inr ⟨by omega, rfl⟩
theorem aqm (e : Link) : sz e = 0 := by
 simp only [auz, Nat.add_assoc]
theorem aru : ∀ (l p : (List Link)) (k : Int), 0 ≤ k → k + 16 * ((l.length : Int) + szL l) ≤ 4611686018427387904 → ∃ l' k', a8i l.length p.length (p ++ l) k = (p ++ l', k') ∧ k ≤ k' ∧ k' ≤ k + 16 * ((l.length : Int) + szL l) ∧ a5z l' k = .nxt k'
 | [], p, k, _, _ => ⟨[], k, rfl, by omega, by simp [aef], rfl⟩
 | e :: l, p, k, h0, hb => by
  rw [adr, List.length_cons] at hb
  have hsz := aqm e
  have w1 := aft (x := k) (by omega) (by omega)
  have w2 := aft (x := (k + 1)) (by omega) (by omega)
  obtain ⟨l', k', r1, r2, r3, r4⟩ := aru l (p ++ [(Link.mk k (k + 1))]) ((k + 1) + 1) (by omega) (by omega)
  rw [ady] at r1
  exact ⟨_ :: l', k', by simp only [List.length_cons, a8i, mid, aev, w1, w2]; rw [r1, adz], by omega, by rw [adr, List.length_cons]; omega, by simp only [a5z, ad2, ade, cond_false, w1, w2]; exact r4⟩
theorem awb (a : (List Link)) (k : Int) (h0 : 0 ≤ k) (hb : k + 16 * (sz a : Int) ≤ 4611686018427387904) : MkR k (a2j a k).1 (sz a) (a4j (a2j a k).2 k) := by
 rw [aem] at hb ⊢
 obtain ⟨l', k', r1, r2, r3, r4⟩ := aru a [] k h0 (by omega)
 simp only [List.nil_append, List.length_nil] at r1
 simp only [a2j, r1, a4j, r4]
 exact ⟨r2, by omega, rfl⟩
theorem asl (a : Topology) : a7s a a = true := by
 simp only [a7s, ad2, ade, cond_false, Bool.not_true, aw9]
theorem asp (a : Topology) : a06 a = a := by
 simp only [a06, avz]
theorem akm (a : Topology) (left : Int) (h : GoT.ok 10 a) (h0 : 0 ≤ left) (h1 : left ≤ 1048576) : SzR (a1p a left) left (sz a) := by
 rw [an4]
 unfold a1p
 rcases aum a.links left (ad0 h).2 (by omega) (by omega) with r0 | ⟨q0, r0⟩
 ·rw [r0]; exact .inl rfl
 rw [r0, dF (by omega), cond_false]
 exact .inr ⟨by omega, by omega⟩
theorem asi (a : Topology) (k : Int) (h0 : 0 ≤ k) (hb : k + 16 * (sz a : Int) ≤ 4611686018427387904) : MkR k (a08 a k).1 (sz a) (a2k (a08 a k).2 k) := by
 rw [an4] at hb ⊢
 obtain ⟨k0, s0, m0, p0, q0, e0⟩ := mkE (awb a.links k (by omega) (by omega))
 have d0 := dF (show 0 ≤ k0 by omega)
 simp only [a08, m0, a2k, e0, d0, cond_false]
 exact ⟨by omega, by omega, rfl⟩
theorem ao7 : ∀ (l p : (List Str)), a6h (p ++ l) l p.length = none
 | [], _ => rfl
 | e :: l, p => by
  have ih := ao7 l (p ++ [e])
  rw [adz, ady] at ih
  simp only [a6h, mid, ad2, ade, cond_false]
  exact ih
theorem ape (a : (List Str)) : a7t a a = true := by
 have h := ao7 a []
 simp only [List.nil_append, List.length_nil] at h
 simp only [a7t, ad2, cond_false, h]
theorem an7 : ∀ (l p z : (List Str)), z.length = l.length → a81 l p.length (p ++ z) = p ++ l
 | [], p, [], _ => rfl
 | e :: l, p, y :: z, h => by
  have ih := an7 l (p ++ [e]) z (by simpa using h)
  rw [adz p e l, ady] at ih
  simp only [a81, mid, aev]
  exact ih
theorem ap7 (a : (List Str)) : a6z a = a := by
 simp only [a6z]
 exact an7 a [] _ (by simp)
theorem akk : ∀ (l : (List Str)) (left : Int), (∀ a ∈ l, GoT.ok 10 a) → 0 ≤ left → left ≤ 1048576 → SzL (a5c l left) left (szL l)
 | [], left, _, h0, _ => .inr ⟨by simp [aef]; omega, by simp [aef, a5c]⟩
 | e :: l, left, hk, h0, h1 => by
  have he : e.size ≤ 9223372036854775807 := hk e List.mem_cons_self
  rw [adr, ay3]
  unfold a5c
  rw [afe h0 h1 he]
  by_cases hc : left - (e.size : Int) < 0
  ·rw [dT hc, cond_true]; exact .inl rfl
  ·rw [dF (by omega), cond_false]
   rcases akk l (left - (e.size : Int)) (fun a ha => hk a (List.mem_cons_of_mem _ ha)) (by omega) (by omega) with r | ⟨q, r⟩
   ·exact .inl r
   ·exact .inr ⟨by omega, by rw [r]; congr 1; omega⟩
theorem am9 (a : (List Str)) (left : Int) (h : GoT.ok 10 a) (h0 : 0 ≤ left) (h1 : left ≤ 1048576) : SzR (a2w a left) left (sz a) := by
 have hl : a.length ≤ 9223372036854775807 := h.1
 rw [aem]
 unfold a2w
 rw [afe h0 h1 hl]
 by_cases hc : left - (a.length : Int) < 0
 ·rw [dT hc, cond_true]; exact .inl rfl
 ·rw [dF (by omega), cond_false]
  rcases akk a (left - (a.length : Int)) h.2 (by omega) (by omega) with r | ⟨q, r⟩
  ·rw [r]; exact .inl rfl
  ·rw [r]; exact .inr ⟨by omega, by show left - (a.length : Int) - (szL a : Int) = _; omega⟩
theorem amy : ∀ (l p : (List Str)) (k : Int), 0 ≤ k → k + 16 * ((l.length : Int) + szL l) ≤ 4611686018427387904 → ∃ l' k', a8j l.length p.length (p ++ l) k = (p ++ l', k') ∧ k ≤ k' ∧ k' ≤ k + 16 * ((l.length : Int) + szL l) ∧ a7d l' k = .nxt k'
 | [], p, k, _, _ => ⟨[], k, rfl, by omega, by simp [aef], rfl⟩
 | e :: l, p, k, h0, hb => by
  rw [adr, List.length_cons] at hb
  have w1 := aft (x := k) (by omega) (by omega)
  obtain ⟨l', k', r1, r2, r3, r4⟩ := amy l (p ++ [(a4v k)]) (k + 1) (by omega) (by omega)
  rw [ady] at r1
  exact ⟨_ :: l', k', by simp only [List.length_cons, a8j, mid, aev, w1]; rw [r1, adz], by omega, by rw [adr, List.length_cons]; omega, by simp only [a7d, ad2, ade, cond_false, w1]; exact r4⟩
theorem aez (a : (List Str)) (k : Int) (h0 : 0 ≤ k) (hb : k + 16 * (sz a : Int) ≤ 4611686018427387904) : MkR k (a00 a k).1 (sz a) (a02 (a00 a k).2 k) := by
 rw [aem] at hb ⊢
 obtain ⟨l', k', r1, r2, r3, r4⟩ := amy a [] k h0 (by omega)
 simp only [List.nil_append, List.length_nil] at r1
 simp only [a00, r1, a02, r4]
 exact ⟨r2, by omega, rfl⟩
theorem ahp (a : Name) : a2i a a = true := by
 simp only [a2i, ad2, ade, cond_false, Bool.not_true, ape]
theorem ahq (a : Name) : a0w a = a := by
 simp only [a0w, ap7]
theorem ag5 (a : Name) (left : Int) (h : GoT.ok 10 a) (h0 : 0 ≤ left) (h1 : left ≤ 1048576) : SzR (a0j a left) left (sz a) := by
 rw [ah1]
 unfold a0j
 rcases am9 a.parts left (ae6 h) (by omega) (by omega) with r0 | ⟨q0, r0⟩
 ·rw [r0]; exact .inl rfl
 rw [r0, dF (by omega), cond_false]
 exact .inr ⟨by omega, by omega⟩
theorem ay6 (a : Key) : a9t a a = true := by
 simp only [a9t, ad2, ade, cond_false, Bool.not_true, ahp]
theorem ayb (a : Key) : a70 a = a := by
 simp only [a70, ahq]
theorem awi (a : Key) (left : Int) (h : GoT.ok 10 a) (h0 : 0 ≤ left) (h1 : left ≤ 1048576) : SzR (a5d a left) left (sz a) := by
 rw [awu]
 unfold a5d
 rcases ag5 a.name left (ag4 h).1 (by omega) (by omega) with r0 | ⟨q0, r0⟩
 ·rw [r0]; exact .inl rfl
 rw [r0, dF (by omega), cond_false]
 exact .inr ⟨by omega, by omega⟩
theorem atr : ∀ (l p : (List Key)), a6i (p ++ l) l p.length = none
 | [], _ => rfl
 | e :: l, p => by
  have ih := atr l (p ++ [e])
  rw [adz, ady] at ih
  simp only [a6i, mid, ay6 e, Bool.not_true, cond_false]
  exact ih
theorem axd (a : (List Key)) : a9u a a = true := by
 have h := atr a []
 simp only [List.nil_append, List.length_nil] at h
 simp only [a9u, ad2, cond_false, h]
theorem ath : ∀ (l p z : (List Key)), z.length = l.length → a82 l p.length (p ++ z) = p ++ l
 | [], p, [], _ => rfl
 | e :: l, p, y :: z, h => by
  have ih := ath l (p ++ [e]) z (by simpa using h)
  rw [adz p e l, ady] at ih
  simp only [a82, mid, aev, ayb e]
  exact ih
theorem ax7 (a : (List Key)) : aaf a = a := by
 simp only [aaf]
 exact ath a [] _ (by simp)
theorem apq : ∀ (l : (List Key)) (left : Int), (∀ a ∈ l, GoT.ok 10 a) → 0 ≤ left → left ≤ 1048576 → SzL (a5e l left) left (szL l)
 | [], left, _, h0, _ => .inr ⟨by simp [aef]; omega, by simp [aef, a5e]⟩
 | e :: l, left, hk, h0, h1 => by
  rw [adr]
  unfold a5e
  rcases awi e left (hk e List.mem_cons_self) h0 h1 with r0 | ⟨q0, r0⟩
  ·rw [r0]; exact .inl rfl
  ·rw [r0, dF (by omega), cond_false]
   rcases apq l (left - (sz e : Int)) (fun a ha => hk a (List.mem_cons_of_mem _ ha)) (by omega) (by omega) with r | ⟨q, r⟩
   ·exact .inl r
   ·exact .inr ⟨by omega, by rw [r]; congr 1; omega⟩
theorem av0 (a : (List Key)) (left : Int) (h : GoT.ok 10 a) (h0 : 0 ≤ left) (h1 : left ≤ 1048576) : SzR (a2x a left) left (sz a) := by
 have hl : a.length ≤ 9223372036854775807 := h.1
 rw [aem]
 unfold a2x
 rw [afe h0 h1 hl]
 by_cases hc : left - (a.length : Int) < 0
 ·rw [dT hc, cond_true]; exact .inl rfl
 ·rw [dF (by omega), cond_false]
  rcases apq a (left - (a.length : Int)) h.2 (by omega) (by omega) with r | ⟨q, r⟩
  ·rw [r]; exact .inl rfl
  ·rw [r]; exact .inr ⟨by omega, by show left - (a.length : Int) - (szL a : Int) = _; omega⟩
theorem arh (e : Key) : sz e = sz e.name.parts := by
 simp only [awu, ah1, Nat.add_assoc]
theorem ate : ∀ (l p : (List Key)) (k : Int), 0 ≤ k → k + 16 * ((l.length : Int) + szL l) ≤ 4611686018427387904 → ∃ l' k', a8k l.length p.length (p ++ l) k = (p ++ l', k') ∧ k ≤ k' ∧ k' ≤ k + 16 * ((l.length : Int) + szL l) ∧ a60 l' k = .nxt k'
 | [], p, k, _, _ => ⟨[], k, rfl, by omega, by simp [aef], rfl⟩
 | e :: l, p, k, h0, hb => by
  rw [adr, List.length_cons] at hb
  have hsz := arh e
  obtain ⟨k1, s1, m1, p1, q1, e1⟩ := mkE (aez e.name.parts k (by omega) (by omega))
  have d1 := dF (show 0 ≤ k1 by omega)
  have w2 := aft (x := k1) (by omega) (by omega)
  obtain ⟨l', k', r1, r2, r3, r4⟩ := ate l (p ++ [(Key.mk (Name.mk s1) k1)]) (k1 + 1) (by omega) (by omega)
  rw [ady] at r1
  exact ⟨_ :: l', k', by simp only [List.length_cons, a8k, mid, aev, m1, w2]; rw [r1, adz], by omega, by rw [adr, List.length_cons]; omega, by simp only [a60, ad2, ade, cond_false, e1, d1, w2]; exact r4⟩
theorem axy (a : (List Key)) (k : Int) (h0 : 0 ≤ k) (hb : k + 16 * (sz a : Int) ≤ 4611686018427387904) : MkR k (a10 a k).1 (sz a) (a31 (a10 a k).2 k) := by
 rw [aem] at hb ⊢
 obtain ⟨l', k', r1, r2, r3, r4⟩ := ate a [] k h0 (by omega)
 simp only [List.nil_append, List.length_nil] at r1
 simp only [a10, r1, a31, r4]
 exact ⟨r2, by omega, rfl⟩
theorem atv (a : Pattern) : a9v a a = true := by
 simp only [a9v, ad2, ade, cond_false, Bool.not_true, ape]
theorem au8 (a : Pattern) : a71 a = a := by
 simp only [a71, ap7]
theorem ama (a : Pattern) (left : Int) (h : GoT.ok 10 a) (h0 : 0 ≤ left) (h1 : left ≤ 1048576) : SzR (a3f a left) left (sz a) := by
 rw [aps]
 unfold a3f
 rcases am9 a.parts left (adc h) (by omega) (by omega) with r0 | ⟨q0, r0⟩
 ·rw [r0]; exact .inl rfl
 rw [r0, dF (by omega), cond_false]
 exact .inr ⟨by omega, by omega⟩
theorem axu (a : Rule) : a9w a a = true := by
 simp only [a9w, ad2, ade, cond_false, Bool.not_true, atv]
theorem ax3 (a : Rule) : a72 a = a := by
 simp only [a72, au8]
theorem av5 (a : Rule) (left : Int) (h : GoT.ok 10 a) (h0 : 0 ≤ left) (h1 : left ≤ 1048576) : SzR (a48 a left) left (sz a) := by
 rw [avs]
 unfold a48
 rcases ama a.dataPattern left (adx h).1 (by omega) (by omega) with r0 | ⟨q0, r0⟩
 ·rw [r0]; exact .inl rfl
 rw [r0, dF (by omega), cond_false]
 rcases ama a.keyPattern (left - (sz a.dataPattern : Int)) (adx h).2 (by omega) (by omega) with r1 | ⟨q1, r1⟩
 ·rw [r1]; exact .inl rfl
 rw [r1, dF (by omega), cond_false]
 exact .inr ⟨by omega, by omega⟩
theorem arr : ∀ (l p : (List Rule)), a6j (p ++ l) l p.length = none
 | [], _ => rfl
 | e :: l, p => by
  have ih := arr l (p ++ [e])
  rw [adz, ady] at ih
  simp only [a6j, mid, axu e, Bool.not_true, cond_false]
  exact ih
theorem awp (a : (List Rule)) : a9x a a = true := by
 have h := arr a []
 simp only [List.nil_append, List.length_nil] at h
 simp only [a9x, ad2, cond_false, h]
theorem ar8 : ∀ (l p z : (List Rule)), z.length = l.length → a83 l p.length (p ++ z) = p ++ l
 | [], p, [], _ => rfl
 | e :: l, p, y :: z, h => by
  have ih := ar8 l (p ++ [e]) z (by simpa using h)
  rw [adz p e l, ady] at ih
  simp only [a83, mid, aev, ax3 e]
  exact ih
theorem avv (a : (List Rule)) : aag a = a := by
 simp only [aag]
 exact ar8 a [] _ (by simp)
theorem anl : ∀ (l : (List Rule)) (left : Int), (∀ a ∈ l, GoT.ok 10 a) → 0 ≤ left → left ≤ 1048576 → SzL (a5f l left) left (szL l)
 | [], left, _, h0, _ => .inr ⟨by simp [aef]; omega, by simp [aef, a5f]⟩
 | e :: l, left, hk, h0, h1 => by
  rw [adr]
  unfold a5f
  rcases av5 e left (hk e List.mem_cons_self) h0 h1 with r0 | ⟨q0, r0⟩
  ·rw [r0]; exact .inl rfl
  ·rw [r0, dF (by omega), cond_false]
   rcases anl l (left - (sz e : Int)) (fun a ha => hk a (List.mem_cons_of_mem _ ha)) (by omega) (by omega) with r | ⟨q, r⟩
   ·exact .inl r
   ·exact .inr ⟨by omega, by rw [r]; congr 1; omega⟩
theorem aua (a : (List Rule)) (left : Int) (h : GoT.ok 10 a) (h0 : 0 ≤ left) (h1 : left ≤ 1048576) : SzR (a3g a left) left (sz a) := by
 have hl : a.length ≤ 9223372036854775807 := h.1
 rw [aem]
 unfold a3g
 rw [afe h0 h1 hl]
 by_cases hc : left - (a.length : Int) < 0
 ·rw [dT hc, cond_true]; exact .inl rfl
 ·rw [dF (by omega), cond_false]
  rcases anl a (left - (a.length : Int)) h.2 (by omega) (by omega) with r | ⟨q, r⟩
  ·rw [r]; exact .inl rfl
  ·rw [r]; exact .inr ⟨by omega, by show left - (a.length : Int) - (szL a : Int) = _; omega⟩
theorem aqj (e : Rule) : sz e = sz e.dataPattern.parts + sz e.keyPattern.parts := by
 simp only [avs, aps, Nat.add_assoc]
theorem as0 : ∀ (l p : (List Rule)) (k : Int), 0 ≤ k → k + 16 * ((l.length : Int) + szL l) ≤ 4611686018427387904 → ∃ l' k', a8l l.length p.length (p ++ l) k = (p ++ l', k') ∧ k ≤ k' ∧ k' ≤ k + 16 * ((l.length : Int) + szL l) ∧ a61 l' k = .nxt k'
 | [], p, k, _, _ => ⟨[], k, rfl, by omega, by simp [aef], rfl⟩
 | e :: l, p, k, h0, hb => by
  rw [adr, List.length_cons] at hb
  have hsz := aqj e
  obtain ⟨k1, s1, m1, p1, q1, e1⟩ := mkE (aez e.dataPattern.parts k (by omega) (by omega))
  have d1 := dF (show 0 ≤ k1 by omega)
  obtain ⟨k2, s2, m2, p2, q2, e2⟩ := mkE (aez e.keyPattern.parts k1 (by omega) (by omega))
  have d2 := dF (show 0 ≤ k2 by omega)
  obtain ⟨l', k', r1, r2, r3, r4⟩ := as0 l (p ++ [(Rule.mk (Pattern.mk s1) (Pattern.mk s2))]) k2 (by omega) (by omega)
  rw [ady] at r1
  exact ⟨_ :: l', k', by simp only [List.length_cons, a8l, mid, aev, m1, m2]; rw [r1, adz], by omega, by rw [adr, List.length_cons]; omega, by simp only [a61, ad2, ade, cond_false, e1, d1, e2, d2]; exact r4⟩
theorem aw6 (a : (List Rule)) (k : Int) (h0 : 0 ≤ k) (hb : k + 16 * (sz a : Int) ≤ 4611686018427387904) : MkR k (a1c a k).1 (sz a) (a3j (a1c a k).2 k) := by
 rw [aem] at hb ⊢
 obtain ⟨l', k', r1, r2, r3, r4⟩ := as0 a [] k h0 (by omega)
 simp only [List.nil_append, List.length_nil] at r1
 simp only [a1c, r1, a3j, r4]
 exact ⟨r2, by omega, rfl⟩
theorem ary : ∀ (l p : (List Name)), a6k (p ++ l) l p.length = none
 | [], _ => rfl
 | e :: l, p => by
  have ih := ary l (p ++ [e])
  rw [adz, ady] at ih
  simp only [a6k, mid, ahp e, Bool.not_true, cond_false]
  exact ih
theorem aw8 (a : (List Name)) : a9y a a = true := by
 have h := ary a []
 simp only [List.nil_append, List.length_nil] at h
 simp only [a9y, ad2, cond_false, h]
theorem arg : ∀ (l p z : (List Name)), z.length = l.length → a84 l p.length (p ++ z) = p ++ l
 | [], p, [], _ => rfl
 | e :: l, p, y :: z, h => by
  have ih := arg l (p ++ [e]) z (by simpa using h)
  rw [adz p e l, ady] at ih
  simp only [a84, mid, aev, ahq e]
  exact ih
theorem awm (a : (List Name)) : aah a = a := by
 simp only [aah]
 exact arg a [] _ (by simp)
theorem an3 : ∀ (l : (List Name)) (left : Int), (∀ a ∈ l, GoT.ok 10 a) → 0 ≤ left → left ≤ 1048576 → SzL (a5g l left) left (szL l)
 | [], left, _, h0, _ => .inr ⟨by simp [aef]; omega, by simp [aef, a5g]⟩
 | e :: l, left, hk, h0, h1 => by
  rw [adr]
  unfold a5g
  rcases ag5 e left (hk e List.mem_cons_self) h0 h1 with r0 | ⟨q0, r0⟩
  ·rw [r0]; exact .inl rfl
  ·rw [r0, dF (by omega), cond_false]
   rcases an3 l (left - (sz e : Int)) (fun a ha => hk a (List.mem_cons_of_mem _ ha)) (by omega) (by omega) with r | ⟨q, r⟩
   ·exact .inl r
   ·exact .inr ⟨by omega, by rw [r]; congr 1; omega⟩
theorem atx (a : (List Name)) (left : Int) (h : GoT.ok 10 a) (h0 : 0 ≤ left) (h1 : left ≤ 1048576) : SzR (a3x a left) left (sz a) := by
 have hl : a.length ≤ 9223372036854775807 := h.1
 rw [aem]
 unfold a3x
 rw [afe h0 h1 hl]
 by_cases hc : left - (a.length : Int) < 0
 ·rw [dT hc, cond_true]; exact .inl rfl
 ·rw [dF (by omega), cond_false]
  rcases an3 a (left - (a.length : Int)) h.2 (by omega) (by omega) with r | ⟨q, r⟩
  ·rw [r]; exact .inl rfl
  ·rw [r]; exact .inr ⟨by omega, by show left - (a.length : Int) - (szL a : Int) = _; omega⟩
theorem aq9 (e : Name) : sz e = sz e.parts := by
 simp only [ah1, Nat.add_assoc]
theorem art : ∀ (l p : (List Name)) (k : Int), 0 ≤ k → k + 16 * ((l.length : Int) + szL l) ≤ 4611686018427387904 → ∃ l' k', a8m l.length p.length (p ++ l) k = (p ++ l', k') ∧ k ≤ k' ∧ k' ≤ k + 16 * ((l.length : Int) + szL l) ∧ a7e l' k = .nxt k'
 | [], p, k, _, _ => ⟨[], k, rfl, by omega, by simp [aef], rfl⟩
 | e :: l, p, k, h0, hb => by
  rw [adr, List.length_cons] at hb
  have hsz := aq9 e
  obtain ⟨k1, s1, m1, p1, q1, e1⟩ := mkE (aez e.parts k (by omega) (by omega))
  have d1 := dF (show 0 ≤ k1 by omega)
  obtain ⟨l', k', r1, r2, r3, r4⟩ := art l (p ++ [(Name.mk s1)]) k1 (by omega) (by omega)
  rw [ady] at r1
  exact ⟨_ :: l', k', by simp only [List.length_cons, a8m, mid, aev, m1]; rw [r1, adz], by omega, by rw [adr, List.length_cons]; omega, by simp only [a7e, ad2, ade, cond_false, e1, d1]; exact r4⟩
theorem aw5 (a : (List Name)) (k : Int) (h0 : 0 ≤ k) (hb : k + 16 * (sz a : Int) ≤ 4611686018427387904) : MkR k (a1w a k).1 (sz a) (a4w (a1w a k).2 k) := by
 rw [aem] at hb ⊢
 obtain ⟨l', k', r1, r2, r3, r4⟩ := art a [] k h0 (by omega)
 simp only [List.nil_append, List.length_nil] at r1
 simp only [a1w, r1, a4w, r4]
 exact ⟨r2, by omega, rfl⟩
theorem ar7 : ∀ (l p : (List UInt8)), a6l (p ++ l) l p.length = none
 | [], _ => rfl
 | e :: l, p => by
  have ih := ar7 l (p ++ [e])
  rw [adz, ady] at ih
  simp only [a6l, mid, ad2, ade, cond_false]
  exact ih
theorem aw0 (a : (List UInt8)) : a9z a a = true := by
 have h := ar7 a []
 simp only [List.nil_append, List.length_nil] at h
 simp only [a9z, ad2, cond_false, h]
theorem asc : ∀ (l p z : (List UInt8)), z.length = l.length → a85 l p.length (p ++ z) = p ++ l
 | [], p, [], _ => rfl
 | e :: l, p, y :: z, h => by
  have ih := asc l (p ++ [e]) z (by simpa using h)
  rw [adz p e l, ady] at ih
  simp only [a85, mid, aev]
  exact ih
theorem awa (a : (List UInt8)) : aai a = a := by
 simp only [aai]
 exact asc a [] _ (by simp)
theorem aue (a : (List UInt8)) (left : Int) (h : GoT.ok 10 a) (h0 : 0 ≤ left) (h1 : left ≤ 1048576) : SzR (a4s a left) left (sz a) := by
 have hl : a.length ≤ 9223372036854775807 := h.1
 rw [aem, ay4]
 unfold a4s
 rw [afe h0 h1 hl]
 by_cases hc : left - (a.length : Int) < 0
 ·rw [dT hc, cond_true]; exact .inl rfl
 ·rw [dF (by omega), cond_false]; exact .inr ⟨by omega, rfl⟩
theorem ar3 : ∀ (l p : (List UInt8)) (k : Int), 0 ≤ k → k + 16 * ((l.length : Int) + szL l) ≤ 4611686018427387904 → ∃ l' k', a8n l.length p.length (p ++ l) k = (p ++ l', k') ∧ k ≤ k' ∧ k' ≤ k + 16 * ((l.length : Int) + szL l) ∧ a7f l' k = .nxt k'
 | [], p, k, _, _ => ⟨[], k, rfl, by omega, by simp [aef], rfl⟩
 | e :: l, p, k, h0, hb => by
  rw [adr, List.length_cons] at hb
  have w1 := aft (x := k) (by omega) (by omega)
  obtain ⟨l', k', r1, r2, r3, r4⟩ := ar3 l (p ++ [(toU8 k)]) (k + 1) (by omega) (by omega)
  rw [ady] at r1
  exact ⟨_ :: l', k', by simp only [List.length_cons, a8n, mid, aev, w1]; rw [r1, adz], by omega, by rw [adr, List.length_cons]; omega, by simp only [a7f, ad2, ade, cond_false, w1]; exact r4⟩
theorem amn (a : (List UInt8)) (k : Int) (h0 : 0 ≤ k) (hb : k + 16 * (sz a : Int) ≤ 4611686018427387904) : MkR k (a03 a k).1 (sz a) (a0s (a03 a k).2 k) := by
 rw [aem] at hb ⊢
 obtain ⟨l', k', r1, r2, r3, r4⟩ := ar3 a [] k h0 (by omega)
 simp only [List.nil_append, List.length_nil] at r1
 simp only [a03, r1, a0s, r4]
 exact ⟨r2, by omega, rfl⟩
theorem aqi (a : DataP) : a40 a a = true := by
 simp only [a40, ad2, ade, cond_false, Bool.not_true, ahp, aw0]
theorem aq2 (a : DataP) : a30 a = a := by
 simp only [a30, ahq, awa]
theorem al8 (a : DataP) (left : Int) (h : GoT.ok 10 a) (h0 : 0 ≤ left) (h1 : left ≤ 1048576) : SzR (a1g a left) left (sz a) := by
 rw [alj]
 unfold a1g
 rcases ag5 a.name left (adm h).1 (by omega) (by omega) with r0 | ⟨q0, r0⟩
 ·rw [r0]; exact .inl rfl
 rw [r0, dF (by omega), cond_false]
 rcases aue a.content (left - (sz a.name : Int)) (adm h).2.1 (by omega) (by omega) with r1 | ⟨q1, r1⟩
 ·rw [r1]; exact .inl rfl
 rw [r1, dF (by omega), cond_false]
 rcases ag5 a.keyName ((left - (sz a.name : Int)) - (sz a.content : Int)) (adm h).2.2.1 (by omega) (by omega) with r2 | ⟨q2, r2⟩
 ·rw [r2]; exact .inl rfl
 rw [r2, dF (by omega), cond_false]
 exact .inr ⟨by omega, by omega⟩
theorem as4 : ∀ (l p : (List DataP)), a6m (p ++ l) l p.length = none
 | [], _ => rfl
 | e :: l, p => by
  have ih := as4 l (p ++ [e])
  rw [adz, ady] at ih
  simp only [a6m, mid, aqi e, Bool.not_true, cond_false]
  exact ih
theorem ati (a : (List DataP)) : a7u a a = true := by
 have h := as4 a []
 simp only [List.nil_append, List.length_nil] at h
 simp only [a7u, ad2, cond_false, h]
theorem arx : ∀ (l p z : (List DataP)), z.length = l.length → a86 l p.length (p ++ z) = p ++ l
 | [], p, [], _ => rfl
 | e :: l, p, y :: z, h => by
  have ih := arx l (p ++ [e]) z (by simpa using h)
  rw [adz p e l, ady] at ih
  simp only [a86, mid, aev, aq2 e]
  exact ih
theorem at8 (a : (List DataP)) : a73 a = a := by
 simp only [a73]
 exact arx a [] _ (by simp)
theorem ana : ∀ (l : (List DataP)) (left : Int), (∀ a ∈ l, GoT.ok 10 a) → 0 ≤ left → left ≤ 1048576 → SzL (a5h l left) left (szL l)
 | [], left, _, h0, _ => .inr ⟨by simp [aef]; omega, by simp [aef, a5h]⟩
 | e :: l, left, hk, h0, h1 => by
  rw [adr]
  unfold a5h
  rcases al8 e left (hk e List.mem_cons_self) h0 h1 with r0 | ⟨q0, r0⟩
  ·rw [r0]; exact .inl rfl
  ·rw [r0, dF (by omega), cond_false]
   rcases ana l (left - (sz e : Int)) (fun a ha => hk a (List.mem_cons_of_mem _ ha)) (by omega) (by omega) with r | ⟨q, r⟩
   ·exact .inl r
   ·exact .inr ⟨by omega, by rw [r]; congr 1; omega⟩
theorem aoy (a : (List DataP)) (left : Int) (h : GoT.ok 10 a) (h0 : 0 ≤ left) (h1 : left ≤ 1048576) : SzR (a1u a left) left (sz a) := by
 have hl : a.length ≤ 9223372036854775807 := h.1
 rw [aem]
 unfold a1u
 rw [afe h0 h1 hl]
 by_cases hc : left - (a.length : Int) < 0
 ·rw [dT hc, cond_true]; exact .inl rfl
 ·rw [dF (by omega), cond_false]
  rcases ana a (left - (a.length : Int)) h.2 (by omega) (by omega) with r | ⟨q, r⟩
  ·rw [r]; exact .inl rfl
  ·rw [r]; exact .inr ⟨by omega, by show left - (a.length : Int) - (szL a : Int) = _; omega⟩
theorem aqo (e : DataP) : sz e = sz e.name.parts + sz e.content + sz e.keyName.parts := by
 simp only [alj, ah1, Nat.add_assoc]
theorem arv : ∀ (l p : (List DataP)) (k : Int), 0 ≤ k → k + 16 * ((l.length : Int) + szL l) ≤ 4611686018427387904 → ∃ l' k', a8o l.length p.length (p ++ l) k = (p ++ l', k') ∧ k ≤ k' ∧ k' ≤ k + 16 * ((l.length : Int) + szL l) ∧ a41 l' k = .nxt k'
 | [], p, k, _, _ => ⟨[], k, rfl, by omega, by simp [aef], rfl⟩
 | e :: l, p, k, h0, hb => by
  rw [adr, List.length_cons] at hb
  have hsz := aqo e
  obtain ⟨k1, s1, m1, p1, q1, e1⟩ := mkE (aez e.name.parts k (by omega) (by omega))
  have d1 := dF (show 0 ≤ k1 by omega)
  obtain ⟨k2, s2, m2, p2, q2, e2⟩ := mkE (amn e.content k1 (by omega) (by omega))
  have d2 := dF (show 0 ≤ k2 by omega)
  obtain ⟨k3, s3, m3, p3, q3, e3⟩ := mkE (aez e.keyName.parts k2 (by omega) (by omega))
  have d3 := dF (show 0 ≤ k3 by omega)
  have w4 := aft (x := k3) (by omega) (by omega)
  have w5 := aft (x := (k3 + 1)) (by omega) (by omega)
  obtain ⟨l', k', r1, r2, r3, r4⟩ := arv l (p ++ [(DataP.mk (Name.mk s1) s2 (Name.mk s3) k3 (k3 + 1))]) ((k3 + 1) + 1) (by omega) (by omega)
  rw [ady] at r1
  exact ⟨_ :: l', k', by simp only [List.length_cons, a8o, mid, aev, m1, m2, m3, w4, w5]; rw [r1, adz], by omega, by rw [adr, List.length_cons]; omega, by simp only [a41, ad2, ade, cond_false, e1, d1, e2, d2, e3, d3, w4, w5]; exact r4⟩
theorem atb (a : (List DataP)) (k : Int) (h0 : 0 ≤ k) (hb : k + 16 * (sz a : Int) ≤ 4611686018427387904) : MkR k (a0d a k).1 (sz a) (a12 (a0d a k).2 k) := by
 rw [aem] at hb ⊢
 obtain ⟨l', k', r1, r2, r3, r4⟩ := arv a [] k h0 (by omega)
 simp only [List.nil_append, List.length_nil] at r1
 simp only [a0d, r1, a12, r4]
 exact ⟨r2, by omega, rfl⟩
theorem aoj (a : TrustPolicy) : a5x a a = true := by
 simp only [a5x, ad2, ade, cond_false, Bool.not_true, axd, awp, aw8, ati]
theorem aon (a : TrustPolicy) : a05 a = a := by
 simp only [a05, ax7, avv, awm, at8]
theorem aij (a : TrustPolicy) (left : Int) (h : GoT.ok 10 a) (h0 : 0 ≤ left) (h1 : left ≤ 1048576) : SzR (a1b a left) left (sz a) := by
 rw [ajy]
 unfold a1b
 rcases av0 a.keys left (acz h).1 (by omega) (by omega) with r0 | ⟨q0, r0⟩
 ·rw [r0]; exact .inl rfl
 rw [r0, dF (by omega), cond_false]
 rcases aua a.rules (left - (sz a.keys : Int)) (acz h).2.1 (by omega) (by omega) with r1 | ⟨q1, r1⟩
 ·rw [r1]; exact .inl rfl
 rw [r1, dF (by omega), cond_false]
 rcases atx a.anchors ((left - (sz a.keys : Int)) - (sz a.rules : Int)) (acz h).2.2.1 (by omega) (by omega) with r2 | ⟨q2, r2⟩
 ·rw [r2]; exact .inl rfl
 rw [r2, dF (by omega), cond_false]
 rcases aoy a.certificates (((left - (sz a.keys : Int)) - (sz a.rules : Int)) - (sz a.anchors : Int)) (acz h).2.2.2 (by omega) (by omega) with r3 | ⟨q3, r3⟩
 ·rw [r3]; exact .inl rfl
 rw [r3, dF (by omega), cond_false]
 exact .inr ⟨by omega, by omega⟩
theorem aot (a : TrustPolicy) (k : Int) (h0 : 0 ≤ k) (hb : k + 16 * (sz a : Int) ≤ 4611686018427387904) : MkR k (a0b a k).1 (sz a) (a1r (a0b a k).2 k) := by
 rw [ajy] at hb ⊢
 obtain ⟨k0, s0, m0, p0, q0, e0⟩ := mkE (axy a.keys k (by omega) (by omega))
 have d0 := dF (show 0 ≤ k0 by omega)
 obtain ⟨k1, s1, m1, p1, q1, e1⟩ := mkE (aw6 a.rules k0 (by omega) (by omega))
 have d1 := dF (show 0 ≤ k1 by omega)
 obtain ⟨k2, s2, m2, p2, q2, e2⟩ := mkE (aw5 a.anchors k1 (by omega) (by omega))
 have d2 := dF (show 0 ≤ k2 by omega)
 obtain ⟨k3, s3, m3, p3, q3, e3⟩ := mkE (atb a.certificates k2 (by omega) (by omega))
 have d3 := dF (show 0 ≤ k3 by omega)
 simp only [a0b, m0, m1, m2, m3, a1r, e0, d0, e1, d1, e2, d2, e3, d3, cond_false]
 exact ⟨by omega, by omega, rfl⟩
theorem aqk (a : TableEntry) : aa0 a a = true := by
 simp only [aa0, ad2, ade, cond_false, Bool.not_true, ahp]
theorem aq3 (a : TableEntry) : a74 a = a := by
 simp only [a74, ahq]
theorem an6 (a : TableEntry) (left : Int) (h : GoT.ok 10 a) (h0 : 0 ≤ left) (h1 : left ≤ 1048576) : SzR (a5i a left) left (sz a) := by
 rw [ai7]
 unfold a5i
 rcases ag5 a.name left (ads h).1 (by omega) (by omega) with r0 | ⟨q0, r0⟩
 ·rw [r0]; exact .inl rfl
 rw [r0, dF (by omega), cond_false]
 exact .inr ⟨by omega, by omega⟩
theorem aj9 : ∀ (l p : (List TableEntry)), a6n (p ++ l) l p.length = none
 | [], _ => rfl
 | e :: l, p => by
  have ih := aj9 l (p ++ [e])
  rw [adz, ady] at ih
  simp only [a6n, mid, aqk e, Bool.not_true, cond_false]
  exact ih
theorem aop (a : (List TableEntry)) : a7v a a = true := by
 have h := aj9 a []
 simp only [List.nil_append, List.length_nil] at h
 simp only [a7v, ad2, cond_false, h]
theorem ais : ∀ (l p z : (List TableEntry)), z.length = l.length → a87 l p.length (p ++ z) = p ++ l
 | [], p, [], _ => rfl
 | e :: l, p, y :: z, h => by
  have ih := ais l (p ++ [e]) z (by simpa using h)
  rw [adz p e l, ady] at ih
  simp only [a87, mid, aev, aq3 e]
  exact ih
theorem aov (a : (List TableEntry)) : a07 a = a := by
 simp only [a07]
 exact ais a [] _ (by simp)
theorem ai1 : ∀ (l : (List TableEntry)) (left : Int), (∀ a ∈ l, GoT.ok 10 a) → 0 ≤ left → left ≤ 1048576 → SzL (a5j l left) left (szL l)
 | [], left, _, h0, _ => .inr ⟨by simp [aef]; omega, by simp [aef, a5j]⟩
 | e :: l, left, hk, h0, h1 => by
  rw [adr]
  unfold a5j
  rcases an6 e left (hk e List.mem_cons_self) h0 h1 with r0 | ⟨q0, r0⟩
  ·rw [r0]; exact .inl rfl
  ·rw [r0, dF (by omega), cond_false]
   rcases ai1 l (left - (sz e : Int)) (fun a ha => hk a (List.mem_cons_of_mem _ ha)) (by omega) (by omega) with r | ⟨q, r⟩
   ·exact .inl r
   ·exact .inr ⟨by omega, by rw [r]; congr 1; omega⟩
theorem aik (a : (List TableEntry)) (left : Int) (h : GoT.ok 10 a) (h0 : 0 ≤ left) (h1 : left ≤ 1048576) : SzR (a2c a left) left (sz a) := by
 have hl : a.length ≤ 9223372036854775807 := h.1
 rw [aem]
 unfold a2c
 rw [afe h0 h1 hl]
 by_cases hc : left - (a.length : Int) < 0
 ·rw [dT hc, cond_true]; exact .inl rfl
 ·rw [dF (by omega), cond_false]
  rcases ai1 a (left - (a.length : Int)) h.2 (by omega) (by omega) with r | ⟨q, r⟩
  ·rw [r]; exact .inl rfl
  ·rw [r]; exact .inr ⟨by omega, by show left - (a.length : Int) - (szL a : Int) = _; omega⟩
theorem akf (e : TableEntry) : sz e = sz e.name.parts := by
 simp only [ai7, ah1, Nat.add_assoc]
theorem aiy : ∀ (l p : (List TableEntry)) (k : Int), 0 ≤ k → k + 16 * ((l.length : Int) + szL l) ≤ 4611686018427387904 → ∃ l' k', a8p l.length p.length (p ++ l) k = (p ++ l', k') ∧ k ≤ k' ∧ k' ≤ k + 16 * ((l.length : Int) + szL l) ∧ a62 l' k = .nxt k'
 | [], p, k, _, _ => ⟨[], k, rfl, by omega, by simp [aef], rfl⟩
 | e :: l, p, k, h0, hb => by
  rw [adr, List.length_cons] at hb
  have hsz := akf e
  obtain ⟨k1, s1, m1, p1, q1, e1⟩ := mkE (aez e.name.parts k (by omega) (by omega))
  have d1 := dF (show 0 ≤ k1 by omega)
  have w2 := aft (x := k1) (by omega) (by omega)
  obtain ⟨l', k', r1, r2, r3, r4⟩ := aiy l (p ++ [(TableEntry.mk (Name.mk s1) k1)]) (k1 + 1) (by omega) (by omega)
  rw [ady] at r1
  exact ⟨_ :: l', k', by simp only [List.length_cons, a8p, mid, aev, m1, w2]; rw [r1, adz], by omega, by rw [adr, List.length_cons]; omega, by simp only [a62, ad2, ade, cond_false, e1, d1, w2]; exact r4⟩
theorem aof (a : (List TableEntry)) (k : Int) (h0 : 0 ≤ k) (hb : k + 16 * (sz a : Int) ≤ 4611686018427387904) : MkR k (a0h a k).1 (sz a) (a2l (a0h a k).2 k) := by
 rw [aem] at hb ⊢
 obtain ⟨l', k', r1, r2, r3, r4⟩ := aiy a [] k h0 (by omega)
 simp only [List.nil_append, List.length_nil] at r1
 simp only [a0h, r1, a2l, r4]
 exact ⟨r2, by omega, rfl⟩
theorem apx (a : CacheEntry) : aa1 a a = true := by
 simp only [aa1, ad2, ade, cond_false, Bool.not_true, aqi]
theorem aq6 (a : CacheEntry) : a75 a = a := by
 simp only [a75, aq2]
theorem ao9 (a : CacheEntry) (left : Int) (h : GoT.ok 10 a) (h0 : 0 ≤ left) (h1 : left ≤ 1048576) : SzR (a5k a left) left (sz a) := by
 rw [alq]
 unfold a5k
 rcases al8 a.data left (aed h).1 (by omega) (by omega) with r0 | ⟨q0, r0⟩
 ·rw [r0]; exact .inl rfl
 rw [r0, dF (by omega), cond_false]
 exact .inr ⟨by omega, by omega⟩
theorem aj1 : ∀ (l p : (List CacheEntry)), a6o (p ++ l) l p.length = none
 | [], _ => rfl
 | e :: l, p => by
  have ih := aj1 l (p ++ [e])
  rw [adz, ady] at ih
  simp only [a6o, mid, apx e, Bool.not_true, cond_false]
  exact ih
theorem aow (a : (List CacheEntry)) : aa2 a a = true := by
 have h := aj1 a []
 simp only [List.nil_append, List.length_nil] at h
 simp only [aa2, ad2, cond_false, h]
theorem aj8 : ∀ (l p z : (List CacheEntry)), z.length = l.length → a88 l p.length (p ++ z) = p ++ l
 | [], p, [], _ => rfl
 | e :: l, p, y :: z, h => by
  have ih := aj8 l (p ++ [e]) z (by simpa using h)
  rw [adz p e l, ady] at ih
  simp only [a88, mid, aev, aq6 e]
  exact ih
theorem aoq (a : (List CacheEntry)) : aaj a = a := by
 simp only [aaj]
 exact aj8 a [] _ (by simp)
theorem ahv : ∀ (l : (List CacheEntry)) (left : Int), (∀ a ∈ l, GoT.ok 10 a) → 0 ≤ left → left ≤ 1048576 → SzL (a5l l left) left (szL l)
 | [], left, _, h0, _ => .inr ⟨by simp [aef]; omega, by simp [aef, a5l]⟩
 | e :: l, left, hk, h0, h1 => by
  rw [adr]
  unfold a5l
  rcases ao9 e left (hk e List.mem_cons_self) h0 h1 with r0 | ⟨q0, r0⟩
  ·rw [r0]; exact .inl rfl
  ·rw [r0, dF (by omega), cond_false]
   rcases ahv l (left - (sz e : Int)) (fun a ha => hk a (List.mem_cons_of_mem _ ha)) (by omega) (by omega) with r | ⟨q, r⟩
   ·exact .inl r
   ·exact .inr ⟨by omega, by rw [r]; congr 1; omega⟩
theorem amk (a : (List CacheEntry)) (left : Int) (h : GoT.ok 10 a) (h0 : 0 ≤ left) (h1 : left ≤ 1048576) : SzR (a49 a left) left (sz a) := by
 have hl : a.length ≤ 9223372036854775807 := h.1
 rw [aem]
 unfold a49
 rw [afe h0 h1 hl]
 by_cases hc : left - (a.length : Int) < 0
 ·rw [dT hc, cond_true]; exact .inl rfl
 ·rw [dF (by omega), cond_false]
  rcases ahv a (left - (a.length : Int)) h.2 (by omega) (by omega) with r | ⟨q, r⟩
  ·rw [r]; exact .inl rfl
  ·rw [r]; exact .inr ⟨by omega, by show left - (a.length : Int) - (szL a : Int) = _; omega⟩
theorem akg (e : CacheEntry) : sz e = sz e.data.name.parts + sz e.data.content + sz e.data.keyName.parts := by
 simp only [alq, alj, ah1, Nat.add_assoc]
theorem aj5 : ∀ (l p : (List CacheEntry)) (k : Int), 0 ≤ k → k + 16 * ((l.length : Int) + szL l) ≤ 4611686018427387904 → ∃ l' k', a8q l.length p.length (p ++ l) k = (p ++ l', k') ∧ k ≤ k' ∧ k' ≤ k + 16 * ((l.length : Int) + szL l) ∧ a3k l' k = .nxt k'
 | [], p, k, _, _ => ⟨[], k, rfl, by omega, by simp [aef], rfl⟩
 | e :: l, p, k, h0, hb => by
  rw [adr, List.length_cons] at hb
  have hsz := akg e
  obtain ⟨k1, s1, m1, p1, q1, e1⟩ := mkE (aez e.data.name.parts k (by omega) (by omega))
  have d1 := dF (show 0 ≤ k1 by omega)
  obtain ⟨k2, s2, m2, p2, q2, e2⟩ := mkE (amn e.data.content k1 (by omega) (by omega))
  have d2 := dF (show 0 ≤ k2 by omega)
  obtain ⟨k3, s3, m3, p3, q3, e3⟩ := mkE (aez e.data.keyName.parts k2 (by omega) (by omega))
  have d3 := dF (show 0 ≤ k3 by omega)
  have w4 := aft (x := k3) (by omega) (by omega)
  have w5 := aft (x := (k3 + 1)) (by omega) (by omega)
  have w6 := aft (x := ((k3 + 1) + 1)) (by omega) (by omega)
  obtain ⟨l', k', r1, r2, r3, r4⟩ := aj5 l (p ++ [(CacheEntry.mk (DataP.mk (Name.mk s1) s2 (Name.mk s3) k3 (k3 + 1)) ((k3 + 1) + 1))]) (((k3 + 1) + 1) + 1) (by omega) (by omega)
  rw [ady] at r1
  exact ⟨_ :: l', k', by simp only [List.length_cons, a8q, mid, aev, m1, m2, m3, w4, w5, w6]; rw [r1, adz], by omega, by rw [adr, List.length_cons]; omega, by simp only [a3k, ad2, ade, cond_false, e1, d1, e2, d2, e3, d3, w4, w5, w6]; exact r4⟩
theorem aod (a : (List CacheEntry)) (k : Int) (h0 : 0 ≤ k) (hb : k + 16 * (sz a : Int) ≤ 4611686018427387904) : MkR k (a0i a k).1 (sz a) (a16 (a0i a k).2 k) := by
 rw [aem] at hb ⊢
 obtain ⟨l', k', r1, r2, r3, r4⟩ := aj5 a [] k h0 (by omega)
 simp only [List.nil_append, List.length_nil] at r1
 simp only [a0i, r1, a16, r4]
 exact ⟨r2, by omega, rfl⟩
theorem ao6 (a : ContentStore) : aa3 a a = true := by
 simp only [aa3, ad2, ade, cond_false, Bool.not_true, aow]
theorem an9 (a : ContentStore) : aak a = a := by
 simp only [aak, aoq]
theorem aly (a : ContentStore) (left : Int) (h : GoT.ok 10 a) (h0 : 0 ≤ left) (h1 : left ≤ 1048576) : SzR (a3h a left) left (sz a) := by
 rw [aj4]
 unfold a3h
 rcases amk a.entries left (aei h).2 (by omega) (by omega) with r0 | ⟨q0, r0⟩
 ·rw [r0]; exact .inl rfl
 rw [r0, dF (by omega), cond_false]
 exact .inr ⟨by omega, by omega⟩
theorem aqx (a : Requester) : a7w a a = true := by
 simp only [a7w, ad2, ade, cond_false, Bool.not_true]
theorem ark (a : Requester) : a4i a = a := by
 simp only [a4i]
theorem ajt : ∀ (l p : (List Requester)), a6p (p ++ l) l p.length = none
 | [], _ => rfl
 | e :: l, p => by
  have ih := ajt l (p ++ [e])
  rw [adz, ady] at ih
  simp only [a6p, mid, aqx e, Bool.not_true, cond_false]
  exact ih
theorem aqe (a : (List Requester)) : aa4 a a = true := by
 have h := ajt a []
 simp only [List.nil_append, List.length_nil] at h
 simp only [aa4, ad2, cond_false, h]
theorem ak1 : ∀ (l p z : (List Requester)), z.length = l.length → a89 l p.length (p ++ z) = p ++ l
 | [], p, [], _ => rfl
 | e :: l, p, y :: z, h => by
  have ih := ak1 l (p ++ [e]) z (by simpa using h)
  rw [adz p e l, ady] at ih
  simp only [a89, mid, aev, ark e]
  exact ih
theorem apy (a : (List Requester)) : aal a = a := by
 simp only [aal]
 exact ak1 a [] _ (by simp)
theorem ao1 (a : (List Requester)) (left : Int) (h : GoT.ok 10 a) (h0 : 0 ≤ left) (h1 : left ≤ 1048576) : SzR (a5m a left) left (sz a) := by
 have hl : a.length ≤ 9223372036854775807 := h.1
 rw [aem, alc (fun b => amc b)]
 unfold a5m
 rw [afe h0 h1 hl]
 by_cases hc : left - (a.length : Int) < 0
 ·rw [dT hc, cond_true]; exact .inl rfl
 ·rw [dF (by omega), cond_false]; exact .inr ⟨by omega, rfl⟩
theorem akp (e : Requester) : sz e = 0 := by
 simp only [amc, Nat.add_assoc]
theorem ajs : ∀ (l p : (List Requester)) (k : Int), 0 ≤ k → k + 16 * ((l.length : Int) + szL l) ≤ 4611686018427387904 → ∃ l' k', a8r l.length p.length (p ++ l) k = (p ++ l', k') ∧ k ≤ k' ∧ k' ≤ k + 16 * ((l.length : Int) + szL l) ∧ a4x l' k = .nxt k'
 | [], p, k, _, _ => ⟨[], k, rfl, by omega, by simp [aef], rfl⟩
 | e :: l, p, k, h0, hb => by
  rw [adr, List.length_cons] at hb
  have hsz := akp e
  have w1 := aft (x := k) (by omega) (by omega)
  have w2 := aft (x := (k + 1)) (by omega) (by omega)
  have w3 := aft (x := ((k + 1) + 1)) (by omega) (by omega)
  obtain ⟨l', k', r1, r2, r3, r4⟩ := ajs l (p ++ [(Requester.mk k (k + 1) ((k + 1) + 1))]) (((k + 1) + 1) + 1) (by omega) (by omega)
  rw [ady] at r1
  exact ⟨_ :: l', k', by simp only [List.length_cons, a8r, mid, aev, w1, w2, w3]; rw [r1, adz], by omega, by rw [adr, List.length_cons]; omega, by simp only [a4x, ad2, ade, cond_false, w1, w2, w3]; exact r4⟩
theorem aq8 (a : (List Requester)) (k : Int) (h0 : 0 ≤ k) (hb : k + 16 * (sz a : Int) ≤ 4611686018427387904) : MkR k (a1h a k).1 (sz a) (a32 (a1h a k).2 k) := by
 rw [aem] at hb ⊢
 obtain ⟨l', k', r1, r2, r3, r4⟩ := ajs a [] k h0 (by omega)
 simp only [List.nil_append, List.length_nil] at r1
 simp only [a1h, r1, a32, r4]
 exact ⟨r2, by omega, rfl⟩
theorem alr (a : PendingInterest) : a7x a a = true := by
 simp only [a7x, ad2, ade, cond_false, Bool.not_true, ahp, aqe]
theorem akw (a : PendingInterest) : a76 a = a := by
 simp only [a76, ahq, apy]
theorem ajr (a : PendingInterest) (left : Int) (h : GoT.ok 10 a) (h0 : 0 ≤ left) (h1 : left ≤ 1048576) : SzR (a4a a left) left (sz a) := by
 rw [ahi]
 unfold a4a
 rcases ag5 a.name left (ad9 h).1 (by omega) (by omega) with r0 | ⟨q0, r0⟩
 ·rw [r0]; exact .inl rfl
 rw [r0, dF (by omega), cond_false]
 rcases ao1 a.requesters (left - (sz a.name : Int)) (ad9 h).2.1 (by omega) (by omega) with r1 | ⟨q1, r1⟩
 ·rw [r1]; exact .inl rfl
 rw [r1, dF (by omega), cond_false]
 exact .inr ⟨by omega, by omega⟩
theorem ah3 : ∀ (l p : (List PendingInterest)), a6q (p ++ l) l p.length = none
 | [], _ => rfl
 | e :: l, p => by
  have ih := ah3 l (p ++ [e])
  rw [adz, ady] at ih
  simp only [a6q, mid, alr e, Bool.not_true, cond_false]
  exact ih
theorem ake (a : (List PendingInterest)) : aa5 a a = true := by
 have h := ah3 a []
 simp only [List.nil_append, List.length_nil] at h
 simp only [aa5, ad2, cond_false, h]
theorem ah2 : ∀ (l p z : (List PendingInterest)), z.length = l.length → a8a l p.length (p ++ z) = p ++ l
 | [], p, [], _ => rfl
 | e :: l, p, y :: z, h => by
  have ih := ah2 l (p ++ [e]) z (by simpa using h)
  rw [adz p e l, ady] at ih
  simp only [a8a, mid, aev, akw e]
  exact ih
theorem akh (a : (List PendingInterest)) : aam a = a := by
 simp only [aam]
 exact ah2 a [] _ (by simp)
theorem agq : ∀ (l : (List PendingInterest)) (left : Int), (∀ a ∈ l, GoT.ok 10 a) → 0 ≤ left → left ≤ 1048576 → SzL (a5n l left) left (szL l)
 | [], left, _, h0, _ => .inr ⟨by simp [aef]; omega, by simp [aef, a5n]⟩
 | e :: l, left, hk, h0, h1 => by
  rw [adr]
  unfold a5n
  rcases ajr e left (hk e List.mem_cons_self) h0 h1 with r0 | ⟨q0, r0⟩
  ·rw [r0]; exact .inl rfl
  ·rw [r0, dF (by omega), cond_false]
   rcases agq l (left - (sz e : Int)) (fun a ha => hk a (List.mem_cons_of_mem _ ha)) (by omega) (by omega) with r | ⟨q, r⟩
   ·exact .inl r
   ·exact .inr ⟨by omega, by rw [r]; congr 1; omega⟩
theorem aj7 (a : (List PendingInterest)) (left : Int) (h : GoT.ok 10 a) (h0 : 0 ≤ left) (h1 : left ≤ 1048576) : SzR (a2y a left) left (sz a) := by
 have hl : a.length ≤ 9223372036854775807 := h.1
 rw [aem]
 unfold a2y
 rw [afe h0 h1 hl]
 by_cases hc : left - (a.length : Int) < 0
 ·rw [dT hc, cond_true]; exact .inl rfl
 ·rw [dF (by omega), cond_false]
  rcases agq a (left - (a.length : Int)) h.2 (by omega) (by omega) with r | ⟨q, r⟩
  ·rw [r]; exact .inl rfl
  ·rw [r]; exact .inr ⟨by omega, by show left - (a.length : Int) - (szL a : Int) = _; omega⟩
theorem ahx (e : PendingInterest) : sz e = sz e.name.parts + sz e.requesters := by
 simp only [ahi, ah1, Nat.add_assoc]
theorem ah5 : ∀ (l p : (List PendingInterest)) (k : Int), 0 ≤ k → k + 16 * ((l.length : Int) + szL l) ≤ 4611686018427387904 → ∃ l' k', a8s l.length p.length (p ++ l) k = (p ++ l', k') ∧ k ≤ k' ∧ k' ≤ k + 16 * ((l.length : Int) + szL l) ∧ a4y l' k = .nxt k'
 | [], p, k, _, _ => ⟨[], k, rfl, by omega, by simp [aef], rfl⟩
 | e :: l, p, k, h0, hb => by
  rw [adr, List.length_cons] at hb
  have hsz := ahx e
  obtain ⟨k1, s1, m1, p1, q1, e1⟩ := mkE (aez e.name.parts k (by omega) (by omega))
  have d1 := dF (show 0 ≤ k1 by omega)
  obtain ⟨k2, s2, m2, p2, q2, e2⟩ := mkE (aq8 e.requesters k1 (by omega) (by omega))
  have d2 := dF (show 0 ≤ k2 by omega)
  have w3 := aft (x := k2) (by omega) (by omega)
  obtain ⟨l', k', r1, r2, r3, r4⟩ := ah5 l (p ++ [(PendingInterest.mk (Name.mk s1) s2 k2)]) (k2 + 1) (by omega) (by omega)
  rw [ady] at r1
  exact ⟨_ :: l', k', by simp only [List.length_cons, a8s, mid, aev, m1, m2, w3]; rw [r1, adz], by omega, by rw [adr, List.length_cons]; omega, by simp only [a4y, ad2, ade, cond_false, e1, d1, e2, d2, w3]; exact r4⟩
theorem akc (a : (List PendingInterest)) (k : Int) (h0 : 0 ≤ k) (hb : k + 16 * (sz a : Int) ≤ 4611686018427387904) : MkR k (a0l a k).1 (sz a) (a25 (a0l a k).2 k) := by
 rw [aem] at hb ⊢
 obtain ⟨l', k', r1, r2, r3, r4⟩ := ah5 a [] k h0 (by omega)
 simp only [List.nil_append, List.length_nil] at r1
 simp only [a0l, r1, a25, r4]
 exact ⟨r2, by omega, rfl⟩
theorem ar6 (a : SeenNonce) : aa6 a a = true := by
 simp only [aa6, ad2, ade, cond_false, Bool.not_true, ahp]
theorem arw (a : SeenNonce) : a77 a = a := by
 simp only [a77, ahq]
theorem aos (a : SeenNonce) (left : Int) (h : GoT.ok 10 a) (h0 : 0 ≤ left) (h1 : left ≤ 1048576) : SzR (a5o a left) left (sz a) := by
 rw [amd]
 unfold a5o
 rcases ag5 a.name left (af1 h).1 (by omega) (by omega) with r0 | ⟨q0, r0⟩
 ·rw [r0]; exact .inl rfl
 rw [r0, dF (by omega), cond_false]
 exact .inr ⟨by omega, by omega⟩
theorem ajv : ∀ (l p : (List SeenNonce)), a6r (p ++ l) l p.length = none
 | [], _ => rfl
 | e :: l, p => by
  have ih := ajv l (p ++ [e])
  rw [adz, ady] at ih
  simp only [a6r, mid, ar6 e, Bool.not_true, cond_false]
  exact ih
theorem aqa (a : (List SeenNonce)) : aa7 a a = true := by
 have h := ajv a []
 simp only [List.nil_append, List.length_nil] at h
 simp only [aa7, ad2, cond_false, h]
theorem ak0 : ∀ (l p z : (List SeenNonce)), z.length = l.length → a8b l p.length (p ++ z) = p ++ l
 | [], p, [], _ => rfl
 | e :: l, p, y :: z, h => by
  have ih := ak0 l (p ++ [e]) z (by simpa using h)
  rw [adz p e l, ady] at ih
  simp only [a8b, mid, aev, arw e]
  exact ih
theorem aqc (a : (List SeenNonce)) : aan a = a := by
 simp only [aan]
 exact ak0 a [] _ (by simp)
theorem aii : ∀ (l : (List SeenNonce)) (left : Int), (∀ a ∈ l, GoT.ok 10 a) → 0 ≤ left → left ≤ 1048576 → SzL (a5p l left) left (szL l)
 | [], left, _, h0, _ => .inr ⟨by simp [aef]; omega, by simp [aef, a5p]⟩
 | e :: l, left, hk, h0, h1 => by
  rw [adr]
  unfold a5p
  rcases aos e left (hk e List.mem_cons_self) h0 h1 with r0 | ⟨q0, r0⟩
  ·rw [r0]; exact .inl rfl
  ·rw [r0, dF (by omega), cond_false]
   rcases aii l (left - (sz e : Int)) (fun a ha => hk a (List.mem_cons_of_mem _ ha)) (by omega) (by omega) with r | ⟨q, r⟩
   ·exact .inl r
   ·exact .inr ⟨by omega, by rw [r]; congr 1; omega⟩
theorem ao2 (a : (List SeenNonce)) (left : Int) (h : GoT.ok 10 a) (h0 : 0 ≤ left) (h1 : left ≤ 1048576) : SzR (a3i a left) left (sz a) := by
 have hl : a.length ≤ 9223372036854775807 := h.1
 rw [aem]
 unfold a3i
 rw [afe h0 h1 hl]
 by_cases hc : left - (a.length : Int) < 0
 ·rw [dT hc, cond_true]; exact .inl rfl
 ·rw [dF (by omega), cond_false]
  rcases aii a (left - (a.length : Int)) h.2 (by omega) (by omega) with r | ⟨q, r⟩
  ·rw [r]; exact .inl rfl
  ·rw [r]; exact .inr ⟨by omega, by show left - (a.length : Int) - (szL a : Int) = _; omega⟩
theorem al6 (e : SeenNonce) : sz e = sz e.name.parts := by
 simp only [amd, ah1, Nat.add_assoc]
theorem ak2 : ∀ (l p : (List SeenNonce)) (k : Int), 0 ≤ k → k + 16 * ((l.length : Int) + szL l) ≤ 4611686018427387904 → ∃ l' k', a8t l.length p.length (p ++ l) k = (p ++ l', k') ∧ k ≤ k' ∧ k' ≤ k + 16 * ((l.length : Int) + szL l) ∧ a63 l' k = .nxt k'
 | [], p, k, _, _ => ⟨[], k, rfl, by omega, by simp [aef], rfl⟩
 | e :: l, p, k, h0, hb => by
  rw [adr, List.length_cons] at hb
  have hsz := al6 e
  obtain ⟨k1, s1, m1, p1, q1, e1⟩ := mkE (aez e.name.parts k (by omega) (by omega))
  have d1 := dF (show 0 ≤ k1 by omega)
  have w2 := aft (x := k1) (by omega) (by omega)
  obtain ⟨l', k', r1, r2, r3, r4⟩ := ak2 l (p ++ [(SeenNonce.mk (Name.mk s1) k1)]) (k1 + 1) (by omega) (by omega)
  rw [ady] at r1
  exact ⟨_ :: l', k', by simp only [List.length_cons, a8t, mid, aev, m1, w2]; rw [r1, adz], by omega, by rw [adr, List.length_cons]; omega, by simp only [a63, ad2, ade, cond_false, e1, d1, w2]; exact r4⟩
theorem apu (a : (List SeenNonce)) (k : Int) (h0 : 0 ≤ k) (hb : k + 16 * (sz a : Int) ≤ 4611686018427387904) : MkR k (a0n a k).1 (sz a) (a33 (a0n a k).2 k) := by
 rw [aem] at hb ⊢
 obtain ⟨l', k', r1, r2, r3, r4⟩ := ak2 a [] k h0 (by omega)
 simp only [List.nil_append, List.length_nil] at r1
 simp only [a0n, r1, a33, r4]
 exact ⟨r2, by omega, rfl⟩
theorem avy (a : Route) : a7y a a = true := by
 simp only [a7y, ad2, ade, cond_false, Bool.not_true, ahp]
theorem aw1 (a : Route) : a78 a = a := by
 simp only [a78, ahq]
theorem atu (a : Route) (left : Int) (h : GoT.ok 10 a) (h0 : 0 ≤ left) (h1 : left ≤ 1048576) : SzR (a5q a left) left (sz a) := by
 rw [ako]
 unfold a5q
 rcases ag5 a.pfx left (adk h).1 (by omega) (by omega) with r0 | ⟨q0, r0⟩
 ·rw [r0]; exact .inl rfl
 rw [r0, dF (by omega), cond_false]
 exact .inr ⟨by omega, by omega⟩
theorem ap5 : ∀ (l p : (List Route)), a6s (p ++ l) l p.length = none
 | [], _ => rfl
 | e :: l, p => by
  have ih := ap5 l (p ++ [e])
  rw [adz, ady] at ih
  simp only [a6s, mid, avy e, Bool.not_true, cond_false]
  exact ih
theorem avg (a : (List Route)) : aa8 a a = true := by
 have h := ap5 a []
 simp only [List.nil_append, List.length_nil] at h
 simp only [aa8, ad2, cond_false, h]
theorem apk : ∀ (l p z : (List Route)), z.length = l.length → a8c l p.length (p ++ z) = p ++ l
 | [], p, [], _ => rfl
 | e :: l, p, y :: z, h => by
  have ih := apk l (p ++ [e]) z (by simpa using h)
  rw [adz p e l, ady] at ih
  simp only [a8c, mid, aev, aw1 e]
  exact ih
theorem avc (a : (List Route)) : aao a = a := by
 simp only [aao]
 exact apk a [] _ (by simp)
theorem amh : ∀ (l : (List Route)) (left : Int), (∀ a ∈ l, GoT.ok 10 a) → 0 ≤ left → left ≤ 1048576 → SzL (a5r l left) left (szL l)
 | [], left, _, h0, _ => .inr ⟨by simp [aef]; omega, by simp [aef, a5r]⟩
 | e :: l, left, hk, h0, h1 => by
  rw [adr]
  unfold a5r
  rcases atu e left (hk e List.mem_cons_self) h0 h1 with r0 | ⟨q0, r0⟩
  ·rw [r0]; exact .inl rfl
  ·rw [r0, dF (by omega), cond_false]
   rcases amh l (left - (sz e : Int)) (fun a ha => hk a (List.mem_cons_of_mem _ ha)) (by omega) (by omega) with r | ⟨q, r⟩
   ·exact .inl r
   ·exact .inr ⟨by omega, by rw [r]; congr 1; omega⟩
theorem ast (a : (List Route)) (left : Int) (h : GoT.ok 10 a) (h0 : 0 ≤ left) (h1 : left ≤ 1048576) : SzR (a3y a left) left (sz a) := by
 have hl : a.length ≤ 9223372036854775807 := h.1
 rw [aem]
 unfold a3y
 rw [afe h0 h1 hl]
 by_cases hc : left - (a.length : Int) < 0
 ·rw [dT hc, cond_true]; exact .inl rfl
 ·rw [dF (by omega), cond_false]
  rcases amh a (left - (a.length : Int)) h.2 (by omega) (by omega) with r | ⟨q, r⟩
  ·rw [r]; exact .inl rfl
  ·rw [r]; exact .inr ⟨by omega, by show left - (a.length : Int) - (szL a : Int) = _; omega⟩
theorem aox (e : Route) : sz e = sz e.pfx.parts := by
 simp only [ako, ah1, Nat.add_assoc]
theorem ap3 : ∀ (l p : (List Route)) (k : Int), 0 ≤ k → k + 16 * ((l.length : Int) + szL l) ≤ 4611686018427387904 → ∃ l' k', a8u l.length p.length (p ++ l) k = (p ++ l', k') ∧ k ≤ k' ∧ k' ≤ k + 16 * ((l.length : Int) + szL l) ∧ a4z l' k = .nxt k'
 | [], p, k, _, _ => ⟨[], k, rfl, by omega, by simp [aef], rfl⟩
 | e :: l, p, k, h0, hb => by
  rw [adr, List.length_cons] at hb
  have hsz := aox e
  obtain ⟨k1, s1, m1, p1, q1, e1⟩ := mkE (aez e.pfx.parts k (by omega) (by omega))
  have d1 := dF (show 0 ≤ k1 by omega)
  have w2 := aft (x := k1) (by omega) (by omega)
  have w3 := aft (x := (k1 + 1)) (by omega) (by omega)
  obtain ⟨l', k', r1, r2, r3, r4⟩ := ap3 l (p ++ [(Route.mk (Name.mk s1) k1 (k1 + 1))]) ((k1 + 1) + 1) (by omega) (by omega)
  rw [ady] at r1
  exact ⟨_ :: l', k', by simp only [List.length_cons, a8u, mid, aev, m1, w2, w3]; rw [r1, adz], by omega, by rw [adr, List.length_cons]; omega, by simp only [a4z, ad2, ade, cond_false, e1, d1, w2, w3]; exact r4⟩
theorem av1 (a : (List Route)) (k : Int) (h0 : 0 ≤ k) (hb : k + 16 * (sz a : Int) ≤ 4611686018427387904) : MkR k (a0x a k).1 (sz a) (a2m (a0x a k).2 k) := by
 rw [aem] at hb ⊢
 obtain ⟨l', k', r1, r2, r3, r4⟩ := ap3 a [] k h0 (by omega)
 simp only [List.nil_append, List.length_nil] at r1
 simp only [a0x, r1, a2m, r4]
 exact ⟨r2, by omega, rfl⟩
theorem aoi (a : Measurement) : a7z a a = true := by
 simp only [a7z, ad2, ade, cond_false, Bool.not_true, ahp]
theorem aok (a : Measurement) : a79 a = a := by
 simp only [a79, ahq]
theorem aml (a : Measurement) (left : Int) (h : GoT.ok 10 a) (h0 : 0 ≤ left) (h1 : left ≤ 1048576) : SzR (a5s a left) left (sz a) := by
 rw [ajw]
 unfold a5s
 rcases ag5 a.pfx left (ae3 h).1 (by omega) (by omega) with r0 | ⟨q0, r0⟩
 ·rw [r0]; exact .inl rfl
 rw [r0, dF (by omega), cond_false]
 exact .inr ⟨by omega, by omega⟩
theorem aig : ∀ (l p : (List Measurement)), a6t (p ++ l) l p.length = none
 | [], _ => rfl
 | e :: l, p => by
  have ih := aig l (p ++ [e])
  rw [adz, ady] at ih
  simp only [a6t, mid, aoi e, Bool.not_true, cond_false]
  exact ih
theorem amw (a : (List Measurement)) : aa9 a a = true := by
 have h := aig a []
 simp only [List.nil_append, List.length_nil] at h
 simp only [aa9, ad2, cond_false, h]
theorem aim : ∀ (l p z : (List Measurement)), z.length = l.length → a8d l p.length (p ++ z) = p ++ l
 | [], p, [], _ => rfl
 | e :: l, p, y :: z, h => by
  have ih := aim l (p ++ [e]) z (by simpa using h)
  rw [adz p e l, ady] at ih
  simp only [a8d, mid, aev, aok e]
  exact ih
theorem ans (a : (List Measurement)) : aap a = a := by
 simp only [aap]
 exact aim a [] _ (by simp)
theorem ahm : ∀ (l : (List Measurement)) (left : Int), (∀ a ∈ l, GoT.ok 10 a) → 0 ≤ left → left ≤ 1048576 → SzL (a5t l left) left (szL l)
 | [], left, _, h0, _ => .inr ⟨by simp [aef]; omega, by simp [aef, a5t]⟩
 | e :: l, left, hk, h0, h1 => by
  rw [adr]
  unfold a5t
  rcases aml e left (hk e List.mem_cons_self) h0 h1 with r0 | ⟨q0, r0⟩
  ·rw [r0]; exact .inl rfl
  ·rw [r0, dF (by omega), cond_false]
   rcases ahm l (left - (sz e : Int)) (fun a ha => hk a (List.mem_cons_of_mem _ ha)) (by omega) (by omega) with r | ⟨q, r⟩
   ·exact .inl r
   ·exact .inr ⟨by omega, by rw [r]; congr 1; omega⟩
theorem am0 (a : (List Measurement)) (left : Int) (h : GoT.ok 10 a) (h0 : 0 ≤ left) (h1 : left ≤ 1048576) : SzR (a4b a left) left (sz a) := by
 have hl : a.length ≤ 9223372036854775807 := h.1
 rw [aem]
 unfold a4b
 rw [afe h0 h1 hl]
 by_cases hc : left - (a.length : Int) < 0
 ·rw [dT hc, cond_true]; exact .inl rfl
 ·rw [dF (by omega), cond_false]
  rcases ahm a (left - (a.length : Int)) h.2 (by omega) (by omega) with r | ⟨q, r⟩
  ·rw [r]; exact .inl rfl
  ·rw [r]; exact .inr ⟨by omega, by show left - (a.length : Int) - (szL a : Int) = _; omega⟩
theorem ajm (e : Measurement) : sz e = sz e.pfx.parts := by
 simp only [ajw, ah1, Nat.add_assoc]
theorem ail : ∀ (l p : (List Measurement)) (k : Int), 0 ≤ k → k + 16 * ((l.length : Int) + szL l) ≤ 4611686018427387904 → ∃ l' k', a8v l.length p.length (p ++ l) k = (p ++ l', k') ∧ k ≤ k' ∧ k' ≤ k + 16 * ((l.length : Int) + szL l) ∧ a50 l' k = .nxt k'
 | [], p, k, _, _ => ⟨[], k, rfl, by omega, by simp [aef], rfl⟩
 | e :: l, p, k, h0, hb => by
  rw [adr, List.length_cons] at hb
  have hsz := ajm e
  obtain ⟨k1, s1, m1, p1, q1, e1⟩ := mkE (aez e.pfx.parts k (by omega) (by omega))
  have d1 := dF (show 0 ≤ k1 by omega)
  have w2 := aft (x := k1) (by omega) (by omega)
  have w3 := aft (x := (k1 + 1)) (by omega) (by omega)
  obtain ⟨l', k', r1, r2, r3, r4⟩ := ail l (p ++ [(Measurement.mk (Name.mk s1) k1 (k1 + 1))]) ((k1 + 1) + 1) (by omega) (by omega)
  rw [ady] at r1
  exact ⟨_ :: l', k', by simp only [List.length_cons, a8v, mid, aev, m1, w2, w3]; rw [r1, adz], by omega, by rw [adr, List.length_cons]; omega, by simp only [a50, ad2, ade, cond_false, e1, d1, w2, w3]; exact r4⟩
theorem ani (a : (List Measurement)) (k : Int) (h0 : 0 ≤ k) (hb : k + 16 * (sz a : Int) ≤ 4611686018427387904) : MkR k (a1i a k).1 (sz a) (a34 (a1i a k).2 k) := by
 rw [aem] at hb ⊢
 obtain ⟨l', k', r1, r2, r3, r4⟩ := ail a [] k h0 (by omega)
 simp only [List.nil_append, List.length_nil] at r1
 simp only [a1i, r1, a34, r4]
 exact ⟨r2, by omega, rfl⟩
theorem axk (a : NodeP) : a4g a a = true := by
 simp only [a4g, ad2, ade, cond_false, Bool.not_true, ati, ao6, ake, aqa, avg, amw]
theorem axh (a : NodeP) : a7a a = a := by
 simp only [a7a, at8, an9, akh, aqc, avc, ans]
theorem auo (a : NodeP) (left : Int) (h : GoT.ok 10 a) (h0 : 0 ≤ left) (h1 : left ≤ 1048576) : SzR (a1v a left) left (sz a) := by
 rw [amr]
 unfold a1v
 rcases aoy a.locl left (ad7 h).1 (by omega) (by omega) with r0 | ⟨q0, r0⟩
 ·rw [r0]; exact .inl rfl
 rw [r0, dF (by omega), cond_false]
 rcases aly a.cache (left - (sz a.locl : Int)) (ad7 h).2.1 (by omega) (by omega) with r1 | ⟨q1, r1⟩
 ·rw [r1]; exact .inl rfl
 rw [r1, dF (by omega), cond_false]
 rcases aj7 a.pending ((left - (sz a.locl : Int)) - (sz a.cache : Int)) (ad7 h).2.2.1 (by omega) (by omega) with r2 | ⟨q2, r2⟩
 ·rw [r2]; exact .inl rfl
 rw [r2, dF (by omega), cond_false]
 rcases ao2 a.seen (((left - (sz a.locl : Int)) - (sz a.cache : Int)) - (sz a.pending : Int)) (ad7 h).2.2.2.1 (by omega) (by omega) with r3 | ⟨q3, r3⟩
 ·rw [r3]; exact .inl rfl
 rw [r3, dF (by omega), cond_false]
 rcases ast a.routes ((((left - (sz a.locl : Int)) - (sz a.cache : Int)) - (sz a.pending : Int)) - (sz a.seen : Int)) (ad7 h).2.2.2.2.1 (by omega) (by omega) with r4 | ⟨q4, r4⟩
 ·rw [r4]; exact .inl rfl
 rw [r4, dF (by omega), cond_false]
 rcases am0 a.measurements (((((left - (sz a.locl : Int)) - (sz a.cache : Int)) - (sz a.pending : Int)) - (sz a.seen : Int)) - (sz a.routes : Int)) (ad7 h).2.2.2.2.2.1 (by omega) (by omega) with r5 | ⟨q5, r5⟩
 ·rw [r5]; exact .inl rfl
 rw [r5, dF (by omega), cond_false]
 exact .inr ⟨by omega, by omega⟩
theorem arb : ∀ (l p : (List NodeP)), a6u (p ++ l) l p.length = none
 | [], _ => rfl
 | e :: l, p => by
  have ih := arb l (p ++ [e])
  rw [adz, ady] at ih
  simp only [a6u, mid, axk e, Bool.not_true, cond_false]
  exact ih
theorem aw4 (a : (List NodeP)) : aaa a a = true := by
 have h := arb a []
 simp only [List.nil_append, List.length_nil] at h
 simp only [aaa, ad2, cond_false, h]
theorem arz : ∀ (l p z : (List NodeP)), z.length = l.length → a8e l p.length (p ++ z) = p ++ l
 | [], p, [], _ => rfl
 | e :: l, p, y :: z, h => by
  have ih := arz l (p ++ [e]) z (by simpa using h)
  rw [adz p e l, ady] at ih
  simp only [a8e, mid, aev, axh e]
  exact ih
theorem awe (a : (List NodeP)) : aaq a = a := by
 simp only [aaq]
 exact arz a [] _ (by simp)
theorem ao3 : ∀ (l : (List NodeP)) (left : Int), (∀ a ∈ l, GoT.ok 10 a) → 0 ≤ left → left ≤ 1048576 → SzL (a5u l left) left (szL l)
 | [], left, _, h0, _ => .inr ⟨by simp [aef]; omega, by simp [aef, a5u]⟩
 | e :: l, left, hk, h0, h1 => by
  rw [adr]
  unfold a5u
  rcases auo e left (hk e List.mem_cons_self) h0 h1 with r0 | ⟨q0, r0⟩
  ·rw [r0]; exact .inl rfl
  ·rw [r0, dF (by omega), cond_false]
   rcases ao3 l (left - (sz e : Int)) (fun a ha => hk a (List.mem_cons_of_mem _ ha)) (by omega) (by omega) with r | ⟨q, r⟩
   ·exact .inl r
   ·exact .inr ⟨by omega, by rw [r]; congr 1; omega⟩
theorem au0 (a : (List NodeP)) (left : Int) (h : GoT.ok 10 a) (h0 : 0 ≤ left) (h1 : left ≤ 1048576) : SzR (a2z a left) left (sz a) := by
 have hl : a.length ≤ 9223372036854775807 := h.1
 rw [aem]
 unfold a2z
 rw [afe h0 h1 hl]
 by_cases hc : left - (a.length : Int) < 0
 ·rw [dT hc, cond_true]; exact .inl rfl
 ·rw [dF (by omega), cond_false]
  rcases ao3 a (left - (a.length : Int)) h.2 (by omega) (by omega) with r | ⟨q, r⟩
  ·rw [r]; exact .inl rfl
  ·rw [r]; exact .inr ⟨by omega, by show left - (a.length : Int) - (szL a : Int) = _; omega⟩
theorem aql (e : NodeP) : sz e = sz e.locl + sz e.cache.entries + sz e.pending + sz e.seen + sz e.routes + sz e.measurements := by
 simp only [amr, aj4, Nat.add_assoc]
theorem arf : ∀ (l p : (List NodeP)) (k : Int), 0 ≤ k → k + 16 * ((l.length : Int) + szL l) ≤ 4611686018427387904 → ∃ l' k', a8w l.length p.length (p ++ l) k = (p ++ l', k') ∧ k ≤ k' ∧ k' ≤ k + 16 * ((l.length : Int) + szL l) ∧ a2n l' k = .nxt k'
 | [], p, k, _, _ => ⟨[], k, rfl, by omega, by simp [aef], rfl⟩
 | e :: l, p, k, h0, hb => by
  rw [adr, List.length_cons] at hb
  have hsz := aql e
  obtain ⟨k1, s1, m1, p1, q1, e1⟩ := mkE (atb e.locl k (by omega) (by omega))
  have d1 := dF (show 0 ≤ k1 by omega)
  have w2 := aft (x := k1) (by omega) (by omega)
  obtain ⟨k3, s3, m3, p3, q3, e3⟩ := mkE (aod e.cache.entries (k1 + 1) (by omega) (by omega))
  have d3 := dF (show 0 ≤ k3 by omega)
  obtain ⟨k4, s4, m4, p4, q4, e4⟩ := mkE (akc e.pending k3 (by omega) (by omega))
  have d4 := dF (show 0 ≤ k4 by omega)
  obtain ⟨k5, s5, m5, p5, q5, e5⟩ := mkE (apu e.seen k4 (by omega) (by omega))
  have d5 := dF (show 0 ≤ k5 by omega)
  obtain ⟨k6, s6, m6, p6, q6, e6⟩ := mkE (av1 e.routes k5 (by omega) (by omega))
  have d6 := dF (show 0 ≤ k6 by omega)
  obtain ⟨k7, s7, m7, p7, q7, e7⟩ := mkE (ani e.measurements k6 (by omega) (by omega))
  have d7 := dF (show 0 ≤ k7 by omega)
  have w8 := aft (x := k7) (by omega) (by omega)
  obtain ⟨l', k', r1, r2, r3, r4⟩ := arf l (p ++ [(NodeP.mk s1 (ContentStore.mk k1 s3) s4 s5 s6 s7 k7)]) (k7 + 1) (by omega) (by omega)
  rw [ady] at r1
  exact ⟨_ :: l', k', by simp only [List.length_cons, a8w, mid, aev, m1, w2, m3, m4, m5, m6, m7, w8]; rw [r1, adz], by omega, by rw [adr, List.length_cons]; omega, by simp only [a2n, ad2, ade, cond_false, e1, d1, w2, e3, d3, e4, d4, e5, d5, e6, d6, e7, d7, w8]; exact r4⟩
theorem awl (a : (List NodeP)) (k : Int) (h0 : 0 ≤ k) (hb : k + 16 * (sz a : Int) ≤ 4611686018427387904) : MkR k (a0k a k).1 (sz a) (a14 (a0k a k).2 k) := by
 rw [aem] at hb ⊢
 obtain ⟨l', k', r1, r2, r3, r4⟩ := arf a [] k h0 (by omega)
 simp only [List.nil_append, List.length_nil] at r1
 simp only [a0k, r1, a14, r4]
 exact ⟨r2, by omega, rfl⟩
theorem at3 : ∀ (l p : (List Int)), a6v (p ++ l) l p.length = none
 | [], _ => rfl
 | e :: l, p => by
  have ih := at3 l (p ++ [e])
  rw [adz, ady] at ih
  simp only [a6v, mid, ad2, ade, cond_false]
  exact ih
theorem axv (a : (List Int)) : aab a a = true := by
 have h := at3 a []
 simp only [List.nil_append, List.length_nil] at h
 simp only [aab, ad2, cond_false, h]
theorem atn : ∀ (l p z : (List Int)), z.length = l.length → a8f l p.length (p ++ z) = p ++ l
 | [], p, [], _ => rfl
 | e :: l, p, y :: z, h => by
  have ih := atn l (p ++ [e]) z (by simpa using h)
  rw [adz p e l, ady] at ih
  simp only [a8f, mid, aev]
  exact ih
theorem axm (a : (List Int)) : aar a = a := by
 simp only [aar]
 exact atn a [] _ (by simp)
theorem avj (a : (List Int)) (left : Int) (h : GoT.ok 10 a) (h0 : 0 ≤ left) (h1 : left ≤ 1048576) : SzR (a4c a left) left (sz a) := by
 have hl : a.length ≤ 9223372036854775807 := h.1
 rw [aem, ax4]
 unfold a4c
 rw [afe h0 h1 hl]
 by_cases hc : left - (a.length : Int) < 0
 ·rw [dT hc, cond_true]; exact .inl rfl
 ·rw [dF (by omega), cond_false]; exact .inr ⟨by omega, rfl⟩
theorem at9 : ∀ (l p : (List Int)) (k : Int), 0 ≤ k → k + 16 * ((l.length : Int) + szL l) ≤ 4611686018427387904 → ∃ l' k', a8x l.length p.length (p ++ l) k = (p ++ l', k') ∧ k ≤ k' ∧ k' ≤ k + 16 * ((l.length : Int) + szL l) ∧ a7g l' k = .nxt k'
 | [], p, k, _, _ => ⟨[], k, rfl, by omega, by simp [aef], rfl⟩
 | e :: l, p, k, h0, hb => by
  rw [adr, List.length_cons] at hb
  have w1 := aft (x := k) (by omega) (by omega)
  obtain ⟨l', k', r1, r2, r3, r4⟩ := at9 l (p ++ [k]) (k + 1) (by omega) (by omega)
  rw [ady] at r1
  exact ⟨_ :: l', k', by simp only [List.length_cons, a8x, mid, aev, w1]; rw [r1, adz], by omega, by rw [adr, List.length_cons]; omega, by simp only [a7g, ad2, ade, cond_false, w1]; exact r4⟩
theorem awx (a : (List Int)) (k : Int) (h0 : 0 ≤ k) (hb : k + 16 * (sz a : Int) ≤ 4611686018427387904) : MkR k (a0o a k).1 (sz a) (a4k (a0o a k).2 k) := by
 rw [aem] at hb ⊢
 obtain ⟨l', k', r1, r2, r3, r4⟩ := at9 a [] k h0 (by omega)
 simp only [List.nil_append, List.length_nil] at r1
 simp only [a0o, r1, a4k, r4]
 exact ⟨r2, by omega, rfl⟩
theorem ask (a : Interest) : a6w a a = true := by
 simp only [a6w, ad2, ade, cond_false, Bool.not_true, ahp]
theorem at1 (a : Interest) : aas a = a := by
 simp only [aas, ahq]
theorem aqh (a : Interest) (left : Int) (h : GoT.ok 10 a) (h0 : 0 ≤ left) (h1 : left ≤ 1048576) : SzR (a4t a left) left (sz a) := by
 rw [anc]
 unfold a4t
 rcases ag5 a.name left (aes h).1 (by omega) (by omega) with r0 | ⟨q0, r0⟩
 ·rw [r0]; exact .inl rfl
 rw [r0, dF (by omega), cond_false]
 exact .inr ⟨by omega, by omega⟩
theorem am7 (a : PacketInFlight) : a5y a a = true := by
 simp only [a5y, ad2, ade, cond_false, Bool.not_true, ask, aqi]
theorem am5 (a : PacketInFlight) : a7b a = a := by
 simp only [a7b, at1, aq2]
theorem ak7 (a : PacketInFlight) (left : Int) (h : GoT.ok 10 a) (h0 : 0 ≤ left) (h1 : left ≤ 1048576) : SzR (a4d a left) left (sz a) := by
 rw [ahw]
 unfold a4d
 rcases aqh a.interest left (ad6 h).2.2.2.1 (by omega) (by omega) with r0 | ⟨q0, r0⟩
 ·rw [r0]; exact .inl rfl
 rw [r0, dF (by omega), cond_false]
 rcases al8 a.data (left - (sz a.interest : Int)) (ad6 h).2.2.2.2 (by omega) (by omega) with r1 | ⟨q1, r1⟩
 ·rw [r1]; exact .inl rfl
 rw [r1, dF (by omega), cond_false]
 exact .inr ⟨by omega, by omega⟩
theorem ah9 : ∀ (l p : (List PacketInFlight)), a6x (p ++ l) l p.length = none
 | [], _ => rfl
 | e :: l, p => by
  have ih := ah9 l (p ++ [e])
  rw [adz, ady] at ih
  simp only [a6x, mid, am7 e, Bool.not_true, cond_false]
  exact ih
theorem aks (a : (List PacketInFlight)) : aac a a = true := by
 have h := ah9 a []
 simp only [List.nil_append, List.length_nil] at h
 simp only [aac, ad2, cond_false, h]
theorem ahg : ∀ (l p z : (List PacketInFlight)), z.length = l.length → a8g l p.length (p ++ z) = p ++ l
 | [], p, [], _ => rfl
 | e :: l, p, y :: z, h => by
  have ih := ahg l (p ++ [e]) z (by simpa using h)
  rw [adz p e l, ady] at ih
  simp only [a8g, mid, aev, am5 e]
  exact ih
theorem alp (a : (List PacketInFlight)) : aat a = a := by
 simp only [aat]
 exact ahg a [] _ (by simp)
theorem agz : ∀ (l : (List PacketInFlight)) (left : Int), (∀ a ∈ l, GoT.ok 10 a) → 0 ≤ left → left ≤ 1048576 → SzL (a5v l left) left (szL l)
 | [], left, _, h0, _ => .inr ⟨by simp [aef]; omega, by simp [aef, a5v]⟩
 | e :: l, left, hk, h0, h1 => by
  rw [adr]
  unfold a5v
  rcases ak7 e left (hk e List.mem_cons_self) h0 h1 with r0 | ⟨q0, r0⟩
  ·rw [r0]; exact .inl rfl
  ·rw [r0, dF (by omega), cond_false]
   rcases agz l (left - (sz e : Int)) (fun a ha => hk a (List.mem_cons_of_mem _ ha)) (by omega) (by omega) with r | ⟨q, r⟩
   ·exact .inl r
   ·exact .inr ⟨by omega, by rw [r]; congr 1; omega⟩
theorem ajo (a : (List PacketInFlight)) (left : Int) (h : GoT.ok 10 a) (h0 : 0 ≤ left) (h1 : left ≤ 1048576) : SzR (a3z a left) left (sz a) := by
 have hl : a.length ≤ 9223372036854775807 := h.1
 rw [aem]
 unfold a3z
 rw [afe h0 h1 hl]
 by_cases hc : left - (a.length : Int) < 0
 ·rw [dT hc, cond_true]; exact .inl rfl
 ·rw [dF (by omega), cond_false]
  rcases agz a (left - (a.length : Int)) h.2 (by omega) (by omega) with r | ⟨q, r⟩
  ·rw [r]; exact .inl rfl
  ·rw [r]; exact .inr ⟨by omega, by show left - (a.length : Int) - (szL a : Int) = _; omega⟩
theorem aie (e : PacketInFlight) : sz e = sz e.interest.name.parts + sz e.data.name.parts + sz e.data.content + sz e.data.keyName.parts := by
 simp only [ahw, anc, ah1, alj, Nat.add_assoc]
theorem ahc : ∀ (l p : (List PacketInFlight)) (k : Int), 0 ≤ k → k + 16 * ((l.length : Int) + szL l) ≤ 4611686018427387904 → ∃ l' k', a8y l.length p.length (p ++ l) k = (p ++ l', k') ∧ k ≤ k' ∧ k' ≤ k + 16 * ((l.length : Int) + szL l) ∧ a1x l' k = .nxt k'
 | [], p, k, _, _ => ⟨[], k, rfl, by omega, by simp [aef], rfl⟩
 | e :: l, p, k, h0, hb => by
  rw [adr, List.length_cons] at hb
  have hsz := aie e
  have w1 := aft (x := k) (by omega) (by omega)
  have w2 := aft (x := (k + 1)) (by omega) (by omega)
  have w3 := aft (x := ((k + 1) + 1)) (by omega) (by omega)
  obtain ⟨k4, s4, m4, p4, q4, e4⟩ := mkE (aez e.interest.name.parts (((k + 1) + 1) + 1) (by omega) (by omega))
  have d4 := dF (show 0 ≤ k4 by omega)
  have w5 := aft (x := k4) (by omega) (by omega)
  have w6 := aft (x := (k4 + 1)) (by omega) (by omega)
  have w7 := aft (x := ((k4 + 1) + 1)) (by omega) (by omega)
  obtain ⟨k8, s8, m8, p8, q8, e8⟩ := mkE (aez e.data.name.parts (((k4 + 1) + 1) + 1) (by omega) (by omega))
  have d8 := dF (show 0 ≤ k8 by omega)
  obtain ⟨k9, s9, m9, p9, q9, e9⟩ := mkE (amn e.data.content k8 (by omega) (by omega))
  have d9 := dF (show 0 ≤ k9 by omega)
  obtain ⟨k10, s10, m10, p10, q10, e10⟩ := mkE (aez e.data.keyName.parts k9 (by omega) (by omega))
  have d10 := dF (show 0 ≤ k10 by omega)
  have w11 := aft (x := k10) (by omega) (by omega)
  have w12 := aft (x := (k10 + 1)) (by omega) (by omega)
  obtain ⟨l', k', r1, r2, r3, r4⟩ := ahc l (p ++ [(PacketInFlight.mk k (k + 1) ((Int.tmod ((k + 1) + 1) 3) == 0) (Interest.mk (Name.mk s4) k4 (k4 + 1) ((k4 + 1) + 1)) (DataP.mk (Name.mk s8) s9 (Name.mk s10) k10 (k10 + 1)))]) ((k10 + 1) + 1) (by omega) (by omega)
  rw [ady] at r1
  exact ⟨_ :: l', k', by simp only [List.length_cons, a8y, mid, aev, w1, w2, w3, m4, w5, w6, w7, m8, m9, m10, w11, w12]; rw [r1, adz], by omega, by rw [adr, List.length_cons]; omega, by simp only [a1x, ad2, ade, cond_false, w1, w2, w3, e4, d4, w5, w6, w7, e8, d8, e9, d9, e10, d10, w11, w12]; exact r4⟩
theorem alk (a : (List PacketInFlight)) (k : Int) (h0 : 0 ≤ k) (hb : k + 16 * (sz a : Int) ≤ 4611686018427387904) : MkR k (a11 a k).1 (sz a) (a0q (a11 a k).2 k) := by
 rw [aem] at hb ⊢
 obtain ⟨l', k', r1, r2, r3, r4⟩ := ahc a [] k h0 (by omega)
 simp only [List.nil_append, List.length_nil] at r1
 simp only [a11, r1, a0q, r4]
 exact ⟨r2, by omega, rfl⟩
theorem asf (a : Consumer) : a4h a a = true := by
 simp only [a4h, ad2, ade, cond_false, Bool.not_true, ahp, aqi]
theorem asr (a : Consumer) : a7c a = a := by
 simp only [a7c, ahq, aq2]
theorem apv (a : Consumer) (left : Int) (h : GoT.ok 10 a) (h0 : 0 ≤ left) (h1 : left ≤ 1048576) : SzR (a4e a left) left (sz a) := by
 rw [anw]
 unfold a4e
 rcases ag5 a.name left (ado h).2.2.1 (by omega) (by omega) with r0 | ⟨q0, r0⟩
 ·rw [r0]; exact .inl rfl
 rw [r0, dF (by omega), cond_false]
 rcases al8 a.data (left - (sz a.name : Int)) (ado h).2.2.2.2.2.2 (by omega) (by omega) with r1 | ⟨q1, r1⟩
 ·rw [r1]; exact .inl rfl
 rw [r1, dF (by omega), cond_false]
 exact .inr ⟨by omega, by omega⟩
theorem akn : ∀ (l p : (List Consumer)), a6y (p ++ l) l p.length = none
 | [], _ => rfl
 | e :: l, p => by
  have ih := akn l (p ++ [e])
  rw [adz, ady] at ih
  simp only [a6y, mid, asf e, Bool.not_true, cond_false]
  exact ih
theorem aqz (a : (List Consumer)) : aad a a = true := by
 have h := akn a []
 simp only [List.nil_append, List.length_nil] at h
 simp only [aad, ad2, cond_false, h]
theorem ale : ∀ (l p z : (List Consumer)), z.length = l.length → a8h l p.length (p ++ z) = p ++ l
 | [], p, [], _ => rfl
 | e :: l, p, y :: z, h => by
  have ih := ale l (p ++ [e]) z (by simpa using h)
  rw [adz p e l, ady] at ih
  simp only [a8h, mid, aev, asr e]
  exact ih
theorem as3 (a : (List Consumer)) : aau a = a := by
 simp only [aau]
 exact ale a [] _ (by simp)
theorem aio : ∀ (l : (List Consumer)) (left : Int), (∀ a ∈ l, GoT.ok 10 a) → 0 ≤ left → left ≤ 1048576 → SzL (a5w l left) left (szL l)
 | [], left, _, h0, _ => .inr ⟨by simp [aef]; omega, by simp [aef, a5w]⟩
 | e :: l, left, hk, h0, h1 => by
  rw [adr]
  unfold a5w
  rcases apv e left (hk e List.mem_cons_self) h0 h1 with r0 | ⟨q0, r0⟩
  ·rw [r0]; exact .inl rfl
  ·rw [r0, dF (by omega), cond_false]
   rcases aio l (left - (sz e : Int)) (fun a ha => hk a (List.mem_cons_of_mem _ ha)) (by omega) (by omega) with r | ⟨q, r⟩
   ·exact .inl r
   ·exact .inr ⟨by omega, by rw [r]; congr 1; omega⟩
theorem aoh (a : (List Consumer)) (left : Int) (h : GoT.ok 10 a) (h0 : 0 ≤ left) (h1 : left ≤ 1048576) : SzR (a4f a left) left (sz a) := by
 have hl : a.length ≤ 9223372036854775807 := h.1
 rw [aem]
 unfold a4f
 rw [afe h0 h1 hl]
 by_cases hc : left - (a.length : Int) < 0
 ·rw [dT hc, cond_true]; exact .inl rfl
 ·rw [dF (by omega), cond_false]
  rcases aio a (left - (a.length : Int)) h.2 (by omega) (by omega) with r | ⟨q, r⟩
  ·rw [r]; exact .inl rfl
  ·rw [r]; exact .inr ⟨by omega, by show left - (a.length : Int) - (szL a : Int) = _; omega⟩
theorem am3 (e : Consumer) : sz e = sz e.name.parts + sz e.data.name.parts + sz e.data.content + sz e.data.keyName.parts := by
 simp only [anw, ah1, alj, Nat.add_assoc]
theorem ald : ∀ (l p : (List Consumer)) (k : Int), 0 ≤ k → k + 16 * ((l.length : Int) + szL l) ≤ 4611686018427387904 → ∃ l' k', a8z l.length p.length (p ++ l) k = (p ++ l', k') ∧ k ≤ k' ∧ k' ≤ k + 16 * ((l.length : Int) + szL l) ∧ a20 l' k = .nxt k'
 | [], p, k, _, _ => ⟨[], k, rfl, by omega, by simp [aef], rfl⟩
 | e :: l, p, k, h0, hb => by
  rw [adr, List.length_cons] at hb
  have hsz := am3 e
  have w1 := aft (x := k) (by omega) (by omega)
  have w2 := aft (x := (k + 1)) (by omega) (by omega)
  obtain ⟨k3, s3, m3, p3, q3, e3⟩ := mkE (aez e.name.parts ((k + 1) + 1) (by omega) (by omega))
  have d3 := dF (show 0 ≤ k3 by omega)
  have w4 := aft (x := k3) (by omega) (by omega)
  have w5 := aft (x := (k3 + 1)) (by omega) (by omega)
  have w6 := aft (x := ((k3 + 1) + 1)) (by omega) (by omega)
  obtain ⟨k7, s7, m7, p7, q7, e7⟩ := mkE (aez e.data.name.parts (((k3 + 1) + 1) + 1) (by omega) (by omega))
  have d7 := dF (show 0 ≤ k7 by omega)
  obtain ⟨k8, s8, m8, p8, q8, e8⟩ := mkE (amn e.data.content k7 (by omega) (by omega))
  have d8 := dF (show 0 ≤ k8 by omega)
  obtain ⟨k9, s9, m9, p9, q9, e9⟩ := mkE (aez e.data.keyName.parts k8 (by omega) (by omega))
  have d9 := dF (show 0 ≤ k9 by omega)
  have w10 := aft (x := k9) (by omega) (by omega)
  have w11 := aft (x := (k9 + 1)) (by omega) (by omega)
  obtain ⟨l', k', r1, r2, r3, r4⟩ := ald l (p ++ [(Consumer.mk k (k + 1) (Name.mk s3) k3 (k3 + 1) ((Int.tmod ((k3 + 1) + 1) 3) == 0) (DataP.mk (Name.mk s7) s8 (Name.mk s9) k9 (k9 + 1)))]) ((k9 + 1) + 1) (by omega) (by omega)
  rw [ady] at r1
  exact ⟨_ :: l', k', by simp only [List.length_cons, a8z, mid, aev, w1, w2, m3, w4, w5, w6, m7, m8, m9, w10, w11]; rw [r1, adz], by omega, by rw [adr, List.length_cons]; omega, by simp only [a20, ad2, ade, cond_false, w1, w2, e3, d3, w4, w5, w6, e7, d7, e8, d8, e9, d9, w10, w11]; exact r4⟩
theorem ar0 (a : (List Consumer)) (k : Int) (h0 : 0 ≤ k) (hb : k + 16 * (sz a : Int) ≤ 4611686018427387904) : MkR k (a1q a k).1 (sz a) (a0v (a1q a k).2 k) := by
 rw [aem] at hb ⊢
 obtain ⟨l', k', r1, r2, r3, r4⟩ := ald a [] k h0 (by omega)
 simp only [List.nil_append, List.length_nil] at r1
 simp only [a1q, r1, a0v, r4]
 exact ⟨r2, by omega, rfl⟩
theorem au2 (a : Network) : a2d a a = true := by
 simp only [a2d, ad2, ade, cond_false, Bool.not_true, asl, aoj, aop, aw4, axv, aks, aqz]
theorem auc (a : Network) : a04 a = a := by
 simp only [a04, asp, aon, aov, awe, axm, alp, as3]
theorem amf (a : Network) (left : Int) (h : GoT.ok 10 a) (h0 : 0 ≤ left) (h1 : left ≤ 1048576) : SzR (a1n a left) left (sz a) := by
 rw [ajk]
 unfold a1n
 rcases akm a.topology left (acy h).1 (by omega) (by omega) with r0 | ⟨q0, r0⟩
 ·rw [r0]; exact .inl rfl
 rw [r0, dF (by omega), cond_false]
 rcases aij a.trust (left - (sz a.topology : Int)) (acy h).2.1 (by omega) (by omega) with r1 | ⟨q1, r1⟩
 ·rw [r1]; exact .inl rfl
 rw [r1, dF (by omega), cond_false]
 rcases aik a.producers ((left - (sz a.topology : Int)) - (sz a.trust : Int)) (acy h).2.2.1 (by omega) (by omega) with r2 | ⟨q2, r2⟩
 ·rw [r2]; exact .inl rfl
 rw [r2, dF (by omega), cond_false]
 rcases au0 a.nodes (((left - (sz a.topology : Int)) - (sz a.trust : Int)) - (sz a.producers : Int)) (acy h).2.2.2.1 (by omega) (by omega) with r3 | ⟨q3, r3⟩
 ·rw [r3]; exact .inl rfl
 rw [r3, dF (by omega), cond_false]
 rcases avj a.failedLinks ((((left - (sz a.topology : Int)) - (sz a.trust : Int)) - (sz a.producers : Int)) - (sz a.nodes : Int)) (acy h).2.2.2.2.2.1 (by omega) (by omega) with r4 | ⟨q4, r4⟩
 ·rw [r4]; exact .inl rfl
 rw [r4, dF (by omega), cond_false]
 rcases ajo a.inFlight (((((left - (sz a.topology : Int)) - (sz a.trust : Int)) - (sz a.producers : Int)) - (sz a.nodes : Int)) - (sz a.failedLinks : Int)) (acy h).2.2.2.2.2.2.1 (by omega) (by omega) with r5 | ⟨q5, r5⟩
 ·rw [r5]; exact .inl rfl
 rw [r5, dF (by omega), cond_false]
 rcases aoh a.consumers ((((((left - (sz a.topology : Int)) - (sz a.trust : Int)) - (sz a.producers : Int)) - (sz a.nodes : Int)) - (sz a.failedLinks : Int)) - (sz a.inFlight : Int)) (acy h).2.2.2.2.2.2.2.1 (by omega) (by omega) with r6 | ⟨q6, r6⟩
 ·rw [r6]; exact .inl rfl
 rw [r6, dF (by omega), cond_false]
 exact .inr ⟨by omega, by omega⟩
theorem ap8 (a : Network) (k : Int) (h0 : 0 ≤ k) (hb : k + 16 * (sz a : Int) ≤ 4611686018427387904) : MkR k (a01 a k).1 (sz a) (a1j (a01 a k).2 k) := by
 rw [ajk] at hb ⊢
 obtain ⟨p0, q0, e0⟩ := asi a.topology (k) (by omega) (by omega)
 have d0 := dF (show 0 ≤ (a08 a.topology (k)).1 by omega)
 have f0 : (a01 a k).2.topology = (a08 a.topology (k)).2 := rfl
 obtain ⟨p1, q1, e1⟩ := aot a.trust ((a08 a.topology (k)).1) (by omega) (by omega)
 have d1 := dF (show 0 ≤ (a0b a.trust ((a08 a.topology (k)).1)).1 by omega)
 have f1 : (a01 a k).2.trust = (a0b a.trust ((a08 a.topology (k)).1)).2 := rfl
 obtain ⟨p2, q2, e2⟩ := aof a.producers ((a0b a.trust ((a08 a.topology (k)).1)).1) (by omega) (by omega)
 have d2 := dF (show 0 ≤ (a0h a.producers ((a0b a.trust ((a08 a.topology (k)).1)).1)).1 by omega)
 have f2 : (a01 a k).2.producers = (a0h a.producers ((a0b a.trust ((a08 a.topology (k)).1)).1)).2 := rfl
 obtain ⟨p3, q3, e3⟩ := awl a.nodes ((a0h a.producers ((a0b a.trust ((a08 a.topology (k)).1)).1)).1) (by omega) (by omega)
 have d3 := dF (show 0 ≤ (a0k a.nodes ((a0h a.producers ((a0b a.trust ((a08 a.topology (k)).1)).1)).1)).1 by omega)
 have f3 : (a01 a k).2.nodes = (a0k a.nodes ((a0h a.producers ((a0b a.trust ((a08 a.topology (k)).1)).1)).1)).2 := rfl
 obtain ⟨p4, q4, e4⟩ := awx a.failedLinks ((a0k a.nodes ((a0h a.producers ((a0b a.trust ((a08 a.topology (k)).1)).1)).1)).1) (by omega) (by omega)
 have d4 := dF (show 0 ≤ (a0o a.failedLinks ((a0k a.nodes ((a0h a.producers ((a0b a.trust ((a08 a.topology (k)).1)).1)).1)).1)).1 by omega)
 have f4 : (a01 a k).2.failedLinks = (a0o a.failedLinks ((a0k a.nodes ((a0h a.producers ((a0b a.trust ((a08 a.topology (k)).1)).1)).1)).1)).2 := rfl
 obtain ⟨p5, q5, e5⟩ := alk a.inFlight ((a0o a.failedLinks ((a0k a.nodes ((a0h a.producers ((a0b a.trust ((a08 a.topology (k)).1)).1)).1)).1)).1) (by omega) (by omega)
 have d5 := dF (show 0 ≤ (a11 a.inFlight ((a0o a.failedLinks ((a0k a.nodes ((a0h a.producers ((a0b a.trust ((a08 a.topology (k)).1)).1)).1)).1)).1)).1 by omega)
 have f5 : (a01 a k).2.inFlight = (a11 a.inFlight ((a0o a.failedLinks ((a0k a.nodes ((a0h a.producers ((a0b a.trust ((a08 a.topology (k)).1)).1)).1)).1)).1)).2 := rfl
 obtain ⟨p6, q6, e6⟩ := ar0 a.consumers ((a11 a.inFlight ((a0o a.failedLinks ((a0k a.nodes ((a0h a.producers ((a0b a.trust ((a08 a.topology (k)).1)).1)).1)).1)).1)).1) (by omega) (by omega)
 have d6 := dF (show 0 ≤ (a1q a.consumers ((a11 a.inFlight ((a0o a.failedLinks ((a0k a.nodes ((a0h a.producers ((a0b a.trust ((a08 a.topology (k)).1)).1)).1)).1)).1)).1)).1 by omega)
 have f6 : (a01 a k).2.consumers = (a1q a.consumers ((a11 a.inFlight ((a0o a.failedLinks ((a0k a.nodes ((a0h a.producers ((a0b a.trust ((a08 a.topology (k)).1)).1)).1)).1)).1)).1)).2 := rfl
 refine ⟨show k ≤ (a1q a.consumers ((a11 a.inFlight ((a0o a.failedLinks ((a0k a.nodes ((a0h a.producers ((a0b a.trust ((a08 a.topology (k)).1)).1)).1)).1)).1)).1)).1 by omega, show (a1q a.consumers ((a11 a.inFlight ((a0o a.failedLinks ((a0k a.nodes ((a0h a.producers ((a0b a.trust ((a08 a.topology (k)).1)).1)).1)).1)).1)).1)).1 ≤ _ by omega, ?_⟩
 show _ = (a1q a.consumers ((a11 a.inFlight ((a0o a.failedLinks ((a0k a.nodes ((a0h a.producers ((a0b a.trust ((a08 a.topology (k)).1)).1)).1)).1)).1)).1)).1
 simp only [a1j, f0, e0, d0, f1, e1, d1, f2, e2, d2, f3, e3, d3, f4, e4, d4, f5, e5, d5, f6, e6, d6, cond_false]
end Go.Stp
namespace Go.Stp
def a4r (aG : Topology) (aT : TrustPolicy) (aH : (List TableEntry)) (aCapacity : Int) : Bool := bif decide ((a1p aG 1048576) < 0) then true else bif decide ((a1b aT (a1p aG 1048576)) < 0) then true else bif decide ((a2c aH (a1b aT (a1p aG 1048576))) < 0) then true else bif (!(a2d (a0a (a06 aG) (a05 aT) (a07 aH) aCapacity) (a47 (a06 aG) (a05 aT) (a07 aH) aCapacity))) then false else bif (!(a7s (a06 aG) (a06 aG))) then false else bif (!(a5x (a05 aT) (a05 aT))) then false else bif (!(a7v (a07 aH) (a07 aH))) then false else bif decide ((a0h (a07 aH) ((a0b (a05 aT) ((a08 (a06 aG) 1).1)).1)).1 < 0) then false else bif decide ((a1j ((a01 (a0a (a06 aG) (a05 aT) (a07 aH) aCapacity) 1).2) 1) < 0) then false else bif ((a1j ((a01 (a0a (a06 aG) (a05 aT) (a07 aH) aCapacity) 1).2) 1) != (a01 (a0a (a06 aG) (a05 aT) (a07 aH) aCapacity) 1).1) then false else true
def a6f (aW : Network) : Bool := bif decide ((a1n aW 1048576) < 0) then true else bif (!(a2d (a09 (a04 aW)) (a3w (a04 aW)))) then false else bif (!(a2d (a04 aW) (a04 aW))) then false else bif decide ((a01 (a04 aW) 1).1 < 0) then false else bif decide ((a1j ((a01 (a09 (a04 aW)) 1).2) 1) < 0) then false else bif ((a1j ((a01 (a09 (a04 aW)) 1).2) 1) != (a01 (a09 (a04 aW)) 1).1) then false else true
end Go.Stp
