/-
  What the proof of one law needs: rules of the program logic, functions as Lean functions, contracts. No condition but what each says. Written by a program (pack.py) out of my own texts.
-/
import Derived.Test.YtpmejlbgjkiobaaGreatKNewNetwork6
open Go.IntKind (i64)
set_option linter.unusedVariables false
set_option linter.unusedSimpArgs false
namespace Go.Proofs.YtpmejlbgjkiobaaGreat
open Go.Stp
open Go.Stp.GoT (ok)
variable {w : World} (n : Nat) {K0 K1 K2 K3 K4 K5 K6 K7 K8 K9 : Option Addr} {M0 M1 M2 M3 M4 M5 M6 M7 M8 M9 : Nat}
theorem f320 (hn : n + 0 ≤ 9) {s : List Requester} (N0 : Rd w K0 M0 s) (a0 : ok n s) :
 DP 320 #[vS K0 s M0] w (pS w n s) := by
 have hb := bS0 hn
 refine EN Tryz.func320 Z (aS1 N0) ?_
 refine KS Z Z Z Z (fun _ hΓ => ajb ttOk Z Z Z Z) ?_
 refine zKA 4 (fun a1 => ?_) (fun a1 => ?_)
 obtain rfl : K0 = none := by simpa using a1
 refine WX.know (fun G hΓ => ai6 (hΓ.get 0 Z)) fun a2 => ?_
 subst a2
 refine F1 1 Requester ?_
 exact yX [1] (none, 0) (by assumption)
 refine yB fun p1 => ?_
 refine F0 2 Requester ?_
 have r1 := (okl a0).1
 refine R0 ?_
 refine zG 5 0 3 (s : List Requester).length Z fun a4 p2 c1 => ?_
 refine WX.know (fun G hΓ => (hΓ.get 3 Z : RdL _ _ _).flat) fun a3 => ?_
 refine WX.turn [2] 4 Z (fun h hs => afx hs a3) Z ?_
 refine yE 5 4 5 ?_
 exact zX [6] (p2, c1) (by assumption)
theorem f194 (hn : n + 0 ≤ 9) {s : List Link} (N0 : Rd w K0 M0 s) (a0 : ok n s) :
 DP 194 #[vS K0 s M0] w (pS w n s) := by
 have hb := bS0 hn
 refine EN Tryz.func194 Z (aS1 N0) ?_
 refine KS Z Z Z Z (fun _ hΓ => ajb ttOk Z Z Z Z) ?_
 refine zKA 4 (fun a1 => ?_) (fun a1 => ?_)
 obtain rfl : K0 = none := by simpa using a1
 refine WX.know (fun G hΓ => ai6 (hΓ.get 0 Z)) fun a2 => ?_
 subst a2
 refine F1 1 Link ?_
 exact yX [1] (none, 0) (by assumption)
 refine yB fun p1 => ?_
 refine F0 2 Link ?_
 have r1 := (okl a0).1
 refine R0 ?_
 refine zG 5 0 3 (s : List Link).length Z fun a4 p2 c1 => ?_
 refine WX.know (fun G hΓ => (hΓ.get 3 Z : RdL _ _ _).flat) fun a3 => ?_
 refine WX.turn [2] 4 Z (fun h hs => afx hs a3) Z ?_
 refine yE 5 4 5 ?_
 exact zX [6] (p2, c1) (by assumption)
theorem f123 (hn : n + 0 ≤ 9) {s : List Int} (N0 : Rd w K0 M0 s) (a0 : ok n s) :
 DP 123 #[vS K0 s M0] w (pS w n s) := by
 have hb := bS0 hn
 refine EN Tryz.func123 Z (aS1 N0) ?_
 refine KS Z Z Z Z (fun _ hΓ => ajb ttOk Z Z Z Z) ?_
 refine zKA 4 (fun a1 => ?_) (fun a1 => ?_)
 obtain rfl : K0 = none := by simpa using a1
 refine WX.know (fun G hΓ => ai6 (hΓ.get 0 Z)) fun a2 => ?_
 subst a2
 refine F1 1 Int ?_
 exact yX [1] (none, 0) (by assumption)
 refine yB fun p1 => ?_
 refine F0 2 Int ?_
 have r1 := (okl a0).1
 refine R0 ?_
 refine zG 5 0 3 (s : List Int).length Z fun a4 p2 c1 => ?_
 refine WX.know (fun G hΓ => (hΓ.get 3 Z : RdL _ _ _).flat) fun a3 => ?_
 refine WX.turn [2] 4 Z (fun h hs => afx hs a3) Z ?_
 refine yE 5 4 5 ?_
 exact zX [6] (p2, c1) (by assumption)
theorem f238 (hn : n + 0 ≤ 9) (w_ : Interest) (N0 : Rd w K0 M0 w_.name.parts) (a0 : ok n w_) :
 DP 238 #[ai1 w_ K0 M0] w (pA w n (acr w_)) := by
 have hb := bS0 hn
 refine EN Tryz.func238 Z (aS1 N0) ?_
 refine KF Z 1 Z Z Z Z Z O Z (fun w γ => f56 n τ0 w_.name (γ.q 0 Z) ((aep a0).1)) ?_
 rintro ⟨p1, c1⟩ a1
 rw [show acr w_ = (Interest.mk (a0f w_.name) w_.nonce w_.hopLimit w_.lifetime) by simp only [acr, cT, cF]]
 exact yX [2] ((p1, c1), (), (), ()) (An a1 (An (aep a0).2.1 (An (aep a0).2.2.1 (aep a0).2.2.2)))
theorem f197 (hn : n + 0 ≤ 9) {l : List DataP} (N0 : Rd w K0 M0 l) (a4 : ok n l) :
 DP 197 #[vS K0 l M0] w (pS w n (a7w l)) := by
 have hb := bS0 hn
 refine EN Tryz.func197 Z (aS1 N0) ?_
 refine yB fun p1 => ?_
 refine F0 1 DataP ?_
 have r1 := (okl a4).1
 refine LM Z (p1, 0, [], ([] : List DataP), 0) (fun | (a3, a2, a1, a0, i) => ((i ≤ l.length) ∧ JE n a0 ∧ (a0.length ≤ i) ∧ (aay l ([] : List DataP) = aay (l.drop i) a0), l.length - i, [(3, .v (vS a3 a0 a2)), (9, .v (vI i))], [], [(6, ⟨5, a3, a0.length, a2, a1⟩)], [(1, MF.ol a1 (a0 : List DataP))])) ⟨zl, nA, τ7, Z⟩ [8, 7] [] [0] [0, 1] ?_
 rintro ⟨a3, a2, a1, a0, i⟩ ⟨v1, v2, v3, v4⟩
 refine yKD 10 ?_ ?_ <;> intro h1 ac
 have a6 : i < l.length := τ0
 obtain ⟨e1, a5⟩ := gE a6
 have aa := okE a4 a5
 refine yI 0 i a6 ?_
 rintro ab rfl
 refine zL 0 2 e1 a5 ?_
 rintro ⟨⟨p2, c1⟩, ⟨p3, c2⟩, ⟨p4, c3⟩, ⟨⟩, ⟨⟩⟩
 refine KF Z 5 Z Z Z Z Z O Z (fun w γ => f239 n τ0 e1 (γ.q 2 Z) (γ.q 3 Z) (γ.q 4 Z) aa) ?_
 rintro ⟨⟨p5, c4⟩, ⟨p6, c5⟩, ⟨p7, c6⟩, ⟨⟩, ⟨⟩⟩ a9
 refine zB fun p8 => ?_
 refine zT (α := DataP) [8, 9, 10] 11 (a2z e1) ((p5, c4), (p6, c5), (p7, c6), (), ()) fun a8 => ?_
 refine zP 6 16 ((a0 ++ [(a2z e1)]) : List DataP).length a8 fun p9 c7 => ?_
 refine zV [1, 11] 12 ?_
 refine SA ?_
 refine zU [12] 1 ?_
 exact ITr Z (p9, c7, _, ((a0 ++ [(a2z e1)]) : List DataP), i + 1) ⟨τ0, (aeb v2 (all_cons (α := DataP) a9 nA)), τ2, (by rw [v4, acx a5]; simp only [aay, cT, cF])⟩ τ1 [0, 1]
 have a7 := v4.trans (show _ = (a0 : List DataP) by rw [dn (show l.length ≤ i by omega)]; simp only [aay, cT, cF])
 refine yE 6 1 13 ?_
 rw [show a7w l = a0 by simp only [a7w, a7, cT, cF]]
 exact zX [14] (a3, a2) (ada τ0 v2 : ok n (a0 : List DataP))
theorem f195 (hn : n + 0 ≤ 9) {l : List Key} (N0 : Rd w K0 M0 l) (a4 : ok n l) :
 DP 195 #[vS K0 l M0] w (pS w n (ab0 l)) := by
 have hb := bS0 hn
 refine EN Tryz.func195 Z (aS1 N0) ?_
 refine yB fun p1 => ?_
 refine F0 1 Key ?_
 have r1 := (okl a4).1
 refine LM Z (p1, 0, [], ([] : List Key), 0) (fun | (a3, a2, a1, a0, i) => ((i ≤ l.length) ∧ JE n a0 ∧ (a0.length ≤ i) ∧ (aaz l ([] : List Key) = aaz (l.drop i) a0), l.length - i, [(3, .v (vS a3 a0 a2)), (9, .v (vI i))], [], [(6, ⟨2, a3, a0.length, a2, a1⟩)], [(1, MF.ol a1 (a0 : List Key))])) ⟨zl, nA, τ7, Z⟩ [8, 7] [] [0] [0, 1] ?_
 rintro ⟨a3, a2, a1, a0, i⟩ ⟨v1, v2, v3, v4⟩
 refine yKD 10 ?_ ?_ <;> intro h1 ac
 have a7 : i < l.length := τ0
 obtain ⟨e1, a6⟩ := gE a7
 have a5 := okE a4 a6
 refine yI 0 i a7 ?_
 rintro ab rfl
 refine zL 0 2 e1 a6 ?_
 rintro ⟨⟨p2, c1⟩, ⟨⟩⟩
 refine R0 ?_
 refine WX.draw [8, 9] mixed fun bs G0 ad => ?_
 refine dT 5 [1, 3, 4, 9, 10] ?_
 refine DXF 3 3 Z J Z Z Z Z Z Z O Z (fun w γ => f56 n τ0 e1.name (γ.q 2 Z) ((ag3 a5).1)) ?_
 rintro ⟨p3, c2⟩ aa
 refine dT 3 [13] ?_
 refine DX.tail2 [7, 8, 9] Z Z J ?_
 refine zB fun p4 => ?_
 refine zT (α := Key) [4] 5 (Key.mk (a0f e1.name) e1.secret) ((p3, c2), ()) fun _ => ?_
 have r2 := i8 ((ag3 a5).2)
 refine WX.know (fun G hΓ => (hΓ.get 5 Z : OwL _ _ _).rd.one) fun a9 => ?_
 refine zP 6 20 ((a0 ++ [(Key.mk (a0f e1.name) e1.secret)]) : List Key).length a9 fun p5 c3 => ?_
 refine zV [1, 5] 6 ?_
 refine SA ?_
 refine zU [6] 1 ?_
 exact ITr Z (p5, c3, _, ((a0 ++ [(Key.mk (a0f e1.name) e1.secret)]) : List Key), i + 1) ⟨τ0, (aeb v2 (all_cons (α := Key) (An aa (ag3 a5).2) nA)), τ2, (by rw [v4, acx a6]; simp only [aaz, cT, cF])⟩ τ1 [0, 1]
 have a8 := v4.trans (show _ = (a0 : List Key) by rw [dn (show l.length ≤ i by omega)]; simp only [aaz, cT, cF])
 refine yE 6 1 7 ?_
 rw [show ab0 l = a0 by simp only [ab0, a8, cT, cF]]
 exact zX [8] (a3, a2) (ada τ0 v2 : ok n (a0 : List Key))
theorem f196 (hn : n + 0 ≤ 9) {l : List Name} (N0 : Rd w K0 M0 l) (a4 : ok n l) :
 DP 196 #[vS K0 l M0] w (pS w n (ab2 l)) := by
 have hb := bS0 hn
 refine EN Tryz.func196 Z (aS1 N0) ?_
 refine yB fun p1 => ?_
 refine F0 1 Name ?_
 have r1 := (okl a4).1
 refine LM Z (p1, 0, [], ([] : List Name), 0) (fun | (a3, a2, a1, a0, i) => ((i ≤ l.length) ∧ JE n a0 ∧ (a0.length ≤ i) ∧ (ab1 l ([] : List Name) = ab1 (l.drop i) a0), l.length - i, [(3, .v (vS a3 a0 a2)), (9, .v (vI i))], [], [(6, ⟨1, a3, a0.length, a2, a1⟩)], [(1, MF.ol a1 (a0 : List Name))])) ⟨zl, nA, τ7, Z⟩ [8, 7] [] [0] [0, 1] ?_
 rintro ⟨a3, a2, a1, a0, i⟩ ⟨v1, v2, v3, v4⟩
 refine yKD 10 ?_ ?_ <;> intro h1 ac
 have a6 : i < l.length := τ0
 obtain ⟨e1, a5⟩ := gE a6
 have aa := okE a4 a5
 refine yI 0 i a6 ?_
 rintro ab rfl
 refine zL 0 2 e1 a5 ?_
 rintro ⟨p2, c1⟩
 refine KF Z 3 Z Z Z Z Z O Z (fun w γ => f56 n τ0 e1 (γ.q 2 Z) aa) ?_
 rintro ⟨p3, c2⟩ a9
 refine zB fun p4 => ?_
 refine zT (α := Name) [4] 5 (a0f e1) (p3, c2) fun a8 => ?_
 refine zP 6 16 ((a0 ++ [(a0f e1)]) : List Name).length a8 fun p5 c3 => ?_
 refine zV [1, 5] 6 ?_
 refine SA ?_
 refine zU [6] 1 ?_
 exact ITr Z (p5, c3, _, ((a0 ++ [(a0f e1)]) : List Name), i + 1) ⟨τ0, (aeb v2 (all_cons (α := Name) a9 nA)), τ2, (by rw [v4, acx a5]; simp only [ab1, cT, cF])⟩ τ1 [0, 1]
 have a7 := v4.trans (show _ = (a0 : List Name) by rw [dn (show l.length ≤ i by omega)]; simp only [ab1, cT, cF])
 refine yE 6 1 7 ?_
 rw [show ab2 l = a0 by simp only [ab2, a7, cT, cF]]
 exact zX [8] (a3, a2) (ada τ0 v2 : ok n (a0 : List Name))
theorem f236 (hn : n + 0 ≤ 9) {s : List SeenNonce} (N0 : Rd w K0 M0 s) (a4 : ok n s) :
 DP 236 #[vS K0 s M0] w (pS w n (abz s)) := by
 have hb := bS0 hn
 refine EN Tryz.func236 Z (aS1 N0) ?_
 refine yB fun p1 => ?_
 refine F0 1 SeenNonce ?_
 have r1 := (okl a4).1
 refine LM Z (p1, 0, [], ([] : List SeenNonce), 0) (fun | (a3, a2, a1, a0, i) => ((i ≤ s.length) ∧ JE n a0 ∧ (a0.length ≤ i) ∧ (ab3 s ([] : List SeenNonce) = ab3 (s.drop i) a0), s.length - i, [(3, .v (vS a3 a0 a2)), (9, .v (vI i))], [], [(6, ⟨2, a3, a0.length, a2, a1⟩)], [(1, MF.ol a1 (a0 : List SeenNonce))])) ⟨zl, nA, τ7, Z⟩ [8, 7] [] [0] [0, 1] ?_
 rintro ⟨a3, a2, a1, a0, i⟩ ⟨v1, v2, v3, v4⟩
 refine yKD 10 ?_ ?_ <;> intro h1 ac
 have a7 : i < s.length := τ0
 obtain ⟨e1, a6⟩ := gE a7
 have a5 := okE a4 a6
 refine yI 0 i a7 ?_
 rintro ab rfl
 refine zL 0 2 e1 a6 ?_
 rintro ⟨⟨p2, c1⟩, ⟨⟩⟩
 refine R0 ?_
 refine WX.draw [8, 9] mixed fun bs G0 ad => ?_
 refine dT 5 [1, 3, 4, 9, 10] ?_
 refine DXF 3 3 Z J Z Z Z Z Z Z O Z (fun w γ => f56 n τ0 e1.name (γ.q 2 Z) ((aew a5).1)) ?_
 rintro ⟨p3, c2⟩ aa
 refine dT 3 [13] ?_
 refine DX.tail2 [7, 8, 9] Z Z J ?_
 refine zB fun p4 => ?_
 refine zT (α := SeenNonce) [4] 5 (SeenNonce.mk (a0f e1.name) e1.nonce) ((p3, c2), ()) fun _ => ?_
 have r2 := i8 ((aew a5).2)
 refine WX.know (fun G hΓ => (hΓ.get 5 Z : OwL _ _ _).rd.one) fun a9 => ?_
 refine zP 6 20 ((a0 ++ [(SeenNonce.mk (a0f e1.name) e1.nonce)]) : List SeenNonce).length a9 fun p5 c3 => ?_
 refine zV [1, 5] 6 ?_
 refine SA ?_
 refine zU [6] 1 ?_
 exact ITr Z (p5, c3, _, ((a0 ++ [(SeenNonce.mk (a0f e1.name) e1.nonce)]) : List SeenNonce), i + 1) ⟨τ0, (aeb v2 (all_cons (α := SeenNonce) (An aa (aew a5).2) nA)), τ2, (by rw [v4, acx a6]; simp only [ab3, cT, cF])⟩ τ1 [0, 1]
 have a8 := v4.trans (show _ = (a0 : List SeenNonce) by rw [dn (show s.length ≤ i by omega)]; simp only [ab3, cT, cF])
 refine yE 6 1 7 ?_
 rw [show abz s = a0 by simp only [abz, a8, cT, cF]]
 exact zX [8] (a3, a2) (ada τ0 v2 : ok n (a0 : List SeenNonce))
theorem f152 (hn : n + 0 ≤ 9) {l : List Route} (N0 : Rd w K0 M0 l) (a5 : ok n l) :
 DP 152 #[vS K0 l M0] w (pS w n (a10 l)) := by
 have hb := bS0 hn
 refine EN Tryz.func152 Z (aS1 N0) ?_
 refine yB fun p1 => ?_
 refine F0 1 Route ?_
 have r1 := (okl a5).1
 refine LM Z (p1, 0, [], ([] : List Route), 0) (fun | (a3, a2, a1, a0, i) => ((i ≤ l.length) ∧ JE n a0 ∧ (a0.length ≤ i) ∧ (a7x l ([] : List Route) = a7x (l.drop i) a0), l.length - i, [(3, .v (vS a3 a0 a2)), (9, .v (vI i))], [], [(6, ⟨3, a3, a0.length, a2, a1⟩)], [(1, MF.ol a1 (a0 : List Route))])) ⟨zl, nA, τ7, Z⟩ [8, 7] [] [0] [0, 1] ?_
 rintro ⟨a3, a2, a1, a0, i⟩ ⟨v1, v2, v3, v4⟩
 refine yKD 10 ?_ ?_ <;> intro h1 ac
 have a7 : i < l.length := τ0
 obtain ⟨e1, a6⟩ := gE a7
 have a4 := okE a5 a6
 refine yI 0 i a7 ?_
 rintro ab rfl
 refine zL 0 2 e1 a6 ?_
 rintro ⟨⟨p2, c1⟩, ⟨⟩, ⟨⟩⟩
 refine R0 ?_
 refine WX.draw [10, 11] mixed fun bs G0 ad => ?_
 refine dT 5 [1, 3, 4, 9, 10, 13, 14] ?_
 refine DXF 3 3 Z J Z Z Z Z Z Z O Z (fun w γ => f56 n τ0 e1.pfx (γ.q 2 Z) ((adn a4).1)) ?_
 rintro ⟨p3, c2⟩ aa
 refine dT 3 [17] ?_
 refine DX.tail2 [9, 10, 11] Z Z J ?_
 refine zB fun p4 => ?_
 refine zT (α := Route) [4] 5 (Route.mk (a0f e1.pfx) e1.face e1.cost) ((p3, c2), (), ()) fun _ => ?_
 have r2 := i8 ((adn a4).2.1)
 have r3 := i8 ((adn a4).2.2)
 refine WX.know (fun G hΓ => (hΓ.get 5 Z : OwL _ _ _).rd.one) fun a9 => ?_
 refine zP 6 22 ((a0 ++ [(Route.mk (a0f e1.pfx) e1.face e1.cost)]) : List Route).length a9 fun p5 c3 => ?_
 refine zV [1, 5] 6 ?_
 refine SA ?_
 refine zU [6] 1 ?_
 exact ITr Z (p5, c3, _, ((a0 ++ [(Route.mk (a0f e1.pfx) e1.face e1.cost)]) : List Route), i + 1) ⟨τ0, (aeb v2 (all_cons (α := Route) (An aa (An (adn a4).2.1 (adn a4).2.2)) nA)), τ2, (by rw [v4, acx a6]; simp only [a7x, cT, cF])⟩ τ1 [0, 1]
 have a8 := v4.trans (show _ = (a0 : List Route) by rw [dn (show l.length ≤ i by omega)]; simp only [a7x, cT, cF])
 refine yE 6 1 7 ?_
 rw [show a10 l = a0 by simp only [a10, a8, cT, cF]]
 exact zX [8] (a3, a2) (ada τ0 v2 : ok n (a0 : List Route))
theorem f237 (hn : n + 0 ≤ 9) {l : List Measurement} (N0 : Rd w K0 M0 l) (a5 : ok n l) :
 DP 237 #[vS K0 l M0] w (pS w n (ac0 l)) := by
 have hb := bS0 hn
 refine EN Tryz.func237 Z (aS1 N0) ?_
 refine yB fun p1 => ?_
 refine F0 1 Measurement ?_
 have r1 := (okl a5).1
 refine LM Z (p1, 0, [], ([] : List Measurement), 0) (fun | (a3, a2, a1, a0, i) => ((i ≤ l.length) ∧ JE n a0 ∧ (a0.length ≤ i) ∧ (ab4 l ([] : List Measurement) = ab4 (l.drop i) a0), l.length - i, [(3, .v (vS a3 a0 a2)), (9, .v (vI i))], [], [(6, ⟨3, a3, a0.length, a2, a1⟩)], [(1, MF.ol a1 (a0 : List Measurement))])) ⟨zl, nA, τ7, Z⟩ [8, 7] [] [0] [0, 1] ?_
 rintro ⟨a3, a2, a1, a0, i⟩ ⟨v1, v2, v3, v4⟩
 refine yKD 10 ?_ ?_ <;> intro h1 ac
 have a7 : i < l.length := τ0
 obtain ⟨e1, a6⟩ := gE a7
 have a4 := okE a5 a6
 refine yI 0 i a7 ?_
 rintro ab rfl
 refine zL 0 2 e1 a6 ?_
 rintro ⟨⟨p2, c1⟩, ⟨⟩, ⟨⟩⟩
 refine R0 ?_
 refine WX.draw [10, 11] mixed fun bs G0 ad => ?_
 refine dT 5 [1, 3, 4, 9, 10, 13, 14] ?_
 refine DXF 3 3 Z J Z Z Z Z Z Z O Z (fun w γ => f56 n τ0 e1.pfx (γ.q 2 Z) ((ae3 a4).1)) ?_
 rintro ⟨p3, c2⟩ aa
 refine dT 3 [17] ?_
 refine DX.tail2 [9, 10, 11] Z Z J ?_
 refine zB fun p4 => ?_
 refine zT (α := Measurement) [4] 5 (Measurement.mk (a0f e1.pfx) e1.face e1.failures) ((p3, c2), (), ()) fun _ => ?_
 have r2 := i8 ((ae3 a4).2.1)
 have r3 := i8 ((ae3 a4).2.2)
 refine WX.know (fun G hΓ => (hΓ.get 5 Z : OwL _ _ _).rd.one) fun a9 => ?_
 refine zP 6 22 ((a0 ++ [(Measurement.mk (a0f e1.pfx) e1.face e1.failures)]) : List Measurement).length a9 fun p5 c3 => ?_
 refine zV [1, 5] 6 ?_
 refine SA ?_
 refine zU [6] 1 ?_
 exact ITr Z (p5, c3, _, ((a0 ++ [(Measurement.mk (a0f e1.pfx) e1.face e1.failures)]) : List Measurement), i + 1) ⟨τ0, (aeb v2 (all_cons (α := Measurement) (An aa (An (ae3 a4).2.1 (ae3 a4).2.2)) nA)), τ2, (by rw [v4, acx a6]; simp only [ab4, cT, cF])⟩ τ1 [0, 1]
 have a8 := v4.trans (show _ = (a0 : List Measurement) by rw [dn (show l.length ≤ i by omega)]; simp only [ab4, cT, cF])
 refine yE 6 1 7 ?_
 rw [show ac0 l = a0 by simp only [ac0, a8, cT, cF]]
 exact zX [8] (a3, a2) (ada τ0 v2 : ok n (a0 : List Measurement))
theorem f235 (hn : n + 0 ≤ 9) {l : List PendingInterest} (N0 : Rd w K0 M0 l) (a5 : ok n l) :
 DP 235 #[vS K0 l M0] w (pS w n (ac1 l)) := by
 have hb := bS0 hn
 refine EN Tryz.func235 Z (aS1 N0) ?_
 refine yB fun p1 => ?_
 refine F0 1 PendingInterest ?_
 have r1 := (okl a5).1
 refine LM Z (p1, 0, [], ([] : List PendingInterest), 0) (fun | (a3, a2, a1, a0, i) => ((i ≤ l.length) ∧ JE n a0 ∧ (a0.length ≤ i) ∧ (ab5 l ([] : List PendingInterest) = ab5 (l.drop i) a0), l.length - i, [(3, .v (vS a3 a0 a2)), (9, .v (vI i))], [], [(6, ⟨3, a3, a0.length, a2, a1⟩)], [(1, MF.ol a1 (a0 : List PendingInterest))])) ⟨zl, nA, τ7, Z⟩ [8, 7] [] [0] [0, 1] ?_
 rintro ⟨a3, a2, a1, a0, i⟩ ⟨v1, v2, v3, v4⟩
 refine yKD 10 ?_ ?_ <;> intro h1 ad
 have a7 : i < l.length := τ0
 obtain ⟨e1, a6⟩ := gE a7
 have a4 := okE a5 a6
 refine yI 0 i a7 ?_
 rintro ac rfl
 refine zL 0 2 e1 a6 ?_
 rintro ⟨⟨p2, c1⟩, ⟨p3, c2⟩, ⟨⟩⟩
 refine R0 ?_
 refine WX.draw [11, 12] mixed fun bs G0 ae => ?_
 refine dT 6 [1, 3, 4, 9, 10, 15, 16] ?_
 refine DXF 3 4 Z J Z Z Z Z Z Z O Z (fun w γ => f56 n τ0 e1.name (γ.q 2 Z) ((ad8 a4).1)) ?_
 rintro ⟨p4, c3⟩ aa
 refine DXF 6 6 Z J Z Z Z Z Z Z O Z (fun w γ => f320 n τ0 (γ.q 3 Z) ((ad8 a4).2.1)) ?_
 rintro ⟨p5, c4⟩ ab
 refine dT 3 [19] ?_
 refine DX.tail2 [10, 11, 12] Z Z J ?_
 refine zB fun p6 => ?_
 refine zT (α := PendingInterest) [5, 7] 8 (PendingInterest.mk (a0f e1.name) e1.requesters e1.lastSent) ((p4, c3), (p5, c4), ()) fun _ => ?_
 have r2 := (okl (ad8 a4).2.1).1
 have r3 := i8 ((ad8 a4).2.2)
 refine WX.know (fun G hΓ => (hΓ.get 8 Z : OwL _ _ _).rd.one) fun a9 => ?_
 refine zP 6 23 ((a0 ++ [(PendingInterest.mk (a0f e1.name) e1.requesters e1.lastSent)]) : List PendingInterest).length a9 fun p7 c5 => ?_
 refine zV [1, 8] 9 ?_
 refine SA ?_
 refine zU [9] 1 ?_
 exact ITr Z (p7, c5, _, ((a0 ++ [(PendingInterest.mk (a0f e1.name) e1.requesters e1.lastSent)]) : List PendingInterest), i + 1) ⟨τ0, (aeb v2 (all_cons (α := PendingInterest) (An aa (An ab (ad8 a4).2.2)) nA)), τ2, (by rw [v4, acx a6]; simp only [ab5, cT, cF])⟩ τ1 [0, 1]
 have a8 := v4.trans (show _ = (a0 : List PendingInterest) by rw [dn (show l.length ≤ i by omega)]; simp only [ab5, cT, cF])
 refine yE 6 1 10 ?_
 rw [show ac1 l = a0 by simp only [ac1, a8, cT, cF]]
 exact zX [11] (a3, a2) (ada τ0 v2 : ok n (a0 : List PendingInterest))
theorem f318 (hn : n + 0 ≤ 9) (c_ : ContentStore) (N0 : Rd w K0 M0 c_.entries) (keepg : FuncId) (keepc : List Value) (keepq : CacheEntry → Bool) (keepf : ∀ w1, Kp emp w w1 → ∀ (e0 : CacheEntry) (x0 : GoT.X CacheEntry), ok n e0 → All (hp w1) (GoT.fa .der e0 x0) → Does Tryz.prog keepg ([Value.agg ⟨GoT.sh e0 x0⟩] ++ keepc).toArray w1 emp (fun rv _ => rv = .bool (keepq e0) ∧ True)) (a2 : ok n c_) :
 DP 318 #[.agg #[vI c_.capacity, vS K0 c_.entries M0], .func (.func keepg) #[] keepc.toArray] w (pA w n (acs c_ keepq)) := by
 have hb := bS0 hn
 refine EN Tryz.func318 Z (aS1 N0) ?_
 refine R0 ?_
 refine WX.row0 501 6 none Z ?_
 refine F0 1 CacheEntry ?_
 have r1 := (okl (aei a2).2).1
 refine LK (0, none, 0, [], ([] : List CacheEntry)) (fun | (i, a4, a3, a0, a1) => ((i ≤ c_.entries.length) ∧ JE n a1 ∧ (a1.length ≤ i) ∧ (a6o keepq c_.entries ([] : List CacheEntry) = a6o keepq (c_.entries.drop i) a1), c_.entries.length - i, [(14, .v (vI i))], [(5, ⟨99, [.int .i64 (c_.capacity), .slice a4 (a1.length) a3]⟩)], [(501, ⟨6, a4, a1.length, a3, a0⟩)], [(1, MF.ol a0 (a1 : List CacheEntry))])) ⟨zl, nA, τ7, Z⟩ [13, 12, 5, 4, 1] [4] [0] [0, 1] ?_
 rintro ⟨i, a4, a3, a0, a1⟩ ⟨v1, v2, v3, v4⟩
 refine yKD 15 ?_ ?_ <;> intro h1 ad
 have a7 : i < c_.entries.length := τ0
 obtain ⟨e1, a6⟩ := gE a7
 have a5 := okE (aei a2).2 a6
 refine yI 0 i a7 ?_
 rintro ac rfl
 refine zL 0 2 e1 a6 ?_
 rintro ⟨⟨⟨p1, c1⟩, ⟨p2, c2⟩, ⟨p3, c3⟩, ⟨⟩, ⟨⟩⟩, ⟨⟩⟩
 refine KW Z Z Z Z Z Z O Z (fun w G bs hI hΓ => keepf w hI.keep e1 (((p1, c1), (p2, c2), (p3, c3), (), ()), ()) a5 (All.cons (hΓ.get 2 Z : RdSl _ _ _ _) (All.cons (hΓ.get 3 Z : RdSl _ _ _ _) (All.cons (hΓ.get 4 Z : RdSl _ _ _ _) All.nil)))) fun ab => ?_
 refine yKA 20 ?_ ?_ <;> intro h2
 refine R0 ?_
 refine WX.draw [9, 10, 11] mixed fun bs G0 ae => ?_
 refine dT 6 [1, 2, 5, 6, 11, 12] ?_
 refine DXF 4 5 Z J Z Z Z Z Z Z O Z (fun w γ => f239 n τ0 e1.data (γ.q 2 Z) (γ.q 3 Z) (γ.q 4 Z) ((aec a5).1)) ?_
 rintro ⟨⟨p4, c4⟩, ⟨p5, c5⟩, ⟨p6, c6⟩, ⟨⟩, ⟨⟩⟩ aa
 refine dT 4 [15] ?_
 refine DX.tail2 [8, 9, 10, 11] Z Z J ?_
 refine zB fun p7 => ?_
 refine zT (α := CacheEntry) [8, 9, 10] 11 (CacheEntry.mk (a2z e1.data) e1.lastUsed) (((p4, c4), (p5, c5), (p6, c6), (), ()), ()) fun _ => ?_
 have r2 := i8 ((aec a5).2)
 refine WX.know (fun G hΓ => (hΓ.get 11 Z : OwL _ _ _).rd.one) fun a9 => ?_
 refine zP 501 29 ((a1 ++ [(CacheEntry.mk (a2z e1.data) e1.lastUsed)]) : List CacheEntry).length a9 fun p8 c7 => ?_
 refine zV [1, 11] 12 ?_
 refine SA ?_
 refine zU [12] 1 ?_
 exact ITr Z (i + 1, p8, c7, _, ((a1 ++ [(CacheEntry.mk (a2z e1.data) e1.lastUsed)]) : List CacheEntry)) ⟨τ0, (aeb v2 (all_cons (α := CacheEntry) (An aa (aec a5).2) nA)), τ2, (by rw [v4, acx a6]; simp only [a6o, h2, cT, cF])⟩ τ1 [0, 1]
 refine SA ?_
 exact ITr Z (i + 1, a4, a3, a0, (a1 : List CacheEntry)) ⟨τ0, v2, τ2, (by rw [v4, acx a6]; simp only [a6o, h2, cT, cF])⟩ τ1 [0, 1]
 have a8 := v4.trans (show _ = (a1 : List CacheEntry) by rw [dn (show c_.entries.length ≤ i by omega)]; simp only [a6o, cT, cF])
 refine yE 501 1 13 ?_
 rw [show acs c_ keepq = (ContentStore.mk c_.capacity a1) by simp only [acs, a8, cT, cF]]
 exact zX [14] ((), (a4, a3)) (An (aei a2).1 (ada τ0 v2 : ok n (a1 : List CacheEntry)))
theorem f319 (hn : n + 0 ≤ 9) (e_ : CacheEntry) (N0 : Rd w K0 M0 e_.data.name.parts) (N1 : Rd w K1 M1 e_.data.content) (N2 : Rd w K2 M2 e_.data.keyName.parts) (a0 : ok n e_) :
 DP 319 #[aha e_ K0 M0 K1 M1 K2 M2] w (pB (ac2 e_)) := by
 refine EN Tryz.func319 Z (aS3 N0 N1 N2) ?_
 exact R4r Z Z (by simp only [ac2, cT, cF])
theorem f234 (hn : n + 0 ≤ 9) (c_ : ContentStore) (N0 : Rd w K0 M0 c_.entries) (a2 : ok n c_) :
 DP 234 #[.agg #[vI c_.capacity, vS K0 c_.entries M0]] w (pA w n (ac3 c_)) := by
 have hb := bS0 hn
 refine EN Tryz.func234 Z (aS1 N0) ?_
 refine KF Z 1 Z Z Z Z Z O Z (fun w γ => f318 n τ0 c_ (γ.q 0 Z) 319 [] (fun a0 => (ac2 a0)) (fun a6 a7 a0 a3 a4 a1 => f319 n τ0 a0 (a1 _ List.mem_cons_self) (a1 (MF.rs .der a3.1.2.1.1 a3.1.2.1.2 a0.data.content) (by simp [GoT.fa])) (a1 (MF.rs .der a3.1.2.2.1.1 a3.1.2.2.1.2 a0.data.keyName.parts) (by simp [GoT.fa])) a4) a2) ?_
 rintro ⟨⟨⟩, ⟨p1, c1⟩⟩ a5
 rw [show ac3 c_ = (acs c_ (fun a0 => (ac2 a0))) by simp only [ac3, cT, cF]]
 exact yX [2] ((), (p1, c1)) a5
theorem f253 (hn : n + 0 ≤ 9) (w_ : Interest) (N0 : Rd w K0 M0 w_.name.parts) (a0 : ok n w_) :
 DP 253 #[ai1 w_ K0 M0] w (pA w n (acu w_)) := by
 have hb := bS0 hn
 refine EN Tryz.func253 Z (aS1 N0) ?_
 refine KF Z 1 Z Z Z Z Z O Z (fun w γ => f246 n τ0 w_.name (γ.q 0 Z) ((aep a0).1)) ?_
 rintro ⟨p1, c1⟩ a1
 rw [show acu w_ = (Interest.mk (a0g w_.name) w_.nonce w_.hopLimit w_.lifetime) by simp only [acu, cT, cF]]
 exact yX [2] ((p1, c1), (), (), ()) (An a1 (An (aep a0).2.1 (An (aep a0).2.2.1 (aep a0).2.2.2)))
theorem f244 (hn : n + 0 ≤ 9) {l : List Key} (N0 : Rd w K0 M0 l) (a4 : ok n l) :
 DP 244 #[vS K0 l M0] w (pS w n (a99 l)) := by
 have hb := bS0 hn
 refine EN Tryz.func244 Z (aS1 N0) ?_
 refine yB fun p1 => ?_
 refine F0 1 Key ?_
 have r1 := (okl a4).1
 refine LM Z (p1, 0, [], ([] : List Key), 0) (fun | (a3, a2, a1, a0, i) => ((i ≤ l.length) ∧ JE n a0 ∧ (a0.length ≤ i) ∧ (ab6 l ([] : List Key) = ab6 (l.drop i) a0), l.length - i, [(3, .v (vS a3 a0 a2)), (4, .v (vI i))], [], [(6, ⟨2, a3, a0.length, a2, a1⟩)], [(1, MF.ol a1 (a0 : List Key))])) ⟨zl, nA, τ7, Z⟩ [0] [] [0] [0, 1] ?_
 rintro ⟨a3, a2, a1, a0, i⟩ ⟨v1, v2, v3, v4⟩
 refine yKD 10 ?_ ?_ <;> intro h1 ad
 have a6 : i < l.length := τ0
 obtain ⟨e1, a5⟩ := gE a6
 have a7 := okE a4 a5
 refine yI 0 i a6 ?_
 rintro ac rfl
 refine yL 0 2 e1 a5 ?_
 rintro ⟨⟨p2, c1⟩, ⟨⟩⟩
 refine CF 3 Z Z Z Z Z O Z (fun w γ => f246 n τ0 e1.name (γ.q 2 Z) ((ag3 a7).1)) ?_
 rintro ⟨p3, c2⟩ ab
 refine R0 ?_
 refine WX.draw [9, 10] mixed fun bs G0 a8 => ?_
 refine dT 7 [1, 2, 5, 7] ?_
 refine zDI 4 0 i a8 Z a6 ?_
 rintro ae ⟨⟩
 refine dT 5 [11] ?_
 refine zDL 6 0 5 e1 a8 a5 ?_
 rintro ⟨⟨p4, c3⟩, ⟨⟩⟩
 refine dT 3 [15] ?_
 refine DX.tail2 [8, 9, 10] Z Z J ?_
 refine zB fun p5 => ?_
 refine zT (α := Key) [4] 6 (Key.mk (a0g e1.name) e1.secret) ((p3, c2), ()) fun _ => ?_
 have r2 := i8 ((ag3 a7).2)
 refine WX.know (fun G hΓ => (hΓ.get 6 Z : OwL _ _ _).rd.one) fun aa => ?_
 refine zP 6 27 ((a0 ++ [(Key.mk (a0g e1.name) e1.secret)]) : List Key).length aa fun p6 c4 => ?_
 refine zV [1, 6] 7 ?_
 refine SA ?_
 refine zU [7] 1 ?_
 exact ITr Z (p6, c4, _, ((a0 ++ [(Key.mk (a0g e1.name) e1.secret)]) : List Key), i + 1) ⟨τ0, (aeb v2 (all_cons (α := Key) (An ab (ag3 a7).2) nA)), τ2, (by rw [v4, acx a5]; simp only [ab6, cT, cF])⟩ τ1 [0, 1]
 have a9 := v4.trans (show _ = (a0 : List Key) by rw [dn (show l.length ≤ i by omega)]; simp only [ab6, cT, cF])
 refine yE 6 1 8 ?_
 rw [show a99 l = a0 by simp only [a99, a9, cT, cF]]
 exact zX [9] (a3, a2) (ada τ0 v2 : ok n (a0 : List Key))
theorem f245 (hn : n + 0 ≤ 9) (r : Rule) (N0 : Rd w K0 M0 r.dataPattern.parts) (N1 : Rd w K1 M1 r.keyPattern.parts) (a0 : ok n r) :
 DP 245 #[arv r K0 M0 K1 M1] w (pA w n (a1a r)) := by
 have hb := bS0 hn
 refine EN Tryz.func245 Z (aS2 N0 N1) ?_
 refine R0 ?_
 refine WX.draw [13] mixed fun bs G0 ak => ?_
 refine dT 8 [3, 5, 6, 15, 17, 18] ?_
 refine DX.toTX fun S_ => ?_
 refine TX.all2 0 6 J ?_ ?_
 refine TS.op 0 Z J ?_
 refine zB fun p1 => ?_
 refine R0 ?_
 refine WX.back0 ?_
 refine TX.all2 4 6 J ?_ ?_
 have r1 := (okl (ad9 (adx a0).1)).1
 refine TS.opK 4 Z (afn (α := Str) 3 0 (r.dataPattern.parts : List Str).length ttOk Z Z Z Z Z Z Z Z Z τ7 τ0 τ0 Z) ?_
 refine F0 2 Str ?_
 refine zG 3 0 3 (r.dataPattern.parts : List Str).length Z fun ar p2 c1 => ?_
 refine WX.know (fun G hΓ => (hΓ.get 3 Z : RdL _ _ _).flat) fun a9 => ?_
 refine WX.turn [2] 4 Z (fun h hs => afx hs a9) Z ?_
 refine R0 ?_
 refine WX.back0 ?_
 refine TX.all2 5 6 J ?_ ?_
 refine TS.opK 5 Z (ae0 ttOk Z) ?_
 refine R0 ?_
 refine WX.back0 ?_
 refine TX.all1 6 J ?_
 refine TS.op 6 Z J ?_
 refine zB fun p3 => ?_
 refine R0 ?_
 refine WX.back0 ?_
 refine TX.all1 10 J ?_
 have r2 := (okl (ad9 (adx a0).2)).1
 refine TS.opK 10 Z (afn (α := Str) 9 1 (r.keyPattern.parts : List Str).length ttOk Z Z Z Z Z Z Z Z Z τ7 τ0 τ0 Z) ?_
 refine F0 5 Str ?_
 refine zG 9 1 6 (r.keyPattern.parts : List Str).length Z fun ap p4 c2 => ?_
 refine WX.know (fun G hΓ => (hΓ.get 6 Z : RdL _ _ _).flat) fun af => ?_
 refine WX.turn [5] 7 Z (fun h hs => afx hs af) Z ?_
 refine R0 ?_
 refine WX.back0 ?_
 refine TX.all1 11 J ?_
 refine TS.opK 11 Z (ae0 ttOk Z) ?_
 refine R0 ?_
 refine WX.back0 ?_
 refine TX.all1 12 J ?_
 refine TS.opK 12 Z (ae0 ttOk Z) ?_
 refine R0 ?_
 refine WX.back0 ?_
 refine TX.tail [13] Z Z J ?_
 refine yE 3 4 8 ?_
 refine zE 9 7 10 ?_
 rw [show a1a r = r by simp only [a1a, cT, cF]]
 exact zX [9, 11] ((p2, c1), (p4, c2)) (An (ada τ0 (okl (ad9 (adx a0).1)).2 : ok n (r.dataPattern.parts : List Str)) (ada τ0 (okl (ad9 (adx a0).2)).2 : ok n (r.keyPattern.parts : List Str)))
 refine TS.op 6 Z J ?_
 refine zB fun p5 => ?_
 refine R0 ?_
 refine WX.back0 ?_
 refine TX.all2 5 10 J ?_ ?_
 refine TS.opK 5 Z (ae0 ttOk Z) ?_
 refine R0 ?_
 refine WX.back0 ?_
 refine TX.all1 10 J ?_
 have r3 := (okl (ad9 (adx a0).2)).1
 refine TS.opK 10 Z (afn (α := Str) 9 1 (r.keyPattern.parts : List Str).length ttOk Z Z Z Z Z Z Z Z Z τ7 τ0 τ0 Z) ?_
 refine F0 12 Str ?_
 refine zG 9 1 13 (r.keyPattern.parts : List Str).length Z fun am p6 c3 => ?_
 refine WX.know (fun G hΓ => (hΓ.get 13 Z : RdL _ _ _).flat) fun a6 => ?_
 refine WX.turn [12] 14 Z (fun h hs => afx hs a6) Z ?_
 refine R0 ?_
 refine WX.back0 ?_
 refine TX.all1 11 J ?_
 refine TS.opK 11 Z (ae0 ttOk Z) ?_
 refine R0 ?_
 refine WX.back0 ?_
 refine TX.all1 12 J ?_
 refine TS.opK 12 Z (ae0 ttOk Z) ?_
 refine R0 ?_
 refine WX.back0 ?_
 refine TX.tail [13] Z Z J ?_
 refine yE 3 4 15 ?_
 refine zE 9 14 17 ?_
 rw [show a1a r = r by simp only [a1a, cT, cF]]
 exact zX [16, 18] ((p2, c1), (p6, c3)) (An (ada τ0 (okl (ad9 (adx a0).1)).2 : ok n (r.dataPattern.parts : List Str)) (ada τ0 (okl (ad9 (adx a0).2)).2 : ok n (r.keyPattern.parts : List Str)))
 have r4 := (okl (ad9 (adx a0).2)).1
 refine TS.opK 10 Z (afn (α := Str) 9 1 (r.keyPattern.parts : List Str).length ttOk Z Z Z Z Z Z Z Z Z τ7 τ0 τ0 Z) ?_
 refine F0 19 Str ?_
 refine zG 9 1 20 (r.keyPattern.parts : List Str).length Z fun av p7 c4 => ?_
 refine WX.know (fun G hΓ => (hΓ.get 20 Z : RdL _ _ _).flat) fun ad => ?_
 refine WX.turn [19] 21 Z (fun h hs => afx hs ad) Z ?_
 refine R0 ?_
 refine WX.back0 ?_
 refine TX.all2 5 11 J ?_ ?_
 refine TS.opK 5 Z (ae0 ttOk Z) ?_
 refine R0 ?_
 refine WX.back0 ?_
 refine TX.all1 11 J ?_
 refine TS.opK 11 Z (ae0 ttOk Z) ?_
 refine R0 ?_
 refine WX.back0 ?_
 refine TX.all1 12 J ?_
 refine TS.opK 12 Z (ae0 ttOk Z) ?_
 refine R0 ?_
 refine WX.back0 ?_
 refine TX.tail [13] Z Z J ?_
 refine yE 3 4 22 ?_
 refine zE 9 21 24 ?_
 rw [show a1a r = r by simp only [a1a, cT, cF]]
 exact zX [23, 25] ((p2, c1), (p7, c4)) (An (ada τ0 (okl (ad9 (adx a0).1)).2 : ok n (r.dataPattern.parts : List Str)) (ada τ0 (okl (ad9 (adx a0).2)).2 : ok n (r.keyPattern.parts : List Str)))
 refine TS.opK 11 Z (ae0 ttOk Z) ?_
 refine R0 ?_
 refine WX.back0 ?_
 refine TX.all1 5 J ?_
 refine TS.opK 5 Z (ae0 ttOk Z) ?_
 refine R0 ?_
 refine WX.back0 ?_
 refine TX.all1 12 J ?_
 refine TS.opK 12 Z (ae0 ttOk Z) ?_
 refine R0 ?_
 refine WX.back0 ?_
 refine TX.tail [13] Z Z J ?_
 refine yE 3 4 26 ?_
 refine zE 9 21 28 ?_
 rw [show a1a r = r by simp only [a1a, cT, cF]]
 exact zX [27, 29] ((p2, c1), (p7, c4)) (An (ada τ0 (okl (ad9 (adx a0).1)).2 : ok n (r.dataPattern.parts : List Str)) (ada τ0 (okl (ad9 (adx a0).2)).2 : ok n (r.keyPattern.parts : List Str)))
 refine TS.op 6 Z J ?_
 refine zB fun p8 => ?_
 refine R0 ?_
 refine WX.back0 ?_
 refine TX.all1 4 J ?_
 have r5 := (okl (ad9 (adx a0).1)).1
 refine TS.opK 4 Z (afn (α := Str) 3 0 (r.dataPattern.parts : List Str).length ttOk Z Z Z Z Z Z Z Z Z τ7 τ0 τ0 Z) ?_
 refine F0 30 Str ?_
 refine zG 3 0 31 (r.dataPattern.parts : List Str).length Z fun an p9 c5 => ?_
 refine WX.know (fun G hΓ => (hΓ.get 31 Z : RdL _ _ _).flat) fun ag => ?_
 refine WX.turn [30] 32 Z (fun h hs => afx hs ag) Z ?_
 refine R0 ?_
 refine WX.back0 ?_
 refine TX.all2 5 10 J ?_ ?_
 refine TS.opK 5 Z (ae0 ttOk Z) ?_
 refine R0 ?_
 refine WX.back0 ?_
 refine TX.all1 10 J ?_
 have r6 := (okl (ad9 (adx a0).2)).1
 refine TS.opK 10 Z (afn (α := Str) 9 1 (r.keyPattern.parts : List Str).length ttOk Z Z Z Z Z Z Z Z Z τ7 τ0 τ0 Z) ?_
 refine F0 33 Str ?_
 refine zG 9 1 34 (r.keyPattern.parts : List Str).length Z fun aw a8 c6 => ?_
 refine WX.know (fun G hΓ => (hΓ.get 34 Z : RdL _ _ _).flat) fun ac => ?_
 refine WX.turn [33] 35 Z (fun h hs => afx hs ac) Z ?_
 refine R0 ?_
 refine WX.back0 ?_
 refine TX.all1 11 J ?_
 refine TS.opK 11 Z (ae0 ttOk Z) ?_
 refine R0 ?_
 refine WX.back0 ?_
 refine TX.all1 12 J ?_
 refine TS.opK 12 Z (ae0 ttOk Z) ?_
 refine R0 ?_
 refine WX.back0 ?_
 refine TX.tail [13] Z Z J ?_
 refine yE 3 32 36 ?_
 refine zE 9 35 38 ?_
 rw [show a1a r = r by simp only [a1a, cT, cF]]
 exact zX [37, 39] ((p9, c5), (a8, c6)) (An (ada τ0 (okl (ad9 (adx a0).1)).2 : ok n (r.dataPattern.parts : List Str)) (ada τ0 (okl (ad9 (adx a0).2)).2 : ok n (r.keyPattern.parts : List Str)))
 have r7 := (okl (ad9 (adx a0).2)).1
 refine TS.opK 10 Z (afn (α := Str) 9 1 (r.keyPattern.parts : List Str).length ttOk Z Z Z Z Z Z Z Z Z τ7 τ0 τ0 Z) ?_
 refine F0 40 Str ?_
 refine zG 9 1 41 (r.keyPattern.parts : List Str).length Z fun aq a5 c7 => ?_
 refine WX.know (fun G hΓ => (hΓ.get 41 Z : RdL _ _ _).flat) fun ab => ?_
 refine WX.turn [40] 42 Z (fun h hs => afx hs ab) Z ?_
 refine R0 ?_
 refine WX.back0 ?_
 refine TX.all2 5 11 J ?_ ?_
 refine TS.opK 5 Z (ae0 ttOk Z) ?_
 refine R0 ?_
 refine WX.back0 ?_
 refine TX.all1 11 J ?_
 refine TS.opK 11 Z (ae0 ttOk Z) ?_
 refine R0 ?_
 refine WX.back0 ?_
 refine TX.all1 12 J ?_
 refine TS.opK 12 Z (ae0 ttOk Z) ?_
 refine R0 ?_
 refine WX.back0 ?_
 refine TX.tail [13] Z Z J ?_
 refine yE 3 32 43 ?_
 refine zE 9 42 45 ?_
 rw [show a1a r = r by simp only [a1a, cT, cF]]
 exact zX [44, 46] ((p9, c5), (a5, c7)) (An (ada τ0 (okl (ad9 (adx a0).1)).2 : ok n (r.dataPattern.parts : List Str)) (ada τ0 (okl (ad9 (adx a0).2)).2 : ok n (r.keyPattern.parts : List Str)))
 refine TS.opK 11 Z (ae0 ttOk Z) ?_
 refine R0 ?_
 refine WX.back0 ?_
 refine TX.all1 5 J ?_
 refine TS.opK 5 Z (ae0 ttOk Z) ?_
 refine R0 ?_
 refine WX.back0 ?_
 refine TX.all1 12 J ?_
 refine TS.opK 12 Z (ae0 ttOk Z) ?_
 refine R0 ?_
 refine WX.back0 ?_
 refine TX.tail [13] Z Z J ?_
 refine yE 3 32 47 ?_
 refine zE 9 42 49 ?_
 rw [show a1a r = r by simp only [a1a, cT, cF]]
 exact zX [48, 50] ((p9, c5), (a5, c7)) (An (ada τ0 (okl (ad9 (adx a0).1)).2 : ok n (r.dataPattern.parts : List Str)) (ada τ0 (okl (ad9 (adx a0).2)).2 : ok n (r.keyPattern.parts : List Str)))
 refine TS.op 6 Z J ?_
 refine zB fun ao => ?_
 refine R0 ?_
 refine WX.back0 ?_
 refine TX.all1 0 J ?_
 refine TS.op 0 Z J ?_
 refine zB fun al => ?_
 refine R0 ?_
 refine WX.back0 ?_
 refine TX.all1 4 J ?_
 have r8 := (okl (ad9 (adx a0).1)).1
 refine TS.opK 4 Z (afn (α := Str) 3 0 (r.dataPattern.parts : List Str).length ttOk Z Z Z Z Z Z Z Z Z τ7 τ0 τ0 Z) ?_
 refine F0 51 Str ?_
 refine zG 3 0 52 (r.dataPattern.parts : List Str).length Z fun aj a2 c8 => ?_
 refine WX.know (fun G hΓ => (hΓ.get 52 Z : RdL _ _ _).flat) fun a7 => ?_
 refine WX.turn [51] 53 Z (fun h hs => afx hs a7) Z ?_
 refine R0 ?_
 refine WX.back0 ?_
 refine TX.all2 5 10 J ?_ ?_
 refine TS.opK 5 Z (ae0 ttOk Z) ?_
 refine R0 ?_
 refine WX.back0 ?_
 refine TX.all1 10 J ?_
 have r9 := (okl (ad9 (adx a0).2)).1
 refine TS.opK 10 Z (afn (α := Str) 9 1 (r.keyPattern.parts : List Str).length ttOk Z Z Z Z Z Z Z Z Z τ7 τ0 τ0 Z) ?_
 refine F0 54 Str ?_
 refine zG 9 1 55 (r.keyPattern.parts : List Str).length Z fun au ae c9 => ?_
 refine WX.know (fun G hΓ => (hΓ.get 55 Z : RdL _ _ _).flat) fun aa => ?_
 refine WX.turn [54] 56 Z (fun h hs => afx hs aa) Z ?_
 refine R0 ?_
 refine WX.back0 ?_
 refine TX.all1 11 J ?_
 refine TS.opK 11 Z (ae0 ttOk Z) ?_
 refine R0 ?_
 refine WX.back0 ?_
 refine TX.all1 12 J ?_
 refine TS.opK 12 Z (ae0 ttOk Z) ?_
 refine R0 ?_
 refine WX.back0 ?_
 refine TX.tail [13] Z Z J ?_
 refine yE 3 53 57 ?_
 refine zE 9 56 59 ?_
 rw [show a1a r = r by simp only [a1a, cT, cF]]
 exact zX [58, 60] ((a2, c8), (ae, c9)) (An (ada τ0 (okl (ad9 (adx a0).1)).2 : ok n (r.dataPattern.parts : List Str)) (ada τ0 (okl (ad9 (adx a0).2)).2 : ok n (r.keyPattern.parts : List Str)))
 have ai := (okl (ad9 (adx a0).2)).1
 refine TS.opK 10 Z (afn (α := Str) 9 1 (r.keyPattern.parts : List Str).length ttOk Z Z Z Z Z Z Z Z Z τ7 τ0 τ0 Z) ?_
 refine F0 61 Str ?_
 refine zG 9 1 62 (r.keyPattern.parts : List Str).length Z fun ah a3 a4 => ?_
 refine WX.know (fun G hΓ => (hΓ.get 62 Z : RdL _ _ _).flat) fun a1 => ?_
 refine WX.turn [61] 63 Z (fun h hs => afx hs a1) Z ?_
 refine R0 ?_
 refine WX.back0 ?_
 refine TX.all2 5 11 J ?_ ?_
 refine TS.opK 5 Z (ae0 ttOk Z) ?_
 refine R0 ?_
 refine WX.back0 ?_
 refine TX.all1 11 J ?_
 refine TS.opK 11 Z (ae0 ttOk Z) ?_
 refine R0 ?_
 refine WX.back0 ?_
 refine TX.all1 12 J ?_
 refine TS.opK 12 Z (ae0 ttOk Z) ?_
 refine R0 ?_
 refine WX.back0 ?_
 refine TX.tail [13] Z Z J ?_
 refine yE 3 53 64 ?_
 refine zE 9 63 66 ?_
 rw [show a1a r = r by simp only [a1a, cT, cF]]
 exact zX [65, 67] ((a2, c8), (a3, a4)) (An (ada τ0 (okl (ad9 (adx a0).1)).2 : ok n (r.dataPattern.parts : List Str)) (ada τ0 (okl (ad9 (adx a0).2)).2 : ok n (r.keyPattern.parts : List Str)))
 refine TS.opK 11 Z (ae0 ttOk Z) ?_
 refine R0 ?_
 refine WX.back0 ?_
 refine TX.all1 5 J ?_
 refine TS.opK 5 Z (ae0 ttOk Z) ?_
 refine R0 ?_
 refine WX.back0 ?_
 refine TX.all1 12 J ?_
 refine TS.opK 12 Z (ae0 ttOk Z) ?_
 refine R0 ?_
 refine WX.back0 ?_
 refine TX.tail [13] Z Z J ?_
 refine yE 3 53 68 ?_
 refine zE 9 63 70 ?_
 rw [show a1a r = r by simp only [a1a, cT, cF]]
 exact zX [69, 71] ((a2, c8), (a3, a4)) (An (ada τ0 (okl (ad9 (adx a0).1)).2 : ok n (r.dataPattern.parts : List Str)) (ada τ0 (okl (ad9 (adx a0).2)).2 : ok n (r.keyPattern.parts : List Str)))
theorem f247 (hn : n + 0 ≤ 9) {l : List DataP} (N0 : Rd w K0 M0 l) (a4 : ok n l) :
 DP 247 #[vS K0 l M0] w (pS w n (a9a l)) := by
 have hb := bS0 hn
 refine EN Tryz.func247 Z (aS1 N0) ?_
 refine yB fun p1 => ?_
 refine F0 1 DataP ?_
 have r1 := (okl a4).1
 refine LM Z (p1, 0, [], ([] : List DataP), 0) (fun | (a3, a2, a1, a0, i) => ((i ≤ l.length) ∧ JE n a0 ∧ (a0.length ≤ i) ∧ (ab7 l ([] : List DataP) = ab7 (l.drop i) a0), l.length - i, [(3, .v (vS a3 a0 a2)), (4, .v (vI i))], [], [(6, ⟨5, a3, a0.length, a2, a1⟩)], [(1, MF.ol a1 (a0 : List DataP))])) ⟨zl, nA, τ7, Z⟩ [0] [] [0] [0, 1] ?_
 rintro ⟨a3, a2, a1, a0, i⟩ ⟨v1, v2, v3, v4⟩
 refine yKD 10 ?_ ?_ <;> intro h1 ac
 have a6 : i < l.length := τ0
 obtain ⟨e1, a5⟩ := gE a6
 have aa := okE a4 a5
 refine yI 0 i a6 ?_
 rintro ab rfl
 refine zL 0 2 e1 a5 ?_
 rintro ⟨⟨p2, c1⟩, ⟨p3, c2⟩, ⟨p4, c3⟩, ⟨⟩, ⟨⟩⟩
 refine CF 5 Z Z Z Z Z O Z (fun w γ => f254 n τ0 e1 (γ.q 2 Z) (γ.q 3 Z) (γ.q 4 Z) aa) ?_
 rintro ⟨⟨p5, c4⟩, ⟨p6, c5⟩, ⟨p7, c6⟩, ⟨⟩, ⟨⟩⟩ a9
 refine yB fun p8 => ?_
 refine zT (α := DataP) [8, 9, 10] 11 (a30 e1) ((p5, c4), (p6, c5), (p7, c6), (), ()) fun a8 => ?_
 refine zP 6 20 ((a0 ++ [(a30 e1)]) : List DataP).length a8 fun p9 c7 => ?_
 refine zV [1, 11] 12 ?_
 refine SA ?_
 refine zU [12] 1 ?_
 exact ITr Z (p9, c7, _, ((a0 ++ [(a30 e1)]) : List DataP), i + 1) ⟨τ0, (aeb v2 (all_cons (α := DataP) a9 nA)), τ2, (by rw [v4, acx a5]; simp only [ab7, cT, cF])⟩ τ1 [0, 1]
 have a7 := v4.trans (show _ = (a0 : List DataP) by rw [dn (show l.length ≤ i by omega)]; simp only [ab7, cT, cF])
 refine yE 6 1 13 ?_
 rw [show a9a l = a0 by simp only [a9a, a7, cT, cF]]
 exact zX [14] (a3, a2) (ada τ0 v2 : ok n (a0 : List DataP))
theorem f249 (hn : n + 0 ≤ 9) {l : List PendingInterest} (N0 : Rd w K0 M0 l) (a5 : ok n l) :
 DP 249 #[vS K0 l M0] w (pS w n (ac4 l)) := by
 have hb := bS0 hn
 refine EN Tryz.func249 Z (aS1 N0) ?_
 refine yB fun p1 => ?_
 refine F0 1 PendingInterest ?_
 have r1 := (okl a5).1
 refine LM Z (p1, 0, [], ([] : List PendingInterest), 0) (fun | (a3, a2, a1, a0, i) => ((i ≤ l.length) ∧ JE n a0 ∧ (a0.length ≤ i) ∧ (ab8 l ([] : List PendingInterest) = ab8 (l.drop i) a0), l.length - i, [(3, .v (vS a3 a0 a2)), (4, .v (vI i))], [], [(6, ⟨3, a3, a0.length, a2, a1⟩)], [(1, MF.ol a1 (a0 : List PendingInterest))])) ⟨zl, nA, τ7, Z⟩ [0] [] [0] [0, 1] ?_
 rintro ⟨a3, a2, a1, a0, i⟩ ⟨v1, v2, v3, v4⟩
 refine yKD 10 ?_ ?_ <;> intro h1 ag
 have a8 : i < l.length := τ0
 obtain ⟨e1, a6⟩ := gE a8
 have a4 := okE a5 a6
 refine yI 0 i a8 ?_
 rintro af rfl
 refine yL 0 2 e1 a6 ?_
 rintro ⟨⟨p2, c1⟩, ⟨p3, c2⟩, ⟨⟩⟩
 refine CF 4 Z Z Z Z Z O Z (fun w γ => f246 n τ0 e1.name (γ.q 2 Z) ((ad8 a4).1)) ?_
 rintro ⟨p4, c3⟩ ab
 refine R0 ?_
 refine WX.draw [16] mixed fun bs G0 a7 => ?_
 refine dT 14 [1, 2, 7, 9] ?_
 refine zDI 5 0 i a7 Z a8 ?_
 rintro aj ⟨⟩
 refine dT 12 [13] ?_
 refine zDL 7 0 6 e1 a7 a6 ?_
 rintro ⟨⟨p5, c4⟩, ⟨p6, c5⟩, ⟨⟩⟩
 refine dT 9 [19, 21] ?_
 refine zDI 11 0 i a7 Z a8 ?_
 rintro ah ⟨⟩
 refine dT 7 [25] ?_
 refine zDL 13 0 8 e1 a7 a6 ?_
 rintro ⟨⟨p7, c6⟩, ⟨p8, c7⟩, ⟨⟩⟩
 refine DX.toTX fun S_ => ?_
 refine TX.all1 2 J ?_
 refine TS.op 2 Z J ?_
 refine zB fun p9 => ?_
 refine R0 ?_
 refine WX.back0 ?_
 refine TX.all1 8 J ?_
 have r2 := (okl (ad8 a4).2.1).1
 refine TS.opK 8 Z (afn (α := Requester) 21 7 (e1.requesters : List Requester).length ttOk Z Z Z Z Z Z Z Z Z τ7 τ0 τ0 Z) ?_
 refine F0 10 Requester ?_
 refine zG 21 7 11 (e1.requesters : List Requester).length Z fun ak ac c8 => ?_
 refine WX.know (fun G hΓ => (hΓ.get 11 Z : RdL _ _ _).flat) fun ad => ?_
 refine WX.turn [10] 12 Z (fun h hs => afx hs ad) Z ?_
 refine R0 ?_
 refine WX.back0 ?_
 refine TX.all1 14 J ?_
 refine TS.opK 14 Z (ae0 ttOk Z) ?_
 refine R0 ?_
 refine WX.back0 ?_
 refine TX.all1 15 J ?_
 refine TS.op 15 Z J ?_
 refine zE 21 12 13 ?_
 refine zB fun ai => ?_
 refine R0 ?_
 refine WX.back0 ?_
 refine TX.all1 16 J ?_
 refine TS.op 16 Z J ?_
 refine zT (α := PendingInterest) [5, 14] 15 (PendingInterest.mk (a0g e1.name) e1.requesters e1.lastSent) ((p4, c3), (ac, c8), ()) fun _ => ?_
 have r3 := i8 ((ad8 a4).2.2)
 refine WX.know (fun G hΓ => (hΓ.get 15 Z : OwL _ _ _).rd.one) fun aa => ?_
 refine zP 6 34 ((a0 ++ [(PendingInterest.mk (a0g e1.name) e1.requesters e1.lastSent)]) : List PendingInterest).length aa fun ae c9 => ?_
 refine zV [1, 15] 16 ?_
 refine R0 ?_
 refine WX.back0 ?_
 refine TX.all1 17 J ?_
 refine TS.opK 17 Z (ae0 ttOk Z) ?_
 refine R0 ?_
 refine WX.back0 ?_
 refine TX.tail [] Z Z J ?_
 refine SA ?_
 refine zU [16] 1 ?_
 exact ITr Z (ae, c9, _, ((a0 ++ [(PendingInterest.mk (a0g e1.name) e1.requesters e1.lastSent)]) : List PendingInterest), i + 1) ⟨τ0, (aeb v2 (all_cons (α := PendingInterest) (An ab (An (ada τ0 (okl (ad8 a4).2.1).2 : ok n (e1.requesters : List Requester)) (ad8 a4).2.2)) nA)), τ2, (by rw [v4, acx a6]; simp only [ab8, cT, cF])⟩ τ1 [0, 1]
 have a9 := v4.trans (show _ = (a0 : List PendingInterest) by rw [dn (show l.length ≤ i by omega)]; simp only [ab8, cT, cF])
 refine yE 6 1 17 ?_
 rw [show ac4 l = a0 by simp only [ac4, a9, cT, cF]]
 exact zX [18] (a3, a2) (ada τ0 v2 : ok n (a0 : List PendingInterest))
theorem f250 (hn : n + 0 ≤ 9) {s : List SeenNonce} (N0 : Rd w K0 M0 s) (a4 : ok n s) :
 DP 250 #[vS K0 s M0] w (pS w n (ac5 s)) := by
 have hb := bS0 hn
 refine EN Tryz.func250 Z (aS1 N0) ?_
 refine yB fun p1 => ?_
 refine F0 1 SeenNonce ?_
 have r1 := (okl a4).1
 refine LM Z (p1, 0, [], ([] : List SeenNonce), 0) (fun | (a3, a2, a1, a0, i) => ((i ≤ s.length) ∧ JE n a0 ∧ (a0.length ≤ i) ∧ (ab9 s ([] : List SeenNonce) = ab9 (s.drop i) a0), s.length - i, [(3, .v (vS a3 a0 a2)), (4, .v (vI i))], [], [(6, ⟨2, a3, a0.length, a2, a1⟩)], [(1, MF.ol a1 (a0 : List SeenNonce))])) ⟨zl, nA, τ7, Z⟩ [0] [] [0] [0, 1] ?_
 rintro ⟨a3, a2, a1, a0, i⟩ ⟨v1, v2, v3, v4⟩
 refine yKD 10 ?_ ?_ <;> intro h1 ad
 have a6 : i < s.length := τ0
 obtain ⟨e1, a5⟩ := gE a6
 have a7 := okE a4 a5
 refine yI 0 i a6 ?_
 rintro ac rfl
 refine yL 0 2 e1 a5 ?_
 rintro ⟨⟨p2, c1⟩, ⟨⟩⟩
 refine CF 3 Z Z Z Z Z O Z (fun w γ => f246 n τ0 e1.name (γ.q 2 Z) ((aew a7).1)) ?_
 rintro ⟨p3, c2⟩ ab
 refine R0 ?_
 refine WX.draw [9, 10] mixed fun bs G0 a8 => ?_
 refine dT 7 [1, 2, 5, 7] ?_
 refine zDI 4 0 i a8 Z a6 ?_
 rintro ae ⟨⟩
 refine dT 5 [11] ?_
 refine zDL 6 0 5 e1 a8 a5 ?_
 rintro ⟨⟨p4, c3⟩, ⟨⟩⟩
 refine dT 3 [15] ?_
 refine DX.tail2 [8, 9, 10] Z Z J ?_
 refine zB fun p5 => ?_
 refine zT (α := SeenNonce) [4] 6 (SeenNonce.mk (a0g e1.name) e1.nonce) ((p3, c2), ()) fun _ => ?_
 have r2 := i8 ((aew a7).2)
 refine WX.know (fun G hΓ => (hΓ.get 6 Z : OwL _ _ _).rd.one) fun aa => ?_
 refine zP 6 27 ((a0 ++ [(SeenNonce.mk (a0g e1.name) e1.nonce)]) : List SeenNonce).length aa fun p6 c4 => ?_
 refine zV [1, 6] 7 ?_
 refine SA ?_
 refine zU [7] 1 ?_
 exact ITr Z (p6, c4, _, ((a0 ++ [(SeenNonce.mk (a0g e1.name) e1.nonce)]) : List SeenNonce), i + 1) ⟨τ0, (aeb v2 (all_cons (α := SeenNonce) (An ab (aew a7).2) nA)), τ2, (by rw [v4, acx a5]; simp only [ab9, cT, cF])⟩ τ1 [0, 1]
 have a9 := v4.trans (show _ = (a0 : List SeenNonce) by rw [dn (show s.length ≤ i by omega)]; simp only [ab9, cT, cF])
 refine yE 6 1 8 ?_
 rw [show ac5 s = a0 by simp only [ac5, a9, cT, cF]]
 exact zX [9] (a3, a2) (ada τ0 v2 : ok n (a0 : List SeenNonce))
theorem f251 (hn : n + 0 ≤ 9) {l : List Route} (N0 : Rd w K0 M0 l) (a5 : ok n l) :
 DP 251 #[vS K0 l M0] w (pS w n (a11 l)) := by
 have hb := bS0 hn
 refine EN Tryz.func251 Z (aS1 N0) ?_
 refine yB fun p1 => ?_
 refine F0 1 Route ?_
 have r1 := (okl a5).1
 refine LM Z (p1, 0, [], ([] : List Route), 0) (fun | (a3, a2, a1, a0, i) => ((i ≤ l.length) ∧ JE n a0 ∧ (a0.length ≤ i) ∧ (a7y l ([] : List Route) = a7y (l.drop i) a0), l.length - i, [(3, .v (vS a3 a0 a2)), (4, .v (vI i))], [], [(6, ⟨3, a3, a0.length, a2, a1⟩)], [(1, MF.ol a1 (a0 : List Route))])) ⟨zl, nA, τ7, Z⟩ [0] [] [0] [0, 1] ?_
 rintro ⟨a3, a2, a1, a0, i⟩ ⟨v1, v2, v3, v4⟩
 refine yKD 10 ?_ ?_ <;> intro h1 ad
 have a8 : i < l.length := τ0
 obtain ⟨e1, a6⟩ := gE a8
 have a4 := okE a5 a6
 refine yI 0 i a8 ?_
 rintro ac rfl
 refine yL 0 2 e1 a6 ?_
 rintro ⟨⟨p2, c1⟩, ⟨⟩, ⟨⟩⟩
 refine CF 3 Z Z Z Z Z O Z (fun w γ => f246 n τ0 e1.pfx (γ.q 2 Z) ((adn a4).1)) ?_
 rintro ⟨p3, c2⟩ ab
 refine R0 ?_
 refine WX.draw [14, 15] mixed fun bs G0 a7 => ?_
 refine dT 12 [1, 2, 5, 7] ?_
 refine zDI 4 0 i a7 Z a8 ?_
 rintro af ⟨⟩
 refine dT 10 [11] ?_
 refine zDL 6 0 5 e1 a7 a6 ?_
 rintro ⟨⟨p4, c3⟩, ⟨⟩, ⟨⟩⟩
 refine dT 7 [15, 17] ?_
 refine zDI 9 0 i a7 Z a8 ?_
 rintro ae ⟨⟩
 refine dT 5 [21] ?_
 refine zDL 11 0 6 e1 a7 a6 ?_
 rintro ⟨⟨p5, c4⟩, ⟨⟩, ⟨⟩⟩
 refine dT 3 [25] ?_
 refine DX.tail2 [13, 14, 15] Z Z J ?_
 refine zB fun p6 => ?_
 refine zT (α := Route) [4] 7 (Route.mk (a0g e1.pfx) e1.face e1.cost) ((p3, c2), (), ()) fun _ => ?_
 have r2 := i8 ((adn a4).2.1)
 have r3 := i8 ((adn a4).2.2)
 refine WX.know (fun G hΓ => (hΓ.get 7 Z : OwL _ _ _).rd.one) fun aa => ?_
 refine zP 6 32 ((a0 ++ [(Route.mk (a0g e1.pfx) e1.face e1.cost)]) : List Route).length aa fun p7 c5 => ?_
 refine zV [1, 7] 8 ?_
 refine SA ?_
 refine zU [8] 1 ?_
 exact ITr Z (p7, c5, _, ((a0 ++ [(Route.mk (a0g e1.pfx) e1.face e1.cost)]) : List Route), i + 1) ⟨τ0, (aeb v2 (all_cons (α := Route) (An ab (An (adn a4).2.1 (adn a4).2.2)) nA)), τ2, (by rw [v4, acx a6]; simp only [a7y, cT, cF])⟩ τ1 [0, 1]
 have a9 := v4.trans (show _ = (a0 : List Route) by rw [dn (show l.length ≤ i by omega)]; simp only [a7y, cT, cF])
 refine yE 6 1 9 ?_
 rw [show a11 l = a0 by simp only [a11, a9, cT, cF]]
 exact zX [10] (a3, a2) (ada τ0 v2 : ok n (a0 : List Route))
theorem f252 (hn : n + 0 ≤ 9) {l : List Measurement} (N0 : Rd w K0 M0 l) (a5 : ok n l) :
 DP 252 #[vS K0 l M0] w (pS w n (ac6 l)) := by
 have hb := bS0 hn
 refine EN Tryz.func252 Z (aS1 N0) ?_
 refine yB fun p1 => ?_
 refine F0 1 Measurement ?_
 have r1 := (okl a5).1
 refine LM Z (p1, 0, [], ([] : List Measurement), 0) (fun | (a3, a2, a1, a0, i) => ((i ≤ l.length) ∧ JE n a0 ∧ (a0.length ≤ i) ∧ (aba l ([] : List Measurement) = aba (l.drop i) a0), l.length - i, [(3, .v (vS a3 a0 a2)), (4, .v (vI i))], [], [(6, ⟨3, a3, a0.length, a2, a1⟩)], [(1, MF.ol a1 (a0 : List Measurement))])) ⟨zl, nA, τ7, Z⟩ [0] [] [0] [0, 1] ?_
 rintro ⟨a3, a2, a1, a0, i⟩ ⟨v1, v2, v3, v4⟩
 refine yKD 10 ?_ ?_ <;> intro h1 ad
 have a8 : i < l.length := τ0
 obtain ⟨e1, a6⟩ := gE a8
 have a4 := okE a5 a6
 refine yI 0 i a8 ?_
 rintro ac rfl
 refine yL 0 2 e1 a6 ?_
 rintro ⟨⟨p2, c1⟩, ⟨⟩, ⟨⟩⟩
 refine CF 3 Z Z Z Z Z O Z (fun w γ => f246 n τ0 e1.pfx (γ.q 2 Z) ((ae3 a4).1)) ?_
 rintro ⟨p3, c2⟩ ab
 refine R0 ?_
 refine WX.draw [14, 15] mixed fun bs G0 a7 => ?_
 refine dT 12 [1, 2, 5, 7] ?_
 refine zDI 4 0 i a7 Z a8 ?_
 rintro af ⟨⟩
 refine dT 10 [11] ?_
 refine zDL 6 0 5 e1 a7 a6 ?_
 rintro ⟨⟨p4, c3⟩, ⟨⟩, ⟨⟩⟩
 refine dT 7 [15, 17] ?_
 refine zDI 9 0 i a7 Z a8 ?_
 rintro ae ⟨⟩
 refine dT 5 [21] ?_
 refine zDL 11 0 6 e1 a7 a6 ?_
 rintro ⟨⟨p5, c4⟩, ⟨⟩, ⟨⟩⟩
 refine dT 3 [25] ?_
 refine DX.tail2 [13, 14, 15] Z Z J ?_
 refine zB fun p6 => ?_
 refine zT (α := Measurement) [4] 7 (Measurement.mk (a0g e1.pfx) e1.face e1.failures) ((p3, c2), (), ()) fun _ => ?_
 have r2 := i8 ((ae3 a4).2.1)
 have r3 := i8 ((ae3 a4).2.2)
 refine WX.know (fun G hΓ => (hΓ.get 7 Z : OwL _ _ _).rd.one) fun aa => ?_
 refine zP 6 32 ((a0 ++ [(Measurement.mk (a0g e1.pfx) e1.face e1.failures)]) : List Measurement).length aa fun p7 c5 => ?_
 refine zV [1, 7] 8 ?_
 refine SA ?_
 refine zU [8] 1 ?_
 exact ITr Z (p7, c5, _, ((a0 ++ [(Measurement.mk (a0g e1.pfx) e1.face e1.failures)]) : List Measurement), i + 1) ⟨τ0, (aeb v2 (all_cons (α := Measurement) (An ab (An (ae3 a4).2.1 (ae3 a4).2.2)) nA)), τ2, (by rw [v4, acx a6]; simp only [aba, cT, cF])⟩ τ1 [0, 1]
 have a9 := v4.trans (show _ = (a0 : List Measurement) by rw [dn (show l.length ≤ i by omega)]; simp only [aba, cT, cF])
 refine yE 6 1 9 ?_
 rw [show ac6 l = a0 by simp only [ac6, a9, cT, cF]]
 exact zX [10] (a3, a2) (ada τ0 v2 : ok n (a0 : List Measurement))
theorem f248 (hn : n + 0 ≤ 9) (c_ : ContentStore) (N0 : Rd w K0 M0 c_.entries) (a1 : ok n c_) :
 DP 248 #[.agg #[vI c_.capacity, vS K0 c_.entries M0]] w (pA w n (ac7 c_)) := by
 have hb := bS0 hn
 refine EN Tryz.func248 Z (aS1 N0) ?_
 refine R0 ?_
 refine WX.row0 501 6 none Z ?_
 refine F0 1 CacheEntry ?_
 have r1 := (okl (aei a1).2).1
 refine LK (0, none, 0, [], ([] : List CacheEntry)) (fun | (i, a4, a3, a2, a0) => ((i ≤ c_.entries.length) ∧ JE n a0 ∧ (a0.length ≤ i) ∧ (a9b c_.entries ([] : List CacheEntry) = a9b (c_.entries.drop i) a0), c_.entries.length - i, [(4, .v (vI i))], [(3, ⟨99, [.int .i64 (c_.capacity), .slice a4 (a0.length) a3]⟩)], [(501, ⟨6, a4, a0.length, a3, a2⟩)], [(1, MF.ol a2 (a0 : List CacheEntry))])) ⟨zl, nA, τ7, Z⟩ [3, 2, 1] [2, 1] [0] [0, 1] ?_
 rintro ⟨i, a4, a3, a2, a0⟩ ⟨v1, v2, v3, v4⟩
 refine yKD 13 ?_ ?_ <;> intro h1 af
 have a6 : i < c_.entries.length := τ0
 obtain ⟨e1, a5⟩ := gE a6
 have a7 := okE (aei a1).2 a5
 refine yI 0 i a6 ?_
 rintro ae rfl
 refine yL 0 2 e1 a5 ?_
 rintro ⟨⟨⟨p1, c1⟩, ⟨p2, c2⟩, ⟨p3, c3⟩, ⟨⟩, ⟨⟩⟩, ⟨⟩⟩
 refine CF 5 Z Z Z Z Z O Z (fun w γ => f254 n τ0 e1.data (γ.q 2 Z) (γ.q 3 Z) (γ.q 4 Z) ((aec a7).1)) ?_
 rintro ⟨⟨p4, c4⟩, ⟨p5, c5⟩, ⟨p6, c6⟩, ⟨⟩, ⟨⟩⟩ ab
 refine R0 ?_
 refine WX.draw [11, 12, 13] mixed fun bs G0 a8 => ?_
 refine dT 8 [1, 2, 4, 7, 8, 11] ?_
 refine zDI 6 0 i a8 Z a6 ?_
 rintro ah ⟨⟩
 refine dT 6 [15] ?_
 refine zDL 8 0 11 e1 a8 a5 ?_
 rintro ⟨⟨⟨p7, c7⟩, ⟨p8, c8⟩, ⟨p9, c9⟩, ⟨⟩, ⟨⟩⟩, ⟨⟩⟩
 refine dT 4 [19] ?_
 refine DX.tail2 [10, 11, 12, 13] Z Z J ?_
 refine zB fun ag => ?_
 refine zT (α := CacheEntry) [8, 9, 10] 14 (CacheEntry.mk (a30 e1.data) e1.lastUsed) (((p4, c4), (p5, c5), (p6, c6), (), ()), ()) fun _ => ?_
 have r2 := i8 ((aec a7).2)
 refine WX.know (fun G hΓ => (hΓ.get 14 Z : OwL _ _ _).rd.one) fun aa => ?_
 refine zP 501 33 ((a0 ++ [(CacheEntry.mk (a30 e1.data) e1.lastUsed)]) : List CacheEntry).length aa fun ad ac => ?_
 refine zV [1, 14] 15 ?_
 refine SA ?_
 refine zU [15] 1 ?_
 exact ITr Z (i + 1, ad, ac, _, ((a0 ++ [(CacheEntry.mk (a30 e1.data) e1.lastUsed)]) : List CacheEntry)) ⟨τ0, (aeb v2 (all_cons (α := CacheEntry) (An ab (aec a7).2) nA)), τ2, (by rw [v4, acx a5]; simp only [a9b, cT, cF])⟩ τ1 [0, 1]
 have a9 := v4.trans (show _ = (a0 : List CacheEntry) by rw [dn (show c_.entries.length ≤ i by omega)]; simp only [a9b, cT, cF])
 refine yE 501 1 16 ?_
 rw [show ac7 c_ = (ContentStore.mk c_.capacity a0) by simp only [ac7, a9, cT, cF]]
 exact zX [17] ((), (a4, a3)) (An (aei a1).1 (ada τ0 v2 : ok n (a0 : List CacheEntry)))
theorem f124 (hn : n + 0 ≤ 9) (x_ : NodeP) (N0 : Rd w K0 M0 x_.locl) (N1 : Rd w K1 M1 x_.cache.entries) (N2 : Rd w K2 M2 x_.pending) (N3 : Rd w K3 M3 x_.seen) (N4 : Rd w K4 M4 x_.routes) (N5 : Rd w K5 M5 x_.measurements) (a0 : ok n x_) :
 DP 124 #[apk x_ K0 M0 K1 M1 K2 M2 K3 M3 K4 M4 K5 M5] w (pA w n (a9c x_)) := by
 have hb := bS0 hn
 refine EN Tryz.func124 Z (aS6 N0 N1 N2 N3 N4 N5) ?_
 refine R0 ?_
 refine WX.draw [21] mixed fun bs G0 a7 => ?_
 refine dT 8 [1, 2, 7, 8, 13, 14, 19, 20, 25, 26, 31, 32, 37, 38] ?_
 refine DXF 2 6 Z J Z Z Z Z Z Z O Z (fun w γ => f197 n τ0 (γ.q 0 Z) ((ad6 a0).1)) ?_
 rintro ⟨p1, c1⟩ a2
 refine DXF 5 8 Z J Z Z Z Z Z Z O Z (fun w γ => f234 n τ0 x_.cache (γ.q 1 Z) ((ad6 a0).2.1)) ?_
 rintro ⟨⟨⟩, ⟨p2, c2⟩⟩ a3
 refine DXF 8 10 Z J Z Z Z Z Z Z O Z (fun w γ => f235 n τ0 (γ.q 2 Z) ((ad6 a0).2.2.1)) ?_
 rintro ⟨p3, c3⟩ a6
 refine DXF 11 12 Z J Z Z Z Z Z Z O Z (fun w γ => f236 n τ0 (γ.q 3 Z) ((ad6 a0).2.2.2.1)) ?_
 rintro ⟨p4, c4⟩ a4
 dsimp only
 refine DXF 14 14 Z J Z Z Z Z Z Z O Z (fun w γ => f152 n τ0 (γ.q 4 Z) ((ad6 a0).2.2.2.2.1)) ?_
 rintro ⟨p5, c5⟩ a1
 dsimp only
 have q1 := congrArg List.length (aj6 x_.routes)
 refine DXF 17 16 Z J Z Z Z Z Z Z O Z (fun w γ => f237 n τ0 (γ.q 5 Z) ((ad6 a0).2.2.2.2.2.1)) ?_
 rintro ⟨p6, c6⟩ a5
 dsimp only
 refine dT 1 [41] ?_
 refine DX.tail2 [21] Z Z J ?_
 rw [show a9c x_ = (NodeP.mk (a7w x_.locl) (ac3 x_.cache) (ac1 x_.pending) (abz x_.seen) (a10 x_.routes) (ac0 x_.measurements) x_.dropped) by simp only [a9c, cT, cF]]
 exact yX [7, 9, 11, 13, 15, 17] ((p1, c1), ((), (p2, c2)), (p3, c3), (p4, c4), (p5, c5), (p6, c6), ()) (An a2 (An a3 (An a6 (An a4 (An a1 (An a5 (ad6 a0).2.2.2.2.2.2))))))
theorem f141 (hn : n + 0 ≤ 9) (x_ : NodeP) (N0 : Rd w K0 M0 x_.locl) (N1 : Rd w K1 M1 x_.cache.entries) (N2 : Rd w K2 M2 x_.pending) (N3 : Rd w K3 M3 x_.seen) (N4 : Rd w K4 M4 x_.routes) (N5 : Rd w K5 M5 x_.measurements) (a0 : ok n x_) :
 DP 141 #[apk x_ K0 M0 K1 M1 K2 M2 K3 M3 K4 M4 K5 M5] w (pA w n (a9d x_)) := by
 have hb := bS0 hn
 refine EN Tryz.func141 Z (aS6 N0 N1 N2 N3 N4 N5) ?_
 refine R0 ?_
 refine WX.draw [21] mixed fun bs G0 a7 => ?_
 refine dT 8 [1, 2, 7, 8, 13, 14, 19, 20, 25, 26, 31, 32, 37, 38] ?_
 refine DXF 2 6 Z J Z Z Z Z Z Z O Z (fun w γ => f247 n τ0 (γ.q 0 Z) ((ad6 a0).1)) ?_
 rintro ⟨p1, c1⟩ a2
 refine DXF 5 8 Z J Z Z Z Z Z Z O Z (fun w γ => f248 n τ0 x_.cache (γ.q 1 Z) ((ad6 a0).2.1)) ?_
 rintro ⟨⟨⟩, ⟨p2, c2⟩⟩ a3
 refine DXF 8 10 Z J Z Z Z Z Z Z O Z (fun w γ => f249 n τ0 (γ.q 2 Z) ((ad6 a0).2.2.1)) ?_
 rintro ⟨p3, c3⟩ a6
 refine DXF 11 12 Z J Z Z Z Z Z Z O Z (fun w γ => f250 n τ0 (γ.q 3 Z) ((ad6 a0).2.2.2.1)) ?_
 rintro ⟨p4, c4⟩ a4
 dsimp only
 refine DXF 14 14 Z J Z Z Z Z Z Z O Z (fun w γ => f251 n τ0 (γ.q 4 Z) ((ad6 a0).2.2.2.2.1)) ?_
 rintro ⟨p5, c5⟩ a1
 dsimp only
 have q1 := congrArg List.length (akb x_.routes)
 refine DXF 17 16 Z J Z Z Z Z Z Z O Z (fun w γ => f252 n τ0 (γ.q 5 Z) ((ad6 a0).2.2.2.2.2.1)) ?_
 rintro ⟨p6, c6⟩ a5
 dsimp only
 refine dT 1 [41] ?_
 refine DX.tail2 [21] Z Z J ?_
 rw [show a9d x_ = (NodeP.mk (a9a x_.locl) (ac7 x_.cache) (ac4 x_.pending) (ac5 x_.seen) (a11 x_.routes) (ac6 x_.measurements) x_.dropped) by simp only [a9d, cT, cF]]
 exact yX [7, 9, 11, 13, 15, 17] ((p1, c1), ((), (p2, c2)), (p3, c3), (p4, c4), (p5, c5), (p6, c6), ()) (An a2 (An a3 (An a6 (An a4 (An a1 (An a5 (ad6 a0).2.2.2.2.2.2))))))
theorem f84 (hn : n + 0 ≤ 9) (g : Topology) (N0 : Rd w K0 M0 g.links) (a0 : ok n g) :
 DP 84 #[aeq g K0 M0] w (pA w n (a2i g)) := by
 have hb := bS0 hn
 refine EN Tryz.func84 Z (aS1 N0) ?_
 refine R0 ?_
 refine WX.draw [6] mixed fun bs G0 a2 => ?_
 refine dT 3 [1, 2, 5, 6] ?_
 refine DXF 4 1 Z J Z Z Z Z Z Z O Z (fun w γ => f194 n τ0 (γ.q 0 Z) ((ad0 a0).2)) ?_
 rintro ⟨p1, c1⟩ a1
 refine dT 1 [11] ?_
 refine DX.tail2 [6] Z Z J ?_
 rw [show a2i g = g by simp only [a2i, cT, cF]]
 exact yX [2] ((), (p1, c1)) (An (ad0 a0).1 a1)
theorem f85 (hn : n + 0 ≤ 9) (t : TrustPolicy) (N0 : Rd w K0 M0 t.keys) (N1 : Rd w K1 M1 t.rules) (N2 : Rd w K2 M2 t.anchors) (N3 : Rd w K3 M3 t.certificates) (a1 : ok n t) :
 DP 85 #[af4 t K0 M0 K1 M1 K2 M2 K3 M3] w (pA w n (a1b t)) := by
 have hb := bS0 hn
 refine EN Tryz.func85 Z (aS4 N0 N1 N2 N3) ?_
 refine R0 ?_
 refine WX.draw [11] mixed fun bs G0 ac => ?_
 refine dT 6 [1, 2, 7, 8, 13, 14] ?_
 refine DX.pend 10 3 ⟨32, [.slice none (0) 0, .slice none (0) 0, .slice none (0) 0, .slice none (0) 0]⟩ ?_
 refine DXA.callF 2 4 (fun _ _ h => GoT.ow_rd h) (fun _ f hf => GoT.fak f hf) ttOk Z Z Z Z Z Z Z J J J Z Z Z Z Z Z Z Z Z Z O Z Z (fun w G bs hI hΓ => f195 n τ0 (hΓ.get 0 Z) ((acz a1).1)) O O ?_
 rintro ⟨p1, c1⟩ ab
 refine DXA.callF 5 6 (fun _ _ h => GoT.ow_rd h) (fun _ f hf => GoT.fak f hf) ttOk Z Z Z Z Z Z Z J J J Z Z Z Z Z Z Z Z Z Z O Z Z (fun w G bs hI hΓ => f196 n τ0 (hΓ.get 2 Z) ((acz a1).2.2.1)) O O ?_
 rintro ⟨p2, c2⟩ ad
 refine DXA.callF 8 8 (fun _ _ h => GoT.ow_rd h) (fun _ f hf => GoT.fak f hf) ttOk Z Z Z Z Z Z Z J J J Z Z Z Z Z Z Z Z Z Z O Z Z (fun w G bs hI hΓ => f197 n τ0 (hΓ.get 3 Z) ((acz a1).2.2.2)) O O ?_
 rintro ⟨p3, c3⟩ af
 refine DXA.take 9 J J Z Z Z Z Z Z Z Z (akg ttOk Z) ?_
 refine DXA.tail [11] ttOk Z Z Z Z Z Z J Z Z J ?_
 refine R0 ?_
 refine WX.row0 501 2 none Z ?_
 refine F0 10 Rule ?_
 have r1 := (okl (acz a1).2.1).1
 refine LK (0, none, 0, [], ([] : List Rule)) (fun | (i, a4, a3, a2, a0) => ((i ≤ t.rules.length) ∧ JE n a0 ∧ (a0.length ≤ i) ∧ (a9e t.rules ([] : List Rule) = a9e (t.rules.drop i) a0), t.rules.length - i, [(19, .v (vI i))], [(3, ⟨32, [.slice p1 (((ab0 t.keys)).length) c1, .slice a4 (a0.length) a3, .slice p2 (((ab2 t.anchors)).length) c2, .slice p3 (((a7w t.certificates)).length) c3]⟩)], [(501, ⟨2, a4, a0.length, a3, a2⟩)], [(10, MF.ol a2 (a0 : List Rule))])) ⟨zl, nA, τ7, Z⟩ [18, 17, 3, 2] [2] [0, 1, 2, 3, 5, 7, 9] [0, 1, 2, 3, 5, 7, 9, 10] ?_
 rintro ⟨i, a4, a3, a2, a0⟩ ⟨v1, v2, v3, v4⟩
 refine yKD 20 ?_ ?_ <;> intro h1 ah
 have a6 : i < t.rules.length := τ0
 obtain ⟨e1, a5⟩ := gE a6
 have a7 := okE (acz a1).2.1 a5
 refine yI 1 i a6 ?_
 rintro ag rfl
 refine zL 1 11 e1 a5 ?_
 rintro ⟨⟨p4, c4⟩, ⟨p5, c5⟩⟩
 refine zW 13 5 ?_
 refine zW 14 7 ?_
 refine zW 15 9 ?_
 refine R0 ?_
 refine WX.draw [14, 15, 16] mixed fun bs G0 ac => ?_
 refine dT 9 [1, 2, 5, 7, 8, 15, 17, 18] ?_
 refine DXF 5 16 Z J Z Z Z Z Z Z O Z (fun w γ => f149 n τ0 (γ.q 11 Z) (ad9 (adx a7).1)) ?_
 rintro ⟨p6, c6⟩ ae
 refine dT 7 [13] ?_
 refine DXF 10 18 Z J Z Z Z Z Z Z O Z (fun w γ => f149 n τ0 (γ.q 12 Z) (ad9 (adx a7).2)) ?_
 rintro ⟨p7, c7⟩ aa
 refine dT 4 [23, 25] ?_
 refine DX.tail2 [13, 14, 15, 16] Z Z J ?_
 refine zB fun p8 => ?_
 refine zT (α := Rule) [17, 19] 20 e1 ((p6, c6), (p7, c7)) fun a9 => ?_
 refine zP 501 36 ((a0 ++ [e1]) : List Rule).length a9 fun p9 c8 => ?_
 refine zV [10, 20] 21 ?_
 refine SA ?_
 refine zU [21] 10 ?_
 exact ITr Z (i + 1, p9, c8, _, ((a0 ++ [e1]) : List Rule)) ⟨τ0, (aeb v2 (all_cons (α := Rule) (An ae aa) nA)), τ2, (by rw [v4, acx a5]; simp only [a9e, cT, cF])⟩ τ1 [0, 1, 2, 3, 5, 7, 9, 10]
 have a8 := v4.trans (show _ = (a0 : List Rule) by rw [dn (show t.rules.length ≤ i by omega)]; simp only [a9e, cT, cF])
 refine yE 501 10 22 ?_
 rw [show a1b t = (TrustPolicy.mk (ab0 t.keys) a0 (ab2 t.anchors) (a7w t.certificates)) by simp only [a1b, a8, cT, cF]]
 exact zX [5, 23, 7, 9] ((p1, c1), (a4, a3), (p2, c2), (p3, c3)) (An ab (An (ada τ0 v2 : ok n (a0 : List Rule)) (An ad af)))
theorem f139 (hn : n + 0 ≤ 9) (t : TrustPolicy) (N0 : Rd w K0 M0 t.keys) (N1 : Rd w K1 M1 t.rules) (N2 : Rd w K2 M2 t.anchors) (N3 : Rd w K3 M3 t.certificates) (a6 : ok n t) :
 DP 139 #[af4 t K0 M0 K1 M1 K2 M2 K3 M3] w (pA w n (a2c t)) := by
 have hb := bS0 hn
 refine EN Tryz.func139 Z (aS4 N0 N1 N2 N3) ?_
 refine KF Z 4 Z Z Z Z Z O Z (fun w γ => f244 n τ0 (γ.q 0 Z) ((acz a6).1)) ?_
 rintro ⟨p1, c1⟩ af
 refine R0 ?_
 refine WX.row0 501 2 none Z ?_
 refine F0 6 Rule ?_
 have r1 := (okl (acz a6).2.1).1
 refine LK (0, none, 0, [], ([] : List Rule)) (fun | (i, a8, a7, a4, a3) => ((i ≤ t.rules.length) ∧ JE n a3 ∧ (a3.length ≤ i) ∧ (a9g t.rules ([] : List Rule) = a9g (t.rules.drop i) a3), t.rules.length - i, [(4, .v (vI i))], [(3, ⟨32, [.slice p1 (((a99 t.keys)).length) c1, .slice a8 (a3.length) a7, .slice none (0) 0, .slice none (0) 0]⟩)], [(501, ⟨2, a8, a3.length, a7, a4⟩)], [(6, MF.ol a4 (a3 : List Rule))])) ⟨zl, nA, τ7, Z⟩ [3, 2, 1] [2, 1] [0, 1, 2, 3, 5] [0, 1, 2, 3, 5, 6] ?_
 rintro ⟨i, a8, a7, a4, a3⟩ ⟨v1, v2, v3, v4⟩
 refine yKD 16 ?_ ?_ <;> intro h1 ar
 have ab : i < t.rules.length := τ0
 obtain ⟨e1, aa⟩ := gE ab
 have ah := okE (acz a6).2.1 aa
 refine yI 1 i ab ?_
 rintro aq rfl
 refine zL 1 7 e1 aa ?_
 rintro ⟨⟨p2, c2⟩, ⟨p3, c3⟩⟩
 refine CF 9 Z Z Z Z Z O Z (fun w γ => f245 n τ0 e1 (γ.q 7 Z) (γ.q 8 Z) ah) ?_
 rintro ⟨⟨p4, c4⟩, ⟨p5, c5⟩⟩ ag
 refine yB fun p6 => ?_
 refine zT (α := Rule) [11, 12] 13 (a1a e1) ((p4, c4), (p5, c5)) fun ae => ?_
 refine zP 501 28 ((a3 ++ [(a1a e1)]) : List Rule).length ae fun p7 c6 => ?_
 refine zV [6, 13] 14 ?_
 refine SA ?_
 refine zU [14] 6 ?_
 exact ITr Z (i + 1, p7, c6, _, ((a3 ++ [(a1a e1)]) : List Rule)) ⟨τ0, (aeb v2 (all_cons (α := Rule) ag nA)), τ2, (by rw [v4, acx aa]; simp only [a9g, cT, cF])⟩ τ1 [0, 1, 2, 3, 5, 6]
 have ad := v4.trans (show _ = (a3 : List Rule) by rw [dn (show t.rules.length ≤ i by omega)]; simp only [a9g, cT, cF])
 refine R0 ?_
 refine WX.row0 502 1 none Z ?_
 refine F0 15 Name ?_
 have r2 := (okl (acz a6).2.2.1).1
 refine LK (0, none, 0, [], ([] : List Name)) (fun | (i, a2, a5, a1, a0) => ((i ≤ t.anchors.length) ∧ JE n a0 ∧ (a0.length ≤ i) ∧ (a9f t.anchors ([] : List Name) = a9f (t.anchors.drop i) a0), t.anchors.length - i, [(6, .v (vI i))], [(3, ⟨32, [.slice p1 (((a99 t.keys)).length) c1, .slice a8 (a3.length) a7, .slice a2 (a0.length) a5, .slice none (0) 0]⟩)], [(501, ⟨2, a8, a3.length, a7, a4⟩), (502, ⟨1, a2, a0.length, a5, a1⟩)], [(15, MF.ol a1 (a0 : List Name))])) ⟨zl, nA, τ7, Z⟩ [3, 2, 1] [2, 1] [0, 1, 2, 3, 5, 6] [0, 1, 2, 3, 5, 6, 15] ?_
 rintro ⟨i, a2, a5, a1, a0⟩ ⟨v5, v6, v7, v8⟩
 refine yKD 35 ?_ ?_ <;> intro h2 aw
 have ac : i < t.anchors.length := τ0
 obtain ⟨e2, a9⟩ := gE ac
 have an := okE (acz a6).2.2.1 a9
 refine yI 2 i ac ?_
 rintro av rfl
 refine zL 2 16 e2 a9 ?_
 rintro ⟨p8, c7⟩
 refine CF 17 Z Z Z Z Z O Z (fun w γ => f246 n τ0 e2 (γ.q 16 Z) an) ?_
 rintro ⟨p9, c8⟩ ap
 refine yB fun au => ?_
 refine zT (α := Name) [18] 19 (a0g e2) (p9, c8) fun ao => ?_
 refine zP 502 47 ((a0 ++ [(a0g e2)]) : List Name).length ao fun al c9 => ?_
 refine zV [15, 19] 20 ?_
 refine SA ?_
 refine zU [20] 15 ?_
 exact ITr Z (i + 1, al, c9, _, ((a0 ++ [(a0g e2)]) : List Name)) ⟨τ0, (aeb v6 (all_cons (α := Name) ap nA)), τ2, (by rw [v8, acx a9]; simp only [a9f, cT, cF])⟩ τ1 [0, 1, 2, 3, 5, 6, 15]
 have ai := v8.trans (show _ = (a0 : List Name) by rw [dn (show t.anchors.length ≤ i by omega)]; simp only [a9f, cT, cF])
 refine KF Z 21 Z Z Z Z Z O Z (fun w γ => f247 n τ0 (γ.q 3 Z) ((acz a6).2.2.2)) ?_
 rintro ⟨aj, ak⟩ am
 refine yE 501 6 23 ?_
 refine zE 502 15 25 ?_
 rw [show a2c t = (TrustPolicy.mk (a99 t.keys) a3 a0 (a9a t.certificates)) by simp only [a2c, ad, ai, cT, cF]]
 exact zX [5, 24, 26, 22] ((p1, c1), (a8, a7), (a2, a5), (aj, ak)) (An af (An (ada τ0 v2 : ok n (a3 : List Rule)) (An (ada τ0 v6 : ok n (a0 : List Name)) am)))
theorem f125 (hn : n + 0 ≤ 9) (p_ : PacketInFlight) (N0 : Rd w K0 M0 p_.interest.name.parts) (N1 : Rd w K1 M1 p_.data.name.parts) (N2 : Rd w K2 M2 p_.data.content) (N3 : Rd w K3 M3 p_.data.keyName.parts) (a0 : ok n p_) :
 DP 125 #[afm p_ K0 M0 K1 M1 K2 M2 K3 M3] w (pA w n (abb p_)) := by
 have hb := bS0 hn
 refine EN Tryz.func125 Z (aS4 N0 N1 N2 N3) ?_
 refine KF Z 4 Z Z Z Z Z O Z (fun w γ => f238 n τ0 p_.interest (γ.q 0 Z) ((ad5 a0).2.2.2.1)) ?_
 rintro ⟨⟨p1, c1⟩, ⟨⟩, ⟨⟩, ⟨⟩⟩ a1
 refine KF Z 6 Z Z Z Z Z O Z (fun w γ => f239 n τ0 p_.data (γ.q 1 Z) (γ.q 2 Z) (γ.q 3 Z) ((ad5 a0).2.2.2.2)) ?_
 rintro ⟨⟨p2, c2⟩, ⟨p3, c3⟩, ⟨p4, c4⟩, ⟨⟩, ⟨⟩⟩ a2
 rw [show abb p_ = (PacketInFlight.mk p_.to p_.face p_.isInterest (acr p_.interest) (a2z p_.data)) by simp only [abb, cT, cF]]
 exact yX [5, 9, 10, 11] ((), (), (), ((p1, c1), (), (), ()), ((p2, c2), (p3, c3), (p4, c4), (), ())) (An (ad5 a0).1 (An (ad5 a0).2.1 (An trivial (An a1 a2))))
theorem f142 (hn : n + 0 ≤ 9) (f : PacketInFlight) (N0 : Rd w K0 M0 f.interest.name.parts) (N1 : Rd w K1 M1 f.data.name.parts) (N2 : Rd w K2 M2 f.data.content) (N3 : Rd w K3 M3 f.data.keyName.parts) (a0 : ok n f) :
 DP 142 #[afm f K0 M0 K1 M1 K2 M2 K3 M3] w (pA w n (abc f)) := by
 have hb := bS0 hn
 refine EN Tryz.func142 Z (aS4 N0 N1 N2 N3) ?_
 refine R0 ?_
 refine WX.draw [13] mixed fun bs G0 a3 => ?_
 refine dT 4 [1, 2, 5, 6, 9, 10, 13, 14, 19, 20] ?_
 refine DXF 8 4 Z J Z Z Z Z Z Z O Z (fun w γ => f253 n τ0 f.interest (γ.q 0 Z) ((ad5 a0).2.2.2.1)) ?_
 rintro ⟨⟨p1, c1⟩, ⟨⟩, ⟨⟩, ⟨⟩⟩ a1
 refine DXF 11 6 Z J Z Z Z Z Z Z O Z (fun w γ => f254 n τ0 f.data (γ.q 1 Z) (γ.q 2 Z) (γ.q 3 Z) ((ad5 a0).2.2.2.2)) ?_
 rintro ⟨⟨p2, c2⟩, ⟨p3, c3⟩, ⟨p4, c4⟩, ⟨⟩, ⟨⟩⟩ a2
 refine dT 1 [25] ?_
 refine DX.tail2 [13] Z Z J ?_
 rw [show abc f = (PacketInFlight.mk f.to f.face f.isInterest (acu f.interest) (a30 f.data)) by simp only [abc, cT, cF]]
 exact yX [5, 9, 10, 11] ((), (), (), ((p1, c1), (), (), ()), ((p2, c2), (p3, c3), (p4, c4), (), ())) (An (ad5 a0).1 (An (ad5 a0).2.1 (An trivial (An a1 a2))))
theorem f38 (hn : n + 0 ≤ 9) (w_ : Network) (N0 : Rd w K0 M0 w_.topology.links) (N1 : Rd w K1 M1 w_.trust.keys) (N2 : Rd w K2 M2 w_.trust.rules) (N3 : Rd w K3 M3 w_.trust.anchors) (N4 : Rd w K4 M4 w_.trust.certificates) (N5 : Rd w K5 M5 w_.producers) (N6 : Rd w K6 M6 w_.nodes) (N7 : Rd w K7 M7 w_.failedLinks) (N8 : Rd w K8 M8 w_.inFlight) (N9 : Rd w K9 M9 w_.consumers) (a0 : ok n w_) :
 DP 38 #[afp w_ K0 M0 K1 M1 K2 M2 K3 M3 K4 M4 K5 M5 K6 M6 K7 M7 K8 M8 K9 M9] w (pA w n (a9j w_)) := by
 have hb := bS0 hn
 refine EN Tryz.func38 Z (aC 0 N0 (aC 1 N1 (aC 2 N2 (aC 3 N3 (aC 4 N4 (aC 5 N5 (aC 6 N6 (aC 7 N7 (aC 8 N8 (aC 9 N9 adc)))))))))) ?_
 refine R0 ?_
 refine WX.draw [20] mixed fun bs G0 af => ?_
 refine dT 7 [1, 2, 7, 8, 13, 14, 19, 20, 23, 24, 29, 30, 33, 34] ?_
 refine DX.pend 19 3 ⟨39, [.int .i64 (0), .slice none (0) 0, .slice none (0) 0, .slice none (0) 0, .slice none (0) 0, .slice none (0) 0, .slice none (0) 0, .slice none (0) 0, .int .i64 (0), .slice none (0) 0, .slice none (0) 0, .slice none (0) 0, .int .i64 (0), .int .i64 (0)]⟩ ?_
 refine DXA.callF 2 10 (fun _ _ h => GoT.ow_rd h) (fun _ f hf => GoT.fak f hf) ttOk Z Z Z Z Z Z Z J J J Z Z Z Z Z Z Z Z Z Z O Z Z (fun w G bs hI hΓ => f84 n τ0 w_.topology (hΓ.get 0 Z) ((acy a0).1)) O O ?_
 rintro ⟨⟨⟩, ⟨p1, c1⟩⟩ bc
 refine DXA.callF 5 12 (fun _ _ h => GoT.ow_rd h) (fun _ f hf => GoT.fak f hf) ttOk Z Z Z Z Z Z Z J J J Z Z Z Z Z Z Z Z Z Z O Z Z (fun w G bs hI hΓ => f85 n τ0 w_.trust (hΓ.get 1 Z) (hΓ.get 2 Z) (hΓ.get 3 Z) (hΓ.get 4 Z) ((acy a0).2.1)) O O ?_
 rintro ⟨⟨p2, c2⟩, ⟨p3, c3⟩, ⟨p4, c4⟩, ⟨p5, c5⟩⟩ be
 dsimp only
 refine DXA.callF 8 20 (fun _ _ h => GoT.ow_rd h) (fun _ f hf => GoT.fak f hf) ttOk Z Z Z Z Z Z Z J J J Z Z Z Z Z Z Z Z Z Z O Z Z (fun w G bs hI hΓ => f86 n τ0 (hΓ.get 5 Z) ((acy a0).2.2.1)) O O ?_
 rintro ⟨p6, c6⟩ ba
 dsimp only
 have q1 := alg w_.producers
 refine DXA.callF 13 22 (fun _ _ h => GoT.ow_rd h) (fun _ f hf => GoT.fak f hf) ttOk Z Z Z Z Z Z Z J J J Z Z Z Z Z Z Z Z Z Z O Z Z (fun w G bs hI hΓ => f123 n τ0 (hΓ.get 7 Z) ((acy a0).2.2.2.2.2.1)) O O ?_
 rintro ⟨p7, c7⟩ b9
 dsimp only
 refine DXA.take 18 J J Z Z Z Z Z Z Z Z (akg ttOk Z) ?_
 refine DXA.tail [20] ttOk Z Z Z Z Z Z J Z Z J ?_
 refine R0 ?_
 refine WX.row0 501 8 none Z ?_
 refine F0 24 NodeP ?_
 have r1 := (okl (acy a0).2.2.2.1).1
 refine LK (0, none, 0, [], ([] : List NodeP)) (fun | (i, a7, a6, a8, a9) => ((i ≤ w_.nodes.length) ∧ JE n a9 ∧ (a9.length ≤ i) ∧ (a7z w_.nodes ([] : List NodeP) = a7z (w_.nodes.drop i) a9), w_.nodes.length - i, [(32, .v (vI i))], [(3, ⟨39, [.int .i64 ((a2i w_.topology).size), .slice p1 (((a2i w_.topology).links).length) c1, .slice p2 (((a1b w_.trust).keys).length) c2, .slice p3 (((a1b w_.trust).rules).length) c3, .slice p4 (((a1b w_.trust).anchors).length) c4, .slice p5 (((a1b w_.trust).certificates).length) c5, .slice p6 (((a2w w_.producers)).length) c6, .slice a7 (a9.length) a6, .int .i64 (w_.downNodes), .slice p7 (w_.failedLinks.length) c7, .slice none (0) 0, .slice none (0) 0, .int .i64 (w_.now), .int .i64 (w_.dropped)]⟩)], [(501, ⟨8, a7, a9.length, a6, a8⟩)], [(24, MF.ol a8 (a9 : List NodeP))])) ⟨zl, nA, τ7, Z⟩ [31, 30, 3, 2, 1] [2, 1] [0, 1, 2, 3, 4, 5, 6, 7, 8, 9, 11, 16, 17, 18, 19, 21, 23] [0, 1, 2, 3, 4, 5, 6, 7, 8, 9, 11, 16, 17, 18, 19, 21, 23, 24] ?_
 rintro ⟨i, a7, a6, a8, a9⟩ ⟨v1, v2, v3, v4⟩
 refine yKD 33 ?_ ?_ <;> intro h1 cx
 have al : i < w_.nodes.length := τ0
 obtain ⟨e1, ag⟩ := gE al
 have bg := okE (acy a0).2.2.2.1 ag
 refine yI 6 i al ?_
 rintro ce rfl
 refine zL 6 25 e1 ag ?_
 rintro ⟨⟨p8, c8⟩, ⟨⟨⟩, ⟨p9, c9⟩⟩, ⟨cp, ck⟩, ⟨da, d9⟩, ⟨cq, cn⟩, ⟨d6, d1⟩, ⟨⟩⟩
 refine zW 31 11 ?_
 refine zW 32 16 ?_
 refine zW 33 17 ?_
 refine zW 34 18 ?_
 refine zW 35 19 ?_
 refine zW 36 21 ?_
 refine zW 37 23 ?_
 refine R0 ?_
 refine WX.draw [5, 6, 7] mixed fun bs G0 af => ?_
 refine dT 5 [1, 2, 4] ?_
 refine DXF 3 38 Z J Z Z Z Z Z Z O Z (fun w γ => f124 n τ0 e1 (γ.q 25 Z) (γ.q 26 Z) (γ.q 27 Z) (γ.q 28 Z) (γ.q 29 Z) (γ.q 30 Z) bg) ?_
 rintro ⟨⟨aw, bu⟩, ⟨⟨⟩, ⟨c0, ao⟩⟩, ⟨bk, b5⟩, ⟨au, cb⟩, ⟨bj, bf⟩, ⟨b6, bm⟩, ⟨⟩⟩ an
 refine DX.tail2 [4, 5, 6, 7] Z Z J ?_
 refine zB fun cm => ?_
 refine zT (α := NodeP) [44, 45, 46, 47, 48, 49] 50 (a9c e1) ((aw, bu), ((), (c0, ao)), (bk, b5), (au, cb), (bj, bf), (b6, bm), ()) fun br => ?_
 refine zP 501 40 ((a9 ++ [(a9c e1)]) : List NodeP).length br fun bb bp => ?_
 refine zV [24, 50] 51 ?_
 refine SA ?_
 refine zU [51] 24 ?_
 exact ITr Z (i + 1, bb, bp, _, ((a9 ++ [(a9c e1)]) : List NodeP)) ⟨τ0, (aeb v2 (all_cons (α := NodeP) an nA)), τ2, (by rw [v4, acx ag]; simp only [a7z, cT, cF])⟩ τ1 [0, 1, 2, 3, 4, 5, 6, 7, 8, 9, 11, 16, 17, 18, 19, 21, 23, 24]
 have bq := v4.trans (show _ = (a9 : List NodeP) by rw [dn (show w_.nodes.length ≤ i by omega)]; simp only [a7z, cT, cF])
 refine R0 ?_
 refine WX.row0 502 12 none Z ?_
 refine F0 52 PacketInFlight ?_
 have r2 := (okl (acy a0).2.2.2.2.2.2.1).1
 refine LK (0, none, 0, [], ([] : List PacketInFlight)) (fun | (i, a3, a4, a5, a1) => ((i ≤ w_.inFlight.length) ∧ JE n a1 ∧ (a1.length ≤ i) ∧ (a9i w_.inFlight ([] : List PacketInFlight) = a9i (w_.inFlight.drop i) a1), w_.inFlight.length - i, [(47, .v (vI i))], [(3, ⟨39, [.int .i64 ((a2i w_.topology).size), .slice p1 (((a2i w_.topology).links).length) c1, .slice p2 (((a1b w_.trust).keys).length) c2, .slice p3 (((a1b w_.trust).rules).length) c3, .slice p4 (((a1b w_.trust).anchors).length) c4, .slice p5 (((a1b w_.trust).certificates).length) c5, .slice p6 (((a2w w_.producers)).length) c6, .slice a7 (a9.length) a6, .int .i64 (w_.downNodes), .slice p7 (w_.failedLinks.length) c7, .slice a3 (a1.length) a4, .slice none (0) 0, .int .i64 (w_.now), .int .i64 (w_.dropped)]⟩)], [(501, ⟨8, a7, a9.length, a6, a8⟩), (502, ⟨12, a3, a1.length, a4, a5⟩)], [(52, MF.ol a5 (a1 : List PacketInFlight))])) ⟨zl, nA, τ7, Z⟩ [46, 45, 3, 2, 1] [2, 1] [0, 1, 2, 3, 4, 5, 6, 7, 8, 9, 11, 16, 17, 18, 19, 21, 23, 24] [0, 1, 2, 3, 4, 5, 6, 7, 8, 9, 11, 16, 17, 18, 19, 21, 23, 24, 52] ?_
 rintro ⟨i, a3, a4, a5, a1⟩ ⟨v5, v6, v7, v8⟩
 refine yKD 48 ?_ ?_ <;> intro h2 cv
 have aj : i < w_.inFlight.length := τ0
 obtain ⟨e2, ad⟩ := gE aj
 have bn := okE (acy a0).2.2.2.2.2.2.1 ad
 refine yI 8 i aj ?_
 rintro cl rfl
 refine zL 8 53 e2 ad ?_
 rintro ⟨⟨⟩, ⟨⟩, ⟨⟩, ⟨⟨ct, cj⟩, ⟨⟩, ⟨⟩, ⟨⟩⟩, ⟨⟨dc, cy⟩, ⟨ci, ch⟩, ⟨d2, d5⟩, ⟨⟩, ⟨⟩⟩⟩
 refine zW 57 11 ?_
 refine zW 58 16 ?_
 refine zW 59 17 ?_
 refine zW 60 18 ?_
 refine zW 61 19 ?_
 refine zW 62 21 ?_
 refine zW 63 23 ?_
 refine R0 ?_
 refine WX.draw [5, 6, 7] mixed fun bs G0 af => ?_
 refine dT 5 [1, 2, 4] ?_
 refine DXF 3 64 Z J Z Z Z Z Z Z O Z (fun w γ => f125 n τ0 e2 (γ.q 53 Z) (γ.q 54 Z) (γ.q 55 Z) (γ.q 56 Z) bn) ?_
 rintro ⟨⟨⟩, ⟨⟩, ⟨⟩, ⟨⟨bi, b8⟩, ⟨⟩, ⟨⟩, ⟨⟩⟩, ⟨⟨aq, cd⟩, ⟨ap, b2⟩, ⟨b1, b4⟩, ⟨⟩, ⟨⟩⟩⟩ ca
 refine DX.tail2 [4, 5, 6, 7] Z Z J ?_
 refine zB fun d4 => ?_
 refine zT (α := PacketInFlight) [68, 69, 70, 71] 72 (abb e2) ((), (), (), ((bi, b8), (), (), ()), ((aq, cd), (ap, b2), (b1, b4), (), ())) fun cc => ?_
 refine zP 502 55 ((a1 ++ [(abb e2)]) : List PacketInFlight).length cc fun bv az => ?_
 refine zV [52, 72] 73 ?_
 refine SA ?_
 refine zU [73] 52 ?_
 exact ITr Z (i + 1, bv, az, _, ((a1 ++ [(abb e2)]) : List PacketInFlight)) ⟨τ0, (aeb v6 (all_cons (α := PacketInFlight) ca nA)), τ2, (by rw [v8, acx ad]; simp only [a9i, cT, cF])⟩ τ1 [0, 1, 2, 3, 4, 5, 6, 7, 8, 9, 11, 16, 17, 18, 19, 21, 23, 24, 52]
 have bh := v8.trans (show _ = (a1 : List PacketInFlight) by rw [dn (show w_.inFlight.length ≤ i by omega)]; simp only [a9i, cT, cF])
 refine R0 ?_
 refine WX.row0 503 11 none Z ?_
 refine F0 74 Consumer ?_
 have r3 := (okl (acy a0).2.2.2.2.2.2.2.1).1
 refine LK (0, none, 0, [], ([] : List Consumer)) (fun | (i, ac, ab, aa, a2) => ((i ≤ w_.consumers.length) ∧ JE n a2 ∧ (a2.length ≤ i) ∧ (a9h w_.consumers ([] : List Consumer) = a9h (w_.consumers.drop i) a2), w_.consumers.length - i, [(62, .v (vI i))], [(3, ⟨39, [.int .i64 ((a2i w_.topology).size), .slice p1 (((a2i w_.topology).links).length) c1, .slice p2 (((a1b w_.trust).keys).length) c2, .slice p3 (((a1b w_.trust).rules).length) c3, .slice p4 (((a1b w_.trust).anchors).length) c4, .slice p5 (((a1b w_.trust).certificates).length) c5, .slice p6 (((a2w w_.producers)).length) c6, .slice a7 (a9.length) a6, .int .i64 (w_.downNodes), .slice p7 (w_.failedLinks.length) c7, .slice a3 (a1.length) a4, .slice ac (a2.length) ab, .int .i64 (w_.now), .int .i64 (w_.dropped)]⟩)], [(501, ⟨8, a7, a9.length, a6, a8⟩), (502, ⟨12, a3, a1.length, a4, a5⟩), (503, ⟨11, ac, a2.length, ab, aa⟩)], [(74, MF.ol aa (a2 : List Consumer))])) ⟨zl, nA, τ7, Z⟩ [61, 60, 3, 2] [2] [0, 1, 2, 3, 4, 5, 6, 7, 8, 9, 11, 16, 17, 18, 19, 21, 23, 24, 52] [0, 1, 2, 3, 4, 5, 6, 7, 8, 9, 11, 16, 17, 18, 19, 21, 23, 24, 52, 74] ?_
 rintro ⟨i, ac, ab, aa, a2⟩ ⟨v9, ak, d3, ah⟩
 refine yKD 63 ?_ ?_ <;> intro h3 cg
 have ai : i < w_.consumers.length := τ0
 obtain ⟨e3, ae⟩ := gE ai
 have b3 := okE (acy a0).2.2.2.2.2.2.2.1 ae
 refine yI 9 i ai ?_
 rintro cz rfl
 refine zL 9 75 e3 ae ?_
 rintro ⟨⟨⟩, ⟨⟩, ⟨d7, cf⟩, ⟨⟩, ⟨⟩, ⟨⟩, ⟨⟨cr, co⟩, ⟨d0, cw⟩, ⟨cs, db⟩, ⟨⟩, ⟨⟩⟩⟩
 refine zW 79 11 ?_
 refine zW 80 16 ?_
 refine zW 81 17 ?_
 refine zW 82 18 ?_
 refine zW 83 19 ?_
 refine zW 84 21 ?_
 refine zW 85 23 ?_
 refine R0 ?_
 refine WX.draw [5, 6, 7] mixed fun bs G0 af => ?_
 refine dT 5 [1, 2, 4] ?_
 refine DXF 3 86 Z J Z Z Z Z Z Z O Z (fun w γ => f126 n τ0 e3 (γ.q 75 Z) (γ.q 76 Z) (γ.q 77 Z) (γ.q 78 Z) b3) ?_
 rintro ⟨⟨⟩, ⟨⟩, ⟨av, bz⟩, ⟨⟩, ⟨⟩, ⟨⟩, ⟨⟨ax, ar⟩, ⟨bl, b7⟩, ⟨bt, bw⟩, ⟨⟩, ⟨⟩⟩⟩ bx
 refine DX.tail2 [4, 5, 6, 7] Z Z J ?_
 refine zB fun d8 => ?_
 refine zT (α := Consumer) [90, 91, 92, 93] 94 (a9r e3) ((), (), (av, bz), (), (), (), ((ax, ar), (bl, b7), (bt, bw), (), ())) fun am => ?_
 refine zP 503 70 ((a2 ++ [(a9r e3)]) : List Consumer).length am fun b0 ay => ?_
 refine zV [74, 94] 95 ?_
 refine SA ?_
 refine zU [95] 74 ?_
 exact ITr Z (i + 1, b0, ay, _, ((a2 ++ [(a9r e3)]) : List Consumer)) ⟨τ0, (aeb ak (all_cons (α := Consumer) bx nA)), τ2, (by rw [ah, acx ae]; simp only [a9h, cT, cF])⟩ τ1 [0, 1, 2, 3, 4, 5, 6, 7, 8, 9, 11, 16, 17, 18, 19, 21, 23, 24, 52, 74]
 have bo := ah.trans (show _ = (a2 : List Consumer) by rw [dn (show w_.consumers.length ≤ i by omega)]; simp only [a9h, cT, cF])
 refine yE 501 24 96 ?_
 refine zE 502 52 98 ?_
 refine zE 503 74 100 ?_
 rw [show a9j w_ = (Network.mk (a2i w_.topology) (a1b w_.trust) (a2w w_.producers) a9 w_.downNodes w_.failedLinks a1 a2 w_.now w_.dropped) by simp only [a9j, bq, bh, bo, cT, cF]]
 exact zX [11, 16, 17, 18, 19, 21, 97, 23, 99, 101] (((), (p1, c1)), ((p2, c2), (p3, c3), (p4, c4), (p5, c5)), (p6, c6), (a7, a6), (), (p7, c7), (a3, a4), (ac, ab), (), ()) (An bc (An be (An ba (An (ada τ0 v2 : ok n (a9 : List NodeP)) (An (acy a0).2.2.2.2.1 (An b9 (An (ada τ0 v6 : ok n (a1 : List PacketInFlight)) (An (ada τ0 ak : ok n (a2 : List Consumer)) (An (acy a0).2.2.2.2.2.2.2.2.1 (acy a0).2.2.2.2.2.2.2.2.2)))))))))
theorem f200 (hn : n + 0 ≤ 9) {capacity : Int} (a0 : ok n capacity) :
 DP 200 #[vI capacity] w (pA w n (a9k capacity)) := by
 have hb := bS0 hn
 refine EN Tryz.func200 Z adc ?_
 refine KV Z Z Z Z Z Z O Z (fun w γ => f54 n τ0 a0 (i6 0) (i6 8)) fun a1 => ?_
 refine yKN 5 ?_ ?_ <;> intro h1 a2
 refine F1 0 CacheEntry ?_
 rw [show a9k capacity = (ContentStore.mk 0 ([])) by simp only [a9k, h1, cT, cF]]
 exact yX [0] ((), (none, 0)) (An (i6 0) (adf (α := CacheEntry)))
 have a3 := agk (B.nf h1)
 refine F1 1 CacheEntry ?_
 rw [show a9k capacity = (ContentStore.mk capacity ([])) by simp only [a9k, h1, cT, cF]]
 exact yX [1] ((), (none, 0)) (An a0 (adf (α := CacheEntry)))
theorem f178 (hn : n + 0 ≤ 9) {cap : Int} (a0 : ok n cap) :
 DP 178 #[vI cap] w (pA w n (a80 cap)) := by
 have hb := bS0 hn
 refine EN Tryz.func178 Z adc ?_
 refine KV Z Z Z Z Z Z O Z (fun w γ => f171 n τ0 a0 (i6 0) (i6 8)) fun a1 => ?_
 refine yKN 5 ?_ ?_ <;> intro h1 a2
 refine F1 0 CacheEntry ?_
 rw [show a80 cap = (ContentStore.mk 0 ([])) by simp only [a80, h1, cT, cF]]
 exact yX [0] ((), (none, 0)) (An (i6 0) (adf (α := CacheEntry)))
 have a3 := afy (B.nf h1)
 refine F1 1 CacheEntry ?_
 rw [show a80 cap = (ContentStore.mk cap ([])) by simp only [a80, h1, cT, cF]]
 exact yX [1] ((), (none, 0)) (An a0 (adf (α := CacheEntry)))
theorem f87 (hn : n + 0 ≤ 9) {capacity : Int} (a0 : ok n capacity) :
 DP 87 #[vI capacity] w (pA w n (a81 capacity)) := by
 have hb := bS0 hn
 refine EN Tryz.func87 Z adc ?_
 refine KF Z 0 Z Z Z Z Z O Z (fun w γ => f200 n τ0 a0) ?_
 rintro ⟨⟨⟩, ⟨p1, c1⟩⟩ a1
 refine F1 2 DataP ?_
 refine F1 3 PendingInterest ?_
 refine F1 4 SeenNonce ?_
 refine F1 5 Route ?_
 refine F1 6 Measurement ?_
 rw [show a81 capacity = (NodeP.mk ([]) (a9k capacity) ([]) ([]) ([]) ([]) 0) by simp only [a81, cT, cF]]
 exact yX [2, 1, 3, 4, 5, 6] ((none, 0), ((), (p1, c1)), (none, 0), (none, 0), (none, 0), (none, 0), ()) (An (adf (α := DataP)) (An a1 (An (adf (α := PendingInterest)) (An (adf (α := SeenNonce)) (An (adf (α := Route)) (An (adf (α := Measurement)) (i6 0)))))))
theorem f75 (hn : n + 0 ≤ 9) {cap : Int} (a0 : ok n cap) :
 DP 75 #[vI cap] w (pA w n (a49 cap)) := by
 have hb := bS0 hn
 refine EN Tryz.func75 Z adc ?_
 refine KF Z 0 Z Z Z Z Z O Z (fun w γ => f178 n τ0 a0) ?_
 rintro ⟨⟨⟩, ⟨p1, c1⟩⟩ a1
 refine F1 2 DataP ?_
 refine F1 3 PendingInterest ?_
 refine F1 4 SeenNonce ?_
 refine F1 5 Route ?_
 refine F1 6 Measurement ?_
 rw [show a49 cap = (NodeP.mk ([]) (a80 cap) ([]) ([]) ([]) ([]) 0) by simp only [a49, cT, cF]]
 exact yX [2, 1, 3, 4, 5, 6] ((none, 0), ((), (p1, c1)), (none, 0), (none, 0), (none, 0), (none, 0), ()) (An (adf (α := DataP)) (An a1 (An (adf (α := PendingInterest)) (An (adf (α := SeenNonce)) (An (adf (α := Route)) (An (adf (α := Measurement)) (i6 0)))))))
theorem f51 (hn : n + 0 ≤ 9) (w_ : Network) (N0 : Rd w K0 M0 w_.topology.links) (N1 : Rd w K1 M1 w_.trust.keys) (N2 : Rd w K2 M2 w_.trust.rules) (N3 : Rd w K3 M3 w_.trust.anchors) (N4 : Rd w K4 M4 w_.trust.certificates) (N5 : Rd w K5 M5 w_.producers) (N6 : Rd w K6 M6 w_.nodes) (N7 : Rd w K7 M7 w_.failedLinks) (N8 : Rd w K8 M8 w_.inFlight) (N9 : Rd w K9 M9 w_.consumers) (a0 : ok n w_) :
 DP 51 #[afp w_ K0 M0 K1 M1 K2 M2 K3 M3 K4 M4 K5 M5 K6 M6 K7 M7 K8 M8 K9 M9] w (pA w n (a0c w_)) := by
 have hb := bS0 hn
 refine EN Tryz.func51 Z (aC 0 N0 (aC 1 N1 (aC 2 N2 (aC 3 N3 (aC 4 N4 (aC 5 N5 (aC 6 N6 (aC 7 N7 (aC 8 N8 (aC 9 N9 adc)))))))))) ?_
 refine R0 ?_
 refine WX.draw [27] mixed fun bs G0 cz => ?_
 refine dT 10 [1, 3, 4, 9, 11, 12, 19, 20, 25, 26, 31, 32, 37, 38, 43, 44, 47, 48] ?_
 refine DX.toTX fun S_ => ?_
 refine TX.toP ?_
 refine TXP.pend (PI.lit 3 13 0 133 [] []) (awl ttOk Z Z Z Z Z Z Z) .nil Z J Z ?_
 refine TXP.pend (PI.lit 17 27 0 3 [] []) (awl ttOk Z Z Z Z Z Z Z) .nil Z J Z ?_
 refine TXP.pend (PI.loc 26 3 ⟨39, [.int .i64 (0), .slice none (0) 0, .slice none (0) 0, .slice none (0) 0, .slice none (0) 0, .slice none (0) 0, .slice none (0) 0, .slice none (0) 0, .int .i64 (0), .slice none (0) 0, .slice none (0) 0, .slice none (0) 0, .int .i64 (0), .int .i64 (0)]⟩) (ay1 ttOk Z Z Z Z Z) .nil Z J Z ?_
 refine TXP.settleS (α := Link) (l := []) 2 10 Z Z Z Z J Z fun p1 => ?_
 have r1 := (okl (ad0 (acy a0).1).2).1
 refine TXP.appF (α := Link) 7 11 ttOk J J Z Z Z J Z Z Z Z Z Z Z 0 Z τ0 τ0 fun p2 c1 => ?_
 refine TXP.takes (fuel := 5) ttOk [8] Z J Z ?_
 refine TPF 11 13 J J Z Z Z Z Z Z Z O Z (fun w γ => f139 n τ0 w_.trust (γ.q 1 Z) (γ.q 2 Z) (γ.q 3 Z) (γ.q 4 Z) ((acy a0).2.1)) ?_
 rintro ⟨⟨p3, c2⟩, ⟨p4, c3⟩, ⟨p5, c4⟩, ⟨p6, c5⟩⟩ ba
 dsimp only
 refine TPF 14 21 J J Z Z Z Z Z Z Z O Z (fun w γ => f140 n τ0 (γ.q 5 Z) ((acy a0).2.2.1)) ?_
 rintro ⟨p7, c6⟩ bb
 dsimp only
 have q1 := atx w_.producers
 refine TXP.settleS (α := Int) (l := []) 1 23 Z Z Z Z J Z fun p8 => ?_
 have r2 := (okl (acy a0).2.2.2.2.2.1).1
 refine TXP.appF (α := Int) 20 24 ttOk J J Z Z Z J Z Z Z Z Z Z Z 7 Z τ0 τ0 fun p9 c7 => ?_
 refine TXP.takes (fuel := 1) ttOk [25] Z J Z ?_
 refine TXP.settleL 0 Z Z J Z ?_
 refine TXP.done ?_
 refine TX.tail [27] Z Z J ?_
 refine R0 ?_
 refine WX.row0 501 8 none Z ?_
 refine F0 26 NodeP ?_
 have r3 := (okl (acy a0).2.2.2.1).1
 refine LK (0, none, 0, [], ([] : List NodeP)) (fun | (i, a7, a6, a8, a9) => ((i ≤ w_.nodes.length) ∧ JE n a9 ∧ (a9.length ≤ i) ∧ (a4a w_.nodes ([] : List NodeP) = a4a (w_.nodes.drop i) a9), w_.nodes.length - i, [(4, .v (vI i))], [(3, ⟨39, [.int .i64 (w_.topology.size), .slice p2 (w_.topology.links.length) c1, .slice p3 (((a2c w_.trust).keys).length) c2, .slice p4 (((a2c w_.trust).rules).length) c3, .slice p5 (((a2c w_.trust).anchors).length) c4, .slice p6 (((a2c w_.trust).certificates).length) c5, .slice p7 (((a4x w_.producers)).length) c6, .slice a7 (a9.length) a6, .int .i64 (w_.downNodes), .slice p9 (w_.failedLinks.length) c7, .slice none (0) 0, .slice none (0) 0, .int .i64 (w_.now), .int .i64 (w_.dropped)]⟩)], [(501, ⟨8, a7, a9.length, a6, a8⟩)], [(26, MF.ol a8 (a9 : List NodeP))])) ⟨zl, nA, τ7, Z⟩ [3, 2, 1] [2, 1] [0, 1, 2, 3, 4, 5, 6, 7, 8, 9, 10, 12, 17, 18, 19, 20, 22, 23, 25] [0, 1, 2, 3, 4, 5, 6, 7, 8, 9, 10, 12, 17, 18, 19, 20, 22, 23, 25, 26] ?_
 rintro ⟨i, a7, a6, a8, a9⟩ ⟨v1, v2, v3, v4⟩
 refine yKD 40 ?_ ?_ <;> intro h1 cx
 have ak : i < w_.nodes.length := τ0
 obtain ⟨e1, af⟩ := gE ak
 have be := okE (acy a0).2.2.2.1 af
 refine yI 6 i ak ?_
 rintro cb rfl
 refine zL 6 27 e1 af ?_
 rintro ⟨⟨cq, c8⟩, ⟨⟨⟩, ⟨da, c9⟩⟩, ⟨cr, ci⟩, ⟨d7, d9⟩, ⟨ck, co⟩, ⟨db, d3⟩, ⟨⟩⟩
 refine CF 33 Z Z Z Z Z O Z (fun w γ => f141 n τ0 e1 (γ.q 27 Z) (γ.q 28 Z) (γ.q 29 Z) (γ.q 30 Z) (γ.q 31 Z) (γ.q 32 Z) be) ?_
 rintro ⟨⟨bh, br⟩, ⟨⟨⟩, ⟨ar, an⟩⟩, ⟨bg, b2⟩, ⟨b3, bx⟩, ⟨ax, bc⟩, ⟨b9, bj⟩, ⟨⟩⟩ b8
 refine yB fun ct => ?_
 refine zT (α := NodeP) [39, 40, 41, 42, 43, 44] 45 (a9d e1) ((bh, br), ((), (ar, an)), (bg, b2), (b3, bx), (ax, bc), (b9, bj), ()) fun bp => ?_
 refine zP 501 52 ((a9 ++ [(a9d e1)]) : List NodeP).length bp fun ca bn => ?_
 refine zV [26, 45] 46 ?_
 refine SA ?_
 refine zU [46] 26 ?_
 exact ITr Z (i + 1, ca, bn, _, ((a9 ++ [(a9d e1)]) : List NodeP)) ⟨τ0, (aeb v2 (all_cons (α := NodeP) b8 nA)), τ2, (by rw [v4, acx af]; simp only [a4a, cT, cF])⟩ τ1 [0, 1, 2, 3, 4, 5, 6, 7, 8, 9, 10, 12, 17, 18, 19, 20, 22, 23, 25, 26]
 have bo := v4.trans (show _ = (a9 : List NodeP) by rw [dn (show w_.nodes.length ≤ i by omega)]; simp only [a4a, cT, cF])
 refine R0 ?_
 refine WX.row0 502 12 none Z ?_
 refine F0 47 PacketInFlight ?_
 have r4 := (okl (acy a0).2.2.2.2.2.2.1).1
 refine LK (0, none, 0, [], ([] : List PacketInFlight)) (fun | (i, a3, a4, a5, a1) => ((i ≤ w_.inFlight.length) ∧ JE n a1 ∧ (a1.length ≤ i) ∧ (a9m w_.inFlight ([] : List PacketInFlight) = a9m (w_.inFlight.drop i) a1), w_.inFlight.length - i, [(6, .v (vI i))], [(3, ⟨39, [.int .i64 (w_.topology.size), .slice p2 (w_.topology.links.length) c1, .slice p3 (((a2c w_.trust).keys).length) c2, .slice p4 (((a2c w_.trust).rules).length) c3, .slice p5 (((a2c w_.trust).anchors).length) c4, .slice p6 (((a2c w_.trust).certificates).length) c5, .slice p7 (((a4x w_.producers)).length) c6, .slice a7 (a9.length) a6, .int .i64 (w_.downNodes), .slice p9 (w_.failedLinks.length) c7, .slice a3 (a1.length) a4, .slice none (0) 0, .int .i64 (w_.now), .int .i64 (w_.dropped)]⟩)], [(501, ⟨8, a7, a9.length, a6, a8⟩), (502, ⟨12, a3, a1.length, a4, a5⟩)], [(47, MF.ol a5 (a1 : List PacketInFlight))])) ⟨zl, nA, τ7, Z⟩ [3, 2, 1] [2, 1] [0, 1, 2, 3, 4, 5, 6, 7, 8, 9, 10, 12, 17, 18, 19, 20, 22, 23, 25, 26] [0, 1, 2, 3, 4, 5, 6, 7, 8, 9, 10, 12, 17, 18, 19, 20, 22, 23, 25, 26, 47] ?_
 rintro ⟨i, a3, a4, a5, a1⟩ ⟨v5, v6, v7, v8⟩
 refine yKD 59 ?_ ?_ <;> intro h2 cv
 have ai : i < w_.inFlight.length := τ0
 obtain ⟨e2, ad⟩ := gE ai
 have bk := okE (acy a0).2.2.2.2.2.2.1 ad
 refine yI 8 i ai ?_
 rintro cm rfl
 refine zL 8 48 e2 ad ?_
 rintro ⟨⟨⟩, ⟨⟩, ⟨⟩, ⟨⟨cg, ch⟩, ⟨⟩, ⟨⟩, ⟨⟩⟩, ⟨⟨d4, cy⟩, ⟨d2, cf⟩, ⟨ce, d6⟩, ⟨⟩, ⟨⟩⟩⟩
 refine CF 52 Z Z Z Z Z O Z (fun w γ => f142 n τ0 e2 (γ.q 48 Z) (γ.q 49 Z) (γ.q 50 Z) (γ.q 51 Z) bk) ?_
 rintro ⟨⟨⟩, ⟨⟩, ⟨⟩, ⟨⟨ap, b6⟩, ⟨⟩, ⟨⟩, ⟨⟩⟩, ⟨⟨ay, c0⟩, ⟨bm, az⟩, ⟨bt, b1⟩, ⟨⟩, ⟨⟩⟩⟩ b7
 refine yB fun d8 => ?_
 refine zT (α := PacketInFlight) [56, 57, 58, 59] 60 (abc e2) ((), (), (), ((ap, b6), (), (), ()), ((ay, c0), (bm, az), (bt, b1), (), ())) fun bz => ?_
 refine zP 502 71 ((a1 ++ [(abc e2)]) : List PacketInFlight).length bz fun b5 av => ?_
 refine zV [47, 60] 61 ?_
 refine SA ?_
 refine zU [61] 47 ?_
 exact ITr Z (i + 1, b5, av, _, ((a1 ++ [(abc e2)]) : List PacketInFlight)) ⟨τ0, (aeb v6 (all_cons (α := PacketInFlight) b7 nA)), τ2, (by rw [v8, acx ad]; simp only [a9m, cT, cF])⟩ τ1 [0, 1, 2, 3, 4, 5, 6, 7, 8, 9, 10, 12, 17, 18, 19, 20, 22, 23, 25, 26, 47]
 have bf := v8.trans (show _ = (a1 : List PacketInFlight) by rw [dn (show w_.inFlight.length ≤ i by omega)]; simp only [a9m, cT, cF])
 refine R0 ?_
 refine WX.row0 503 11 none Z ?_
 refine F0 62 Consumer ?_
 have r5 := (okl (acy a0).2.2.2.2.2.2.2.1).1
 refine LK (0, none, 0, [], ([] : List Consumer)) (fun | (i, ac, ab, aa, a2) => ((i ≤ w_.consumers.length) ∧ JE n a2 ∧ (a2.length ≤ i) ∧ (a9l w_.consumers ([] : List Consumer) = a9l (w_.consumers.drop i) a2), w_.consumers.length - i, [(8, .v (vI i))], [(3, ⟨39, [.int .i64 (w_.topology.size), .slice p2 (w_.topology.links.length) c1, .slice p3 (((a2c w_.trust).keys).length) c2, .slice p4 (((a2c w_.trust).rules).length) c3, .slice p5 (((a2c w_.trust).anchors).length) c4, .slice p6 (((a2c w_.trust).certificates).length) c5, .slice p7 (((a4x w_.producers)).length) c6, .slice a7 (a9.length) a6, .int .i64 (w_.downNodes), .slice p9 (w_.failedLinks.length) c7, .slice a3 (a1.length) a4, .slice ac (a2.length) ab, .int .i64 (w_.now), .int .i64 (w_.dropped)]⟩)], [(501, ⟨8, a7, a9.length, a6, a8⟩), (502, ⟨12, a3, a1.length, a4, a5⟩), (503, ⟨11, ac, a2.length, ab, aa⟩)], [(62, MF.ol aa (a2 : List Consumer))])) ⟨zl, nA, τ7, Z⟩ [3, 2, 1] [2, 1] [0, 1, 2, 3, 4, 5, 6, 7, 8, 9, 10, 12, 17, 18, 19, 20, 22, 23, 25, 26, 47] [0, 1, 2, 3, 4, 5, 6, 7, 8, 9, 10, 12, 17, 18, 19, 20, 22, 23, 25, 26, 47, 62] ?_
 rintro ⟨i, ac, ab, aa, a2⟩ ⟨v9, aj, d5, ag⟩
 refine yKD 78 ?_ ?_ <;> intro h3 cd
 have ah : i < w_.consumers.length := τ0
 obtain ⟨e3, ae⟩ := gE ah
 have b0 := okE (acy a0).2.2.2.2.2.2.2.1 ae
 refine yI 9 i ah ?_
 rintro d0 rfl
 refine zL 9 63 e3 ae ?_
 rintro ⟨⟨⟩, ⟨⟩, ⟨d1, cc⟩, ⟨⟩, ⟨⟩, ⟨⟩, ⟨⟨cs, cp⟩, ⟨cj, cw⟩, ⟨cl, dc⟩, ⟨⟩, ⟨⟩⟩⟩
 refine CF 67 Z Z Z Z Z O Z (fun w γ => f143 n τ0 e3 (γ.q 63 Z) (γ.q 64 Z) (γ.q 65 Z) (γ.q 66 Z) b0) ?_
 rintro ⟨⟨⟩, ⟨⟩, ⟨bi, bw⟩, ⟨⟩, ⟨⟩, ⟨⟩, ⟨⟨bq, aq⟩, ⟨bu, b4⟩, ⟨aw, bv⟩, ⟨⟩, ⟨⟩⟩⟩ am
 refine yB fun cn => ?_
 refine zT (α := Consumer) [71, 72, 73, 74] 75 (a9s e3) ((), (), (bi, bw), (), (), (), ((bq, aq), (bu, b4), (aw, bv), (), ())) fun al => ?_
 refine zP 503 90 ((a2 ++ [(a9s e3)]) : List Consumer).length al fun ao au => ?_
 refine zV [62, 75] 76 ?_
 refine SA ?_
 refine zU [76] 62 ?_
 exact ITr Z (i + 1, ao, au, _, ((a2 ++ [(a9s e3)]) : List Consumer)) ⟨τ0, (aeb aj (all_cons (α := Consumer) am nA)), τ2, (by rw [ag, acx ae]; simp only [a9l, cT, cF])⟩ τ1 [0, 1, 2, 3, 4, 5, 6, 7, 8, 9, 10, 12, 17, 18, 19, 20, 22, 23, 25, 26, 47, 62]
 have bl := ag.trans (show _ = (a2 : List Consumer) by rw [dn (show w_.consumers.length ≤ i by omega)]; simp only [a9l, cT, cF])
 refine yE 501 26 77 ?_
 refine zE 502 47 79 ?_
 refine zE 503 62 81 ?_
 rw [show a0c w_ = (Network.mk w_.topology (a2c w_.trust) (a4x w_.producers) a9 w_.downNodes w_.failedLinks a1 a2 w_.now w_.dropped) by simp only [a0c, bo, bf, bl, cT, cF]]
 exact zX [12, 17, 18, 19, 20, 22, 78, 25, 80, 82] (((), (p2, c1)), ((p3, c2), (p4, c3), (p5, c4), (p6, c5)), (p7, c6), (a7, a6), (), (p9, c7), (a3, a4), (ac, ab), (), ()) (An (An (ad0 (acy a0).1).1 (ada τ0 (okl (ad0 (acy a0).1).2).2 : ok n (w_.topology.links : List Link))) (An ba (An bb (An (ada τ0 v2 : ok n (a9 : List NodeP)) (An (acy a0).2.2.2.2.1 (An (ada τ0 (okl (acy a0).2.2.2.2.2.1).2 : ok n (w_.failedLinks : List Int)) (An (ada τ0 v6 : ok n (a1 : List PacketInFlight)) (An (ada τ0 aj : ok n (a2 : List Consumer)) (An (acy a0).2.2.2.2.2.2.2.2.1 (acy a0).2.2.2.2.2.2.2.2.2)))))))))
end Go.Proofs.YtpmejlbgjkiobaaGreat
namespace Go.Stp
def a82 (set_ : Int) (i : Int) : Bool := bif decide (set_ ≥ 0) then bif (a0u i 0 30) then (bitO .and (Int.fdiv set_ (2 ^ (min (Int.toNat i) 64))) 1 == 1) else false else false
def a83 (set_ : Int) (a : Int) : Bool := bif (a0j a 0 30) then bif decide (set_ ≥ 0) then (bitO .and (Int.fdiv set_ (2 ^ (min (Int.toNat a) 64))) 1 == 1) else false else false
def abd (w_ : Network) (k : Int) : Bool := bif (a0u k 0 (i64.wrap ((((w_.nodes).length : Nat) : Int) - 1))) then (!(a82 w_.downNodes k)) else false
def ac8 (w_ : Network) (k : Int) : Bool := bif (a0j k 0 (i64.wrap ((((w_.nodes).length : Nat) : Int) - 1))) then (!(a83 w_.downNodes k)) else false
end Go.Stp
namespace Go.Proofs.YtpmejlbgjkiobaaGreat
open Go.Stp
open Go.Stp.GoT (ok)
variable {w : World} (n : Nat) {K0 K1 K2 K3 K4 K5 K6 K7 K8 K9 : Option Addr} {M0 M1 M2 M3 M4 M5 M6 M7 M8 M9 : Nat}
theorem f58 (hn : n + 0 ≤ 9) {set_ : Int} {i : Int} (a1 : ok n set_) (a0 : ok n i) :
 DP 58 #[vI set_, vI i] w (pB (a82 set_ i)) := by
 have hb := bS0 hn
 refine EN Tryz.func58 Z adc ?_
 refine yKD 7 ?_ ?_ <;> intro h1 a3
 refine KV Z Z Z Z Z Z O Z (fun w γ => f54 n τ0 a0 (i6 0) (i6 30)) fun a2 => ?_
 refine yKA 11 ?_ ?_ <;> intro h2
 have a4 := agk h2
 have r1 := i8 a0
 refine KS Z Z Z Z (fun _ hΓ => aqn Z Z Z τ0) ?_
 refine WX.see Z Z Z (fun _ hΓ => apa Z Z Z Z) ?_
 exact R4r Z Z (by simp only [a82, h1, h2, cT, cF])
 exact R4r Z Z (by simp only [a82, h1, h2, cT, cF])
 exact R4r Z Z (by simp only [a82, h1, cT, cF])
theorem f257 (hn : n + 0 ≤ 9) {set_ : Int} {a : Int} (a1 : ok n set_) (a0 : ok n a) :
 DP 257 #[vI set_, vI a] w (pB (a83 set_ a)) := by
 have hb := bS0 hn
 refine EN Tryz.func257 Z adc ?_
 refine KV Z Z Z Z Z Z O Z (fun w γ => f171 n τ0 a0 (i6 0) (i6 30)) fun a2 => ?_
 refine yKA 7 ?_ ?_ <;> intro h1
 have a4 := afy h1
 refine yKD 11 ?_ ?_ <;> intro h2 a3
 have r1 := i8 a0
 refine KS Z Z Z Z (fun _ hΓ => aqn Z Z Z τ0) ?_
 refine WX.see Z Z Z (fun _ hΓ => apa Z Z Z Z) ?_
 exact R4r Z Z (by simp only [a83, h1, h2, cT, cF])
 exact R4r Z Z (by simp only [a83, h1, h2, cT, cF])
 exact R4r Z Z (by simp only [a83, h1, cT, cF])
theorem f13 (hn : n + 0 ≤ 9) (w_ : Network) (N0 : Rd w K0 M0 w_.topology.links) (N1 : Rd w K1 M1 w_.trust.keys) (N2 : Rd w K2 M2 w_.trust.rules) (N3 : Rd w K3 M3 w_.trust.anchors) (N4 : Rd w K4 M4 w_.trust.certificates) (N5 : Rd w K5 M5 w_.producers) (N6 : Rd w K6 M6 w_.nodes) (N7 : Rd w K7 M7 w_.failedLinks) (N8 : Rd w K8 M8 w_.inFlight) (N9 : Rd w K9 M9 w_.consumers) {k : Int} (a1 : ok n w_) (a0 : ok n k) :
 DP 13 #[afp w_ K0 M0 K1 M1 K2 M2 K3 M3 K4 M4 K5 M5 K6 M6 K7 M7 K8 M8 K9 M9, vI k] w (pB (abd w_ k)) := by
 have hb := bS0 hn
 refine EN Tryz.func13 Z (aC 0 N0 (aC 1 N1 (aC 2 N2 (aC 3 N3 (aC 4 N4 (aC 5 N5 (aC 6 N6 (aC 7 N7 (aC 8 N8 (aC 9 N9 adc)))))))))) ?_
 refine SW ?_
 refine CV Z Z Z Z Z O Z (fun w γ => f54 n τ0 a0 (i6 0) (ad3 _)) fun a2 => ?_
 refine yKA 11 ?_ ?_ <;> intro h1
 have a4 := agk h1
 refine KV Z Z Z Z Z Z O Z (fun w γ => f58 n τ0 ((acy a1).2.2.2.2.1) a0) fun a3 => ?_
 exact R4r Z Z (by simp only [abd, h1, cT, cF])
 exact R4r Z Z (by simp only [abd, h1, cT, cF])
theorem f146 (hn : n + 0 ≤ 9) (w_ : Network) (N0 : Rd w K0 M0 w_.topology.links) (N1 : Rd w K1 M1 w_.trust.keys) (N2 : Rd w K2 M2 w_.trust.rules) (N3 : Rd w K3 M3 w_.trust.anchors) (N4 : Rd w K4 M4 w_.trust.certificates) (N5 : Rd w K5 M5 w_.producers) (N6 : Rd w K6 M6 w_.nodes) (N7 : Rd w K7 M7 w_.failedLinks) (N8 : Rd w K8 M8 w_.inFlight) (N9 : Rd w K9 M9 w_.consumers) {k : Int} (a1 : ok n w_) (a0 : ok n k) :
 DP 146 #[afp w_ K0 M0 K1 M1 K2 M2 K3 M3 K4 M4 K5 M5 K6 M6 K7 M7 K8 M8 K9 M9, vI k] w (pB (ac8 w_ k)) := by
 have hb := bS0 hn
 refine EN Tryz.func146 Z (aC 0 N0 (aC 1 N1 (aC 2 N2 (aC 3 N3 (aC 4 N4 (aC 5 N5 (aC 6 N6 (aC 7 N7 (aC 8 N8 (aC 9 N9 adc)))))))))) ?_
 refine SW ?_
 refine CV Z Z Z Z Z O Z (fun w γ => f171 n τ0 a0 (i6 0) (ad3 _)) fun a2 => ?_
 refine yKA 11 ?_ ?_ <;> intro h1
 have a4 := afy h1
 refine KV Z Z Z Z Z Z O Z (fun w γ => f257 n τ0 ((acy a1).2.2.2.2.1) a0) fun a3 => ?_
 exact R4r Z Z (by simp only [ac8, h1, cT, cF])
 exact R4r Z Z (by simp only [ac8, h1, cT, cF])
end Go.Proofs.YtpmejlbgjkiobaaGreat
namespace Go.Stp
def ae2 (v : Int) : List Int → Nat → Option (Int) | [], i => none | e1 :: rest_, i => bif (v == e1) then (some ((i : Nat) : Int)) else ae2 v rest_ (i + 1)
def aet (s : (List Int)) (v : Int) : Int := match ae2 v s 0 with | some r_ => r_ | none => (-1)
def af0 (s : (List Int)) (v : Int) : Bool := (decide ((aet s v) ≥ 0))
def a6p (n_ : Int) : List Int → Option (Bool) | [] => none | e1 :: rest_ => bif (e1 == n_) then (some true) else a6p n_ rest_
def a9n (l : (List Int)) (n_ : Int) : Bool := match a6p n_ l with | some r_ => r_ | none => false
def a3v (failed : (List Int)) (down : Int) : List Link → Nat → (List Link) → (List Link) | [], i, out => ((out) : List Link) | e1 :: rest_, i, out => bif (!(af0 failed ((i : Nat) : Int))) then bif (!(a82 down e1.a)) then bif (!(a82 down e1.b)) then a3v failed down rest_ (i + 1) (((out ++ [e1])) : List Link) else a3v failed down rest_ (i + 1) ((out) : List Link) else a3v failed down rest_ (i + 1) ((out) : List Link) else a3v failed down rest_ (i + 1) ((out) : List Link)
def abe (n_ : Topology) (failed : (List Int)) (down : Int) : Topology := match a3v failed down n_.links 0 ([] : List Link) with | out => (Topology.mk n_.size out)
def a3w (dead : (List Int)) (down : Int) : List Link → Nat → (List Link) → (List Link) | [], i, out => ((out) : List Link) | e1 :: rest_, i, out => bif (!(a9n dead ((i : Nat) : Int))) then bif (!(a83 down e1.a)) then bif (!(a83 down e1.b)) then a3w dead down rest_ (i + 1) (((out ++ [e1])) : List Link) else a3w dead down rest_ (i + 1) ((out) : List Link) else a3w dead down rest_ (i + 1) ((out) : List Link) else a3w dead down rest_ (i + 1) ((out) : List Link)
def abf (n_ : Topology) (dead : (List Int)) (down : Int) : Topology := match a3w dead down n_.links 0 ([] : List Link) with | out => (Topology.mk n_.size out)
def a25 (w_ : Network) : Topology := (abe w_.topology w_.failedLinks w_.downNodes)
def a3g (w_ : Network) : Topology := (abf w_.topology w_.failedLinks w_.downNodes)
end Go.Stp
namespace Go.Proofs.YtpmejlbgjkiobaaGreat
open Go.Stp
open Go.Stp.GoT (ok)
variable {w : World} (n : Nat) {K0 K1 K2 K3 K4 K5 K6 K7 K8 K9 : Option Addr} {M0 M1 M2 M3 M4 M5 M6 M7 M8 M9 : Nat}
theorem f164 (hn : n + 0 ≤ 9) {s : List Int} (N0 : Rd w K0 M0 s) {v : Int} (a0 : ok n s) (a5 : ok n v) :
 DP 164 #[vS K0 s M0, vI v] w (pI n (aet s v)) := by
 have hb := bS0 hn
 refine EN Tryz.func164 Z (aS1 N0) ?_
 have r1 := (okl a0).1
 refine LM Z 0 (fun i => ((i ≤ s.length) ∧ (ae2 v s 0 = ae2 v (s.drop i) i), s.length - i, [(8, .v (vI i))], [], [], [])) ⟨zl, Z⟩ [7, 0, 1] [] [0] [0] ?_
 rintro i ⟨v1, v2⟩
 refine yKD 9 ?_ ?_ <;> intro h1 a9
 have a2 : i < s.length := τ0
 obtain ⟨e1, a1⟩ := gE a2
 have a7 := okE a0 a1
 refine yI 0 i a2 ?_
 rintro a6 rfl
 refine zL 0 1 e1 a1 ?_
 rintro ⟨⟩
 refine yKE 16 ?_ ?_ <;> intro h2 a8
 have a4 := v2.trans (show _ = (some ((i : Nat) : Int)) by rw [acx a1]; simp only [ae2, h2, cT, cF])
 rw [show aet s v = ((i : Nat) : Int) by simp only [aet, a4, cT, cF]]
 exact R6r Z Z (i6 ((i : Nat) : Int))
 refine SA ?_
 exact ITr Z (i + 1) ⟨τ0, (by rw [v2, acx a1]; simp only [ae2, h2, cT, cF])⟩ τ1 [0]
 have a3 := v2.trans (show _ = none by rw [dn (show s.length ≤ i by omega)]; simp only [ae2, cT, cF])
 rw [show aet s v = (-1) by simp only [aet, a3, cT, cF]]
 exact R6r Z Z (i6 (-1))
theorem f62 (hn : n + 0 ≤ 9) {s : List Int} (N0 : Rd w K0 M0 s) {v : Int} (a1 : ok n s) (a0 : ok n v) :
 DP 62 #[vS K0 s M0, vI v] w (pB (af0 s v)) := by
 have hb := bS0 hn
 refine EN Tryz.func62 Z (aS1 N0) ?_
 refine KV Z Z Z Z Z Z O Z (fun w γ => f164 n τ0 (γ.q 0 Z) a1 a0) fun a2 => ?_
 exact R4r Z Z (by simp only [af0, cT, cF])
theorem f345 (hn : n + 0 ≤ 9) {l : List Int} (N0 : Rd w K0 M0 l) {n_ : Int} (a0 : ok n l) (a3 : ok n n_) :
 DP 345 #[vS K0 l M0, vI n_] w (pB (a9n l n_)) := by
 have hb := bS0 hn
 refine EN Tryz.func345 Z (aS1 N0) ?_
 have r1 := (okl a0).1
 refine LM Z 0 (fun i => ((i ≤ l.length) ∧ (a6p n_ l = a6p n_ (l.drop i)), l.length - i, [(5, .v (vI i))], [], [], [])) ⟨zl, Z⟩ [0, 1] [] [0] [0] ?_
 rintro i ⟨v1, v2⟩
 refine yKD 9 ?_ ?_ <;> intro h1 a9
 have a2 : i < l.length := τ0
 obtain ⟨e1, a1⟩ := gE a2
 have a7 := okE a0 a1
 refine yI 0 i a2 ?_
 rintro a6 rfl
 refine zL 0 1 e1 a1 ?_
 rintro ⟨⟩
 refine yKE 17 ?_ ?_ <;> intro h2 a8
 have a5 := v2.trans (show _ = (some true) by rw [acx a1]; simp only [a6p, h2, cT, cF])
 exact R4r Z Z (by simp only [a9n, a5, cT, cF])
 refine SA ?_
 exact ITr Z (i + 1) ⟨τ0, (by rw [v2, acx a1]; simp only [a6p, h2, cT, cF])⟩ τ1 [0]
 have a4 := v2.trans (show _ = none by rw [dn (show l.length ≤ i by omega)]; simp only [a6p, cT, cF])
 exact R4r Z Z (by simp only [a9n, a4, cT, cF])
theorem f57 (hn : n + 0 ≤ 9) (n_ : Topology) (N0 : Rd w K0 M0 n_.links) {failed : List Int} (N1 : Rd w K1 M1 failed) {down : Int} (a6 : ok n n_) (a5 : ok n failed) (a4 : ok n down) :
 DP 57 #[aeq n_ K0 M0, vS K1 failed M1, vI down] w (pA w n (abe n_ failed down)) := by
 have hb := bS0 hn
 refine EN Tryz.func57 Z (aS2 N0 N1) ?_
 refine R0 ?_
 refine WX.row0 501 2 none Z ?_
 refine F0 2 Link ?_
 have r1 := (okl (ad0 a6).2).1
 refine LK (0, none, 0, [], ([] : List Link)) (fun | (i, a3, a2, a0, a1) => ((i ≤ n_.links.length) ∧ JE n a1 ∧ (a1.length ≤ i) ∧ (a3v failed down n_.links 0 ([] : List Link) = a3v failed down (n_.links.drop i) i a1), n_.links.length - i, [(16, .v (vI i))], [(7, ⟨26, [.int .i64 (n_.size), .slice a3 (a1.length) a2]⟩)], [(501, ⟨2, a3, a1.length, a2, a0⟩)], [(2, MF.ol a0 (a1 : List Link))])) ⟨zl, nA, τ7, Z⟩ [15, 14, 7, 6, 1, 2] [6] [0, 1] [0, 1, 2] ?_
 rintro ⟨i, a3, a2, a0, a1⟩ ⟨v1, v2, v3, v4⟩
 refine yKD 17 ?_ ?_ <;> intro h1 aj
 have a9 : i < n_.links.length := τ0
 obtain ⟨e1, a7⟩ := gE a9
 have a8 := okE (ad0 a6).2 a7
 refine yI 0 i a9 ?_
 rintro ad rfl
 refine zL 0 3 e1 a7 ?_
 rintro ⟨⟨⟩, ⟨⟩⟩
 refine KV Z Z Z Z Z Z O Z (fun w γ => f62 n τ0 (γ.q 1 Z) a5 (i6 ((i : Nat) : Int))) fun ac => ?_
 refine yKN 25 ?_ ?_ <;> intro h2 ah
 refine KV Z Z Z Z Z Z O Z (fun w γ => f58 n τ0 a4 ((ag7 a8).1)) fun ae => ?_
 refine yKN 32 ?_ ?_ <;> intro h3 af
 refine KV Z Z Z Z Z Z O Z (fun w γ => f58 n τ0 a4 ((ag7 a8).2)) fun ai => ?_
 refine yKN 38 ?_ ?_ <;> intro h4 ag
 refine yB fun p1 => ?_
 refine zT (α := Link) [] 3 e1 ((), ()) fun ab => ?_
 refine zP 501 42 ((a1 ++ [e1]) : List Link).length ab fun p2 c1 => ?_
 refine zV [2, 3] 4 ?_
 refine SA ?_
 refine zU [4] 2 ?_
 exact ITr Z (i + 1, p2, c1, _, ((a1 ++ [e1]) : List Link)) ⟨τ0, (aeb v2 (all_cons (α := Link) a8 nA)), τ2, (by rw [v4, acx a7]; simp only [a3v, h2, h3, h4, cT, cF])⟩ τ1 [0, 1, 2]
 refine SA ?_
 exact ITr Z (i + 1, a3, a2, a0, (a1 : List Link)) ⟨τ0, v2, τ2, (by rw [v4, acx a7]; simp only [a3v, h2, h3, h4, cT, cF])⟩ τ1 [0, 1, 2]
 refine SA ?_
 exact ITr Z (i + 1, a3, a2, a0, (a1 : List Link)) ⟨τ0, v2, τ2, (by rw [v4, acx a7]; simp only [a3v, h2, h3, cT, cF])⟩ τ1 [0, 1, 2]
 refine SA ?_
 exact ITr Z (i + 1, a3, a2, a0, (a1 : List Link)) ⟨τ0, v2, τ2, (by rw [v4, acx a7]; simp only [a3v, h2, cT, cF])⟩ τ1 [0, 1, 2]
 have aa := v4.trans (show _ = (a1 : List Link) by rw [dn (show n_.links.length ≤ i by omega)]; simp only [a3v, cT, cF])
 refine yE 501 2 5 ?_
 rw [show abe n_ failed down = (Topology.mk n_.size a1) by simp only [abe, aa, cT, cF]]
 exact zX [6] ((), (a3, a2)) (An (ad0 a6).1 (ada τ0 v2 : ok n (a1 : List Link)))
theorem f256 (hn : n + 0 ≤ 9) (n_ : Topology) (N0 : Rd w K0 M0 n_.links) {dead : List Int} (N1 : Rd w K1 M1 dead) {down : Int} (a5 : ok n n_) (a6 : ok n dead) (a4 : ok n down) :
 DP 256 #[aeq n_ K0 M0, vS K1 dead M1, vI down] w (pA w n (abf n_ dead down)) := by
 have hb := bS0 hn
 refine EN Tryz.func256 Z (aS2 N0 N1) ?_
 refine R0 ?_
 refine WX.row0 501 2 none Z ?_
 refine F0 2 Link ?_
 have r1 := (okl (ad0 a5).2).1
 refine LK (0, none, 0, [], ([] : List Link)) (fun | (i, a3, a2, a0, a1) => ((i ≤ n_.links.length) ∧ JE n a1 ∧ (a1.length ≤ i) ∧ (a3w dead down n_.links 0 ([] : List Link) = a3w dead down (n_.links.drop i) i a1), n_.links.length - i, [(8, .v (vI i))], [(7, ⟨26, [.int .i64 (n_.size), .slice a3 (a1.length) a2]⟩)], [(501, ⟨2, a3, a1.length, a2, a0⟩)], [(2, MF.ol a0 (a1 : List Link))])) ⟨zl, nA, τ7, Z⟩ [7, 6, 3, 1, 2] [6, 3] [0, 1] [0, 1, 2] ?_
 rintro ⟨i, a3, a2, a0, a1⟩ ⟨v1, v2, v3, v4⟩
 refine yKD 16 ?_ ?_ <;> intro h1 am
 have a8 : i < n_.links.length := τ0
 obtain ⟨e1, a7⟩ := gE a8
 have a9 := okE (ad0 a5).2 a7
 refine KV Z Z Z Z Z Z O Z (fun w γ => f345 n τ0 (γ.q 1 Z) a6 (i6 ((i : Nat) : Int))) fun ad => ?_
 refine yKN 23 ?_ ?_ <;> intro h2 ak
 refine yI 0 i a8 ?_
 rintro ae rfl
 refine yL 0 3 e1 a7 ?_
 rintro ⟨⟨⟩, ⟨⟩⟩
 refine CV Z Z Z Z Z O Z (fun w γ => f257 n τ0 a4 ((ag7 a9).1)) fun af => ?_
 refine yKN 34 ?_ ?_ <;> intro h3 ag
 refine yI 0 i a8 ?_
 rintro aj ⟨⟩
 refine yL 0 3 e1 a7 ?_
 rintro ⟨⟨⟩, ⟨⟩⟩
 refine CV Z Z Z Z Z O Z (fun w γ => f257 n τ0 a4 ((ag7 a9).2)) fun al => ?_
 refine yKN 44 ?_ ?_ <;> intro h4 ai
 refine R0 ?_
 refine WX.draw [8, 9, 10] mixed fun bs G0 aa => ?_
 refine dT 6 [1, 2, 5, 6, 9] ?_
 refine zDI 5 0 i aa Z a8 ?_
 rintro ah ⟨⟩
 refine zDL 6 0 3 e1 aa a7 ?_
 rintro ⟨⟨⟩, ⟨⟩⟩
 refine DX.tail2 [7, 8, 9, 10] Z Z J ?_
 refine zB fun p1 => ?_
 refine zT (α := Link) [] 3 e1 ((), ()) fun ac => ?_
 refine zP 501 52 ((a1 ++ [e1]) : List Link).length ac fun p2 c1 => ?_
 refine zV [2, 3] 4 ?_
 refine SA ?_
 refine zU [4] 2 ?_
 exact ITr Z (i + 1, p2, c1, _, ((a1 ++ [e1]) : List Link)) ⟨τ0, (aeb v2 (all_cons (α := Link) a9 nA)), τ2, (by rw [v4, acx a7]; simp only [a3w, h2, h3, h4, cT, cF])⟩ τ1 [0, 1, 2]
 refine SA ?_
 exact ITr Z (i + 1, a3, a2, a0, (a1 : List Link)) ⟨τ0, v2, τ2, (by rw [v4, acx a7]; simp only [a3w, h2, h3, h4, cT, cF])⟩ τ1 [0, 1, 2]
 refine SA ?_
 exact ITr Z (i + 1, a3, a2, a0, (a1 : List Link)) ⟨τ0, v2, τ2, (by rw [v4, acx a7]; simp only [a3w, h2, h3, cT, cF])⟩ τ1 [0, 1, 2]
 refine SA ?_
 exact ITr Z (i + 1, a3, a2, a0, (a1 : List Link)) ⟨τ0, v2, τ2, (by rw [v4, acx a7]; simp only [a3w, h2, cT, cF])⟩ τ1 [0, 1, 2]
 have ab := v4.trans (show _ = (a1 : List Link) by rw [dn (show n_.links.length ≤ i by omega)]; simp only [a3w, cT, cF])
 refine yE 501 2 5 ?_
 rw [show abf n_ dead down = (Topology.mk n_.size a1) by simp only [abf, ab, cT, cF]]
 exact zX [6] ((), (a3, a2)) (An (ad0 a5).1 (ada τ0 v2 : ok n (a1 : List Link)))
theorem f12 (hn : n + 0 ≤ 9) (w_ : Network) (N0 : Rd w K0 M0 w_.topology.links) (N1 : Rd w K1 M1 w_.trust.keys) (N2 : Rd w K2 M2 w_.trust.rules) (N3 : Rd w K3 M3 w_.trust.anchors) (N4 : Rd w K4 M4 w_.trust.certificates) (N5 : Rd w K5 M5 w_.producers) (N6 : Rd w K6 M6 w_.nodes) (N7 : Rd w K7 M7 w_.failedLinks) (N8 : Rd w K8 M8 w_.inFlight) (N9 : Rd w K9 M9 w_.consumers) (a0 : ok n w_) :
 DP 12 #[afp w_ K0 M0 K1 M1 K2 M2 K3 M3 K4 M4 K5 M5 K6 M6 K7 M7 K8 M8 K9 M9] w (pA w n (a25 w_)) := by
 have hb := bS0 hn
 refine EN Tryz.func12 Z (aC 0 N0 (aC 1 N1 (aC 2 N2 (aC 3 N3 (aC 4 N4 (aC 5 N5 (aC 6 N6 (aC 7 N7 (aC 8 N8 (aC 9 N9 adc)))))))))) ?_
 refine KF Z 10 Z Z Z Z Z O Z (fun w γ => f57 n τ0 w_.topology (γ.q 0 Z) (γ.q 7 Z) ((acy a0).1) ((acy a0).2.2.2.2.2.1) ((acy a0).2.2.2.2.1)) ?_
 rintro ⟨⟨⟩, ⟨p1, c1⟩⟩ a1
 rw [show a25 w_ = (abe w_.topology w_.failedLinks w_.downNodes) by simp only [a25, cT, cF]]
 exact yX [11] ((), (p1, c1)) a1
theorem f145 (hn : n + 0 ≤ 9) (w_ : Network) (N0 : Rd w K0 M0 w_.topology.links) (N1 : Rd w K1 M1 w_.trust.keys) (N2 : Rd w K2 M2 w_.trust.rules) (N3 : Rd w K3 M3 w_.trust.anchors) (N4 : Rd w K4 M4 w_.trust.certificates) (N5 : Rd w K5 M5 w_.producers) (N6 : Rd w K6 M6 w_.nodes) (N7 : Rd w K7 M7 w_.failedLinks) (N8 : Rd w K8 M8 w_.inFlight) (N9 : Rd w K9 M9 w_.consumers) (a0 : ok n w_) :
 DP 145 #[afp w_ K0 M0 K1 M1 K2 M2 K3 M3 K4 M4 K5 M5 K6 M6 K7 M7 K8 M8 K9 M9] w (pA w n (a3g w_)) := by
 have hb := bS0 hn
 refine EN Tryz.func145 Z (aC 0 N0 (aC 1 N1 (aC 2 N2 (aC 3 N3 (aC 4 N4 (aC 5 N5 (aC 6 N6 (aC 7 N7 (aC 8 N8 (aC 9 N9 adc)))))))))) ?_
 refine KF Z 10 Z Z Z Z Z O Z (fun w γ => f256 n τ0 w_.topology (γ.q 0 Z) (γ.q 7 Z) ((acy a0).1) ((acy a0).2.2.2.2.2.1) ((acy a0).2.2.2.2.1)) ?_
 rintro ⟨⟨⟩, ⟨p1, c1⟩⟩ a1
 rw [show a3g w_ = (abf w_.topology w_.failedLinks w_.downNodes) by simp only [a3g, cT, cF]]
 exact yX [11] ((), (p1, c1)) a1
end Go.Proofs.YtpmejlbgjkiobaaGreat
namespace Go.Stp
def ad1 (fq : Advertisement → Bool) : List Advertisement → Nat → Option (Int) | [], i => none | e1 :: rest_, i => bif fq e1 then (some ((i : Nat) : Int)) else ad1 fq rest_ (i + 1)
def adk (s : (List Advertisement)) (fq : Advertisement → Bool) : Int := match ad1 fq s 0 with | some r_ => r_ | none => (-1)
def a9o (from_ : Int) (a : Advertisement) : Bool := (a.origin == from_)
def a0t (l : (List Advertisement)) (from_ : Int) : Int := (adk l (fun e0_ => (a9o from_ e0_)))
def a5i (from_ : Int) : List Advertisement → Nat → Option (Int) | [], i => none | e1 :: rest_, i => bif (e1.origin == from_) then (some ((i : Nat) : Int)) else a5i from_ rest_ (i + 1)
def a0e (l : (List Advertisement)) (from_ : Int) : Int := match a5i from_ l 0 with | some r_ => r_ | none => (-1)
theorem faSL (f : Int) : ∀ (l : List Advertisement) (i : Nat) (r : Int), a5i f l i = some r → r < ((i + l.length : Nat) : Int)
 | [], i, r, h => by cases h
 | e :: l, i, r, h => by
  simp only [a5i] at h
  cases h0 : (e.origin == f)
  ·rw [h0, cond_false] at h
   have := faSL f l (i + 1) r h
   simp only [List.length_cons]; omega
  ·rw [h0, cond_true] at h; cases h
   simp only [List.length_cons]; omega
theorem aqo (l : List Advertisement) (f : Int) : a0e l f < (l.length : Int) := by
 unfold a0e
 split
 ·rename_i r h; have := faSL f l 0 r h; omega
 ·omega
theorem faIL (fq : Advertisement → Bool) : ∀ (l : List Advertisement) (i : Nat) (r : Int), ad1 fq l i = some r → r < ((i + l.length : Nat) : Int)
 | [], i, r, h => by cases h
 | e :: l, i, r, h => by
  simp only [ad1] at h
  cases h0 : fq e
  ·rw [h0, cond_false] at h
   have := faIL fq l (i + 1) r h
   simp only [List.length_cons]; omega
  ·rw [h0, cond_true] at h; cases h
   simp only [List.length_cons]; omega
theorem arh (l : List Advertisement) (f : Int) : a0t l f < (l.length : Int) := by
 unfold a0t adk
 split
 ·rename_i r h; have := faIL _ l 0 r h; omega
 ·omega
def a21 (l : (List Advertisement)) (a : Int) (b : Int) : Bool := bif decide ((a0t l a) ≥ 0) then bif decide ((a0t l b) ≥ 0) then match (l)[((a0t l a)).toNat]? with | none => default | some e1 => bif (af0 e1.neighbors b) then match (l)[((a0t l b)).toNat]? with | none => default | some e2 => (af0 e2.neighbors a) else false else false else false
def a9p (l : (List Advertisement)) (a : Int) (b : Int) : Bool := bif decide ((a0e l a) ≥ 0) then match (l)[((a0e l a)).toNat]? with | none => default | some e1 => (a9n e1.neighbors b) else false
def a1m (l : (List Advertisement)) (a : Int) (b : Int) : Bool := bif (a9p l a b) then (a9p l b a) else false
def cneg (l : List Int) : Nat := l.countP (fun x => decide (x < 0))
theorem atf : ∀ {l : List Int} {b : Nat} {e v : Int}, l[b]? = some e → e < 0 → 0 ≤ v → cneg (l.set b v) + 1 = cneg l
 | [], b, e, v, h, _, _ => by simp at h
 | x :: l, 0, e, v, h, h1, h2 => by
  simp at h; subst h
  have h3 : ¬ v < 0 := by omega
  simp [cneg, List.countP_cons, h1, h3]
 | x :: l, b + 1, e, v, h, h1, h2 => by
  have ih := atf (l := l) (b := b) (by simpa using h) h1 h2
  simp only [cneg, List.set_cons_succ, List.countP_cons] at ih ⊢
  omega
def aez (o w : List Int) : Prop := o.length = 6 ∧ w.length + cneg o ≤ 6 ∧ (∀ z ∈ w, 0 ≤ z ∧ z < 6 ∧ ∀ e, o[z.toNat]? = some e → 0 ≤ e) ∧ ∀ z ∈ o, -1 ≤ z ∧ z < (w.length : Int)
theorem aez.w {o w : List Int} (h : aez o w) {z : Int} {i : Nat} (hz : w[i]? = some z) : 0 ≤ z ∧ z < 6 := by
 have := h.2.2.1 z (List.mem_of_getElem? hz); exact ⟨this.1, this.2.1⟩
theorem aez.o {o w : List Int} (h : aez o w) {z : Int} {i : Nat} (hz : o[i]? = some z) : -1 ≤ z ∧ z < (w.length : Int) := h.2.2.2 z (List.mem_of_getElem? hz)
theorem aez.init {a : Int} (h : 0 ≤ a ∧ a ≤ 5) : aez (([-1, -1, -1, -1, -1, -1] : List Int).set a.toNat 0) [a] := by
 have h1 : a = 0 ∨ a = 1 ∨ a = 2 ∨ a = 3 ∨ a = 4 ∨ a = 5 := by omega
 rcases h1 with rfl | rfl | rfl | rfl | rfl | rfl
 all_goals refine ⟨rfl, by decide, fun z hz => ?_, by decide⟩
 all_goals (obtain rfl := List.mem_singleton.1 hz; exact ⟨by decide, by decide, fun e he => by cases he; decide⟩)
theorem aez.len {o w : List Int} (h : aez o w) : o.length = 6 := h.1
theorem aez.wl {o w : List Int} (h : aez o w) : w.length ≤ 6 := by have := h.2.1; omega
theorem aez.step {o w : List Int} (h : aez o w) {b i : Nat} {e z v : Int} (hb : o[b]? = some e) (he : e < 0) (hz : w[i]? = some z) (hv : o[z.toNat]? = some v) : aez (o.set b (v + 1)) (w ++ [(b : Int)]) := by
 obtain ⟨h1, h2, h3, h4⟩ := h
 have hbl : b < o.length := (List.getElem?_eq_some_iff.1 hb).1
 have hv0 := (h3 z (List.mem_of_getElem? hz)).2.2 v hv
 have hv1 := h4 v (List.mem_of_getElem? hv)
 have hc := atf (v := v + 1) hb he (by omega)
 refine ⟨by simp [h1], by simp; omega, fun y hy => ?_, fun y hy => ?_⟩
 ·rcases List.mem_append.1 hy with hy | hy
  ·obtain ⟨a1, a2, a3⟩ := h3 y hy
   refine ⟨a1, a2, fun q hq => ?_⟩
   by_cases hyb : b = y.toNat
   ·subst hyb; rw [List.getElem?_set_self hbl] at hq; cases hq; omega
   ·rw [List.getElem?_set_ne hyb] at hq; exact a3 q hq
  ·simp at hy; subst hy
   refine ⟨by omega, by omega, fun q hq => ?_⟩
   rw [Int.toNat_natCast, List.getElem?_set_self hbl] at hq; cases hq; omega
 ·rw [List.length_append]
  simp only [List.length_cons, List.length_nil]
  rcases List.mem_or_eq_of_mem_set hy with hy | hy
  ·have := h4 y hy; omega
  ·omega
def a2x (l : (List Advertisement)) (i : Nat) : Nat → Nat → (List Int) → (List Int) → (List Int) × (List Int) | 0, i2, out2, work2 => (((out2) : List Int), ((work2) : List Int)) | m_ + 1, i2, out2, work2 => match (out2)[i2]? with | none => default | some e2 => bif decide (e2 < 0) then match (work2)[i]? with | none => default | some e3 => bif (a21 l e3 ((i2 : Nat) : Int)) then match (out2)[(e3).toNat]? with | none => default | some e4 => a2x l i m_ (i2 + 1) (((out2.set i2 (e4 + 1))) : List Int) (((work2 ++ [((i2 : Nat) : Int)])) : List Int) else a2x l i m_ (i2 + 1) ((out2) : List Int) ((work2) : List Int) else a2x l i m_ (i2 + 1) ((out2) : List Int) ((work2) : List Int)
def a6q (l : (List Advertisement)) (i : Nat) (out : List Int) (work : List Int) : Nat × (List Int) × (List Int) := if i ≤ 6 then if ((i : Nat) : Int) < (((work).length : Nat) : Int) then match a2x l i 6 0 (out : List Int) (work : List Int) with | (out2, work2) => a6q l (i + 1) ((out2) : List Int) ((work2) : List Int) else (i, ((out) : List Int), ((work) : List Int)) else default
termination_by 7 - i
decreasing_by all_goals (simp_wf; omega)
def a1g (l : (List Advertisement)) (a : Int) : (List Int) := bif (!(a0u a 0 5)) then ([-1, -1, -1, -1, -1, -1] : List Int) else bif decide ((a0t l a) < 0) then ([-1, -1, -1, -1, -1, -1] : List Int) else match (([-1, -1, -1, -1, -1, -1] : List Int))[(a).toNat]? with | none => default | some e1 => match a6q l 0 ((([-1, -1, -1, -1, -1, -1] : List Int).set ((a).toNat) 0) : List Int) ([a] : List Int) with | (i, out, work) => out
def a26 (l : (List Advertisement)) (step : Int) (i : Nat) : Nat → Nat → (List Int) → (List Int) | 0, i2, out4 => ((out4) : List Int) | m_ + 1, i2, out4 => match (out4)[i]? with | none => default | some e1 => bif (e1 == step - 1) then match (out4)[i2]? with | none => default | some e2 => bif decide (e2 < 0) then bif (a1m l ((i : Nat) : Int) ((i2 : Nat) : Int)) then a26 l step i m_ (i2 + 1) (((out4.set i2 step)) : List Int) else a26 l step i m_ (i2 + 1) ((out4) : List Int) else a26 l step i m_ (i2 + 1) ((out4) : List Int) else ((out4) : List Int)
def a3x (l : (List Advertisement)) (step : Int) : Nat → Nat → (List Int) → (List Int) | 0, i, out3 => ((out3) : List Int) | m_ + 1, i, out3 => match a26 l step i 6 0 (out3 : List Int) with | out4 => a3x l step m_ (i + 1) ((out4) : List Int)
def a4b (l : (List Advertisement)) (out2 : List Int) (step : Int) : (List Int) × Int := if step ≤ 6 then match a3x l step 6 0 (out2 : List Int) with | out3 => a4b l ((out3) : List Int) (step + 1) else (((out2) : List Int), step)
termination_by (7 - step).toNat
decreasing_by all_goals (simp_wf; omega)
def a1p (l : (List Advertisement)) (a : Int) : Nat → Nat → (List Int) → (List Int) | 0, i, out => ((out) : List Int) | m_ + 1, i, out => bif (((i : Nat) : Int) == a) then bif decide ((a0e l a) ≥ 0) then a1p l a m_ (i + 1) (((out ++ [0])) : List Int) else a1p l a m_ (i + 1) (((out ++ [(-1)])) : List Int) else a1p l a m_ (i + 1) (((out ++ [(-1)])) : List Int)
def a1n (l : (List Advertisement)) (a : Int) : (List Int) := match a1p l a 6 0 ([] : List Int) with | out => match a4b l (out : List Int) 1 with | (out2, step) => out2
structure GD (R : Int → Int → Bool) (a m : Int) (o : List Int) : Prop where
 len : o.length = 6
 az : 0 ≤ a ∧ a < 6 ∧ o[a.toNat]? = some 0
 low : ∀ z ∈ o, -1 ≤ z
 zero : ∀ b : Nat, o[b]? = some 0 → (b : Int) = a
 pred : ∀ (b : Nat) (e : Int), o[b]? = some e → 0 < e → ∃ u : Nat, o[u]? = some (e - 1) ∧ R u b = true
 cl : ∀ (u : Nat) (e : Int), o[u]? = some e → 0 ≤ e → e ≤ m → ∀ b : Nat, b < 6 → R u b = true → ∃ q, o[b]? = some q ∧ 0 ≤ q ∧ q ≤ e + 1
theorem GD.le {R : Int → Int → Bool} {a m m' : Int} {o o' : List Int} (h : GD R a m o) (h' : GD R a m' o') : ∀ (n : Nat) (b : Nat), (n : Int) ≤ m' + 1 → o[b]? = some (n : Int) → ∃ q, o'[b]? = some q ∧ 0 ≤ q ∧ q ≤ n
 | 0, b, _, hb => by
  have h1 := h.zero b (by simpa using hb)
  have h2 := h'.az.2.2
  rw [← h1] at h2
  exact ⟨0, by simpa using h2, by omega, by omega⟩
 | n + 1, b, hn, hb => by
  obtain ⟨u, hu, hr⟩ := h.pred b _ hb (by omega)
  obtain ⟨q, h1, h2, h3⟩ := GD.le h h' n u (by omega) (by rw [hu]; congr 1; omega)
  have hl : b < 6 := by have := (List.getElem?_eq_some_iff.1 hb).1; have := h.len; omega
  obtain ⟨r, h4, h5, h6⟩ := h'.cl u q h1 h2 (by omega) b hl hr
  exact ⟨r, h4, h5, by omega⟩
theorem GD.eq {R : Int → Int → Bool} {a m m' : Int} {o o' : List Int} (h : GD R a m o) (h' : GD R a m' o') (hm : 5 ≤ m) (hm' : 5 ≤ m') (ho : ∀ z ∈ o, z ≤ 5) (ho' : ∀ z ∈ o', z ≤ 6) : o = o' := by
 apply List.ext_getElem?
 intro b
 by_cases hb : b < 6
 ·obtain ⟨e, he⟩ : ∃ e, o[b]? = some e := ⟨_, List.getElem?_eq_getElem (by rw [h.len]; exact hb)⟩
  obtain ⟨f, hf⟩ : ∃ f, o'[b]? = some f := ⟨_, List.getElem?_eq_getElem (by rw [h'.len]; exact hb)⟩
  have e1 := h.low e (List.mem_of_getElem? he)
  have f1 := h'.low f (List.mem_of_getElem? hf)
  have e2 := ho e (List.mem_of_getElem? he)
  have f2 := ho' f (List.mem_of_getElem? hf)
  have k1 : 0 ≤ e → 0 ≤ f ∧ f ≤ e := fun h0 => by
   obtain ⟨q, h1, h2, h3⟩ := GD.le h h' e.toNat b (by omega) (by rw [he]; congr 1; omega)
   rw [hf] at h1; cases h1; omega
  have k2 : 0 ≤ f → 0 ≤ e ∧ e ≤ f := fun h0 => by
   obtain ⟨q, h1, h2, h3⟩ := GD.le h' h f.toNat b (by omega) (by rw [hf]; congr 1; omega)
   rw [he] at h1; cases h1; omega
  rw [he, hf]; congr 1; omega
 ·rw [List.getElem?_eq_none (by rw [h.len]; omega), List.getElem?_eq_none (by rw [h'.len]; omega)]
structure BI (R : Int → Int → Bool) (a : Int) (i : Nat) (o w : List Int) : Prop where
 dist : aez o w
 az : 0 ≤ a ∧ a < 6 ∧ o[a.toNat]? = some 0
 zero : ∀ b : Nat, o[b]? = some 0 → (b : Int) = a
 mem : ∀ (b : Nat) (e : Int), o[b]? = some e → 0 ≤ e → (b : Int) ∈ w
 pred : ∀ (b : Nat) (e : Int), o[b]? = some e → 0 < e → ∃ u : Nat, o[u]? = some (e - 1) ∧ R u b = true
 srt : ∀ (p q : Nat) (x y e f : Int), p ≤ q → w[p]? = some x → w[q]? = some y → o[x.toNat]? = some e → o[y.toNat]? = some f → e ≤ f
 top : ∀ z d, w[i]? = some z → o[z.toNat]? = some d → ∀ x ∈ w, ∀ e, o[x.toNat]? = some e → e ≤ d + 1
 cl : ∀ (p : Nat) (x : Int), p < i → w[p]? = some x → ∀ b : Nat, b < 6 → R x b = true → ∃ q e, o[b]? = some q ∧ o[x.toNat]? = some e ∧ 0 ≤ q ∧ q ≤ e + 1
theorem aez.get {o w : List Int} (h : aez o w) {z : Int} (hz : z ∈ w) : ∃ e, o[z.toNat]? = some e ∧ 0 ≤ e := by
 obtain ⟨h1, h2, h3⟩ := h.2.2.1 z hz
 exact ⟨_, List.getElem?_eq_getElem (by have := h.len; omega), h3 _ (List.getElem?_eq_getElem _)⟩
theorem BI.step {R : Int → Int → Bool} {a : Int} {i j : Nat} {o w : List Int} (h : BI R a i o w) {e z d : Int} (hj : o[j]? = some e) (he : e < 0) (hz : w[i]? = some z) (hd : o[z.toNat]? = some d) (hr : R z j = true) : BI R a i (o.set j (d + 1)) (w ++ [(j : Int)]) := by
 have hjl : j < o.length := (List.getElem?_eq_some_iff.1 hj).1
 have h0 := h.dist.len
 have hd0 : 0 ≤ d := by
  obtain ⟨q, h1, h2⟩ := h.dist.get (List.mem_of_getElem? hz)
  rw [hd] at h1; cases h1; exact h2
 have ne : ∀ x ∈ w, j ≠ x.toNat := fun x hx hne => by
  obtain ⟨q, h1, h2⟩ := h.dist.get hx
  rw [← hne, hj] at h1; cases h1; omega
 have old : ∀ x ∈ w, (o.set j (d + 1))[x.toNat]? = o[x.toNat]? := fun x hx => List.getElem?_set_ne (ne x hx)
 have new : (o.set j (d + 1))[j]? = some (d + 1) := List.getElem?_set_self hjl
 have hne : ∀ b : Nat, j ≠ b → (o.set j (d + 1))[b]? = o[b]? := fun b hb => List.getElem?_set_ne hb
 have keep : ∀ (b : Nat) (q : Int), o[b]? = some q → 0 ≤ q → (o.set j (d + 1))[b]? = some q := fun b q hb hq => by
  by_cases hjb : j = b
  ·subst hjb; rw [hj] at hb; cases hb; omega
  ·rw [hne b hjb]; exact hb
 have wm : ∀ {p : Nat} {x : Int}, (w ++ [(j : Int)])[p]? = some x → (p < w.length ∧ w[p]? = some x) ∨ (p = w.length ∧ x = (j : Int)) := fun {p x} hp => by
  by_cases hpl : p < w.length
  ·rw [List.getElem?_append_left hpl] at hp; exact .inl ⟨hpl, hp⟩
  ·rw [List.getElem?_append_right (by omega)] at hp
   have : p - w.length < 1 := by have := (List.getElem?_eq_some_iff.1 hp).1; simpa using this
   have hp0 : p = w.length := by omega
   subst hp0; simp at hp; exact .inr ⟨rfl, hp.symm⟩
 have iw : i < w.length := (List.getElem?_eq_some_iff.1 hz).1
 refine ⟨h.dist.step hj he hz hd, ⟨h.az.1, h.az.2.1, keep _ _ h.az.2.2 (by omega)⟩, fun b hb => ?_, fun b q hb hq => ?_, fun b q hb hq => ?_, fun p q x y e1 f1 hpq hp hq hx hy => ?_, fun z' d' hz' hd' x hx q hq => ?_, fun p x hp hx b hb hrb => ?_⟩
 ·by_cases hjb : j = b
  ·subst hjb; rw [new] at hb; have := Option.some.inj hb; omega
  ·rw [hne b hjb] at hb; exact h.zero b hb
 ·by_cases hjb : j = b
  ·subst hjb; simp
  ·rw [hne b hjb] at hb; exact List.mem_append.2 (.inl (h.mem b q hb hq))
 ·by_cases hjb : j = b
  ·subst hjb; rw [new] at hb; cases hb
   have hzr := h.dist.w hz
   refine ⟨z.toNat, ?_, by rw [Int.toNat_of_nonneg hzr.1]; exact hr⟩
   rw [old z (List.mem_of_getElem? hz), hd]; congr 1; omega
  ·rw [hne b hjb] at hb
   obtain ⟨u, h1, h2⟩ := h.pred b q hb hq
   exact ⟨u, keep u _ h1 (by omega), h2⟩
 ·rcases wm hp with ⟨p1, p2⟩ | ⟨p1, p2⟩ <;> rcases wm hq with ⟨q1, q2⟩ | ⟨q1, q2⟩
  ·rw [old x (List.mem_of_getElem? p2)] at hx; rw [old y (List.mem_of_getElem? q2)] at hy
   exact h.srt p q x y e1 f1 hpq p2 q2 hx hy
  ·subst q2; rw [old x (List.mem_of_getElem? p2)] at hx
   rw [Int.toNat_natCast, new] at hy; cases hy
   exact h.top z d hz hd x (List.mem_of_getElem? p2) e1 hx
  ·omega
  ·subst p2; subst q2; rw [hx] at hy; cases hy; omega
 ·rw [List.getElem?_append_left iw] at hz'
  rw [hz] at hz'; cases hz'
  rw [old z (List.mem_of_getElem? hz), hd] at hd'; cases hd'
  rcases List.mem_append.1 hx with hx | hx
  ·rw [old x hx] at hq; exact h.top z d hz hd x hx q hq
  ·simp at hx; subst hx; rw [Int.toNat_natCast, new] at hq; cases hq; omega
 ·rcases wm hx with ⟨p1, p2⟩ | ⟨p1, p2⟩
  ·obtain ⟨q, e1, h1, h2, h3, h4⟩ := h.cl p x hp p2 b hb hrb
   exact ⟨q, e1, keep b q h1 h3, by rw [old x (List.mem_of_getElem? p2)]; exact h2, h3, h4⟩
  ·omega
theorem BI.next {R : Int → Int → Bool} {a : Int} {i : Nat} {o w : List Int} (h : BI R a i o w) {z d : Int} (hz : w[i]? = some z) (hd : o[z.toNat]? = some d) (hj : ∀ b : Nat, b < 6 → R z b = true → ∃ q, o[b]? = some q ∧ 0 ≤ q ∧ q ≤ d + 1) : BI R a (i + 1) o w := by
 refine ⟨h.dist, h.az, h.zero, h.mem, h.pred, h.srt, fun z' d' hz' hd' x hx q hq => ?_, fun p x hp hx b hb hrb => ?_⟩
 ·have h1 := h.top z d hz hd x hx q hq
  have h2 := h.srt i (i + 1) z z' d d' (by omega) hz hz' hd hd'
  omega
 ·by_cases hpi : p = i
  ·subst hpi; rw [hz] at hx; cases hx
   obtain ⟨q, h1, h2, h3⟩ := hj b hb hrb
   exact ⟨q, d, h1, hd, h2, h3⟩
  ·exact h.cl p x (by omega) hx b hb hrb
theorem dL2 (l : List Advertisement) {a : Int} {i : Nat} {z d : Int} : ∀ (m j : Nat) (o w : List Int), m + j = 6 → BI (a21 l) a i o w → w[i]? = some z → o[z.toNat]? = some d → (∀ b : Nat, b < j → a21 l z b = true → ∃ q, o[b]? = some q ∧ 0 ≤ q ∧ q ≤ d + 1) →
  BI (a21 l) a (i + 1) (a2x l i m j o w).1 (a2x l i m j o w).2 ∧ i < (a2x l i m j o w).2.length
 | 0, j, o, w, hm, h, hz, hd, hj => by
  simp only [a2x]
  exact ⟨h.next hz hd (fun b hb => hj b (by omega)), (List.getElem?_eq_some_iff.1 hz).1⟩
 | m + 1, j, o, w, hm, h, hz, hd, hj => by
  have hl := h.dist.len
  obtain ⟨e, he⟩ : ∃ e, o[j]? = some e := ⟨_, List.getElem?_eq_getElem (by omega)⟩
  simp only [a2x, he, hz, hd]
  cases h1 : decide (e < 0)
  ·have h1' := of_decide_eq_false h1
   simp only [cond_false]
   refine dL2 l m (j + 1) o w (by omega) h hz hd (fun b hb hr => ?_)
   by_cases hbj : b = j
   ·subst hbj
    exact ⟨e, he, by omega, h.top z d hz hd b (h.mem b e he (by omega)) e (by rw [Int.toNat_natCast]; exact he)⟩
   ·exact hj b (by omega) hr
  ·have h1' := of_decide_eq_true h1
   simp only [cond_true]
   cases h2 : a21 l z (j : Int)
   ·simp only [cond_false]
    refine dL2 l m (j + 1) o w (by omega) h hz hd (fun b hb hr => ?_)
    by_cases hbj : b = j
    ·subst hbj; rw [h2] at hr; cases hr
    ·exact hj b (by omega) hr
   ·simp only [cond_true]
    have hs := h.step he h1' hz hd h2
    have hjl : j < o.length := by omega
    have hzj : j ≠ z.toNat := fun hne => by
     obtain ⟨q, a1, a2⟩ := h.dist.get (List.mem_of_getElem? hz)
     rw [← hne, he] at a1; cases a1; omega
    refine dL2 l m (j + 1) _ _ (by omega) hs (by rw [List.getElem?_append_left (List.getElem?_eq_some_iff.1 hz).1]; exact hz) (by rw [List.getElem?_set_ne hzj]; exact hd) (fun b hb hr => ?_)
    by_cases hbj : b = j
    ·subst hbj; exact ⟨d + 1, List.getElem?_set_self hjl, by obtain ⟨q, a1, a2⟩ := h.dist.get (List.mem_of_getElem? hz); rw [hd] at a1; cases a1; omega, by omega⟩
    ·obtain ⟨q, a1, a2, a3⟩ := hj b (by omega) hr
     exact ⟨q, by rw [List.getElem?_set_ne (Ne.symm hbj)]; exact a1, a2, a3⟩
theorem dL1 (l : List Advertisement) {a : Int} : ∀ (k i : Nat) (o w : List Int), k = 7 - i → BI (a21 l) a i o w → i ≤ w.length → GD (a21 l) a 5 (a6q l i o w).2.1 ∧ ∀ z ∈ (a6q l i o w).2.1, z ≤ 5
 | k, i, o, w, hk, h, hi => by
  have hw := h.dist.wl
  rw [a6q, if_pos (show i ≤ 6 by omega)]
  split
  ·rename_i hlt
   have hlt' : i < w.length := by omega
   obtain ⟨z, hz⟩ : ∃ z, w[i]? = some z := ⟨_, List.getElem?_eq_getElem hlt'⟩
   obtain ⟨d, hd, _⟩ := h.dist.get (List.mem_of_getElem? hz)
   have := dL2 l 6 0 o w rfl h hz hd (fun b hb => by omega)
   rcases hE : a2x l i 6 0 o w with ⟨o2, w2⟩
   rw [hE] at this
   exact dL1 l (7 - (i + 1)) (i + 1) o2 w2 rfl this.1 (by have h9 : i < w2.length := this.2; omega)
  ·rename_i hlt
   have hlt' : w.length ≤ i := by omega
   refine ⟨⟨h.dist.len, h.az, fun z hz => (h.dist.2.2.2 z hz).1, h.zero, h.pred, fun u e hu he _ b hb hr => ?_⟩, fun z hz => by have := (h.dist.2.2.2 z hz).2; omega⟩
   obtain ⟨p, hp⟩ := List.getElem?_of_mem (h.mem u e hu he)
   have hpl := (List.getElem?_eq_some_iff.1 hp).1
   obtain ⟨q, f, h1, h2, h3, h4⟩ := h.cl p u (by omega) hp b hb hr
   rw [Int.toNat_natCast, hu] at h2; cases h2
   exact ⟨q, h1, h3, h4⟩
 termination_by k => k
 decreasing_by omega
theorem anz (l : List Advertisement) {a : Int} (ha : 0 ≤ a ∧ a ≤ 5) (hf : 0 ≤ a0t l a) : GD (a21 l) a 5 (a1g l a) ∧ ∀ z ∈ a1g l a, z ≤ 5 := by
 have h1 : a0u a 0 5 = true := by
  unfold a0u
  rw [show decide (0 ≤ a) = true from decide_eq_true ha.1, show decide (a ≤ 5) = true from decide_eq_true ha.2]; rfl
 have h2 : decide (a0t l a < 0) = false := decide_eq_false (by omega)
 obtain ⟨e, he⟩ : ∃ e, ([-1, -1, -1, -1, -1, -1] : List Int)[a.toNat]? = some e := ⟨_, List.getElem?_eq_getElem (by simp; omega)⟩
 have hb : BI (a21 l) a 0 (([-1, -1, -1, -1, -1, -1] : List Int).set a.toNat 0) [a] := by
  have hn : a.toNat < 6 := by omega
  have hs : (([-1, -1, -1, -1, -1, -1] : List Int).set a.toNat 0)[a.toNat]? = some 0 := List.getElem?_set_self (by simpa using hn)
  have hm : ∀ (b : Nat) (q : Int), (([-1, -1, -1, -1, -1, -1] : List Int).set a.toNat 0)[b]? = some q → 0 ≤ q → b = a.toNat ∧ q = 0 := fun b q hb hq => by
   by_cases hab : a.toNat = b
   ·subst hab; rw [hs] at hb; cases hb; exact ⟨rfl, rfl⟩
   ·rw [List.getElem?_set_ne hab] at hb
    have := List.mem_of_getElem? hb
    simp at this; omega
  refine ⟨aez.init ha, ⟨ha.1, by omega, hs⟩, fun b hb => ?_, fun b q hb hq => ?_, fun b q hb hq => ?_, fun p q x y e f hpq hp hq hx hy => ?_, fun z d hz hd x hx q hq => ?_, fun p x hp => by omega⟩
  ·have := hm b 0 hb (by omega); omega
  ·have := hm b q hb hq; simp; omega
  ·have := hm b q hb (by omega); omega
  ·have h1 := List.mem_of_getElem? hp; have h2 := List.mem_of_getElem? hq
   simp at h1 h2; subst h1; subst h2; rw [hx] at hy; cases hy; omega
  ·have h1 := List.mem_of_getElem? hz
   simp at h1 hx; subst h1; subst hx; rw [hd] at hq; cases hq; omega
 have := dL1 l 7 0 _ _ rfl hb (by simp)
 have hE : a1g l a = (a6q l 0 (([-1, -1, -1, -1, -1, -1] : List Int).set a.toNat 0) [a]).2.1 := by
  simp only [a1g, h1, h2, he, Bool.not_true, cond_false]
 rw [hE]; exact this
theorem ash (l : List Advertisement) {a : Int} (h : ¬ ((0 ≤ a ∧ a ≤ 5) ∧ 0 ≤ a0t l a)) : a1g l a = [-1, -1, -1, -1, -1, -1] := by
 unfold a1g
 cases h1 : a0u a 0 5
 ·rfl
 ·have h2 : 0 ≤ a ∧ a ≤ 5 := by
   unfold a0u at h1
   cases hd : decide (0 ≤ a)
   ·rw [hd] at h1; cases h1
   ·rw [hd] at h1; exact ⟨of_decide_eq_true hd, of_decide_eq_true h1⟩
  rw [show decide (a0t l a < 0) = true from decide_eq_true (by omega)]
  rfl
structure LI (R : Int → Int → Bool) (a s : Int) (o : List Int) : Prop where
 len : o.length = 6
 az : 0 ≤ a ∧ a < 6 ∧ o[a.toNat]? = some 0
 low : ∀ z ∈ o, -1 ≤ z ∧ z ≤ s
 zero : ∀ b : Nat, o[b]? = some 0 → (b : Int) = a
 pred : ∀ (b : Nat) (e : Int), o[b]? = some e → 0 < e → ∃ u : Nat, o[u]? = some (e - 1) ∧ R u b = true
 cl : ∀ (u : Nat) (e : Int), o[u]? = some e → 0 ≤ e → e ≤ s - 2 → ∀ b : Nat, b < 6 → R u b = true → ∃ q, o[b]? = some q ∧ 0 ≤ q ∧ q ≤ e + 1
theorem LI.step {R : Int → Int → Bool} {a s : Int} {i j : Nat} {o : List Int} (h : LI R a s o) (hs : 1 ≤ s) (hi : o[i]? = some (s - 1)) {e : Int} (hj : o[j]? = some e) (he : e < 0) (hr : R i j = true) : LI R a s (o.set j s) := by
 have hjl : j < o.length := (List.getElem?_eq_some_iff.1 hj).1
 have new : (o.set j s)[j]? = some s := List.getElem?_set_self hjl
 have hne : ∀ b : Nat, j ≠ b → (o.set j s)[b]? = o[b]? := fun b hb => List.getElem?_set_ne hb
 have keep : ∀ (b : Nat) (q : Int), o[b]? = some q → 0 ≤ q → (o.set j s)[b]? = some q := fun b q hb hq => by
  by_cases hjb : j = b
  ·subst hjb; rw [hj] at hb; cases hb; omega
  ·rw [hne b hjb]; exact hb
 refine ⟨by rw [List.length_set]; exact h.len, ⟨h.az.1, h.az.2.1, keep _ _ h.az.2.2 (by omega)⟩, fun z hz => ?_, fun b hb => ?_, fun b q hb hq => ?_, fun u q hu hq hqs b hb hrb => ?_⟩
 ·rcases List.mem_or_eq_of_mem_set hz with hz | hz
  ·exact h.low z hz
  ·omega
 ·by_cases hjb : j = b
  ·subst hjb; rw [new] at hb; have := Option.some.inj hb; omega
  ·rw [hne b hjb] at hb; exact h.zero b hb
 ·by_cases hjb : j = b
  ·subst hjb; rw [new] at hb; cases hb
   exact ⟨i, keep i _ hi (by omega), hr⟩
  ·rw [hne b hjb] at hb
   obtain ⟨u, h1, h2⟩ := h.pred b q hb hq
   exact ⟨u, keep u _ h1 (by omega), h2⟩
 ·by_cases hju : j = u
  ·subst hju; rw [new] at hu; cases hu; omega
  ·rw [hne u hju] at hu
   obtain ⟨r, h1, h2, h3⟩ := h.cl u q hu hq hqs b hb hrb
   exact ⟨r, keep b r h1 h2, h2, h3⟩
theorem dS4 (l : List Advertisement) {a s : Int} {i : Nat} (hs : 1 ≤ s) : ∀ (m j : Nat) (o : List Int), m + j = 6 → i < 6 → LI (a1m l) a s o → (o[i]? = some (s - 1) → ∀ b : Nat, b < j → a1m l i b = true → ∃ q, o[b]? = some q ∧ 0 ≤ q) →
  LI (a1m l) a s (a26 l s i m j o) ∧ (∀ (b : Nat) (q : Int), o[b]? = some q → 0 ≤ q → (a26 l s i m j o)[b]? = some q) ∧ (∀ b : Nat, (a26 l s i m j o)[b]? = some (s - 1) → o[b]? = some (s - 1)) ∧
  (o[i]? = some (s - 1) → ∀ b : Nat, b < 6 → a1m l i b = true → ∃ q, (a26 l s i m j o)[b]? = some q ∧ 0 ≤ q)
 | 0, j, o, hm, hi, h, hj => by
  simp only [a26]
  exact ⟨h, fun _ _ h _ => h, fun _ h => h, fun h1 b hb => hj h1 b (by omega)⟩
 | m + 1, j, o, hm, hi, h, hj => by
  have hl := h.len
  obtain ⟨c, hc⟩ : ∃ c, o[i]? = some c := ⟨_, List.getElem?_eq_getElem (by omega)⟩
  obtain ⟨e, he⟩ : ∃ e, o[j]? = some e := ⟨_, List.getElem?_eq_getElem (by omega)⟩
  simp only [a26, hc, he]
  cases h0 : (c == s - 1)
  ·simp only [cond_false]
   have h0' : c ≠ s - 1 := by simpa using h0
   exact ⟨h, fun _ _ h _ => h, fun _ h => h, fun h1 => absurd (Option.some.inj h1) h0'⟩
  ·simp only [cond_true]
   have h0' : c = s - 1 := by simpa using h0
   subst h0'
   have go : (∃ q, 0 ≤ q ∧ o[j]? = some q) ∨ a1m l i j = false → _ := fun hx => dS4 l hs (i := i) (a := a) m (j + 1) o (by omega) hi h (fun h1 b hb hr => by
    by_cases hbj : b = j
    ·subst hbj
     rcases hx with ⟨q, h2, h3⟩ | hx
     ·exact ⟨q, h3, h2⟩
     ·rw [hx] at hr; cases hr
    ·exact hj h1 b (by omega) hr)
   cases h1 : decide (e < 0)
   ·have h1' := of_decide_eq_false h1
    simp only [cond_false]
    have := go (.inl ⟨e, by omega, he⟩)
    rw [hc] at this
    exact ⟨this.1, this.2.1, this.2.2.1, fun _ => this.2.2.2 rfl⟩
   ·have h1' := of_decide_eq_true h1
    simp only [cond_true]
    cases h2 : a1m l (i : Int) (j : Int)
    ·simp only [cond_false]
     have := go (.inr h2)
     rw [hc] at this
     exact ⟨this.1, this.2.1, this.2.2.1, fun _ => this.2.2.2 rfl⟩
    ·simp only [cond_true]
     have hjl : j < o.length := by omega
     have hji : j ≠ i := fun hne => by subst hne; rw [hc] at he; cases he; omega
     have hk : ∀ (b : Nat) (q : Int), o[b]? = some q → 0 ≤ q → (o.set j s)[b]? = some q := fun b q hb hq => by
      by_cases hjb : j = b
      ·subst hjb; rw [he] at hb; cases hb; omega
      ·rw [List.getElem?_set_ne hjb]; exact hb
     obtain ⟨k1, k2, k3, k4⟩ := dS4 l hs (i := i) (a := a) m (j + 1) (o.set j s) (by omega) hi (h.step hs hc he h1' h2) (fun h3 b hb hr => by
      by_cases hbj : b = j
      ·subst hbj; exact ⟨s, List.getElem?_set_self hjl, by omega⟩
      ·obtain ⟨q, a1, a2⟩ := hj hc b (by omega) hr
       exact ⟨q, hk b q a1 a2, a2⟩)
     refine ⟨k1, fun b q hb hq => k2 b q (hk b q hb hq) hq, fun b hb => ?_, fun _ => k4 (by rw [List.getElem?_set_ne hji]; exact hc)⟩
     have := k3 b hb
     by_cases hjb : j = b
     ·subst hjb; rw [List.getElem?_set_self hjl] at this; have := Option.some.inj this; omega
     ·rw [List.getElem?_set_ne hjb] at this; exact this
theorem dS3 (l : List Advertisement) {a s : Int} (hs : 1 ≤ s) : ∀ (m i : Nat) (o : List Int), m + i = 6 → LI (a1m l) a s o → (∀ u : Nat, u < i → o[u]? = some (s - 1) → ∀ b : Nat, b < 6 → a1m l u b = true → ∃ q, o[b]? = some q ∧ 0 ≤ q) →
  LI (a1m l) a (s + 1) (a3x l s m i o) ∧ ∀ z ∈ a3x l s m i o, z ≤ s
 | 0, i, o, hm, h, hi => by
  simp only [a3x]
  refine ⟨?_, fun z hz => (h.low z hz).2⟩
  refine ⟨h.len, h.az, fun z hz => by have := h.low z hz; omega, h.zero, h.pred, fun u e hu he hes b hb hr => ?_⟩
  by_cases h1 : e = s - 1
  ·subst h1
   obtain ⟨q, h2, h3⟩ := hi u (by have := (List.getElem?_eq_some_iff.1 hu).1; have := h.len; omega) hu b hb hr
   have := h.low q (List.mem_of_getElem? h2)
   exact ⟨q, h2, h3, by omega⟩
  ·exact h.cl u e hu he (by omega) b hb hr
 | m + 1, i, o, hm, h, hi => by
  simp only [a3x]
  obtain ⟨k1, k2, k3, k4⟩ := dS4 l hs (i := i) 6 0 o rfl (by omega) h (fun _ b hb => by omega)
  refine dS3 l hs m (i + 1) _ (by omega) k1 (fun u hu h1 b hb hr => ?_)
  have h2 := k3 u h1
  by_cases hui : u = i
  ·subst hui; exact k4 h2 b hb hr
  ·obtain ⟨q, a1, a2⟩ := hi u (by omega) h2 b hb hr
   exact ⟨q, k2 b q a1 a2, a2⟩
theorem dS2 (l : List Advertisement) {a : Int} : ∀ (k : Nat) (s : Int) (o : List Int), k = (7 - s).toNat → 1 ≤ s → s ≤ 7 → LI (a1m l) a s o → (∀ z ∈ o, z ≤ s - 1) → LI (a1m l) a 7 (a4b l o s).1 ∧ ∀ z ∈ (a4b l o s).1, z ≤ 6
 | k, s, o, hk, hs, h7, h, hz => by
  rw [a4b]
  split
  ·rename_i hle
   have h3 := dS3 l hs 6 0 o rfl h (fun u hu => by omega)
   exact dS2 l (7 - (s + 1)).toNat (s + 1) _ rfl (by omega) (by omega) h3.1 (fun z hz => by have := h3.2 z hz; omega)
  ·rename_i hgt
   have : s = 7 := by omega
   subst this; exact ⟨h, fun z h9 => by have := hz z h9; omega⟩
 termination_by k => k
 decreasing_by omega
theorem dS1 (l : List Advertisement) (a : Int) : ∀ (m i : Nat) (o : List Int), a1p l a m i o = o ++ (List.range' i m).map (fun (b : Nat) => if (b : Int) = a ∧ 0 ≤ a0e l a then (0 : Int) else -1)
 | 0, i, o => by simp [a1p]
 | m + 1, i, o => by
  simp only [a1p, dS1 l a m, List.range'_succ, List.map_cons]
  cases h0 : ((i : Int) == a)
  ·have h1 : ¬ (i : Int) = a := by simpa using h0
   simp [h1]
  ·have h1 : (i : Int) = a := by simpa using h0
   by_cases h2 : a0e l a ≥ 0 <;> simp [h1, h2]
theorem dS1a (l : List Advertisement) (a : Int) (h : ¬ ((0 ≤ a ∧ a ≤ 5) ∧ 0 ≤ a0e l a)) : a1p l a 6 0 [] = [-1, -1, -1, -1, -1, -1] := by
 rw [dS1]
 simp only [List.range', List.map_cons, List.map_nil, List.nil_append]
 rw [if_neg (by omega), if_neg (by omega), if_neg (by omega), if_neg (by omega), if_neg (by omega), if_neg (by omega)]
theorem dS1b (l : List Advertisement) {a : Int} (ha : 0 ≤ a ∧ a ≤ 5) (hf : 0 ≤ a0e l a) : LI (a1m l) a 1 (a1p l a 6 0 []) ∧ ∀ z ∈ a1p l a 6 0 [], z ≤ 0 := by
 have hE : a1p l a 6 0 [] = (List.range' 0 6).map (fun (b : Nat) => if (b : Int) = a ∧ 0 ≤ a0e l a then (0 : Int) else -1) := by rw [dS1]; rfl
 have hg : ∀ (b : Nat) (e : Int), (a1p l a 6 0 [])[b]? = some e → b < 6 ∧ ((b : Int) = a ∧ e = 0 ∨ (b : Int) ≠ a ∧ e = -1) := fun b e hb => by
  rw [hE, List.getElem?_map] at hb
  have hb6 : b < 6 := by
   by_cases h6 : b < 6
   ·exact h6
   ·rw [List.getElem?_eq_none (by simp; omega)] at hb; cases hb
  rw [List.getElem?_range' hb6] at hb
  have hb' := Option.some.inj hb
  simp only [Nat.zero_add, Nat.one_mul] at hb'
  refine ⟨hb6, ?_⟩
  split at hb' <;> omega
 have hl : (a1p l a 6 0 []).length = 6 := by rw [hE]; simp
 refine ⟨⟨hl, ⟨ha.1, by omega, ?_⟩, fun z hz => ?_, fun b hb => ?_, fun b e hb he => ?_, fun u e hu he h1 => by omega⟩, fun z hz => ?_⟩
 ·obtain ⟨e, he⟩ : ∃ e, (a1p l a 6 0 [])[a.toNat]? = some e := ⟨_, List.getElem?_eq_getElem (by omega)⟩
  have := hg _ _ he
  rw [he]; congr 1; omega
 ·obtain ⟨b, hb⟩ := List.getElem?_of_mem hz
  have := hg b z hb; omega
 ·have := hg b 0 hb; omega
 ·have := hg b e hb; omega
 ·obtain ⟨b, hb⟩ := List.getElem?_of_mem hz
  have := hg b z hb; omega
theorem akv (l : List Advertisement) {a : Int} (ha : 0 ≤ a ∧ a ≤ 5) (hf : 0 ≤ a0e l a) : GD (a1m l) a 5 (a1n l a) ∧ ∀ z ∈ a1n l a, z ≤ 6 := by
 obtain ⟨h1, h2⟩ := dS1b l ha hf
 obtain ⟨h3, h4⟩ := dS2 l 6 1 _ (by decide) (by omega) (by omega) h1 (fun z hz => by have := h2 z hz; omega)
 have hE : a1n l a = (a4b l (a1p l a 6 0 []) 1).1 := by simp only [a1n]
 rw [hE]
 exact ⟨⟨h3.len, h3.az, fun z hz => (h3.low z hz).1, h3.zero, h3.pred, fun u e hu he h5 b hb hr => h3.cl u e hu he (by omega) b hb hr⟩, h4⟩
theorem dN4 (l : List Advertisement) {s : Int} (hs : 1 ≤ s) {i : Nat} (hi : i < 6) : a26 l s i 6 0 [-1, -1, -1, -1, -1, -1] = [-1, -1, -1, -1, -1, -1] := by
 have hb : ((-1 : Int) == s - 1) = false := beq_eq_false_iff_ne.2 (by omega)
 have h6 : i = 0 ∨ i = 1 ∨ i = 2 ∨ i = 3 ∨ i = 4 ∨ i = 5 := by omega
 rcases h6 with rfl | rfl | rfl | rfl | rfl | rfl <;> simp [a26, hb]
theorem dN3 (l : List Advertisement) {s : Int} (hs : 1 ≤ s) : ∀ (m i : Nat), m + i = 6 → a3x l s m i [-1, -1, -1, -1, -1, -1] = [-1, -1, -1, -1, -1, -1]
 | 0, i, _ => by simp only [a3x]
 | m + 1, i, h => by
  simp only [a3x, dN4 l hs (i := i) (by omega)]
  exact dN3 l hs m (i + 1) (by omega)
theorem dN2 (l : List Advertisement) : ∀ (k : Nat) (s : Int), k = (7 - s).toNat → 1 ≤ s → (a4b l [-1, -1, -1, -1, -1, -1] s).1 = [-1, -1, -1, -1, -1, -1]
 | k, s, hk, hs => by
  rw [a4b]
  split
  ·rw [dN3 l hs 6 0 rfl]
   exact dN2 l (7 - (s + 1)).toNat (s + 1) rfl (by omega)
  ·rfl
 termination_by k => k
 decreasing_by omega
theorem ams (l : List Advertisement) {a : Int} (h : ¬ ((0 ≤ a ∧ a ≤ 5) ∧ 0 ≤ a0e l a)) : a1n l a = [-1, -1, -1, -1, -1, -1] := by
 have hE : a1n l a = (a4b l (a1p l a 6 0 []) 1).1 := by simp only [a1n]
 rw [hE, dS1a l a h]
 exact dN2 l 6 1 (by decide) (by omega)
theorem app (l : List Advertisement) (a : Int) : (a1g l a).length = 6 := by
 by_cases h : (0 ≤ a ∧ a ≤ 5) ∧ 0 ≤ a0t l a
 ·exact (anz l h.1 h.2).1.len
 ·rw [ash l h]; rfl
theorem akk (l : List Advertisement) (a : Int) : (a1n l a).length = 6 := by
 by_cases h : (0 ≤ a ∧ a ≤ 5) ∧ 0 ≤ a0e l a
 ·exact (akv l h.1 h.2).1.len
 ·rw [ams l h]; rfl
def a1s (l : (List Advertisement)) (a : Int) (b : Int) : Int := bif (!(a0u b 0 5)) then (-1) else match ((a1g l a))[(b).toNat]? with | none => default | some e1 => e1
def a1c (l : (List Advertisement)) (a : Int) (b : Int) : Int := bif (!(a0j b 0 5)) then (-1) else match ((a1n l a))[(b).toNat]? with | none => default | some e1 => e1
def a3h (l : (List Advertisement)) (a : Int) (b : Int) : Nat → Nat → (List Int) → (List Int) | 0, i, out => ((out) : List Int) | m_ + 1, i, out => bif decide ((a1s l a b) ≥ 0) then bif (a21 l a ((i : Nat) : Int)) then bif ((a1s l ((i : Nat) : Int) b) == (a1s l a b) - 1) then a3h l a b m_ (i + 1) (((out ++ [((i : Nat) : Int)])) : List Int) else a3h l a b m_ (i + 1) ((out) : List Int) else a3h l a b m_ (i + 1) ((out) : List Int) else a3h l a b m_ (i + 1) ((out) : List Int)
def a3i (l : (List Advertisement)) (a : Int) (b : Int) : (List Int) := match a3h l a b 6 0 ([] : List Int) with | out => out
def a3y (l : (List Advertisement)) (a : Int) (b : Int) : Nat → Nat → (List Int) → (List Int) | 0, i, out => ((out) : List Int) | m_ + 1, i, out => bif decide ((a1c l a b) > 0) then bif (a1m l a ((i : Nat) : Int)) then bif ((a1c l ((i : Nat) : Int) b) == (a1c l a b) - 1) then a3y l a b m_ (i + 1) (((out ++ [((i : Nat) : Int)])) : List Int) else a3y l a b m_ (i + 1) ((out) : List Int) else a3y l a b m_ (i + 1) ((out) : List Int) else ((out) : List Int)
def a2d (l : (List Advertisement)) (a : Int) (b : Int) : (List Int) := match a3y l a b 6 0 ([] : List Int) with | out => out
def a2j : List Int → Nat → (List Int) → (List Int) | [], i, out => ((out) : List Int) | e1 :: rest_, i, out => bif decide (e1 ≥ 0) then a2j rest_ (i + 1) (((out ++ [((i : Nat) : Int)])) : List Int) else a2j rest_ (i + 1) ((out) : List Int)
def a17 (l : (List Advertisement)) (a : Int) : (List Int) := match a2j (a1g l a) 0 ([] : List Int) with | out => out
def a5j : List Int → Nat → (List Int) → (List Int) | [], i, out => ((out) : List Int) | e1 :: rest_, i, out => bif decide (e1 ≥ 0) then a5j rest_ (i + 1) (((out ++ [((i : Nat) : Int)])) : List Int) else a5j rest_ (i + 1) ((out) : List Int)
def a2e (l : (List Advertisement)) (a : Int) : (List Int) := match a5j (a1n l a) 0 ([] : List Int) with | out => out
theorem rchL : ∀ (d : List Int) (i : Nat) (out : List Int), a2j d i out = a5j d i out
 | [], i, out => by simp only [a2j, a5j]
 | e :: d, i, out => by simp only [a2j, a5j, rchL d]
theorem rchM : ∀ (d : List Int) (i : Nat) (out : List Int) (x : Int), x ∈ a2j d i out → x ∈ out ∨ ∃ (j : Nat) (e : Int), x = ((i + j : Nat) : Int) ∧ d[j]? = some e ∧ 0 ≤ e
 | [], i, out, x, h => .inl (by simpa [a2j] using h)
 | e :: d, i, out, x, h => by
  simp only [a2j] at h
  have go : ∀ out', x ∈ a2j d (i + 1) out' → x ∈ out' ∨ ∃ (j : Nat) (f : Int), x = ((i + j : Nat) : Int) ∧ (e :: d)[j]? = some f ∧ 0 ≤ f := fun out' h' => by
   rcases rchM d (i + 1) out' x h' with h1 | ⟨j, f, h1, h2, h3⟩
   ·exact .inl h1
   ·exact .inr ⟨j + 1, f, by rw [h1]; congr 1; omega, by simpa using h2, h3⟩
  cases h0 : decide (e ≥ 0)
  ·rw [h0, cond_false] at h
   exact go out h
  ·rw [h0, cond_true] at h
   rcases go _ h with h1 | h1
   ·rcases List.mem_append.1 h1 with h1 | h1
    ·exact .inl h1
    ·exact .inr ⟨0, e, by simpa using h1, rfl, of_decide_eq_true h0⟩
   ·exact .inr h1
theorem atj {l : List Advertisement} {u b : Int} (h : a21 l u b = true) : 0 ≤ a0t l b := by
 unfold a21 at h
 cases h1 : decide (a0t l u ≥ 0)
 ·rw [h1] at h; cases h
 ·rw [h1, cond_true] at h
  cases h2 : decide (a0t l b ≥ 0)
  ·rw [h2] at h; cases h
  ·exact of_decide_eq_true h2
theorem asa {l : List Advertisement} {u b : Int} (h : a1m l u b = true) : 0 ≤ a0e l b := by
 unfold a1m at h
 cases h1 : a9p l u b
 ·rw [h1] at h; cases h
 ·rw [h1, cond_true] at h
  unfold a9p at h
  cases h2 : decide (a0e l b ≥ 0)
  ·rw [h2] at h; cases h
  ·exact of_decide_eq_true h2
theorem asb {l : List Advertisement} {a x : Int} (h : x ∈ a17 l a) : (0 ≤ x ∧ x ≤ 5) ∧ 0 ≤ a0t l x := by
 rcases rchM _ 0 [] x h with h | ⟨j, e, rfl, h2, h3⟩
 ·cases h
 ·have hj := (List.getElem?_eq_some_iff.1 h2).1
  rw [app] at hj
  refine ⟨by omega, ?_⟩
  by_cases hf : (0 ≤ a ∧ a ≤ 5) ∧ 0 ≤ a0t l a
  ·have hg := (anz l hf.1 hf.2).1
   rw [Nat.zero_add]
   by_cases he : e = 0
   ·subst he; rw [hg.zero j h2]; exact hf.2
   ·obtain ⟨u, _, hr⟩ := hg.pred j e h2 (by omega)
    exact atj hr
  ·rw [ash l hf] at h2
   have := List.mem_of_getElem? h2
   simp at this; omega
theorem am8 {l : List Advertisement} {a x : Int} (h : x ∈ a2e l a) : (0 ≤ x ∧ x ≤ 5) ∧ 0 ≤ a0e l x := by
 have h' : x ∈ a2j (a1n l a) 0 [] := by rw [rchL]; exact h
 rcases rchM _ 0 [] x h' with h | ⟨j, e, rfl, h2, h3⟩
 ·cases h
 ·have hj := (List.getElem?_eq_some_iff.1 h2).1
  rw [akk] at hj
  refine ⟨by omega, ?_⟩
  by_cases hf : (0 ≤ a ∧ a ≤ 5) ∧ 0 ≤ a0e l a
  ·have hg := (akv l hf.1 hf.2).1
   rw [Nat.zero_add]
   by_cases he : e = 0
   ·subst he; rw [hg.zero j h2]; exact hf.2
   ·obtain ⟨u, _, hr⟩ := hg.pred j e h2 (by omega)
    exact asa hr
  ·rw [ams l hf] at h2
   have := List.mem_of_getElem? h2
   simp at this; omega
theorem au1 {l : List Advertisement} {a x : Int} {i : Nat} (h : (a2e l a)[i]? = some x) : 0 ≤ a0e l x ∧ a0e l x < (l.length : Int) := ⟨(am8 (List.mem_of_getElem? h)).2, aqo l x⟩
theorem avc {l : List Advertisement} {a x : Int} {i : Nat} (h : (a17 l a)[i]? = some x) : 0 ≤ a0t l x ∧ a0t l x < (l.length : Int) := ⟨(asb (List.mem_of_getElem? h)).2, arh l x⟩
end Go.Stp
namespace Go.Proofs.YtpmejlbgjkiobaaGreat
open Go.Stp
open Go.Stp.GoT (ok)
variable {w : World} (n : Nat) {K0 K1 : Option Addr} {M0 M1 : Nat}
theorem f270 (hn : n + 0 ≤ 9) {s : List Advertisement} (N0 : Rd w K0 M0 s) (fg : FuncId) (fc : List Value) (fq : Advertisement → Bool) (ff : ∀ w1, Kp emp w w1 → ∀ (e0 : Advertisement) (x0 : GoT.X Advertisement), ok n e0 → All (hp w1) (GoT.fa .der e0 x0) → Does Tryz.prog fg ([Value.agg ⟨GoT.sh e0 x0⟩] ++ fc).toArray w1 emp (fun rv _ => rv = .bool (fq e0) ∧ True)) (a0 : ok n s) :
 DP 270 #[vS K0 s M0, .func (.func fg) #[] fc.toArray] w (pI n (adk s fq)) := by
 have hb := bS0 hn
 refine EN Tryz.func270 Z (aS1 N0) ?_
 have r1 := (okl a0).1
 refine LM Z 0 (fun i => ((i ≤ s.length) ∧ (ad1 fq s 0 = ad1 fq (s.drop i) i), s.length - i, [(8, .v (vI i))], [], [], [])) ⟨zl, Z⟩ [7, 0, 1] [] [0] [0] ?_
 rintro i ⟨v1, v2⟩
 refine yKD 9 ?_ ?_ <;> intro h1 a8
 have a2 : i < s.length := τ0
 obtain ⟨e1, a1⟩ := gE a2
 have a5 := okE a0 a1
 refine yI 0 i a2 ?_
 rintro a7 rfl
 refine zL 0 1 e1 a1 ?_
 rintro ⟨⟨⟩, ⟨⟩, ⟨p1, c1⟩, ⟨p2, c2⟩⟩
 refine WX.callV Z Z Z Z Z O Z (fun w G bs hI hΓ => ff w hI.keep e1 ((), (), (p1, c1), (p2, c2)) a5 (All.cons (hΓ.get 1 Z : RdSl _ _ _ _) (All.cons (hΓ.get 2 Z : RdSl _ _ _ _) All.nil))) fun a6 => ?_
 refine yKA 16 ?_ ?_ <;> intro h2
 have a4 := v2.trans (show _ = (some ((i : Nat) : Int)) by rw [acx a1]; simp only [ad1, h2, cT, cF])
 rw [show adk s fq = ((i : Nat) : Int) by simp only [adk, a4, cT, cF]]
 exact R6r Z Z (i6 ((i : Nat) : Int))
 refine SA ?_
 exact ITr Z (i + 1) ⟨τ0, (by rw [v2, acx a1]; simp only [ad1, h2, cT, cF])⟩ τ1 [0]
 have a3 := v2.trans (show _ = none by rw [dn (show s.length ≤ i by omega)]; simp only [ad1, cT, cF])
 rw [show adk s fq = (-1) by simp only [adk, a3, cT, cF]]
 exact R6r Z Z (i6 (-1))
theorem afh : ∀ (f : Advertisement → Bool) (l : List Advertisement) (i : Nat) (j : Int), ad1 f l i = some j → j < ((i + l.length : Nat) : Int)
 | f, [], i, j, h => by cases h
 | f, x :: l, i, j, h => by
  simp only [ad1] at h
  cases hx : f x
  ·rw [hx, cond_false] at h
   have := afh f l (i + 1) j h
   simp only [List.length_cons]; omega
  ·rw [hx, cond_true] at h
   cases h
   simp only [List.length_cons]; omega
theorem agj (l : List Advertisement) (f : Advertisement → Bool) : adk l f < ((l.length : Nat) : Int) := by
 unfold adk
 cases h : ad1 f l 0 with
 | none => show (-1 : Int) < _; omega
 | some j => have := afh f l 0 j h; show j < _; omega
theorem f271 (hn : n + 0 ≤ 9) (a : Advertisement) (N0 : Rd w K0 M0 a.neighbors) (N1 : Rd w K1 M1 a.prefixes) (from_ : Int) (bfrom_ : Addr) (hfrom_ : RdSl (hp w) (some bfrom_) 1 [from_]) (a2 : ok n a) (a1 : ok n from_) :
 DP 271 #[.agg #[vI a.origin, vI a.version, vS K0 a.neighbors M0, vS K1 a.prefixes M1], .pointer (some bfrom_)] w (pB (a9o from_ a)) := by
 refine EN Tryz.func271 Z (aS3 N0 N1 hfrom_) ?_
 have a0 : ([from_] : List Int)[0]? = some from_ := rfl
 refine WX.slot 1 (y := .e (some bfrom_) 0 1 0) Z (fun _ => ao0) ?_
 refine yL 2 3 from_ a0 ?_
 rintro ⟨⟩
 exact R4r Z Z (by simp only [a9o, cT, cF])
theorem f159 (hn : n + 0 ≤ 9) {l : List Advertisement} (N0 : Rd w K0 M0 l) {from_ : Int} (a3 : ok n l) (a0 : ok n from_) :
 DP 159 #[vS K0 l M0, vI from_] w (pI n (a0t l from_)) := by
 have hb := bS0 hn
 refine EN Tryz.func159 Z (aS1 N0) ?_
 refine KW Z Z Z Z Z Z O Z (fun w G bs hI hΓ => f270 n τ0 (hΓ.get 0 Z) 271 [Value.pointer (some ⟨bs 3, 0, none⟩)] (fun a1 => (a9o from_ a1)) (fun a8 a7 a1 a5 a4 a2 => f271 n τ0 a1 (a2 _ List.mem_cons_self) (a2 (MF.rs .der a5.2.2.2.1 a5.2.2.2.2 a1.prefixes) (by simp [GoT.fa])) from_ ⟨bs 3, 0, none⟩ ((anq (α := Int) (a := from_) (x := ()) (hI.loc 3 _ Z).1 All.nil).mono (as8 a7)) a4 a0) a3) fun a6 => ?_
 have q1 := agj l (fun a1 => (a9o from_ a1))
 rw [show a0t l from_ = (adk l (fun a1 => (a9o from_ a1))) by simp only [a0t, cT, cF]]
 exact R6r Z Z a6
theorem f259 (hn : n + 0 ≤ 9) {l : List Advertisement} (N0 : Rd w K0 M0 l) {from_ : Int} (a1 : ok n l) (a0 : ok n from_) :
 DP 259 #[vS K0 l M0, vI from_] w (pI n (a0e l from_)) := by
 have hb := bS0 hn
 refine EN Tryz.func259 Z (aS1 N0) ?_
 have r1 := (okl a1).1
 refine LM Z 0 (fun i => ((i ≤ l.length) ∧ (a5i from_ l 0 = a5i from_ (l.drop i) i), l.length - i, [(5, .v (vI i))], [], [], [])) ⟨zl, Z⟩ [0, 1] [] [0] [0] ?_
 rintro i ⟨v1, v2⟩
 refine yKD 9 ?_ ?_ <;> intro h1 a9
 have a3 : i < l.length := τ0
 obtain ⟨e1, a2⟩ := gE a3
 have a7 := okE a1 a2
 refine yI 0 i a3 ?_
 rintro a6 rfl
 refine yL 0 1 e1 a2 ?_
 rintro ⟨⟨⟩, ⟨⟩, ⟨p1, c1⟩, ⟨p2, c2⟩⟩
 refine yKE 18 ?_ ?_ <;> intro h2 a8
 have a5 := v2.trans (show _ = (some ((i : Nat) : Int)) by rw [acx a2]; simp only [a5i, h2, cT, cF])
 rw [show a0e l from_ = ((i : Nat) : Int) by simp only [a0e, a5, cT, cF]]
 exact R6r Z Z (i6 ((i : Nat) : Int))
 refine SA ?_
 exact ITr Z (i + 1) ⟨τ0, (by rw [v2, acx a2]; simp only [a5i, h2, cT, cF])⟩ τ1 [0]
 have a4 := v2.trans (show _ = none by rw [dn (show l.length ≤ i by omega)]; simp only [a5i, cT, cF])
 rw [show a0e l from_ = (-1) by simp only [a0e, a4, cT, cF]]
 exact R6r Z Z (i6 (-1))
theorem f166 (hn : n + 0 ≤ 9) {l : List Advertisement} (N0 : Rd w K0 M0 l) {a : Int} {b : Int} (a0 : ok n l) (a2 : ok n a) (a1 : ok n b) :
 DP 166 #[vS K0 l M0, vI a, vI b] w (pB (a21 l a b)) := by
 have hb := bS0 hn
 refine EN Tryz.func166 Z (aS1 N0) ?_
 refine KV Z Z Z Z Z Z O Z (fun w γ => f159 n τ0 (γ.q 0 Z) a0 a2) fun a7 => ?_
 have q1 := arh l a
 refine KV Z Z Z Z Z Z O Z (fun w γ => f159 n τ0 (γ.q 0 Z) a0 a1) fun a8 => ?_
 have q2 := arh l b
 refine yKD 17 ?_ ?_ <;> intro h1 ag
 refine yKD 21 ?_ ?_ <;> intro h2 ae
 have r1 := (okl a0).1
 have r2 := i8 a2
 have r3 := i8 a7
 refine R0 ?_
 refine SI 23 ?_
 have a5 : ((a0t l a)).toNat < l.length := τ3
 obtain ⟨e1, a3⟩ := gE a5
 have a9 := okE a0 a3
 refine zI 0 (((a0t l a)).toNat) a5 ?_
 rintro ab rfl
 refine yL 0 1 e1 a3 ?_
 rintro ⟨⟨⟩, ⟨⟩, ⟨p1, c1⟩, ⟨p2, c2⟩⟩
 refine KV Z Z Z Z Z Z O Z (fun w γ => f62 n τ0 (γ.q 1 Z) ((afd a9).2.2.1) a1) fun af => ?_
 refine yKA 30 ?_ ?_ <;> intro h3
 have r4 := i8 a1
 have r5 := i8 a8
 refine R0 ?_
 refine SI 32 ?_
 have a6 : ((a0t l b)).toNat < l.length := τ3
 obtain ⟨e2, a4⟩ := gE a6
 have aa := okE a0 a4
 refine zI 0 (((a0t l b)).toNat) a6 ?_
 rintro ad ⟨⟩
 refine yL 0 3 e2 a4 ?_
 rintro ⟨⟨⟩, ⟨⟩, ⟨p3, c3⟩, ⟨p4, c4⟩⟩
 refine KV Z Z Z Z Z Z O Z (fun w γ => f62 n τ0 (γ.q 3 Z) ((afd aa).2.2.1) a2) fun ac => ?_
 exact R4r Z Z (by simp only [a21, h1, h2, a3, h3, a4, cT, cF])
 exact R4r Z Z (by simp only [a21, h1, h2, a3, h3, cT, cF])
 exact R4r Z Z (by simp only [a21, h1, h2, cT, cF])
 exact R4r Z Z (by simp only [a21, h1, cT, cF])
theorem f397 (hn : n + 0 ≤ 9) {l : List Advertisement} (N0 : Rd w K0 M0 l) {a : Int} {b : Int} (a0 : ok n l) (a1 : ok n a) (a2 : ok n b) :
 DP 397 #[vS K0 l M0, vI a, vI b] w (pB (a9p l a b)) := by
 have hb := bS0 hn
 refine EN Tryz.func397 Z (aS1 N0) ?_
 refine KV Z Z Z Z Z Z O Z (fun w γ => f259 n τ0 (γ.q 0 Z) a0 a1) fun a5 => ?_
 have q1 := aqo l a
 refine yKD 13 ?_ ?_ <;> intro h1 a9
 have r1 := (okl a0).1
 have r2 := i8 a1
 have r3 := i8 a5
 refine R0 ?_
 refine SI 15 ?_
 have a4 : ((a0e l a)).toNat < l.length := τ3
 obtain ⟨e1, a3⟩ := gE a4
 have a6 := okE a0 a3
 refine zI 0 (((a0e l a)).toNat) a4 ?_
 rintro a7 rfl
 refine yL 0 1 e1 a3 ?_
 rintro ⟨⟨⟩, ⟨⟩, ⟨p1, c1⟩, ⟨p2, c2⟩⟩
 refine KV Z Z Z Z Z Z O Z (fun w γ => f345 n τ0 (γ.q 1 Z) ((afd a6).2.2.1) a2) fun a8 => ?_
 exact R4r Z Z (by simp only [a9p, h1, a3, cT, cF])
 exact R4r Z Z (by simp only [a9p, h1, cT, cF])
theorem f347 (hn : n + 0 ≤ 9) {l : List Advertisement} (N0 : Rd w K0 M0 l) {a : Int} {b : Int} (a1 : ok n l) (a0 : ok n a) (a2 : ok n b) :
 DP 347 #[vS K0 l M0, vI a, vI b] w (pB (a1m l a b)) := by
 have hb := bS0 hn
 refine EN Tryz.func347 Z (aS1 N0) ?_
 refine KV Z Z Z Z Z Z O Z (fun w γ => f397 n τ0 (γ.q 0 Z) a1 a0 a2) fun a3 => ?_
 refine yKA 11 ?_ ?_ <;> intro h1
 refine KV Z Z Z Z Z Z O Z (fun w γ => f397 n τ0 (γ.q 0 Z) a1 a2 a0) fun a4 => ?_
 exact R4r Z Z (by simp only [a1m, h1, cT, cF])
 exact R4r Z Z (by simp only [a1m, h1, cT, cF])
theorem f352  :
 DP 352 #[.int .u64 1, .int .u64 6] w (fun (rv : Value) (_ : World) => rv = .tuple #[.int .u64 0, .int .u64 6] ∧ True) := by
 refine EN Tryz.func352 Z adc ?_
 refine KS Z Z Z Z (fun _ hΓ => agd 1 Z Z Z τ8) ?_
 refine KS Z Z Z Z (fun _ hΓ => aj0 0 Z Z Z τ8 τ8) ?_
 refine KS Z Z Z Z (fun _ hΓ => agd 6 Z Z Z τ8) ?_
 refine KS Z Z Z Z (fun _ hΓ => aj0 0 Z Z Z τ8 τ8) ?_
 refine KS Z Z Z Z (fun _ hΓ => agd 6 Z Z Z τ8) ?_
 refine KS Z Z Z Z (fun _ hΓ => agd 0 Z Z Z τ8) ?_
 refine KS Z Z Z Z (fun _ hΓ => aj0 0 Z Z Z τ8 τ8) ?_
 refine KS Z Z Z Z (fun _ hΓ => agd 0 Z Z Z τ8) ?_
 refine KS Z Z Z Z (fun _ hΓ => agd 0 Z Z Z τ8) ?_
 refine KS Z Z Z Z (fun _ hΓ => aj0 0 Z Z Z τ8 τ8) ?_
 refine KS Z Z Z Z (fun _ hΓ => agd 0 Z Z Z τ8) ?_
 refine KS Z Z Z Z (fun _ hΓ => agd 0 Z Z Z τ8) ?_
 refine KS Z Z Z Z (fun _ hΓ => agd 0 Z Z Z τ8) ?_
 refine KS Z Z Z Z (fun _ hΓ => agd 0 Z Z Z τ8) ?_
 refine KS Z Z Z Z (fun _ hΓ => aj0 0 Z Z Z τ8 τ8) ?_
 refine KS Z Z Z Z (fun _ hΓ => agd 0 Z Z Z τ8) ?_
 refine KS Z Z Z Z (fun _ hΓ => agd 6 Z Z Z τ8) ?_
 refine R0 ?_
 refine R1 ?_
 intros
 exact ⟨Z, trivial⟩
theorem f274  :
 DP 274 #[.int .u64 1, .int .u64 6] w (fun (rv : Value) (_ : World) => rv = .tuple #[.int .u64 0, .int .u64 6] ∧ True) := by
 refine EN Tryz.func274 Z adc ?_
 refine KV Z Z Z Z Z Z O Z (fun w γ => f352) fun a0 => ?_
 refine R0 ?_
 refine R1 ?_
 intros
 exact ⟨Z, trivial⟩
theorem f165 (hn : n + 0 ≤ 9) {x_ : List Int} (N0 : Rd w K0 M0 x_) {count : Int} (hq0 : x_ = [-1] ∧ count = 6) (a1 : ok n x_) (a0 : ok n count) :
 DP 165 #[vS K0 x_ M0, vI count] w (pS w n [-1, -1, -1, -1, -1, -1]) := by
  obtain ⟨rfl, rfl⟩ := hq0
  have a5 := ao5 n
  refine EN Tryz.func165 Z (aS1 N0) ?_
  refine yKA 10 ?_ ?_ <;> intro h1
  · exact absurd h1 τ8
  refine KS Z Z Z Z (fun _ hΓ => anv 1 ttOk Z Z Z Z Z Z τ8) ?_
  refine KS Z Z Z Z (fun _ hΓ => anv 6 ttOk Z Z Z Z Z Z τ8) ?_
  refine CV Z Z Z Z Z O Z (fun w γ => f274) fun a4 => ?_
  refine KS Z Z Z Z (fun _ hΓ => ari Z Z Z τ8) ?_
  refine KS Z Z Z Z (fun _ hΓ => ari Z Z Z τ8) ?_
  refine KS Z Z Z Z (fun _ hΓ => anv 6 ttOk Z Z Z Z Z Z τ8) ?_
  refine WX.mkS 6 ttOk Z Z Z Z Z Z Z τ8 τ8 Z fun p => ?_
  refine R0 ?_
  refine WX.cpy 30 0 1 [.int .i64 (-1)] ttOk Z Z Z Z Z (by rw [alc]; rfl) Z Z Z Z (show 0 + 1 ≤ 6 by decide) Z τ8 (fun w G bs hI hΓ => ?_) Z ?_
  · obtain ⟨xs, h1, h2⟩ := aw5 (hΓ.get 0 rfl : RdSl _ _ _ _)
    obtain ⟨_, ys, rfl, _, rfl⟩ := h2
    intro j u hu
    obtain ⟨a, ha, hc⟩ := h1 j u hu
    exact ⟨a, ha, hI.le.cell hc⟩
  refine LM Z 1 (fun m => (m = 1 ∨ m = 2 ∨ m = 4 ∨ m = 6, 6 - m, [(8, .v (.int .i64 (m : Int)))], [], [(30, ⟨1, p, 6, 6, List.replicate m (Value.int .i64 (-1)) ++ List.replicate (6 - m) (Value.int .i64 0)⟩)], [])) (.inl Z) [7] [] [] [] ?_
  rintro m hm
  refine yKA 37 ?_ ?_ <;> intro h2
  · refine R0 ?_
    have h3 : (m : Int) < 6 := of_decide_eq_true h2
    replace hm : m = 1 ∨ m = 2 ∨ m = 4 := by
      have a3 : m = 1 ∨ m = 2 ∨ m = 4 ∨ m = 6 := hm
      omega
    clear h2 h3
    rcases hm with rfl | rfl | rfl
    · refine WX.draw [7, 8, 9] mixed ?_
      intro bs G0 a2
      refine dT 5 [1, 3, 5, 9, 11] ?_
      refine DX.seeP 3 J Z Z Z Z (alz 1 ttOk Z Z Z Z Z τ0) ?_
      refine DX.seeP 6 J Z Z Z Z (ah7 1 ttOk Z Z Z Z Z τ0) ?_
      refine DX.tail2 [7, 8, 9] Z Z J ?_
      refine WX.cpy 30 1 1 (List.replicate 1 (Value.int .i64 (-1))) ttOk Z Z Z Z Z Z Z Z Z Z (show 1 + 1 ≤ 6 by decide) Z τ8 (fun w G bs hI _ => by have h := ao2 (σ := 30) (w := w) hI Z 0 1 (show 0 + 1 ≤ 6 by decide); rw [alc] at h; exact h) Z ?_
      refine KS Z Z Z Z (fun _ hΓ => aih Z Z Z Z (by unfold I64; omega)) ?_
      exact ITr Z 2 (.inr (.inl Z)) (show 6 - 2 < 6 - 1 by decide) []
    · refine WX.draw [7, 8, 9] mixed ?_
      intro bs G0 a2
      refine dT 5 [1, 3, 5, 9, 11] ?_
      refine DX.seeP 3 J Z Z Z Z (alz 2 ttOk Z Z Z Z Z τ0) ?_
      refine DX.seeP 6 J Z Z Z Z (ah7 2 ttOk Z Z Z Z Z τ0) ?_
      refine DX.tail2 [7, 8, 9] Z Z J ?_
      refine WX.cpy 30 2 2 (List.replicate 2 (Value.int .i64 (-1))) ttOk Z Z Z Z Z Z Z Z Z Z (show 2 + 2 ≤ 6 by decide) Z τ8 (fun w G bs hI _ => by have h := ao2 (σ := 30) (w := w) hI Z 0 2 (show 0 + 2 ≤ 6 by decide); rw [alc] at h; exact h) Z ?_
      refine KS Z Z Z Z (fun _ hΓ => aih Z Z Z Z (by unfold I64; omega)) ?_
      exact ITr Z 4 (.inr (.inr (.inl Z))) (show 6 - 4 < 6 - 2 by decide) []
    · refine WX.draw [7, 8, 9] mixed ?_
      intro bs G0 a2
      refine dT 5 [1, 3, 5, 9, 11] ?_
      refine DX.seeP 3 J Z Z Z Z (alz 4 ttOk Z Z Z Z Z τ0) ?_
      refine DX.seeP 6 J Z Z Z Z (ah7 4 ttOk Z Z Z Z Z τ0) ?_
      refine DX.tail2 [7, 8, 9] Z Z J ?_
      refine WX.cpy 30 4 2 (List.replicate 2 (Value.int .i64 (-1))) ttOk Z Z Z Z Z Z Z Z Z Z (show 4 + 2 ≤ 6 by decide) Z τ8 (fun w G bs hI _ => by have h := ao2 (σ := 30) (w := w) hI Z 0 2 (show 0 + 2 ≤ 6 by decide); rw [alc] at h; exact h) Z ?_
      refine KS Z Z Z Z (fun _ hΓ => aih Z Z Z Z (by unfold I64; omega)) ?_
      exact ITr Z 6 (.inr (.inr (.inr Z))) (show 6 - 6 < 6 - 4 by decide) []
  obtain rfl : m = 6 := by
    have h3 : ¬ ((m : Int) < 6) := of_decide_eq_false h2
    have a3 : m = 1 ∨ m = 2 ∨ m = 4 ∨ m = 6 := hm
    omega
  refine WX.free 1 (MF.ol [.int .i64 (-1), .int .i64 (-1), .int .i64 (-1), .int .i64 (-1), .int .i64 (-1), .int .i64 (-1)] ([-1, -1, -1, -1, -1, -1] : List Int)) (⟨(), _, emp, _, Z, aes _, Le.refl _, ag5 _, trivial, ⟨(), _, emp, _, Z, aes _, Le.refl _, ag5 _, trivial, ⟨(), _, emp, _, Z, aes _, Le.refl _, ag5 _, trivial, ⟨(), _, emp, _, Z, aes _, Le.refl _, ag5 _, trivial, ⟨(), _, emp, _, Z, aes _, Le.refl _, ag5 _, trivial, ⟨(), _, emp, _, Z, aes _, Le.refl _, ag5 _, trivial, Z⟩⟩⟩⟩⟩⟩ : OwL _ _ ([-1, -1, -1, -1, -1, -1] : List Int)) ?_
  refine yE 30 1 2 ?_
  exact zX [3] (p, 6) (ada (by show 6 ≤ _; omega) (fun a ha => by simp at ha; subst ha; show I64 (-1); unfold I64; omega))
theorem f63 (hn : n + 0 ≤ 9) {l : List Advertisement} (N0 : Rd w K0 M0 l) {a : Int} (ah : ok n l) (ae : ok n a) :
 DP 63 #[vS K0 l M0, vI a] w (pS w n (a1g l a)) := by
 have hb := bS0 hn
 refine EN Tryz.func63 Z (aS1 N0) ?_
 refine yB fun p1 => ?_
 refine zT (α := Int) [] 1 (-1) () fun _ => ?_
 refine zE 9 1 2 ?_
 refine CF 4 Z Z Z Z Z O Z (fun w γ => f165 n τ0 (γ.q 2 Z) ⟨Z, Z⟩ (ada τ6 (all_cons (α := Int) (i6 (-1)) nA) : ok n ([(-1)] : List Int)) (i6 6)) ?_
 rintro ⟨p2, c1⟩ ak
 refine KV Z Z Z Z Z Z O Z (fun w γ => f54 n τ0 ae (i6 0) (i6 5)) fun br => ?_
 refine yKN 14 ?_ ?_ <;> intro h1 bp
 rw [show a1g l a = ([-1, -1, -1, -1, -1, -1] : List Int) by simp only [a1g, h1, cT, cF]]
 exact yX [5] (p2, c1) ak
 have bu := agk (B.nf h1)
 refine KV Z Z Z Z Z Z O Z (fun w γ => f159 n τ0 (γ.q 0 Z) ah ae) fun bo => ?_
 have q1 := arh l a
 refine yKD 19 ?_ ?_ <;> intro h2 bm
 rw [show a1g l a = ([-1, -1, -1, -1, -1, -1] : List Int) by simp only [a1g, h1, h2, cT, cF]]
 exact yX [5] (p2, c1) ak
 have r1 := i8 ae
 refine R0 ?_
 refine SI 22 ?_
 refine zN (kk := 1) 501 5 6 fun bb c3 => ?_
 have an : a.toNat < (([-1, -1, -1, -1, -1, -1] : List Int)).length := (by show a.toNat < 6; omega)
 refine zR 501 (a.toNat) an ?_
 rintro al rfl
 have ay : a.toNat < (([-1, -1, -1, -1, -1, -1] : List Int)).length := (by show a.toNat < 6; omega)
 obtain ⟨e1, am⟩ := gE ay
 have bs := okE ak am
 refine zO (α := Int) (e := e1) 501 6 7 (a.toNat) am ?_
 rintro A1 B1 ⟨⟩ b1 bw
 refine zS 501 b1 an ?_
 refine yB fun p3 => ?_
 refine R0 ?_
 refine WX.turn [7, 8] 9 Z (fun h hs => aej (α := Int) (e := 0) (x := ()) ay hs) Z ?_
 refine zT (α := Int) [] 10 a () fun _ => ?_
 refine LK ((A1 ++ [.int .i64 (0)] ++ B1), ((([-1, -1, -1, -1, -1, -1] : List Int).set (a.toNat) 0) : List Int), p3, 1, [.int .i64 a], ([a] : List Int), 0) (fun | (aa, a8, a9, ab, a7, a3, i) => ((a8.length = (([-1, -1, -1, -1, -1, -1] : List Int)).length) ∧ JE n a8 ∧ JE n a3 ∧ (aez a8 a3) ∧ (a8.length = 6) ∧ (a3.length ≤ 6) ∧ (i ≤ a3.length) ∧ (a6q l 0 ((([-1, -1, -1, -1, -1, -1] : List Int).set (a.toNat) 0) : List Int) ([a] : List Int) = a6q l i a8 a3), 7 - i, [(6, .v (vS a9 a3 ab)), (7, .v (vI i))], [], [(501, ⟨1, (some al), (([-1, -1, -1, -1, -1, -1] : List Int)).length, c1, aa⟩), (25, ⟨1, a9, a3.length, ab, a7⟩)], [(9, MF.ol aa (a8 : List Int)), (10, MF.ol a7 (a3 : List Int))])) ⟨τ5, (aef (okl ak).2 (show ok n (0 : Int) from (i6 0))), (all_cons (α := Int) ae nA), (show aez _ _ by first | assumption | exact aez.init ⟨by omega, by omega⟩), (aez.len (show aez _ _ by first | assumption | exact aez.init ⟨by omega, by omega⟩)), (aez.wl (show aez _ _ by first | assumption | exact aez.init ⟨by omega, by omega⟩)), τ0, Z⟩ [5, 0] [] [0] [0, 9, 10] ?_
 rintro ⟨aa, a8, a9, ab, a7, a3, i⟩ ⟨v1, v2, v3, v4, v5, v6, v7, v8⟩
 refine yKD 29 ?_ ?_ <;> intro h3 ao
 refine LM Z (aa, (a8 : List Int), a9, ab, a7, (a3 : List Int), 0) (fun | (a4, a1, a6, a5, a2, a0, i2) => ((i2 ≤ 6) ∧ (a1.length = (([-1, -1, -1, -1, -1, -1] : List Int)).length) ∧ JE n a1 ∧ JE n a0 ∧ (aez a1 a0) ∧ (a1.length = 6) ∧ (a0.length ≤ 6) ∧ (i < a0.length) ∧ (a2x l i 6 0 (a8 : List Int) (a3 : List Int) = a2x l i (6 - i2) i2 a1 a0), 6 - i2, [(6, .v (vS a6 a0 a5)), (32, .v (vI i2))], [], [(501, ⟨1, (some al), (([-1, -1, -1, -1, -1, -1] : List Int)).length, c1, a4⟩), (25, ⟨1, a6, a0.length, a5, a2⟩)], [(9, MF.ol a4 (a1 : List Int)), (10, MF.ol a2 (a0 : List Int))])) ⟨zl, τ5, v2, v3, (show aez a8 a3 by first | assumption | exact aez.init ⟨by omega, by omega⟩), (aez.len (show aez a8 a3 by first | assumption | exact aez.init ⟨by omega, by omega⟩)), (aez.wl (show aez a8 a3 by first | assumption | exact aez.init ⟨by omega, by omega⟩)), τ0, Z⟩ [5, 7, 0] [] [0] [0, 9, 10] ?_
 rintro ⟨a4, a1, a6, a5, a2, a0, i2⟩ ⟨v9, bz, ag, ai, b8, be, bg, c0, aj⟩
 refine yKD 33 ?_ ?_ <;> intro h4 bf
 have aq : i2 < (([-1, -1, -1, -1, -1, -1] : List Int)).length := τ3
 refine R0 ?_
 refine zR 501 i2 aq ?_
 rintro b9 ⟨⟩
 have ax : i2 < a1.length := τ3
 obtain ⟨e2, ac⟩ := gE ax
 have bv : ok n e2 := ag _ (List.mem_of_getElem? ac)
 have bx := aez.o (show aez a1 a0 by assumption) ac
 refine WX.ldR 501 11 e2 ttOk Z Z Z Z Z Z Z Z Z aq (fun G hΓ => (hΓ.get 9 Z : OwL _ _ _).rd) ac O O ?_
 rintro ⟨⟩ bh
 refine yKD 40 ?_ ?_ <;> intro h5 bk
 have ap : i < a0.length := τ3
 refine R0 ?_
 refine zR 25 i ap ?_
 rintro b2 rfl
 have b0 : i < a0.length := τ3
 obtain ⟨e3, ad⟩ := gE b0
 have ar : ok n e3 := ai _ (List.mem_of_getElem? ad)
 have bi := aez.w (show aez a1 a0 by assumption) ad
 refine WX.ldR 25 11 e3 ttOk Z Z Z Z Z Z Z Z Z ap (fun G hΓ => (hΓ.get 10 Z : OwL _ _ _).rd) ad O O ?_
 rintro ⟨⟩ ba
 refine KV Z Z Z Z Z Z O Z (fun w γ => f166 n τ0 (γ.q 0 Z) ah ar (i6 ((i2 : Nat) : Int))) fun bl => ?_
 refine yKA 48 ?_ ?_ <;> intro h6
 have aw : i < a0.length := τ3
 refine R0 ?_
 refine zR 25 i aw ?_
 rintro c5 ⟨⟩
 refine WX.ldR 25 11 e3 ttOk Z Z Z Z Z Z Z Z Z aw (fun G hΓ => (hΓ.get 10 Z : OwL _ _ _).rd) ad O O ?_
 rintro ⟨⟩ bj
 have r2 := i8 ar
 refine SI 55 ?_
 have av : e3.toNat < (([-1, -1, -1, -1, -1, -1] : List Int)).length := τ3
 refine zR 501 (e3.toNat) av ?_
 rintro c4 ⟨⟩
 have b7 : e3.toNat < a1.length := τ3
 obtain ⟨e4, af⟩ := gE b7
 have az : ok n e4 := ag _ (List.mem_of_getElem? af)
 have bq := aez.o (show aez a1 a0 by assumption) af
 refine WX.ldR 501 11 e4 ttOk Z Z Z Z Z Z Z Z Z av (fun G hΓ => (hΓ.get 9 Z : OwL _ _ _).rd) af O O ?_
 rintro ⟨⟩ bt
 have r3 := i8 az
 refine SA0 ?_
 have au : i2 < (([-1, -1, -1, -1, -1, -1] : List Int)).length := τ3
 refine zR 501 i2 au ?_
 rintro bn ⟨⟩
 refine zO (α := Int) (e := e2) 501 9 11 i2 ac ?_
 rintro A2 B2 ⟨⟩ b4 bc
 refine zS 501 b4 au ?_
 refine yB fun p4 => ?_
 refine zT (α := Int) [] 13 ((i2 : Nat) : Int) () fun b6 => ?_
 refine zP 25 62 ((a0 ++ [((i2 : Nat) : Int)]) : List Int).length b6 fun p5 c2 => ?_
 refine zV [10, 13] 14 ?_
 refine SA ?_
 refine R0 ?_
 refine WX.turn [11, 12] 15 Z (fun h hs => aej (α := Int) (e := (e4 + 1)) (x := ()) ax hs) Z ?_
 refine zU [15] 9 ?_
 refine zU [14] 10 ?_
 exact IT (_, ((a1.set i2 (e4 + 1)) : List Int), p5, c2, _, ((a0 ++ [((i2 : Nat) : Int)]) : List Int), i2 + 1) ⟨τ0, τ2, (aef ag (show ok n ((e4 + 1) : Int) from (i6 (e4 + 1)))), (aeb ai (all_cons (α := Int) (i6 ((i2 : Nat) : Int)) nA)), (aez.step (show aez a1 a0 by assumption) ac τ0 ad af), (aez.len (aez.step (show aez a1 a0 by assumption) ac τ0 ad af)), (aez.wl (aez.step (show aez a1 a0 by assumption) ac τ0 ad af)), τ6, (by rw [aj, show 6 - i2 = (6 - (i2 + 1)) + 1 by omega]; simp only [a2x, ac, h5, ad, h6, af, cT, cF])⟩ τ1 [0, 9, 10]
 refine SA ?_
 exact ITr Z (a4, (a1 : List Int), (some b2), a5, a2, (a0 : List Int), i2 + 1) ⟨τ0, τ2, ag, ai, (show aez a1 a0 by assumption), (aez.len (show aez a1 a0 by assumption)), (aez.wl (show aez a1 a0 by assumption)), τ6, (by rw [aj, show 6 - i2 = (6 - (i2 + 1)) + 1 by omega]; simp only [a2x, ac, h5, ad, h6, cT, cF])⟩ τ1 [0, 9, 10]
 refine SA ?_
 exact ITr Z (a4, (a1 : List Int), a6, a5, a2, (a0 : List Int), i2 + 1) ⟨τ0, τ2, ag, ai, (show aez a1 a0 by assumption), (aez.len (show aez a1 a0 by assumption)), (aez.wl (show aez a1 a0 by assumption)), τ6, (by rw [aj, show 6 - i2 = (6 - (i2 + 1)) + 1 by omega]; simp only [a2x, ac, h5, cT, cF])⟩ τ1 [0, 9, 10]
 have b5 := aj.trans (show _ = ((a1 : List Int), (a0 : List Int)) by rw [show 6 - i2 = 0 by omega]; simp only [a2x, cT, cF])
 refine SA ?_
 exact ITr Z (a4, (a1 : List Int), a6, a5, a2, (a0 : List Int), i + 1) ⟨τ2, ag, ai, (show aez a1 a0 by assumption), (aez.len (show aez a1 a0 by assumption)), (aez.wl (show aez a1 a0 by assumption)), τ6, (by rw [v8]; rw [a6q]; simp only [(show i ≤ 6 by omega), h3, ao, b5, cT, cF, ↓reduceIte, Bool.false_eq_true])⟩ τ1 [0, 9, 10]
 have b3 := v8.trans (show _ = (i, (a8 : List Int), (a3 : List Int)) by rw [a6q]; simp only [(show i ≤ 6 by omega), h3, ao, cT, cF, ↓reduceIte, Bool.false_eq_true])
 refine yE 501 9 16 (hn := (show (([-1, -1, -1, -1, -1, -1] : List Int)).length = a8.length from by omega)) ?_
 refine SL 4 a8.length ?_
 refine SL 65 a8.length ?_
 refine SL 5 a8.length ?_
 rw [show a1g l a = a8 by simp only [a1g, h1, h2, am, b3, cT, cF]]
 exact zX [17] ((some al), c1) (ada τ0 v2 : ok n (a8 : List Int))
theorem f346 (hn : n + 0 ≤ 9) {l : List Advertisement} (N0 : Rd w K0 M0 l) {a : Int} (ae : ok n l) (ah : ok n a) :
 DP 346 #[vS K0 l M0, vI a] w (pS w n (a1n l a)) := by
 have hb := bS0 hn
 refine EN Tryz.func346 Z (aS1 N0) ?_
 refine yB fun p1 => ?_
 refine F0 1 Int ?_
 refine LM Z (p1, 0, [], ([] : List Int), 0) (fun | (a9, a8, aa, a4, i) => ((i ≤ 6) ∧ JE n a4 ∧ (a4.length = i) ∧ (a1p l a 6 0 ([] : List Int) = a1p l a (6 - i) i a4), 6 - i, [(5, .v (vS a9 a4 a8)), (6, .v (vI i))], [], [(11, ⟨1, a9, a4.length, a8, aa⟩)], [(1, MF.ol aa (a4 : List Int))])) ⟨zl, nA, τ7, Z⟩ [0, 1] [] [0] [0, 1] ?_
 rintro ⟨a9, a8, aa, a4, i⟩ ⟨v1, v2, v3, v4⟩
 refine yKD 13 ?_ ?_ <;> intro h1 bb
 refine yKE 19 ?_ ?_ <;> intro h2 ba
 refine KV Z Z Z Z Z Z O Z (fun w γ => f259 n τ0 (γ.q 0 Z) ae ah) fun bc => ?_
 have q1 := aqo l a
 refine yKD 24 ?_ ?_ <;> intro h3 b2
 refine yB fun p2 => ?_
 refine zT (α := Int) [] 2 0 () fun ax => ?_
 refine zP 11 27 ((a4 ++ [0]) : List Int).length ax fun p3 c1 => ?_
 refine zV [1, 2] 3 ?_
 refine SA ?_
 refine zU [3] 1 ?_
 exact ITr Z (p3, c1, _, ((a4 ++ [0]) : List Int), i + 1) ⟨τ0, (aeb v2 (all_cons (α := Int) (i6 0) nA)), (by simp; omega), (by rw [v4, show 6 - i = (6 - (i + 1)) + 1 by omega]; simp only [a1p, h2, h3, cT, cF])⟩ τ1 [0, 1]
 refine yB fun p4 => ?_
 refine zT (α := Int) [] 4 (-1) () fun b0 => ?_
 refine zP 11 27 ((a4 ++ [(-1)]) : List Int).length b0 fun p5 c2 => ?_
 refine zV [1, 4] 5 ?_
 refine SA ?_
 refine zU [5] 1 ?_
 exact ITr Z (p5, c2, _, ((a4 ++ [(-1)]) : List Int), i + 1) ⟨τ0, (aeb v2 (all_cons (α := Int) (i6 (-1)) nA)), (by simp; omega), (by rw [v4, show 6 - i = (6 - (i + 1)) + 1 by omega]; simp only [a1p, h2, h3, cT, cF])⟩ τ1 [0, 1]
 refine yB fun p6 => ?_
 refine zT (α := Int) [] 6 (-1) () fun ap => ?_
 refine zP 11 27 ((a4 ++ [(-1)]) : List Int).length ap fun p7 c3 => ?_
 refine zV [1, 6] 7 ?_
 refine SA ?_
 refine zU [7] 1 ?_
 exact ITr Z (p7, c3, _, ((a4 ++ [(-1)]) : List Int), i + 1) ⟨τ0, (aeb v2 (all_cons (α := Int) (i6 (-1)) nA)), (by simp; omega), (by rw [v4, show 6 - i = (6 - (i + 1)) + 1 by omega]; simp only [a1p, h2, cT, cF])⟩ τ1 [0, 1]
 have aw := v4.trans (show _ = (a4 : List Int) by rw [show 6 - i = 0 by omega]; simp only [a1p, cT, cF])
 refine LM Z (aa, (a4 : List Int), 1) (fun | (a7, a3, a0) => ((a3.length = a4.length) ∧ JE n a3 ∧ J6 a0 ∧ (1 ≤ a0 ∧ a0 ≤ 7) ∧ (a3.length = 6) ∧ (a4b l (a4 : List Int) 1 = a4b l a3 a0), (7 - a0).toNat, [(8, .v (vI a0))], [], [(11, ⟨1, a9, a4.length, a8, a7⟩)], [(1, MF.ol a7 (a3 : List Int))])) ⟨τ5, v2, τ3, τ0, τ0, Z⟩ [5, 0] [] [0] [0, 1] ?_
 rintro ⟨a7, a3, a0⟩ ⟨v5, v6, v7, v8, v9, ao⟩
 refine yKD 30 ?_ ?_ <;> intro h4 am
 refine LM Z (a7, (a3 : List Int), 0) (fun | (a5, a6, i) => ((i ≤ 6) ∧ (a6.length = a4.length) ∧ JE n a6 ∧ (a6.length = 6) ∧ (a3x l a0 6 0 (a3 : List Int) = a3x l a0 (6 - i) i a6), 6 - i, [(9, .v (vI i))], [], [(11, ⟨1, a9, a4.length, a8, a5⟩)], [(1, MF.ol a5 (a6 : List Int))])) ⟨zl, τ5, v6, τ0, Z⟩ [5, 8, 0] [] [0] [0, 1] ?_
 rintro ⟨a5, a6, i⟩ ⟨bk, b4, ak, b6, ag⟩
 refine yKD 34 ?_ ?_ <;> intro h5 b9
 refine LM Z (a5, (a6 : List Int), 0) (fun | (a2, a1, i2) => ((i2 ≤ 6) ∧ (a1.length = a4.length) ∧ JE n a1 ∧ (a1.length = 6) ∧ (a26 l a0 i 6 0 (a6 : List Int) = a26 l a0 i (6 - i2) i2 a1), 6 - i2, [(10, .v (vI i2))], [], [(11, ⟨1, a9, a4.length, a8, a2⟩)], [(1, MF.ol a2 (a1 : List Int))])) ⟨zl, τ5, ak, τ0, Z⟩ [5, 9, 8, 0] [] [0] [0, 1] ?_
 rintro ⟨a2, a1, i2⟩ ⟨bn, b8, ab, be, af⟩
 refine yKD 39 ?_ ?_ <;> intro h6 bm
 have ai : i < a4.length := τ3
 refine R0 ?_
 refine zR 11 i ai ?_
 rintro b1 rfl
 have ay : i < a1.length := τ3
 obtain ⟨e1, ad⟩ := gE ay
 have bg : ok n e1 := ab _ (List.mem_of_getElem? ad)
 refine WX.ldR 11 8 e1 ttOk Z Z Z Z Z Z Z Z Z ai (fun G hΓ => (hΓ.get 1 Z : OwL _ _ _).rd) ad O O ?_
 rintro ⟨⟩ bo
 refine SA ?_
 refine yKE 47 ?_ ?_ <;> intro h7 bi
 have al : i2 < a4.length := τ3
 refine R0 ?_
 refine zR 11 i2 al ?_
 rintro b5 ⟨⟩
 have an : i2 < a1.length := τ3
 obtain ⟨e2, ac⟩ := gE an
 have bj : ok n e2 := ab _ (List.mem_of_getElem? ac)
 refine WX.ldR 11 8 e2 ttOk Z Z Z Z Z Z Z Z Z al (fun G hΓ => (hΓ.get 1 Z : OwL _ _ _).rd) ac O O ?_
 rintro ⟨⟩ b7
 refine yKD 55 ?_ ?_ <;> intro h8 b3
 refine KV Z Z Z Z Z Z O Z (fun w γ => f347 n τ0 (γ.q 0 Z) ae (i6 ((i : Nat) : Int)) (i6 ((i2 : Nat) : Int))) fun bf => ?_
 refine yKA 60 ?_ ?_ <;> intro h9
 have aj : i2 < a4.length := τ3
 refine R0 ?_
 refine zR 11 i2 aj ?_
 rintro bh ⟨⟩
 refine zO (α := Int) (e := e2) 11 1 8 i2 ac ?_
 rintro A1 B1 ⟨⟩ ar bl
 refine zS 11 ar aj ?_
 refine SA ?_
 refine R0 ?_
 refine WX.turn [8, 9] 10 Z (fun h hs => aej (α := Int) (e := a0) (x := ()) an hs) Z ?_
 refine zU [10] 1 ?_
 exact IT (_, ((a1.set i2 a0) : List Int), i2 + 1) ⟨τ0, τ2, (aef ab (show ok n (a0 : Int) from v7)), τ6, (by rw [af, show 6 - i2 = (6 - (i2 + 1)) + 1 by omega]; simp only [a26, ad, h7, ac, h8, h9, cT, cF])⟩ τ1 [0, 1]
 refine SA ?_
 exact ITr Z (a2, (a1 : List Int), i2 + 1) ⟨τ0, τ2, ab, τ6, (by rw [af, show 6 - i2 = (6 - (i2 + 1)) + 1 by omega]; simp only [a26, ad, h7, ac, h8, h9, cT, cF])⟩ τ1 [0, 1]
 refine SA ?_
 exact ITr Z (a2, (a1 : List Int), i2 + 1) ⟨τ0, τ2, ab, τ6, (by rw [af, show 6 - i2 = (6 - (i2 + 1)) + 1 by omega]; simp only [a26, ad, h7, ac, h8, cT, cF])⟩ τ1 [0, 1]
 have au := af.trans (show _ = (a1 : List Int) by rw [show 6 - i2 = (6 - (i2 + 1)) + 1 by omega]; simp only [a26, ad, h7, cT, cF])
 refine SA ?_
 exact ITr Z (a2, (a1 : List Int), i + 1) ⟨τ0, τ2, ab, τ0, (by rw [ag, show 6 - i = (6 - (i + 1)) + 1 by omega]; simp only [a3x, au, cT, cF])⟩ τ1 [0, 1]
 have av := af.trans (show _ = (a1 : List Int) by rw [show 6 - i2 = 0 by omega]; simp only [a26, cT, cF])
 refine SA ?_
 exact ITr Z (a2, (a1 : List Int), i + 1) ⟨τ0, τ2, ab, τ0, (by rw [ag, show 6 - i = (6 - (i + 1)) + 1 by omega]; simp only [a3x, av, cT, cF])⟩ τ1 [0, 1]
 have aq := ag.trans (show _ = (a6 : List Int) by rw [show 6 - i = 0 by omega]; simp only [a3x, cT, cF])
 refine SA ?_
 exact ITr Z (a5, (a6 : List Int), a0 + 1) ⟨τ2, ak, τ3, τ0, τ0, (by rw [ao]; rw [a4b]; simp only [h4, am, aq, cT, cF, ↓reduceIte, Bool.false_eq_true])⟩ τ1 [0, 1]
 have az := ao.trans (show _ = ((a3 : List Int), a0) by rw [a4b]; simp only [h4, am, cT, cF, ↓reduceIte, Bool.false_eq_true])
 refine yE 11 1 11 (hn := (show a4.length = a3.length from by omega)) ?_
 refine SL 4 a3.length ?_
 refine SL 65 a3.length ?_
 refine SL 5 a3.length ?_
 rw [show a1n l a = a3 by simp only [a1n, aw, az, cT, cF]]
 exact zX [12] (a9, a8) (ada τ0 v6 : ok n (a3 : List Int))
theorem f17 (hn : n + 0 ≤ 9) {l : List Advertisement} (N0 : Rd w K0 M0 l) {a : Int} {b : Int} (a1 : ok n l) (a2 : ok n a) (a0 : ok n b) :
 DP 17 #[vS K0 l M0, vI a, vI b] w (pI n (a1s l a b)) := by
 have hb := bS0 hn
 refine EN Tryz.func17 Z (aS1 N0) ?_
 refine KV Z Z Z Z Z Z O Z (fun w γ => f54 n τ0 a0 (i6 0) (i6 5)) fun a7 => ?_
 refine yKN 9 ?_ ?_ <;> intro h1 aa
 rw [show a1s l a b = (-1) by simp only [a1s, h1, cT, cF]]
 exact R6r Z Z (i6 (-1))
 have a9 := agk (B.nf h1)
 refine KF Z 1 Z Z Z Z Z O Z (fun w γ => f63 n τ0 (γ.q 0 Z) a1 a2) ?_
 rintro ⟨p1, c1⟩ a5
 have q1 := app l a
 have r1 := i8 a0
 refine R0 ?_
 refine SI 13 ?_
 have a4 : b.toNat < ((a1g l a)).length := τ3
 obtain ⟨e1, a3⟩ := gE a4
 have a6 := okE a5 a3
 refine zI 1 (b.toNat) a4 ?_
 rintro a8 rfl
 refine zL 1 3 e1 a3 ?_
 rintro ⟨⟩
 rw [show a1s l a b = e1 by simp only [a1s, h1, a3, cT, cF]]
 exact R6r Z Z a6
theorem f261 (hn : n + 0 ≤ 9) {l : List Advertisement} (N0 : Rd w K0 M0 l) {a : Int} {b : Int} (a1 : ok n l) (a2 : ok n a) (a0 : ok n b) :
 DP 261 #[vS K0 l M0, vI a, vI b] w (pI n (a1c l a b)) := by
 have hb := bS0 hn
 refine EN Tryz.func261 Z (aS1 N0) ?_
 refine KV Z Z Z Z Z Z O Z (fun w γ => f171 n τ0 a0 (i6 0) (i6 5)) fun a7 => ?_
 refine yKN 9 ?_ ?_ <;> intro h1 aa
 rw [show a1c l a b = (-1) by simp only [a1c, h1, cT, cF]]
 exact R6r Z Z (i6 (-1))
 have a9 := afy (B.nf h1)
 refine KF Z 1 Z Z Z Z Z O Z (fun w γ => f346 n τ0 (γ.q 0 Z) a1 a2) ?_
 rintro ⟨p1, c1⟩ a5
 have q1 := akk l a
 have r1 := i8 a0
 refine R0 ?_
 refine SI 13 ?_
 have a4 : b.toNat < ((a1n l a)).length := τ3
 obtain ⟨e1, a3⟩ := gE a4
 have a6 := okE a5 a3
 refine zI 1 (b.toNat) a4 ?_
 rintro a8 rfl
 refine zL 1 3 e1 a3 ?_
 rintro ⟨⟩
 rw [show a1c l a b = e1 by simp only [a1c, h1, a3, cT, cF]]
 exact R6r Z Z a6
theorem f160 (hn : n + 0 ≤ 9) {l : List Advertisement} (N0 : Rd w K0 M0 l) {a : Int} {b : Int} (a4 : ok n l) (a6 : ok n a) (a5 : ok n b) :
 DP 160 #[vS K0 l M0, vI a, vI b] w (pS w n (a3i l a b)) := by
 have hb := bS0 hn
 refine EN Tryz.func160 Z (aS1 N0) ?_
 refine KV Z Z Z Z Z Z O Z (fun w γ => f17 n τ0 (γ.q 0 Z) a4 a6 a5) fun a9 => ?_
 refine yB fun p1 => ?_
 refine F0 1 Int ?_
 refine LM Z (p1, 0, [], ([] : List Int), 0) (fun | (a3, a2, a0, a1, i) => ((i ≤ 6) ∧ JE n a1 ∧ (a1.length ≤ i) ∧ (a3h l a b 6 0 ([] : List Int) = a3h l a b (6 - i) i a1), 6 - i, [(8, .v (vS a3 a1 a2)), (15, .v (vI i))], [], [(14, ⟨1, a3, a1.length, a2, a0⟩)], [(1, MF.ol a0 (a1 : List Int))])) ⟨zl, nA, τ7, Z⟩ [7, 0, 1, 2] [] [0] [0, 1] ?_
 rintro ⟨a3, a2, a0, a1, i⟩ ⟨v1, v2, v3, v4⟩
 refine yKD 16 ?_ ?_ <;> intro h1 ae
 refine yKD 20 ?_ ?_ <;> intro h2 ac
 refine KV Z Z Z Z Z Z O Z (fun w γ => f166 n τ0 (γ.q 0 Z) a4 a6 (i6 ((i : Nat) : Int))) fun aa => ?_
 refine yKA 26 ?_ ?_ <;> intro h3
 refine KV Z Z Z Z Z Z O Z (fun w γ => f17 n τ0 (γ.q 0 Z) a4 (i6 ((i : Nat) : Int)) a5) fun ad => ?_
 have r1 := (okl a4).1
 have r2 := i8 a6
 have r3 := i8 a5
 have r4 := i8 a9
 refine SA ?_
 refine yKE 34 ?_ ?_ <;> intro h4 ab
 refine yB fun p2 => ?_
 refine zT (α := Int) [] 2 ((i : Nat) : Int) () fun a8 => ?_
 refine zP 14 37 ((a1 ++ [((i : Nat) : Int)]) : List Int).length a8 fun p3 c1 => ?_
 refine zV [1, 2] 3 ?_
 refine SA ?_
 refine zU [3] 1 ?_
 exact ITr Z (p3, c1, _, ((a1 ++ [((i : Nat) : Int)]) : List Int), i + 1) ⟨τ0, (aeb v2 (all_cons (α := Int) (i6 ((i : Nat) : Int)) nA)), τ2, (by rw [v4, show 6 - i = (6 - (i + 1)) + 1 by omega]; simp only [a3h, h2, h3, h4, cT, cF])⟩ τ1 [0, 1]
 refine SA ?_
 exact ITr Z (a3, a2, a0, (a1 : List Int), i + 1) ⟨τ0, v2, τ2, (by rw [v4, show 6 - i = (6 - (i + 1)) + 1 by omega]; simp only [a3h, h2, h3, h4, cT, cF])⟩ τ1 [0, 1]
 refine SA ?_
 exact ITr Z (a3, a2, a0, (a1 : List Int), i + 1) ⟨τ0, v2, τ2, (by rw [v4, show 6 - i = (6 - (i + 1)) + 1 by omega]; simp only [a3h, h2, h3, cT, cF])⟩ τ1 [0, 1]
 refine SA ?_
 exact ITr Z (a3, a2, a0, (a1 : List Int), i + 1) ⟨τ0, v2, τ2, (by rw [v4, show 6 - i = (6 - (i + 1)) + 1 by omega]; simp only [a3h, h2, cT, cF])⟩ τ1 [0, 1]
 have a7 := v4.trans (show _ = (a1 : List Int) by rw [show 6 - i = 0 by omega]; simp only [a3h, cT, cF])
 refine yE 14 1 4 ?_
 rw [show a3i l a b = a1 by simp only [a3i, a7, cT, cF]]
 exact zX [5] (a3, a2) (ada τ0 v2 : ok n (a1 : List Int))
theorem f260 (hn : n + 0 ≤ 9) {l : List Advertisement} (N0 : Rd w K0 M0 l) {a : Int} {b : Int} (a4 : ok n l) (a6 : ok n a) (a5 : ok n b) :
 DP 260 #[vS K0 l M0, vI a, vI b] w (pS w n (a2d l a b)) := by
 have hb := bS0 hn
 refine EN Tryz.func260 Z (aS1 N0) ?_
 refine yB fun p1 => ?_
 refine KV Z Z Z Z Z Z O Z (fun w γ => f261 n τ0 (γ.q 0 Z) a4 a6 a5) fun a9 => ?_
 refine F0 1 Int ?_
 refine LM Z (p1, 0, [], ([] : List Int), 0) (fun | (a3, a2, a1, a0, i) => ((i ≤ 6) ∧ JE n a0 ∧ (a0.length ≤ i) ∧ (a3y l a b 6 0 ([] : List Int) = a3y l a b (6 - i) i a0), 6 - i, [(7, .v (vS a3 a0 a2)), (9, .v (vI i))], [], [(10, ⟨1, a3, a0.length, a2, a1⟩)], [(1, MF.ol a1 (a0 : List Int))])) ⟨zl, nA, τ7, Z⟩ [8, 0, 1, 2] [] [0] [0, 1] ?_
 rintro ⟨a3, a2, a1, a0, i⟩ ⟨v1, v2, v3, v4⟩
 refine yKD 17 ?_ ?_ <;> intro h1 af
 refine yKD 20 ?_ ?_ <;> intro h2 ad
 refine KV Z Z Z Z Z Z O Z (fun w γ => f347 n τ0 (γ.q 0 Z) a4 a6 (i6 ((i : Nat) : Int))) fun ab => ?_
 refine yKA 27 ?_ ?_ <;> intro h3
 refine KV Z Z Z Z Z Z O Z (fun w γ => f261 n τ0 (γ.q 0 Z) a4 (i6 ((i : Nat) : Int)) a5) fun ae => ?_
 have r1 := (okl a4).1
 have r2 := i8 a6
 have r3 := i8 a5
 have r4 := i8 a9
 refine SA ?_
 refine yKE 35 ?_ ?_ <;> intro h4 ac
 refine yB fun p2 => ?_
 refine zT (α := Int) [] 2 ((i : Nat) : Int) () fun a8 => ?_
 refine zP 10 38 ((a0 ++ [((i : Nat) : Int)]) : List Int).length a8 fun p3 c1 => ?_
 refine zV [1, 2] 3 ?_
 refine SA ?_
 refine zU [3] 1 ?_
 exact ITr Z (p3, c1, _, ((a0 ++ [((i : Nat) : Int)]) : List Int), i + 1) ⟨τ0, (aeb v2 (all_cons (α := Int) (i6 ((i : Nat) : Int)) nA)), τ2, (by rw [v4, show 6 - i = (6 - (i + 1)) + 1 by omega]; simp only [a3y, h2, h3, h4, cT, cF])⟩ τ1 [0, 1]
 refine SA ?_
 exact ITr Z (a3, a2, a1, (a0 : List Int), i + 1) ⟨τ0, v2, τ2, (by rw [v4, show 6 - i = (6 - (i + 1)) + 1 by omega]; simp only [a3y, h2, h3, h4, cT, cF])⟩ τ1 [0, 1]
 refine SA ?_
 exact ITr Z (a3, a2, a1, (a0 : List Int), i + 1) ⟨τ0, v2, τ2, (by rw [v4, show 6 - i = (6 - (i + 1)) + 1 by omega]; simp only [a3y, h2, h3, cT, cF])⟩ τ1 [0, 1]
 have a7 := v4.trans (show _ = (a0 : List Int) by rw [show 6 - i = (6 - (i + 1)) + 1 by omega]; simp only [a3y, h2, cT, cF])
 refine yE 10 1 4 ?_
 rw [show a2d l a b = a0 by simp only [a2d, a7, cT, cF]]
 exact zX [5] (a3, a2) (ada τ0 v2 : ok n (a0 : List Int))
 have aa := v4.trans (show _ = (a0 : List Int) by rw [show 6 - i = 0 by omega]; simp only [a3y, cT, cF])
 refine yE 10 1 6 ?_
 rw [show a2d l a b = a0 by simp only [a2d, aa, cT, cF]]
 exact zX [7] (a3, a2) (ada τ0 v2 : ok n (a0 : List Int))
theorem f16 (hn : n + 0 ≤ 9) {l : List Advertisement} (N0 : Rd w K0 M0 l) {a : Int} (a4 : ok n l) (a5 : ok n a) :
 DP 16 #[vS K0 l M0, vI a] w (pS w n (a17 l a)) := by
 have hb := bS0 hn
 refine EN Tryz.func16 Z (aS1 N0) ?_
 refine yB fun p1 => ?_
 refine KF Z 1 Z Z Z Z Z O Z (fun w γ => f63 n τ0 (γ.q 0 Z) a4 a5) ?_
 rintro ⟨p2, c1⟩ a7
 have q1 := app l a
 refine F0 3 Int ?_
 have r1 := (okl a4).1
 have r2 := i8 a5
 have r3 := (okl a7).1
 refine LM Z (p1, 0, [], ([] : List Int), 0) (fun | (a3, a2, a0, a1, i) => ((i ≤ ((a1g l a)).length) ∧ JE n a1 ∧ (a1.length ≤ i) ∧ (a2j (a1g l a) 0 ([] : List Int) = a2j (((a1g l a)).drop i) i a1), ((a1g l a)).length - i, [(5, .v (vS a3 a1 a2)), (13, .v (vI i))], [], [(8, ⟨1, a3, a1.length, a2, a0⟩)], [(3, MF.ol a0 (a1 : List Int))])) ⟨zl, nA, τ7, Z⟩ [12, 11] [] [0, 2] [0, 2, 3] ?_
 rintro ⟨a3, a2, a0, a1, i⟩ ⟨v1, v2, v3, v4⟩
 refine yKD 14 ?_ ?_ <;> intro h1 ae
 have a8 : i < ((a1g l a)).length := τ0
 obtain ⟨e1, a6⟩ := gE a8
 have ac := okE a7 a6
 refine zW 4 2 ?_
 refine yI 4 i a8 ?_
 rintro ab rfl
 refine zL 4 5 e1 a6 ?_
 rintro ⟨⟩
 refine yKD 19 ?_ ?_ <;> intro h2 ad
 refine yB fun p3 => ?_
 refine zT (α := Int) [] 5 ((i : Nat) : Int) () fun aa => ?_
 refine zP 8 22 ((a1 ++ [((i : Nat) : Int)]) : List Int).length aa fun p4 c2 => ?_
 refine zV [3, 5] 6 ?_
 refine SA ?_
 refine zU [6] 3 ?_
 exact ITr Z (p4, c2, _, ((a1 ++ [((i : Nat) : Int)]) : List Int), i + 1) ⟨τ0, (aeb v2 (all_cons (α := Int) (i6 ((i : Nat) : Int)) nA)), τ2, (by rw [v4, acx a6]; simp only [a2j, h2, cT, cF])⟩ τ1 [0, 2, 3]
 refine SA ?_
 exact ITr Z (a3, a2, a0, (a1 : List Int), i + 1) ⟨τ0, v2, τ2, (by rw [v4, acx a6]; simp only [a2j, h2, cT, cF])⟩ τ1 [0, 2, 3]
 have a9 := v4.trans (show _ = (a1 : List Int) by rw [dn (show ((a1g l a)).length ≤ i by omega)]; simp only [a2j, cT, cF])
 refine yE 8 3 7 ?_
 rw [show a17 l a = a1 by simp only [a17, a9, cT, cF]]
 exact zX [8] (a3, a2) (ada τ0 v2 : ok n (a1 : List Int))
theorem f258 (hn : n + 0 ≤ 9) {l : List Advertisement} (N0 : Rd w K0 M0 l) {a : Int} (a4 : ok n l) (a5 : ok n a) :
 DP 258 #[vS K0 l M0, vI a] w (pS w n (a2e l a)) := by
 have hb := bS0 hn
 refine EN Tryz.func258 Z (aS1 N0) ?_
 refine yB fun p1 => ?_
 refine KF Z 1 Z Z Z Z Z O Z (fun w γ => f346 n τ0 (γ.q 0 Z) a4 a5) ?_
 rintro ⟨p2, c1⟩ a7
 have q1 := akk l a
 refine F0 3 Int ?_
 have r1 := (okl a4).1
 have r2 := i8 a5
 have r3 := (okl a7).1
 refine LM Z (p1, 0, [], ([] : List Int), 0) (fun | (a3, a2, a0, a1, i) => ((i ≤ ((a1n l a)).length) ∧ JE n a1 ∧ (a1.length ≤ i) ∧ (a5j (a1n l a) 0 ([] : List Int) = a5j (((a1n l a)).drop i) i a1), ((a1n l a)).length - i, [(5, .v (vS a3 a1 a2)), (7, .v (vI i))], [], [(8, ⟨1, a3, a1.length, a2, a0⟩)], [(3, MF.ol a0 (a1 : List Int))])) ⟨zl, nA, τ7, Z⟩ [6] [] [0, 2] [0, 2, 3] ?_
 rintro ⟨a3, a2, a0, a1, i⟩ ⟨v1, v2, v3, v4⟩
 refine yKD 15 ?_ ?_ <;> intro h1 ae
 have a8 : i < ((a1n l a)).length := τ0
 obtain ⟨e1, a6⟩ := gE a8
 have ac := okE a7 a6
 refine zW 4 2 ?_
 refine yI 4 i a8 ?_
 rintro ab rfl
 refine zL 4 5 e1 a6 ?_
 rintro ⟨⟩
 refine yKD 22 ?_ ?_ <;> intro h2 ad
 refine yB fun p3 => ?_
 refine zT (α := Int) [] 5 ((i : Nat) : Int) () fun aa => ?_
 refine zP 8 25 ((a1 ++ [((i : Nat) : Int)]) : List Int).length aa fun p4 c2 => ?_
 refine zV [3, 5] 6 ?_
 refine SA ?_
 refine zU [6] 3 ?_
 exact ITr Z (p4, c2, _, ((a1 ++ [((i : Nat) : Int)]) : List Int), i + 1) ⟨τ0, (aeb v2 (all_cons (α := Int) (i6 ((i : Nat) : Int)) nA)), τ2, (by rw [v4, acx a6]; simp only [a5j, h2, cT, cF])⟩ τ1 [0, 2, 3]
 refine SA ?_
 exact ITr Z (a3, a2, a0, (a1 : List Int), i + 1) ⟨τ0, v2, τ2, (by rw [v4, acx a6]; simp only [a5j, h2, cT, cF])⟩ τ1 [0, 2, 3]
 have a9 := v4.trans (show _ = (a1 : List Int) by rw [dn (show ((a1n l a)).length ≤ i by omega)]; simp only [a5j, cT, cF])
 refine yE 8 3 7 ?_
 rw [show a2e l a = a1 by simp only [a2e, a9, cT, cF]]
 exact zX [8] (a3, a2) (ada τ0 v2 : ok n (a1 : List Int))
end Go.Proofs.YtpmejlbgjkiobaaGreat
namespace Go.Stp
def a1o (l : (List Route)) (r : Route) : (List Route) × Bool := bif decide ((a0r l r.pfx r.face) ≥ 0) then match ((a10 l))[((a0r l r.pfx r.face)).toNat]? with | none => default | some e1 => bif (!(a2v ((a10 l).set (((a0r l r.pfx r.face)).toNat) (Route.mk e1.pfx e1.face r.cost)))) then ((a10 l), false) else (((a10 l).set (((a0r l r.pfx r.face)).toNat) (Route.mk e1.pfx e1.face r.cost)), true) else bif (!(a2v ((a10 l) ++ [(Route.mk (a0f r.pfx) r.face r.cost)]))) then ((a10 l), false) else (((a10 l) ++ [(Route.mk (a0f r.pfx) r.face r.cost)]), true)
def a1t (l : (List Route)) (r : Route) : (List Route) × Bool := bif decide ((a0p l r.pfx r.face) ≥ 0) then match ((a11 l))[((a0p l r.pfx r.face)).toNat]? with | none => default | some e1 => bif (!(a3u ((a11 l).set (((a0p l r.pfx r.face)).toNat) (Route.mk e1.pfx e1.face r.cost)))) then ((a11 l), false) else (((a11 l).set (((a0p l r.pfx r.face)).toNat) (Route.mk e1.pfx e1.face r.cost)), true) else bif (!(a3u ((a11 l) ++ [(Route.mk (a0g r.pfx) r.face r.cost)]))) then ((a11 l), false) else (((a11 l) ++ [(Route.mk (a0g r.pfx) r.face r.cost)]), true)
def pfxL (l : List Advertisement) (k : Int) : Nat := match l[k.toNat]? with | some e => e.prefixes.length | none => 0
theorem avf {l : List Advertisement} {k : Int} {e : Advertisement} (h : l[k.toNat]? = some e) : pfxL l k = e.prefixes.length := by
 unfold pfxL; rw [h]
theorem aun {l : List Route} (h : a2v l = true) : l.length ≤ 24 := by
 unfold a2v at h
 split at h
 ·rename_i r e
  have : ∀ (q : List Route) (i : Nat), a3e l q i ≠ some true := fun q => by
   induction q with
   | nil => intro i; simp [a3e]
   | cons x q ih =>
    intro i
    simp only [a3e]
    cases (!(a5a x.pfx)) <;> cases (!(a0u x.face 1 6)) <;> cases (!(a0u x.cost 0 1000)) <;> cases decide ((a0r (List.take i l) x.pfx x.face) ≥ 0) <;> simp [ih]
  exact absurd (e.trans (by rw [h])) (this _ _)
 ·have := of_decide_eq_true h; omega
theorem axh {l : List Route} (h : a3u l = true) : l.length ≤ 24 := by
 unfold a3u at h
 split at h
 ·rename_i r e
  have : ∀ (q : List Route) (i : Nat), a3f l q i ≠ some true := fun q => by
   induction q with
   | nil => intro i; simp [a3f]
   | cons x q ih =>
    intro i
    simp only [a3f]
    cases (!(a5b x.pfx)) <;> cases (!(a0j x.face 1 6)) <;> cases (!(a0j x.cost 0 1000)) <;> cases decide ((a0p (List.take i l) x.pfx x.face) ≥ 0) <;> simp [ih]
  exact absurd (e.trans (by rw [h])) (this _ _)
 ·have := of_decide_eq_true h; omega
theorem okR {n : Nat} {a b : Route} (ha : GoT.ok n a) (hb : GoT.ok n b) : GoT.ok n (Route.mk a.pfx a.face b.cost) := ⟨(adn ha).1, (adn ha).2.1, (adn hb).2.2⟩
theorem akm {n : Nat} {l : List Route} {r : Route} (hl : GoT.ok n l) (hr : GoT.ok n r) : GoT.ok n (a1o l r).1 := by
 have hb := ao5 n
 unfold a1o
 rw [aj6]
 cases decide (a0r l r.pfx r.face ≥ 0)
 ·rw [cond_false]
  cases hv : a2v (l ++ [(Route.mk (a0f r.pfx) r.face r.cost)])
  ·exact hl
  ·have := aun hv
   exact ada (show (l ++ [(Route.mk (a0f r.pfx) r.face r.cost)]).length ≤ _ by omega) (ata (okl hl).2 hr)
 ·rw [cond_true]
  split
  ·exact adf
  ·rename_i e he
   cases hv : a2v (l.set (a0r l r.pfx r.face).toNat (Route.mk e.pfx e.face r.cost))
   ·exact hl
   ·exact ada (show (l.set _ _).length ≤ _ by rw [List.length_set]; exact (okl hl).1) (aef (okl hl).2 (okR ((okl hl).2 e (List.mem_of_getElem? he)) hr))
theorem al3 {n : Nat} {l : List Route} {r : Route} (hl : GoT.ok n l) (hr : GoT.ok n r) : GoT.ok n (a1t l r).1 := by
 have hb := ao5 n
 unfold a1t
 rw [akb]
 cases decide (a0p l r.pfx r.face ≥ 0)
 ·rw [cond_false]
  cases hv : a3u (l ++ [(Route.mk (a0g r.pfx) r.face r.cost)])
  ·exact hl
  ·have := axh hv
   exact ada (show (l ++ [(Route.mk (a0g r.pfx) r.face r.cost)]).length ≤ _ by omega) (ata (okl hl).2 hr)
 ·rw [cond_true]
  split
  ·exact adf
  ·rename_i e he
   cases hv : a3u (l.set (a0p l r.pfx r.face).toNat (Route.mk e.pfx e.face r.cost))
   ·exact hl
   ·exact ada (show (l.set _ _).length ≤ _ by rw [List.length_set]; exact (okl hl).1) (aef (okl hl).2 (okR ((okl hl).2 e (List.mem_of_getElem? he)) hr))
theorem ax3 {n : Nat} {l : List Advertisement} (h : GoT.ok n l) (k : Int) : pfxL l k ≤ bd n := by
 unfold pfxL
 split
 ·rename_i e he
  exact (okl (afd ((okl h).2 e (List.mem_of_getElem? he))).2.2.2).1
 ·exact Nat.zero_le _
theorem vtJ (n_ : Topology) : ∀ (l : List Link) (i : Nat), NT (a2h n_ l i)
 | [], i => .no
 | x :: l, i => by
  have ih := vtJ n_ l (i + 1)
  simp only [a2h]
  refine ntc .sf (ntc .sf (ntc ?_ ih))
  cases (n_.links)[(((i : Nat) : Int) - 1).toNat]? with
  | none => exact .no
  | some e2 => exact ntc .sf ih
theorem ast {n_ : Topology} (h : a3s n_ = true) : n_.size.toNat ≤ 6 := by
 unfold a3s at h
 rcases vtJ n_ n_.links 0 with h1 | h1
 ·rw [h1] at h
  dsimp only at h
  unfold a0u at h
  cases hd : decide (1 ≤ n_.size)
  ·rw [hd] at h; cases h
  ·rw [hd] at h
   have := of_decide_eq_true h
   omega
 ·rw [h1] at h; cases h
theorem apx {n_ : Topology} (h : a3c n_ = true) : n_.size.toNat ≤ 6 := by
 unfold a3c at h
 rcases vtN n_ n_.links 0 with h1 | h1
 ·rw [h1] at h
  dsimp only at h
  unfold a0j at h
  cases hd : decide (n_.size ≥ 1)
  ·rw [hd] at h; cases h
  ·rw [hd] at h
   have := of_decide_eq_true h
   omega
 ·rw [h1] at h; cases h
def a22 (n_ : Topology) (a : Int) (b : Int) : Int := (i64.wrap ((aet (a4t n_ a) b) + 1))
def a6r (b : Int) : List Int → Nat → Option (Int) | [], i => none | e1 :: rest_, i => bif (e1 == b) then (some (((i : Nat) : Int) + 1)) else a6r b rest_ (i + 1)
def a15 (n_ : Topology) (a : Int) (b : Int) : Int := match a6r b (a19 n_ a) 0 with | some r_ => r_ | none => 0
def a2f (n_ : Topology) (l : (List Advertisement)) (a : Int) (e1 : Int) (e3 : Name) : List Int → (List Route) → (List Route) | [], out3 => ((out3) : List Route) | e4 :: rest_, out3 => bif ((a22 n_ a e4) != 0) then bif decide ((a0r out3 e3 (a22 n_ a e4)) < 0) then a2f n_ l a e1 e3 rest_ (((a1o out3 (Route.mk e3 (a22 n_ a e4) (a1s l a e1))).1) : List Route) else match (out3)[((a0r out3 e3 (a22 n_ a e4))).toNat]? with | none => default | some e5 => bif decide (e5.cost > (a1s l a e1)) then a2f n_ l a e1 e3 rest_ (((a1o out3 (Route.mk e3 (a22 n_ a e4) (a1s l a e1))).1) : List Route) else a2f n_ l a e1 e3 rest_ ((out3) : List Route) else a2f n_ l a e1 e3 rest_ ((out3) : List Route)
def a4y (n_ : Topology) (l : (List Advertisement)) (a : Int) (e1 : Int) : List Name → (List Route) → (List Route) | [], out2 => ((out2) : List Route) | e3 :: rest_, out2 => match a2f n_ l a e1 e3 (a3i l a e1) (out2 : List Route) with | out3 => a4y n_ l a e1 rest_ ((out3) : List Route)
def a2y (n_ : Topology) (l : (List Advertisement)) (a : Int) : List Int → (List Route) → (List Route) | [], out => ((out) : List Route) | e1 :: rest_, out => bif (e1 == a) then a2y n_ l a rest_ ((out) : List Route) else match (l)[((a0t l e1)).toNat]? with | none => default | some e2 => match a4y n_ l a e1 e2.prefixes (out : List Route) with | out2 => a2y n_ l a rest_ ((out2) : List Route)
def a2k (n_ : Topology) (l : (List Advertisement)) (a : Int) : (List Route) := match a2y n_ l a (a17 l a) ([] : List Route) with | out => out
def a3j (n_ : Topology) (l : (List Advertisement)) (a : Int) (e1 : Int) (e2 : Advertisement) (i2 : Nat) : List Int → (List Route) → (List Route) | [], out3 => ((out3) : List Route) | e3 :: rest_, out3 => match (e2.prefixes)[i2]? with | none => default | some e4 => bif decide ((a15 n_ a e3) > 0) then bif decide ((a0p out3 e4 (a15 n_ a e3)) < 0) then a3j n_ l a e1 e2 i2 rest_ (((a1t out3 (Route.mk e4 (a15 n_ a e3) (a1c l a e1))).1) : List Route) else match (out3)[((a0p out3 e4 (a15 n_ a e3))).toNat]? with | none => default | some e5 => bif decide (e5.cost > (a1c l a e1)) then a3j n_ l a e1 e2 i2 rest_ (((a1t out3 (Route.mk e4 (a15 n_ a e3) (a1c l a e1))).1) : List Route) else a3j n_ l a e1 e2 i2 rest_ ((out3) : List Route) else a3j n_ l a e1 e2 i2 rest_ ((out3) : List Route)
def a5k (n_ : Topology) (l : (List Advertisement)) (a : Int) (e1 : Int) (i2 : Nat) (out2 : List Route) : Nat × (List Route) := if i2 ≤ pfxL l (a0e l e1) then match (l)[((a0e l e1)).toNat]? with | none => default | some e2 => if ((i2 : Nat) : Int) < (((e2.prefixes).length : Nat) : Int) then if (e1 != a) = true then match a3j n_ l a e1 e2 i2 (a2d l a e1) (out2 : List Route) with | out3 => a5k n_ l a e1 (i2 + 1) ((out3) : List Route) else (i2, ((out2) : List Route)) else (i2, ((out2) : List Route)) else default
termination_by pfxL l (a0e l e1) + 1 - i2
decreasing_by all_goals (simp_wf; omega)
def a6s (n_ : Topology) (l : (List Advertisement)) (a : Int) : List Int → (List Route) → (List Route) | [], out => ((out) : List Route) | e1 :: rest_, out => match a5k n_ l a e1 0 (out : List Route) with | (i2, out2) => a6s n_ l a rest_ ((out2) : List Route)
def a3z (n_ : Topology) (l : (List Advertisement)) (a : Int) : (List Route) := match a6s n_ l a (a2e l a) ([] : List Route) with | out => out
def a27 (i : Nat) : List TableEntry → (List Name) → (List Name) | [], x_ => ((x_) : List Name) | e1 :: rest_, x_ => bif (e1.value == ((i : Nat) : Int)) then bif decide ((((x_).length : Nat) : Int) < 4) then a27 i rest_ (((x_ ++ [(a0f e1.name)])) : List Name) else a27 i rest_ ((x_) : List Name) else a27 i rest_ ((x_) : List Name)
def a4z (n_ : Topology) (producers : (List TableEntry)) (version : Int) : Nat → Nat → (List Advertisement) → (List Advertisement) | 0, i, out => ((out) : List Advertisement) | m_ + 1, i, out => match a27 i producers ([] : List Name) with | x_ => a4z n_ producers version m_ (i + 1) (((out ++ [(Advertisement.mk ((i : Nat) : Int) version (a4t n_ ((i : Nat) : Int)) x_)])) : List Advertisement)
def a1h (n_ : Topology) (producers : (List TableEntry)) (version : Int) : (List Advertisement) := bif (!(a3s n_)) then ([] : List Advertisement) else bif (!(a0u version 1 1000)) then ([] : List Advertisement) else match a4z n_ producers version ((n_.size).toNat) 0 ([] : List Advertisement) with | out => out
def a4c (i : Nat) : List TableEntry → (List Name) → (List Name) | [], x_ => ((x_) : List Name) | e1 :: rest_, x_ => bif decide ((((x_).length : Nat) : Int) < 4) then bif (e1.value == ((i : Nat) : Int)) then a4c i rest_ (((x_ ++ [(a0g e1.name)])) : List Name) else a4c i rest_ ((x_) : List Name) else ((x_) : List Name)
def a6t (n_ : Topology) (names : (List TableEntry)) (ver : Int) : Nat → Nat → (List Advertisement) → (List Advertisement) | 0, i, out => ((out) : List Advertisement) | m_ + 1, i, out => match a4c i names ([] : List Name) with | x_ => a6t n_ names ver m_ (i + 1) (((out ++ [(Advertisement.mk ((i : Nat) : Int) ver (a19 n_ ((i : Nat) : Int)) x_)])) : List Advertisement)
def a28 (n_ : Topology) (names : (List TableEntry)) (ver : Int) : (List Advertisement) := bif (!(a3c n_)) then ([]) else bif (!(a0j ver 1 1000)) then ([]) else match a6t n_ names ver ((n_.size).toNat) 0 ([] : List Advertisement) with | out => out
end Go.Stp
