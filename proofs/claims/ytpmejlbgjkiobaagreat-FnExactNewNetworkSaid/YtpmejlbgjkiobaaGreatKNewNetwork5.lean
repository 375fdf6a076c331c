/-
  What the proof of one law needs: rules of the program logic, functions as Lean functions, contracts. No condition but what each says. Written by a program (pack.py) out of my own texts.
-/
import Derived.Test.YtpmejlbgjkiobaaGreatKNewNetwork4
open Go.IntKind (i64)
set_option linter.unusedVariables false
set_option linter.unusedSimpArgs false
namespace Go.Proofs.YtpmejlbgjkiobaaGreat
open Go.Stp
open Go.Stp.GoT (ok)
variable {w : World} (n : Nat) {K0 K1 K2 K3 K4 K5 K6 K7 K8 K9 : Option Addr} {M0 M1 M2 M3 M4 M5 M6 M7 M8 M9 : Nat}
theorem f210 (hn : n + 0 ≤ 9) {k : Int} (a2 : ok n k) :
 DP 210 #[vI k] w (pT n (a53 k)) := by
 have hb := bS0 hn
 refine EN Tryz.func210 Z adc ?_
 refine yKD 5 ?_ ?_ <;> intro h1 a5
 rw [show a53 k = (⟨#[109, 48]⟩ : Str) by simp only [a53, h1, cT, cF]]
 exact R6r Z Z (Nat.le_trans τ8 (ao5 n))
 have r1 : (⟨#[]⟩ : Str).size = 0 := rfl
 refine LM Z (k, (⟨#[]⟩ : Str)) (fun | (k2, a0) => (J6 k2 ∧ (a0.size ≤ bd n) ∧ (auv k2 a0.size) ∧ (abr k (⟨#[]⟩ : Str) = abr k2 a0), k2.toNat, [(0, .v (vI k2)), (3, .v (.string a0))], [], [], [])) ⟨a2, τ3, (ax1 a2.2), Z⟩ [] [] [] [] ?_
 rintro ⟨k2, a0⟩ ⟨v1, v2, v3, v4⟩
 have a7 := apf v3
 refine yKD 7 ?_ ?_ <;> intro h2 a1
 have r2 := ali k2 (show (0 : Int) < 10 by omega)
 refine KS Z Z Z Z (fun _ hΓ => aiw Z Z Z τ8) ?_
 refine SW0 ?_
 refine WX.see Z Z Z (fun _ hΓ => aln ttOk Z Z Z Z Z Z) ?_
 refine zB fun p1 => ?_
 refine zT (α := UInt8) [] 0 (toU8 (i64.wrap (48 + (Int.tmod k2 10)))) () fun _ => ?_
 refine zE 12 0 1 ?_
 refine WX.see Z Z Z (fun _ hΓ => asf ttOk (hΓ.get 1 Z) Z Z Z Z Z Z Z Z Z) ?_
 have r3 : (bstr ([(toU8 (i64.wrap (48 + (Int.tmod k2 10))))])).size = 1 := av7 _
 refine KS Z Z Z Z (fun _ hΓ => arc Z Z Z (by have := axg (n + 9); simp; omega)) ?_
 refine KS Z Z Z Z (fun _ hΓ => avk Z Z Z τ8) ?_
 have a4 : (bstr ([(toU8 (i64.wrap (48 + (Int.tmod k2 10))))]) ++ a0).size = a0.size + 1 := by rw [ByteArray.size_append]; show 1 + a0.size = a0.size + 1; omega
 have a6 := apf (apd a1 v3)
 exact ITr Z (i64.wrap (Int.tdiv k2 10), ((bstr ([(toU8 (i64.wrap (48 + (Int.tmod k2 10))))])) ++ a0)) ⟨(ad3 _), τ2, (by rw [a4]; exact apd a1 v3), (by rw [v4]; rw [abr]; simp only [h2, a1, cT, cF, ↓reduceIte, Bool.false_eq_true])⟩ (apj a1) []
 have a3 := v4.trans (show _ = (k2, a0) by rw [abr]; simp only [h2, a1, cT, cF, ↓reduceIte, Bool.false_eq_true])
 have r4 : (⟨#[109]⟩ : Str).size = 1 := rfl
 refine KS Z Z Z Z (fun _ hΓ => arc Z Z Z (by have := axg (n + 9); simp; omega)) ?_
 rw [show a53 k = ((⟨#[109]⟩ : Str) ++ a0) by simp only [a53, h1, a3, cT, cF]]
 exact R6r Z Z (show (((⟨#[109]⟩ : Str) ++ a0)).size ≤ bd n from τ6)
theorem f98 (hn : n + 0 ≤ 9) (a : (List Link)) (K0 : Option Addr) (M0 : Nat) {k : Int} {H : GH} (hH : Le H (hp w)) (hown : Sep H (GoT.oa a (K0, M0))) (a1 : ok n a) (a4 : ok n k) :
 Does Tryz.prog 98 #[vS K0 a M0, vI k] w H (Post w H (fun _ : Unit => .int .i64 ((a2n a k).1)) (fun _ => GoT.oa ((a2n a k).2 : (List Link)) (K0, M0)) ((ok n ((a2n a k).1 : Int) ∧ ok n ((a2n a k).2 : (List Link))) ∧ ((a2n a k).2).length = (a).length)) := by
 have hb := bS0 hn
 refine WX.enterM (tt := tt) (Γ := []) 1 Tryz.func98 Z J Z adc hH hown (fun f hf => GoT.oak f hf) Z ?_
 refine zN (kk := 2) 501 1 2 fun aa ad => ?_
 have r1 := (okl a1).1
 refine LM Z (aa, (a : List Link), k, 0) (fun | (a0, a2, k2, i) => ((i ≤ a.length) ∧ (a2.length = a.length) ∧ JE n a2 ∧ J6 k2 ∧ (a8l (a.length) 0 (a : List Link) k = a8l (a.length - i) i a2 k2), a.length - i, [(1, .v (vI k2)), (5, .v (vI i))], [], [(501, ⟨2, K0, a.length, M0, a0⟩)], [(2, MF.ol a0 (a2 : List Link))])) ⟨zl, τ5, (okl a1).2, a4, Z⟩ [0] [] [] [2] ?_
 rintro ⟨a0, a2, k2, i⟩ ⟨v1, v2, v3, v4, v5⟩
 refine yKD 9 ?_ ?_ <;> intro h1 ag
 have a5 : i < a.length := τ3
 refine R0 ?_
 refine zR 501 i a5 ?_
 rintro ab rfl
 have a7 : i < a2.length := τ3
 obtain ⟨e1, a3⟩ := gE a7
 have ac : ok n e1 := v3 _ (List.mem_of_getElem? a3)
 refine R0 ?_
 refine zO (α := Link) (e := e1) 501 2 3 i a3 ?_
 rintro A1 B1 ⟨⟨⟩, ⟨⟩⟩ a6 af
 refine zS 501 a6 a5 ?_
 refine SW ?_
 have a8 : i < a.length := τ3
 refine R0 ?_
 refine zR 501 i a8 ?_
 rintro ae ⟨⟩
 refine R0 ?_
 refine zS 501 a6 a8 ?_
 refine SW ?_
 refine SA ?_
 refine R0 ?_
 refine WX.turn [3, 4] 5 Z (fun h hs => aej (α := Link) (e := (Link.mk k2 (i64.wrap (k2 + 1)))) (x := ((), ())) a7 hs) Z ?_
 refine zU [5] 2 ?_
 exact IT (_, ((a2.set i (Link.mk k2 (i64.wrap (k2 + 1)))) : List Link), i64.wrap ((i64.wrap (k2 + 1)) + 1), i + 1) ⟨τ0, τ2, (aef v3 (show ok n ((Link.mk k2 (i64.wrap (k2 + 1))) : Link) from (An v4 (ad3 _)))), (ad3 _), (by rw [v5, show a.length - i = (a.length - (i + 1)) + 1 by omega]; simp only [a8l, a3, cT, cF])⟩ τ1 [2]
 have a9 := v5.trans (show _ = ((a2 : List Link), k2) by rw [show a.length - i = 0 by omega]; simp only [a8l, cT, cF])
 refine yE 501 2 6 (hn := (show a.length = a2.length from by omega)) ?_
 refine SL 7 a2.length ?_
 refine SL 0 a2.length ?_
 rw [show a2n a k = (k2, a2) by simp only [a2n, a9, cT, cF]]
 exact zX [7] () ⟨⟨v4, (ada τ0 v3 : ok n (a2 : List Link))⟩, (show a2.length = a.length from by omega)⟩
theorem f31 (hn : n + 0 ≤ 9) (a : Topology) (K0 : Option Addr) (M0 : Nat) {k : Int} {H : GH} (hH : Le H (hp w)) (hown : Sep H (GoT.oa a ((), (K0, M0)))) (a0 : ok n a) (a1 : ok n k) :
 Does Tryz.prog 31 #[aeq a K0 M0, vI k] w H (Post w H (fun _ : Unit => .int .i64 ((a08 a k).1)) (fun _ => GoT.oa ((a08 a k).2 : Topology) ((), (K0, M0))) ((ok n ((a08 a k).1 : Int) ∧ ok n ((a08 a k).2 : Topology)) ∧ (a08 a k).2.size = a.size ∧ ((a08 a k).2.links).length = (a.links).length)) := by
 have hb := bS0 hn
 refine WX.enterM (tt := tt) (Γ := []) 1 Tryz.func31 Z J Z adc hH hown (fun f hf => GoT.oak f hf) Z ?_
 refine R0 ?_
 refine CN [1] 2 Z Z Z Z Z Z O Z (fun w β H η σ γ => f98 n τ0 a.links K0 M0 η σ ((ad0 a0).2) a1) ?_
 rintro ⟨⟩ a2
 have a3 : ((a2n a.links k).2).length = a.links.length := a2.2
 rw [show a08 a k = ((a2n a.links k).1, Topology.mk a.size ((a2n a.links k).2)) by simp only [a08, cT, cF]]
 exact yX [3] () ⟨⟨a2.1.1, (An (ad0 a0).1 a2.1.2)⟩, ⟨Z, (show ((a2n a.links k).2).length = a.links.length from by omega)⟩⟩
theorem f103 (hn : n + 0 ≤ 9) (a : (List Str)) (K0 : Option Addr) (M0 : Nat) {k : Int} {H : GH} (hH : Le H (hp w)) (hown : Sep H (GoT.oa a (K0, M0))) (a1 : ok n a) (a4 : ok n k) :
 Does Tryz.prog 103 #[vS K0 a M0, vI k] w H (Post w H (fun _ : Unit => .int .i64 ((a00 a k).1)) (fun _ => GoT.oa ((a00 a k).2 : (List Str)) (K0, M0)) ((ok n ((a00 a k).1 : Int) ∧ ok n ((a00 a k).2 : (List Str))) ∧ ((a00 a k).2).length = (a).length)) := by
 have hb := bS0 hn
 refine WX.enterM (tt := tt) (Γ := []) 1 Tryz.func103 Z J Z adc hH hown (fun f hf => GoT.oak f hf) Z ?_
 refine zN (kk := 1) 501 1 2 fun aa ad => ?_
 have r1 := (okl a1).1
 refine LM Z (aa, (a : List Str), k, 0) (fun | (a0, a2, k2, i) => ((i ≤ a.length) ∧ (a2.length = a.length) ∧ JE n a2 ∧ J6 k2 ∧ (a8m (a.length) 0 (a : List Str) k = a8m (a.length - i) i a2 k2), a.length - i, [(1, .v (vI k2)), (5, .v (vI i))], [], [(501, ⟨1, K0, a.length, M0, a0⟩)], [(2, MF.ol a0 (a2 : List Str))])) ⟨zl, τ5, (okl a1).2, a4, Z⟩ [0] [] [] [2] ?_
 rintro ⟨a0, a2, k2, i⟩ ⟨v1, v2, v3, v4, v5⟩
 refine yKD 9 ?_ ?_ <;> intro h1 af
 refine KV Z Z Z Z Z Z O Z (fun w γ => f210 n τ0 v4) fun a8 => ?_
 have a5 : i < a.length := τ3
 refine zR 501 i a5 ?_
 rintro ab rfl
 have a6 : i < a2.length := τ3
 obtain ⟨e1, a3⟩ := gE a6
 have ac : ok n e1 := v3 _ (List.mem_of_getElem? a3)
 refine zO (α := Str) (e := e1) 501 2 3 i a3 ?_
 rintro A1 B1 ⟨⟩ a9 ae
 refine zS 501 a9 a5 ?_
 refine SW ?_
 refine SA ?_
 refine R0 ?_
 refine WX.turn [3, 4] 5 Z (fun h hs => aej (α := Str) (e := (a53 k2)) (x := ()) a6 hs) Z ?_
 refine zU [5] 2 ?_
 exact IT (_, ((a2.set i (a53 k2)) : List Str), i64.wrap (k2 + 1), i + 1) ⟨τ0, τ2, (aef v3 (show ok n ((a53 k2) : Str) from a8)), (ad3 _), (by rw [v5, show a.length - i = (a.length - (i + 1)) + 1 by omega]; simp only [a8m, a3, cT, cF])⟩ τ1 [2]
 have a7 := v5.trans (show _ = ((a2 : List Str), k2) by rw [show a.length - i = 0 by omega]; simp only [a8m, cT, cF])
 refine yE 501 2 6 (hn := (show a.length = a2.length from by omega)) ?_
 refine SL 7 a2.length ?_
 refine SL 0 a2.length ?_
 rw [show a00 a k = (k2, a2) by simp only [a00, a7, cT, cF]]
 exact zX [7] () ⟨⟨v4, (ada τ0 v3 : ok n (a2 : List Str))⟩, (show a2.length = a.length from by omega)⟩
theorem f99 (hn : n + 0 ≤ 9) (a : (List Key)) (K0 : Option Addr) (M0 : Nat) {k : Int} {H : GH} (hH : Le H (hp w)) (hown : Sep H (GoT.oa a (K0, M0))) (a1 : ok n a) (a5 : ok n k) :
 Does Tryz.prog 99 #[vS K0 a M0, vI k] w H (Post w H (fun _ : Unit => .int .i64 ((a12 a k).1)) (fun _ => GoT.oa ((a12 a k).2 : (List Key)) (K0, M0)) ((ok n ((a12 a k).1 : Int) ∧ ok n ((a12 a k).2 : (List Key))) ∧ ((a12 a k).2).length = (a).length)) := by
 have hb := bS0 hn
 refine WX.enterM (tt := tt) (Γ := []) 1 Tryz.func99 Z J Z adc hH hown (fun f hf => GoT.oak f hf) Z ?_
 refine zN (kk := 2) 501 1 2 fun ad af => ?_
 have r1 := (okl a1).1
 refine LM Z (ad, (a : List Key), k, 0) (fun | (a0, a2, k2, i) => ((i ≤ a.length) ∧ (a2.length = a.length) ∧ JE n a2 ∧ J6 k2 ∧ (a8n (a.length) 0 (a : List Key) k = a8n (a.length - i) i a2 k2), a.length - i, [(1, .v (vI k2)), (5, .v (vI i))], [], [(501, ⟨2, K0, a.length, M0, a0⟩)], [(2, MF.ol a0 (a2 : List Key))])) ⟨zl, τ5, (okl a1).2, a5, Z⟩ [0] [] [] [2] ?_
 rintro ⟨a0, a2, k2, i⟩ ⟨v1, v2, v3, v4, v5⟩
 refine yKD 9 ?_ ?_ <;> intro h1 ai
 have a6 : i < a.length := τ3
 refine R0 ?_
 refine zR 501 i a6 ?_
 rintro ae rfl
 have a8 : i < a2.length := τ3
 obtain ⟨e1, a4⟩ := gE a8
 have ab : ok n e1 := v3 _ (List.mem_of_getElem? a4)
 refine R0 ?_
 refine zO (α := Key) (e := e1) 501 2 3 i a4 ?_
 rintro A1 B1 ⟨⟨p1, c1⟩, ⟨⟩⟩ a7 ah
 refine zA 501 a7 a6 ?_
 refine R0 ?_
 refine CN [4] 7 Z Z Z Z Z Z O Z (fun w β H η σ γ => f103 n τ0 e1.name.parts p1 c1 η σ (ae4 (ag3 ab).1) v4) ?_
 rintro ⟨⟩ a3
 have ac : ((a00 e1.name.parts k2).2).length = e1.name.parts.length := a3.2
 have a9 : i < a.length := τ3
 refine R0 ?_
 refine zR 501 i a9 ?_
 rintro ag ⟨⟩
 refine R0 ?_
 refine zS 501 a7 a9 ?_
 refine SW ?_
 refine SA ?_
 refine R0 ?_
 refine WX.turn [8, 5, 6] 9 Z (fun h hs => by have z_ : Sep h [MF.ol (A1 ++ [.slice p1 (((a00 e1.name.parts k2).2).length) c1, .int .i64 ((a00 e1.name.parts k2).1)] ++ B1) _] := aej (α := Key) (e := (Key.mk (Name.mk ((a00 e1.name.parts k2).2)) ((a00 e1.name.parts k2).1))) (x := ((p1, c1), ())) a8 hs; rw [ac] at z_; exact z_) Z ?_
 refine zU [9] 2 ?_
 exact IT (_, ((a2.set i (Key.mk (Name.mk ((a00 e1.name.parts k2).2)) ((a00 e1.name.parts k2).1))) : List Key), i64.wrap (((a00 e1.name.parts k2).1) + 1), i + 1) ⟨τ0, τ2, (aef v3 (show ok n ((Key.mk (Name.mk ((a00 e1.name.parts k2).2)) ((a00 e1.name.parts k2).1)) : Key) from (An a3.1.2 a3.1.1))), (ad3 _), (by rw [v5, show a.length - i = (a.length - (i + 1)) + 1 by omega]; simp only [a8n, a4, cT, cF])⟩ τ1 [2]
 have aa := v5.trans (show _ = ((a2 : List Key), k2) by rw [show a.length - i = 0 by omega]; simp only [a8n, cT, cF])
 refine yE 501 2 10 (hn := (show a.length = a2.length from by omega)) ?_
 refine SL 7 a2.length ?_
 refine SL 0 a2.length ?_
 rw [show a12 a k = (k2, a2) by simp only [a12, aa, cT, cF]]
 exact zX [11] () ⟨⟨v4, (ada τ0 v3 : ok n (a2 : List Key))⟩, (show a2.length = a.length from by omega)⟩
theorem f100 (hn : n + 0 ≤ 9) (a : (List Rule)) (K0 : Option Addr) (M0 : Nat) {k : Int} {H : GH} (hH : Le H (hp w)) (hown : Sep H (GoT.oa a (K0, M0))) (a1 : ok n a) (a6 : ok n k) :
 Does Tryz.prog 100 #[vS K0 a M0, vI k] w H (Post w H (fun _ : Unit => .int .i64 ((a1d a k).1)) (fun _ => GoT.oa ((a1d a k).2 : (List Rule)) (K0, M0)) ((ok n ((a1d a k).1 : Int) ∧ ok n ((a1d a k).2 : (List Rule))) ∧ ((a1d a k).2).length = (a).length)) := by
 have hb := bS0 hn
 refine WX.enterM (tt := tt) (Γ := []) 1 Tryz.func100 Z J Z adc hH hown (fun f hf => GoT.oak f hf) Z ?_
 refine zN (kk := 2) 501 1 2 fun af ah => ?_
 have r1 := (okl a1).1
 refine LM Z (af, (a : List Rule), k, 0) (fun | (a0, a2, k2, i) => ((i ≤ a.length) ∧ (a2.length = a.length) ∧ JE n a2 ∧ J6 k2 ∧ (a8o (a.length) 0 (a : List Rule) k = a8o (a.length - i) i a2 k2), a.length - i, [(1, .v (vI k2)), (5, .v (vI i))], [], [(501, ⟨2, K0, a.length, M0, a0⟩)], [(2, MF.ol a0 (a2 : List Rule))])) ⟨zl, τ5, (okl a1).2, a6, Z⟩ [0] [] [] [2] ?_
 rintro ⟨a0, a2, k2, i⟩ ⟨v1, v2, v3, v4, v5⟩
 refine yKD 9 ?_ ?_ <;> intro h1 ak
 have a7 : i < a.length := τ3
 refine R0 ?_
 refine zR 501 i a7 ?_
 rintro ag rfl
 have a9 : i < a2.length := τ3
 obtain ⟨e1, a5⟩ := gE a9
 have aa : ok n e1 := v3 _ (List.mem_of_getElem? a5)
 refine R0 ?_
 refine zO (α := Rule) (e := e1) 501 2 3 i a5 ?_
 rintro A1 B1 ⟨⟨p1, c1⟩, ⟨p2, c2⟩⟩ a8 aj
 refine zA 501 a8 a7 ?_
 refine R0 ?_
 refine CN [5] 9 Z Z Z Z Z Z O Z (fun w β H η σ γ => f103 n τ0 e1.dataPattern.parts p1 c1 η σ (ad9 (adx aa).1) v4) ?_
 rintro ⟨⟩ a3
 have ae : ((a00 e1.dataPattern.parts k2).2).length = e1.dataPattern.parts.length := a3.2
 have ab : i < a.length := τ3
 refine R0 ?_
 refine zR 501 i ab ?_
 rintro ai ⟨⟩
 refine R0 ?_
 refine zA 501 a8 ab ?_
 refine R0 ?_
 refine CN [6] 11 Z Z Z Z Z Z O Z (fun w β H η σ γ => f103 n τ0 e1.keyPattern.parts p2 c2 η σ (ad9 (adx aa).2) a3.1.1) ?_
 rintro ⟨⟩ a4
 have ad : ((a00 e1.keyPattern.parts ((a00 e1.dataPattern.parts k2).1)).2).length = e1.keyPattern.parts.length := a4.2
 refine SA ?_
 refine R0 ?_
 refine WX.turn [10, 12, 7, 8] 13 Z (fun h hs => by have z_ : Sep h [MF.ol (A1 ++ [.slice p1 (((a00 e1.dataPattern.parts k2).2).length) c1, .slice p2 (((a00 e1.keyPattern.parts ((a00 e1.dataPattern.parts k2).1)).2).length) c2] ++ B1) _] := aej (α := Rule) (e := (Rule.mk (Pattern.mk ((a00 e1.dataPattern.parts k2).2)) (Pattern.mk ((a00 e1.keyPattern.parts ((a00 e1.dataPattern.parts k2).1)).2)))) (x := ((p1, c1), (p2, c2))) a9 hs; rw [ae, ad] at z_; exact z_) Z ?_
 refine zU [13] 2 ?_
 exact IT (_, ((a2.set i (Rule.mk (Pattern.mk ((a00 e1.dataPattern.parts k2).2)) (Pattern.mk ((a00 e1.keyPattern.parts ((a00 e1.dataPattern.parts k2).1)).2)))) : List Rule), (a00 e1.keyPattern.parts ((a00 e1.dataPattern.parts k2).1)).1, i + 1) ⟨τ0, τ2, (aef v3 (show ok n ((Rule.mk (Pattern.mk ((a00 e1.dataPattern.parts k2).2)) (Pattern.mk ((a00 e1.keyPattern.parts ((a00 e1.dataPattern.parts k2).1)).2))) : Rule) from (An a3.1.2 a4.1.2))), a4.1.1, (by rw [v5, show a.length - i = (a.length - (i + 1)) + 1 by omega]; simp only [a8o, a5, cT, cF])⟩ τ1 [2]
 have ac := v5.trans (show _ = ((a2 : List Rule), k2) by rw [show a.length - i = 0 by omega]; simp only [a8o, cT, cF])
 refine yE 501 2 14 (hn := (show a.length = a2.length from by omega)) ?_
 refine SL 7 a2.length ?_
 refine SL 0 a2.length ?_
 rw [show a1d a k = (k2, a2) by simp only [a1d, ac, cT, cF]]
 exact zX [15] () ⟨⟨v4, (ada τ0 v3 : ok n (a2 : List Rule))⟩, (show a2.length = a.length from by omega)⟩
theorem f101 (hn : n + 0 ≤ 9) (a : (List Name)) (K0 : Option Addr) (M0 : Nat) {k : Int} {H : GH} (hH : Le H (hp w)) (hown : Sep H (GoT.oa a (K0, M0))) (a1 : ok n a) (a5 : ok n k) :
 Does Tryz.prog 101 #[vS K0 a M0, vI k] w H (Post w H (fun _ : Unit => .int .i64 ((a1y a k).1)) (fun _ => GoT.oa ((a1y a k).2 : (List Name)) (K0, M0)) ((ok n ((a1y a k).1 : Int) ∧ ok n ((a1y a k).2 : (List Name))) ∧ ((a1y a k).2).length = (a).length)) := by
 have hb := bS0 hn
 refine WX.enterM (tt := tt) (Γ := []) 1 Tryz.func101 Z J Z adc hH hown (fun f hf => GoT.oak f hf) Z ?_
 refine zN (kk := 1) 501 1 2 fun ac ae => ?_
 have r1 := (okl a1).1
 refine LM Z (ac, (a : List Name), k, 0) (fun | (a0, a2, k2, i) => ((i ≤ a.length) ∧ (a2.length = a.length) ∧ JE n a2 ∧ J6 k2 ∧ (a8p (a.length) 0 (a : List Name) k = a8p (a.length - i) i a2 k2), a.length - i, [(1, .v (vI k2)), (5, .v (vI i))], [], [(501, ⟨1, K0, a.length, M0, a0⟩)], [(2, MF.ol a0 (a2 : List Name))])) ⟨zl, τ5, (okl a1).2, a5, Z⟩ [0] [] [] [2] ?_
 rintro ⟨a0, a2, k2, i⟩ ⟨v1, v2, v3, v4, v5⟩
 refine yKD 9 ?_ ?_ <;> intro h1 ag
 have a6 : i < a.length := τ3
 refine R0 ?_
 refine zR 501 i a6 ?_
 rintro ad rfl
 have a7 : i < a2.length := τ3
 obtain ⟨e1, a4⟩ := gE a7
 have aa : ok n e1 := v3 _ (List.mem_of_getElem? a4)
 refine R0 ?_
 refine zO (α := Name) (e := e1) 501 2 3 i a4 ?_
 rintro A1 B1 ⟨p1, c1⟩ a9 af
 refine zA 501 a9 a6 ?_
 refine R0 ?_
 refine CN [4] 7 Z Z Z Z Z Z O Z (fun w β H η σ γ => f103 n τ0 e1.parts p1 c1 η σ (ae4 aa) v4) ?_
 rintro ⟨⟩ a3
 have ab : ((a00 e1.parts k2).2).length = e1.parts.length := a3.2
 refine SA ?_
 refine R0 ?_
 refine WX.turn [8, 5, 6] 9 Z (fun h hs => by have z_ : Sep h [MF.ol (A1 ++ [.slice p1 (((a00 e1.parts k2).2).length) c1] ++ B1) _] := aej (α := Name) (e := (Name.mk ((a00 e1.parts k2).2))) (x := (p1, c1)) a7 hs; rw [ab] at z_; exact z_) Z ?_
 refine zU [9] 2 ?_
 exact IT (_, ((a2.set i (Name.mk ((a00 e1.parts k2).2))) : List Name), (a00 e1.parts k2).1, i + 1) ⟨τ0, τ2, (aef v3 (show ok n ((Name.mk ((a00 e1.parts k2).2)) : Name) from a3.1.2)), a3.1.1, (by rw [v5, show a.length - i = (a.length - (i + 1)) + 1 by omega]; simp only [a8p, a4, cT, cF])⟩ τ1 [2]
 have a8 := v5.trans (show _ = ((a2 : List Name), k2) by rw [show a.length - i = 0 by omega]; simp only [a8p, cT, cF])
 refine yE 501 2 10 (hn := (show a.length = a2.length from by omega)) ?_
 refine SL 7 a2.length ?_
 refine SL 0 a2.length ?_
 rw [show a1y a k = (k2, a2) by simp only [a1y, a8, cT, cF]]
 exact zX [11] () ⟨⟨v4, (ada τ0 v3 : ok n (a2 : List Name))⟩, (show a2.length = a.length from by omega)⟩
theorem f209 (hn : n + 0 ≤ 9) (a : (List UInt8)) (K0 : Option Addr) (M0 : Nat) {k : Int} {H : GH} (hH : Le H (hp w)) (hown : Sep H (GoT.oa a (K0, M0))) (a1 : ok n a) (a3 : ok n k) :
 Does Tryz.prog 209 #[vS K0 a M0, vI k] w H (Post w H (fun _ : Unit => .int .i64 ((a03 a k).1)) (fun _ => GoT.oa ((a03 a k).2 : (List UInt8)) (K0, M0)) ((ok n ((a03 a k).1 : Int) ∧ ok n ((a03 a k).2 : (List UInt8))) ∧ ((a03 a k).2).length = (a).length)) := by
 have hb := bS0 hn
 refine WX.enterM (tt := tt) (Γ := []) 1 Tryz.func209 Z J Z adc hH hown (fun f hf => GoT.oak f hf) Z ?_
 refine zN (kk := 1) 501 1 2 fun a9 ab => ?_
 have r1 := (okl a1).1
 refine LM Z (a9, (a : List UInt8), k, 0) (fun | (a0, a2, k2, i) => ((i ≤ a.length) ∧ (a2.length = a.length) ∧ JE n a2 ∧ J6 k2 ∧ (a8q (a.length) 0 (a : List UInt8) k = a8q (a.length - i) i a2 k2), a.length - i, [(1, .v (vI k2)), (5, .v (vI i))], [], [(501, ⟨1, K0, a.length, M0, a0⟩)], [(2, MF.ol a0 (a2 : List UInt8))])) ⟨zl, τ5, (okl a1).2, a3, Z⟩ [0] [] [] [2] ?_
 rintro ⟨a0, a2, k2, i⟩ ⟨v1, v2, v3, v4, v5⟩
 refine yKD 9 ?_ ?_ <;> intro h1 ad
 refine KS Z Z Z Z (fun _ hΓ => aln ttOk Z Z Z Z Z Z) ?_
 have a4 : i < a.length := τ3
 refine zR 501 i a4 ?_
 rintro aa rfl
 have a5 : i < a2.length := τ3
 obtain ⟨e1, a6⟩ := gE a5
 refine zO (α := UInt8) (e := e1) 501 2 3 i a6 ?_
 rintro A1 B1 ⟨⟩ a8 ac
 refine zS 501 a8 a4 ?_
 refine SW ?_
 refine SA ?_
 refine R0 ?_
 refine WX.turn [3, 4] 5 Z (fun h hs => aej (α := UInt8) (e := (toU8 k2)) (x := ()) a5 hs) Z ?_
 refine zU [5] 2 ?_
 exact IT (_, ((a2.set i (toU8 k2)) : List UInt8), i64.wrap (k2 + 1), i + 1) ⟨τ0, τ2, (aef v3 (show ok n ((toU8 k2) : UInt8) from trivial)), (ad3 _), (by rw [v5, show a.length - i = (a.length - (i + 1)) + 1 by omega]; simp only [a8q, a6, cT, cF])⟩ τ1 [2]
 have a7 := v5.trans (show _ = ((a2 : List UInt8), k2) by rw [show a.length - i = 0 by omega]; simp only [a8q, cT, cF])
 refine yE 501 2 6 (hn := (show a.length = a2.length from by omega)) ?_
 refine SL 7 a2.length ?_
 refine SL 0 a2.length ?_
 rw [show a03 a k = (k2, a2) by simp only [a03, a7, cT, cF]]
 exact zX [7] () ⟨⟨v4, (ada τ0 (fun _ _ => trivial) : ok n (a2 : List UInt8))⟩, (show a2.length = a.length from by omega)⟩
theorem f102 (hn : n + 0 ≤ 9) (a : (List DataP)) (K0 : Option Addr) (M0 : Nat) {k : Int} {H : GH} (hH : Le H (hp w)) (hown : Sep H (GoT.oa a (K0, M0))) (a3 : ok n a) (a8 : ok n k) :
 Does Tryz.prog 102 #[vS K0 a M0, vI k] w H (Post w H (fun _ : Unit => .int .i64 ((a0d a k).1)) (fun _ => GoT.oa ((a0d a k).2 : (List DataP)) (K0, M0)) ((ok n ((a0d a k).1 : Int) ∧ ok n ((a0d a k).2 : (List DataP))) ∧ ((a0d a k).2).length = (a).length)) := by
 have hb := bS0 hn
 refine WX.enterM (tt := tt) (Γ := []) 1 Tryz.func102 Z J Z adc hH hown (fun f hf => GoT.oak f hf) Z ?_
 refine zN (kk := 5) 501 1 2 fun ak ao => ?_
 have r1 := (okl a3).1
 refine LM Z (ak, (a : List DataP), k, 0) (fun | (a0, a2, k2, i) => ((i ≤ a.length) ∧ (a2.length = a.length) ∧ JE n a2 ∧ J6 k2 ∧ (a8r (a.length) 0 (a : List DataP) k = a8r (a.length - i) i a2 k2), a.length - i, [(1, .v (vI k2)), (5, .v (vI i))], [], [(501, ⟨5, K0, a.length, M0, a0⟩)], [(2, MF.ol a0 (a2 : List DataP))])) ⟨zl, τ5, (okl a3).2, a8, Z⟩ [0] [] [] [2] ?_
 rintro ⟨a0, a2, k2, i⟩ ⟨v1, v2, v3, v4, v5⟩
 refine yKD 9 ?_ ?_ <;> intro h1 am
 have aa : i < a.length := τ3
 refine R0 ?_
 refine zR 501 i aa ?_
 rintro al rfl
 have ab : i < a2.length := τ3
 obtain ⟨e1, a7⟩ := gE ab
 have a6 : ok n e1 := v3 _ (List.mem_of_getElem? a7)
 refine R0 ?_
 refine zO (α := DataP) (e := e1) 501 2 3 i a7 ?_
 rintro A1 B1 ⟨⟨p1, c1⟩, ⟨p2, c2⟩, ⟨p3, c3⟩, ⟨⟩, ⟨⟩⟩ a1 ar
 refine zA 501 a1 aa ?_
 refine R0 ?_
 refine CN [6] 11 Z Z Z Z Z Z O Z (fun w β H η σ γ => f103 n τ0 e1.name.parts p1 c1 η σ (ae4 (ado a6).1) v4) ?_
 rintro ⟨⟩ a4
 have aj : ((a00 e1.name.parts k2).2).length = e1.name.parts.length := a4.2
 have af : i < a.length := τ3
 refine R0 ?_
 refine zR 501 i af ?_
 rintro ap ⟨⟩
 refine R0 ?_
 refine zA 501 a1 af ?_
 refine R0 ?_
 refine CN [7] 13 Z Z Z Z Z Z O Z (fun w β H η σ γ => f209 n τ0 e1.content p2 c2 η σ ((ado a6).2.1) a4.1.1) ?_
 rintro ⟨⟩ a5
 have ai : ((a03 e1.content ((a00 e1.name.parts k2).1)).2).length = e1.content.length := a5.2
 have ac : i < a.length := τ3
 refine R0 ?_
 refine zR 501 i ac ?_
 rintro an ⟨⟩
 refine R0 ?_
 refine zA 501 a1 ac ?_
 refine R0 ?_
 refine CN [8] 15 Z Z Z Z Z Z O Z (fun w β H η σ γ => f103 n τ0 e1.keyName.parts p3 c3 η σ (ae4 (ado a6).2.2.1) a5.1.1) ?_
 rintro ⟨⟩ a9
 have ah : ((a00 e1.keyName.parts ((a03 e1.content ((a00 e1.name.parts k2).1)).1)).2).length = e1.keyName.parts.length := a9.2
 have ae : i < a.length := τ3
 refine R0 ?_
 refine zR 501 i ae ?_
 rintro au ⟨⟩
 refine R0 ?_
 refine zS 501 a1 ae ?_
 refine SW ?_
 have ad : i < a.length := τ3
 refine R0 ?_
 refine zR 501 i ad ?_
 rintro aq ⟨⟩
 refine R0 ?_
 refine zS 501 a1 ad ?_
 refine SW ?_
 refine SA ?_
 refine R0 ?_
 refine WX.turn [12, 14, 16, 9, 10] 17 Z (fun h hs => by have z_ : Sep h [MF.ol (A1 ++ [.slice p1 (((a00 e1.name.parts k2).2).length) c1, .slice p2 (((a03 e1.content ((a00 e1.name.parts k2).1)).2).length) c2, .slice p3 (((a00 e1.keyName.parts ((a03 e1.content ((a00 e1.name.parts k2).1)).1)).2).length) c3, .int .i64 ((a00 e1.keyName.parts ((a03 e1.content ((a00 e1.name.parts k2).1)).1)).1), .int .i64 (i64.wrap (((a00 e1.keyName.parts ((a03 e1.content ((a00 e1.name.parts k2).1)).1)).1) + 1))] ++ B1) _] := aej (α := DataP) (e := (DataP.mk (Name.mk ((a00 e1.name.parts k2).2)) ((a03 e1.content ((a00 e1.name.parts k2).1)).2) (Name.mk ((a00 e1.keyName.parts ((a03 e1.content ((a00 e1.name.parts k2).1)).1)).2)) ((a00 e1.keyName.parts ((a03 e1.content ((a00 e1.name.parts k2).1)).1)).1) (i64.wrap (((a00 e1.keyName.parts ((a03 e1.content ((a00 e1.name.parts k2).1)).1)).1) + 1)))) (x := ((p1, c1), (p2, c2), (p3, c3), (), ())) ab hs; rw [aj, ai, ah] at z_; exact z_) Z ?_
 refine zU [17] 2 ?_
 exact IT (_, ((a2.set i (DataP.mk (Name.mk ((a00 e1.name.parts k2).2)) ((a03 e1.content ((a00 e1.name.parts k2).1)).2) (Name.mk ((a00 e1.keyName.parts ((a03 e1.content ((a00 e1.name.parts k2).1)).1)).2)) ((a00 e1.keyName.parts ((a03 e1.content ((a00 e1.name.parts k2).1)).1)).1) (i64.wrap (((a00 e1.keyName.parts ((a03 e1.content ((a00 e1.name.parts k2).1)).1)).1) + 1)))) : List DataP), i64.wrap ((i64.wrap (((a00 e1.keyName.parts ((a03 e1.content ((a00 e1.name.parts k2).1)).1)).1) + 1)) + 1), i + 1) ⟨τ0, τ2, (aef v3 (show ok n ((DataP.mk (Name.mk ((a00 e1.name.parts k2).2)) ((a03 e1.content ((a00 e1.name.parts k2).1)).2) (Name.mk ((a00 e1.keyName.parts ((a03 e1.content ((a00 e1.name.parts k2).1)).1)).2)) ((a00 e1.keyName.parts ((a03 e1.content ((a00 e1.name.parts k2).1)).1)).1) (i64.wrap (((a00 e1.keyName.parts ((a03 e1.content ((a00 e1.name.parts k2).1)).1)).1) + 1))) : DataP) from (An a4.1.2 (An a5.1.2 (An a9.1.2 (An a9.1.1 (ad3 _))))))), (ad3 _), (by rw [v5, show a.length - i = (a.length - (i + 1)) + 1 by omega]; simp only [a8r, a7, cT, cF])⟩ τ1 [2]
 have ag := v5.trans (show _ = ((a2 : List DataP), k2) by rw [show a.length - i = 0 by omega]; simp only [a8r, cT, cF])
 refine yE 501 2 18 (hn := (show a.length = a2.length from by omega)) ?_
 refine SL 7 a2.length ?_
 refine SL 0 a2.length ?_
 rw [show a0d a k = (k2, a2) by simp only [a0d, ag, cT, cF]]
 exact zX [19] () ⟨⟨v4, (ada τ0 v3 : ok n (a2 : List DataP))⟩, (show a2.length = a.length from by omega)⟩
theorem f32 (hn : n + 0 ≤ 9) (a : TrustPolicy) (K0 : Option Addr) (M0 : Nat) (K1 : Option Addr) (M1 : Nat) (K2 : Option Addr) (M2 : Nat) (K3 : Option Addr) (M3 : Nat) {k : Int} {H : GH} (hH : Le H (hp w)) (hown : Sep H (GoT.oa a ((K0, M0), (K1, M1), (K2, M2), (K3, M3)))) (a0 : ok n a) (a1 : ok n k) :
 Does Tryz.prog 32 #[af4 a K0 M0 K1 M1 K2 M2 K3 M3, vI k] w H (Post w H (fun _ : Unit => .int .i64 ((a0a a k).1)) (fun _ => GoT.oa ((a0a a k).2 : TrustPolicy) ((K0, M0), (K1, M1), (K2, M2), (K3, M3))) ((ok n ((a0a a k).1 : Int) ∧ ok n ((a0a a k).2 : TrustPolicy)) ∧ ((a0a a k).2.keys).length = (a.keys).length ∧ ((a0a a k).2.rules).length = (a.rules).length ∧ ((a0a a k).2.anchors).length = (a.anchors).length ∧ ((a0a a k).2.certificates).length = (a.certificates).length)) := by
 have hb := bS0 hn
 refine WX.enterM (tt := tt) (Γ := []) 4 Tryz.func32 Z J Z adc hH hown (fun f hf => GoT.oak f hf) Z ?_
 refine R0 ?_
 refine CN [4] 8 Z Z Z Z Z Z O Z (fun w β H η σ γ => f99 n τ0 a.keys K0 M0 η σ ((acz a0).1) a1) ?_
 rintro ⟨⟩ a2
 have a6 : ((a12 a.keys k).2).length = a.keys.length := a2.2
 refine R0 ?_
 refine CN [5] 10 Z Z Z Z Z Z O Z (fun w β H η σ γ => f100 n τ0 a.rules K1 M1 η σ ((acz a0).2.1) a2.1.1) ?_
 rintro ⟨⟩ a5
 have a8 : ((a1d a.rules ((a12 a.keys k).1)).2).length = a.rules.length := a5.2
 refine R0 ?_
 refine CN [6] 12 Z Z Z Z Z Z O Z (fun w β H η σ γ => f101 n τ0 a.anchors K2 M2 η σ ((acz a0).2.2.1) a5.1.1) ?_
 rintro ⟨⟩ a3
 have a7 : ((a1y a.anchors ((a1d a.rules ((a12 a.keys k).1)).1)).2).length = a.anchors.length := a3.2
 refine R0 ?_
 refine CN [7] 14 Z Z Z Z Z Z O Z (fun w β H η σ γ => f102 n τ0 a.certificates K3 M3 η σ ((acz a0).2.2.2) a3.1.1) ?_
 rintro ⟨⟩ a4
 have a9 : ((a0d a.certificates ((a1y a.anchors ((a1d a.rules ((a12 a.keys k).1)).1)).1)).2).length = a.certificates.length := a4.2
 rw [show a0a a k = ((a0d a.certificates ((a1y a.anchors ((a1d a.rules ((a12 a.keys k).1)).1)).1)).1, TrustPolicy.mk ((a12 a.keys k).2) ((a1d a.rules ((a12 a.keys k).1)).2) ((a1y a.anchors ((a1d a.rules ((a12 a.keys k).1)).1)).2) ((a0d a.certificates ((a1y a.anchors ((a1d a.rules ((a12 a.keys k).1)).1)).1)).2)) by simp only [a0a, cT, cF]]
 exact yX [9, 11, 13, 15] () ⟨⟨a4.1.1, (An a2.1.2 (An a5.1.2 (An a3.1.2 a4.1.2)))⟩, ⟨(show ((a12 a.keys k).2).length = a.keys.length from by omega), ⟨(show ((a1d a.rules ((a12 a.keys k).1)).2).length = a.rules.length from by omega), ⟨(show ((a1y a.anchors ((a1d a.rules ((a12 a.keys k).1)).1)).2).length = a.anchors.length from by omega), (show ((a0d a.certificates ((a1y a.anchors ((a1d a.rules ((a12 a.keys k).1)).1)).1)).2).length = a.certificates.length from by omega)⟩⟩⟩⟩
theorem f33 (hn : n + 0 ≤ 9) (a : (List TableEntry)) (K0 : Option Addr) (M0 : Nat) {k : Int} {H : GH} (hH : Le H (hp w)) (hown : Sep H (GoT.oa a (K0, M0))) (a1 : ok n a) (a5 : ok n k) :
 Does Tryz.prog 33 #[vS K0 a M0, vI k] w H (Post w H (fun _ : Unit => .int .i64 ((a0h a k).1)) (fun _ => GoT.oa ((a0h a k).2 : (List TableEntry)) (K0, M0)) ((ok n ((a0h a k).1 : Int) ∧ ok n ((a0h a k).2 : (List TableEntry))) ∧ ((a0h a k).2).length = (a).length)) := by
 have hb := bS0 hn
 refine WX.enterM (tt := tt) (Γ := []) 1 Tryz.func33 Z J Z adc hH hown (fun f hf => GoT.oak f hf) Z ?_
 refine zN (kk := 2) 501 1 2 fun ad af => ?_
 have r1 := (okl a1).1
 refine LM Z (ad, (a : List TableEntry), k, 0) (fun | (a0, a2, k2, i) => ((i ≤ a.length) ∧ (a2.length = a.length) ∧ JE n a2 ∧ J6 k2 ∧ (a8s (a.length) 0 (a : List TableEntry) k = a8s (a.length - i) i a2 k2), a.length - i, [(1, .v (vI k2)), (5, .v (vI i))], [], [(501, ⟨2, K0, a.length, M0, a0⟩)], [(2, MF.ol a0 (a2 : List TableEntry))])) ⟨zl, τ5, (okl a1).2, a5, Z⟩ [0] [] [] [2] ?_
 rintro ⟨a0, a2, k2, i⟩ ⟨v1, v2, v3, v4, v5⟩
 refine yKD 9 ?_ ?_ <;> intro h1 ai
 have a6 : i < a.length := τ3
 refine R0 ?_
 refine zR 501 i a6 ?_
 rintro ae rfl
 have a8 : i < a2.length := τ3
 obtain ⟨e1, a4⟩ := gE a8
 have ab : ok n e1 := v3 _ (List.mem_of_getElem? a4)
 refine R0 ?_
 refine zO (α := TableEntry) (e := e1) 501 2 3 i a4 ?_
 rintro A1 B1 ⟨⟨p1, c1⟩, ⟨⟩⟩ a7 ah
 refine zA 501 a7 a6 ?_
 refine R0 ?_
 refine CN [4] 7 Z Z Z Z Z Z O Z (fun w β H η σ γ => f103 n τ0 e1.name.parts p1 c1 η σ (ae4 (adv ab).1) v4) ?_
 rintro ⟨⟩ a3
 have ac : ((a00 e1.name.parts k2).2).length = e1.name.parts.length := a3.2
 have a9 : i < a.length := τ3
 refine R0 ?_
 refine zR 501 i a9 ?_
 rintro ag ⟨⟩
 refine R0 ?_
 refine zS 501 a7 a9 ?_
 refine SW ?_
 refine SA ?_
 refine R0 ?_
 refine WX.turn [8, 5, 6] 9 Z (fun h hs => by have z_ : Sep h [MF.ol (A1 ++ [.slice p1 (((a00 e1.name.parts k2).2).length) c1, .int .i64 ((a00 e1.name.parts k2).1)] ++ B1) _] := aej (α := TableEntry) (e := (TableEntry.mk (Name.mk ((a00 e1.name.parts k2).2)) ((a00 e1.name.parts k2).1))) (x := ((p1, c1), ())) a8 hs; rw [ac] at z_; exact z_) Z ?_
 refine zU [9] 2 ?_
 exact IT (_, ((a2.set i (TableEntry.mk (Name.mk ((a00 e1.name.parts k2).2)) ((a00 e1.name.parts k2).1))) : List TableEntry), i64.wrap (((a00 e1.name.parts k2).1) + 1), i + 1) ⟨τ0, τ2, (aef v3 (show ok n ((TableEntry.mk (Name.mk ((a00 e1.name.parts k2).2)) ((a00 e1.name.parts k2).1)) : TableEntry) from (An a3.1.2 a3.1.1))), (ad3 _), (by rw [v5, show a.length - i = (a.length - (i + 1)) + 1 by omega]; simp only [a8s, a4, cT, cF])⟩ τ1 [2]
 have aa := v5.trans (show _ = ((a2 : List TableEntry), k2) by rw [show a.length - i = 0 by omega]; simp only [a8s, cT, cF])
 refine yE 501 2 10 (hn := (show a.length = a2.length from by omega)) ?_
 refine SL 7 a2.length ?_
 refine SL 0 a2.length ?_
 rw [show a0h a k = (k2, a2) by simp only [a0h, aa, cT, cF]]
 exact zX [11] () ⟨⟨v4, (ada τ0 v3 : ok n (a2 : List TableEntry))⟩, (show a2.length = a.length from by omega)⟩
theorem f211 (hn : n + 0 ≤ 9) (a : (List CacheEntry)) (K0 : Option Addr) (M0 : Nat) {k : Int} {H : GH} (hH : Le H (hp w)) (hown : Sep H (GoT.oa a (K0, M0))) (a3 : ok n a) (a8 : ok n k) :
 Does Tryz.prog 211 #[vS K0 a M0, vI k] w H (Post w H (fun _ : Unit => .int .i64 ((a0i a k).1)) (fun _ => GoT.oa ((a0i a k).2 : (List CacheEntry)) (K0, M0)) ((ok n ((a0i a k).1 : Int) ∧ ok n ((a0i a k).2 : (List CacheEntry))) ∧ ((a0i a k).2).length = (a).length)) := by
 have hb := bS0 hn
 refine WX.enterM (tt := tt) (Γ := []) 1 Tryz.func211 Z J Z adc hH hown (fun f hf => GoT.oak f hf) Z ?_
 refine zN (kk := 6) 501 1 2 fun al ap => ?_
 have r1 := (okl a3).1
 refine LM Z (al, (a : List CacheEntry), k, 0) (fun | (a0, a2, k2, i) => ((i ≤ a.length) ∧ (a2.length = a.length) ∧ JE n a2 ∧ J6 k2 ∧ (a8t (a.length) 0 (a : List CacheEntry) k = a8t (a.length - i) i a2 k2), a.length - i, [(1, .v (vI k2)), (5, .v (vI i))], [], [(501, ⟨6, K0, a.length, M0, a0⟩)], [(2, MF.ol a0 (a2 : List CacheEntry))])) ⟨zl, τ5, (okl a3).2, a8, Z⟩ [0] [] [] [2] ?_
 rintro ⟨a0, a2, k2, i⟩ ⟨v1, v2, v3, v4, v5⟩
 refine yKD 9 ?_ ?_ <;> intro h1 an
 have aa : i < a.length := τ3
 refine R0 ?_
 refine zR 501 i aa ?_
 rintro am rfl
 have ab : i < a2.length := τ3
 obtain ⟨e1, a7⟩ := gE ab
 have a6 : ok n e1 := v3 _ (List.mem_of_getElem? a7)
 refine R0 ?_
 refine zO (α := CacheEntry) (e := e1) 501 2 3 i a7 ?_
 rintro A1 B1 ⟨⟨⟨p1, c1⟩, ⟨p2, c2⟩, ⟨p3, c3⟩, ⟨⟩, ⟨⟩⟩, ⟨⟩⟩ a1 av
 refine zA 501 a1 aa ?_
 refine R0 ?_
 refine CN [6] 11 Z Z Z Z Z Z O Z (fun w β H η σ γ => f103 n τ0 e1.data.name.parts p1 c1 η σ (ae4 (ado (aec a6).1).1) v4) ?_
 rintro ⟨⟩ a4
 have ak : ((a00 e1.data.name.parts k2).2).length = e1.data.name.parts.length := a4.2
 have ag : i < a.length := τ3
 refine R0 ?_
 refine zR 501 i ag ?_
 rintro aq ⟨⟩
 refine R0 ?_
 refine zA 501 a1 ag ?_
 refine R0 ?_
 refine CN [7] 13 Z Z Z Z Z Z O Z (fun w β H η σ γ => f209 n τ0 e1.data.content p2 c2 η σ ((ado (aec a6).1).2.1) a4.1.1) ?_
 rintro ⟨⟩ a5
 have aj : ((a03 e1.data.content ((a00 e1.data.name.parts k2).1)).2).length = e1.data.content.length := a5.2
 have ac : i < a.length := τ3
 refine R0 ?_
 refine zR 501 i ac ?_
 rintro ao ⟨⟩
 refine R0 ?_
 refine zA 501 a1 ac ?_
 refine R0 ?_
 refine CN [8] 15 Z Z Z Z Z Z O Z (fun w β H η σ γ => f103 n τ0 e1.data.keyName.parts p3 c3 η σ (ae4 (ado (aec a6).1).2.2.1) a5.1.1) ?_
 rintro ⟨⟩ a9
 have ai : ((a00 e1.data.keyName.parts ((a03 e1.data.content ((a00 e1.data.name.parts k2).1)).1)).2).length = e1.data.keyName.parts.length := a9.2
 have af : i < a.length := τ3
 refine R0 ?_
 refine zR 501 i af ?_
 rintro aw ⟨⟩
 refine R0 ?_
 refine zS 501 a1 af ?_
 refine SW ?_
 have ae : i < a.length := τ3
 refine R0 ?_
 refine zR 501 i ae ?_
 rintro ar ⟨⟩
 refine R0 ?_
 refine zS 501 a1 ae ?_
 refine SW ?_
 have ad : i < a.length := τ3
 refine R0 ?_
 refine zR 501 i ad ?_
 rintro au ⟨⟩
 refine R0 ?_
 refine zS 501 a1 ad ?_
 refine SW ?_
 refine SA ?_
 refine R0 ?_
 refine WX.turn [12, 14, 16, 9, 10] 17 Z (fun h hs => by have z_ : Sep h [MF.ol (A1 ++ [.slice p1 (((a00 e1.data.name.parts k2).2).length) c1, .slice p2 (((a03 e1.data.content ((a00 e1.data.name.parts k2).1)).2).length) c2, .slice p3 (((a00 e1.data.keyName.parts ((a03 e1.data.content ((a00 e1.data.name.parts k2).1)).1)).2).length) c3, .int .i64 ((a00 e1.data.keyName.parts ((a03 e1.data.content ((a00 e1.data.name.parts k2).1)).1)).1), .int .i64 (i64.wrap (((a00 e1.data.keyName.parts ((a03 e1.data.content ((a00 e1.data.name.parts k2).1)).1)).1) + 1)), .int .i64 (i64.wrap ((i64.wrap (((a00 e1.data.keyName.parts ((a03 e1.data.content ((a00 e1.data.name.parts k2).1)).1)).1) + 1)) + 1))] ++ B1) _] := aej (α := CacheEntry) (e := (CacheEntry.mk (DataP.mk (Name.mk ((a00 e1.data.name.parts k2).2)) ((a03 e1.data.content ((a00 e1.data.name.parts k2).1)).2) (Name.mk ((a00 e1.data.keyName.parts ((a03 e1.data.content ((a00 e1.data.name.parts k2).1)).1)).2)) ((a00 e1.data.keyName.parts ((a03 e1.data.content ((a00 e1.data.name.parts k2).1)).1)).1) (i64.wrap (((a00 e1.data.keyName.parts ((a03 e1.data.content ((a00 e1.data.name.parts k2).1)).1)).1) + 1))) (i64.wrap ((i64.wrap (((a00 e1.data.keyName.parts ((a03 e1.data.content ((a00 e1.data.name.parts k2).1)).1)).1) + 1)) + 1)))) (x := (((p1, c1), (p2, c2), (p3, c3), (), ()), ())) ab hs; rw [ak, aj, ai] at z_; exact z_) Z ?_
 refine zU [17] 2 ?_
 exact IT (_, ((a2.set i (CacheEntry.mk (DataP.mk (Name.mk ((a00 e1.data.name.parts k2).2)) ((a03 e1.data.content ((a00 e1.data.name.parts k2).1)).2) (Name.mk ((a00 e1.data.keyName.parts ((a03 e1.data.content ((a00 e1.data.name.parts k2).1)).1)).2)) ((a00 e1.data.keyName.parts ((a03 e1.data.content ((a00 e1.data.name.parts k2).1)).1)).1) (i64.wrap (((a00 e1.data.keyName.parts ((a03 e1.data.content ((a00 e1.data.name.parts k2).1)).1)).1) + 1))) (i64.wrap ((i64.wrap (((a00 e1.data.keyName.parts ((a03 e1.data.content ((a00 e1.data.name.parts k2).1)).1)).1) + 1)) + 1)))) : List CacheEntry), i64.wrap ((i64.wrap ((i64.wrap (((a00 e1.data.keyName.parts ((a03 e1.data.content ((a00 e1.data.name.parts k2).1)).1)).1) + 1)) + 1)) + 1), i + 1) ⟨τ0, τ2, (aef v3 (show ok n ((CacheEntry.mk (DataP.mk (Name.mk ((a00 e1.data.name.parts k2).2)) ((a03 e1.data.content ((a00 e1.data.name.parts k2).1)).2) (Name.mk ((a00 e1.data.keyName.parts ((a03 e1.data.content ((a00 e1.data.name.parts k2).1)).1)).2)) ((a00 e1.data.keyName.parts ((a03 e1.data.content ((a00 e1.data.name.parts k2).1)).1)).1) (i64.wrap (((a00 e1.data.keyName.parts ((a03 e1.data.content ((a00 e1.data.name.parts k2).1)).1)).1) + 1))) (i64.wrap ((i64.wrap (((a00 e1.data.keyName.parts ((a03 e1.data.content ((a00 e1.data.name.parts k2).1)).1)).1) + 1)) + 1))) : CacheEntry) from (An (An a4.1.2 (An a5.1.2 (An a9.1.2 (An a9.1.1 (ad3 _))))) (ad3 _)))), (ad3 _), (by rw [v5, show a.length - i = (a.length - (i + 1)) + 1 by omega]; simp only [a8t, a7, cT, cF])⟩ τ1 [2]
 have ah := v5.trans (show _ = ((a2 : List CacheEntry), k2) by rw [show a.length - i = 0 by omega]; simp only [a8t, cT, cF])
 refine yE 501 2 18 (hn := (show a.length = a2.length from by omega)) ?_
 refine SL 7 a2.length ?_
 refine SL 0 a2.length ?_
 rw [show a0i a k = (k2, a2) by simp only [a0i, ah, cT, cF]]
 exact zX [19] () ⟨⟨v4, (ada τ0 v3 : ok n (a2 : List CacheEntry))⟩, (show a2.length = a.length from by omega)⟩
theorem f304 (hn : n + 0 ≤ 9) (a : (List Requester)) (K0 : Option Addr) (M0 : Nat) {k : Int} {H : GH} (hH : Le H (hp w)) (hown : Sep H (GoT.oa a (K0, M0))) (a1 : ok n a) (a5 : ok n k) :
 Does Tryz.prog 304 #[vS K0 a M0, vI k] w H (Post w H (fun _ : Unit => .int .i64 ((a1j a k).1)) (fun _ => GoT.oa ((a1j a k).2 : (List Requester)) (K0, M0)) ((ok n ((a1j a k).1 : Int) ∧ ok n ((a1j a k).2 : (List Requester))) ∧ ((a1j a k).2).length = (a).length)) := by
 have hb := bS0 hn
 refine WX.enterM (tt := tt) (Γ := []) 1 Tryz.func304 Z J Z adc hH hown (fun f hf => GoT.oak f hf) Z ?_
 refine zN (kk := 3) 501 1 2 fun ab af => ?_
 have r1 := (okl a1).1
 refine LM Z (ab, (a : List Requester), k, 0) (fun | (a0, a2, k2, i) => ((i ≤ a.length) ∧ (a2.length = a.length) ∧ JE n a2 ∧ J6 k2 ∧ (a8u (a.length) 0 (a : List Requester) k = a8u (a.length - i) i a2 k2), a.length - i, [(1, .v (vI k2)), (5, .v (vI i))], [], [(501, ⟨3, K0, a.length, M0, a0⟩)], [(2, MF.ol a0 (a2 : List Requester))])) ⟨zl, τ5, (okl a1).2, a5, Z⟩ [0] [] [] [2] ?_
 rintro ⟨a0, a2, k2, i⟩ ⟨v1, v2, v3, v4, v5⟩
 refine yKD 9 ?_ ?_ <;> intro h1 ai
 have a6 : i < a.length := τ3
 refine R0 ?_
 refine zR 501 i a6 ?_
 rintro ac rfl
 have a7 : i < a2.length := τ3
 obtain ⟨e1, a4⟩ := gE a7
 have ae : ok n e1 := v3 _ (List.mem_of_getElem? a4)
 refine R0 ?_
 refine zO (α := Requester) (e := e1) 501 2 3 i a4 ?_
 rintro A1 B1 ⟨⟨⟩, ⟨⟩, ⟨⟩⟩ a3 ah
 refine zS 501 a3 a6 ?_
 refine SW ?_
 have a9 : i < a.length := τ3
 refine R0 ?_
 refine zR 501 i a9 ?_
 rintro ag ⟨⟩
 refine R0 ?_
 refine zS 501 a3 a9 ?_
 refine SW ?_
 have a8 : i < a.length := τ3
 refine R0 ?_
 refine zR 501 i a8 ?_
 rintro ad ⟨⟩
 refine R0 ?_
 refine zS 501 a3 a8 ?_
 refine SW ?_
 refine SA ?_
 refine R0 ?_
 refine WX.turn [3, 4] 5 Z (fun h hs => aej (α := Requester) (e := (Requester.mk k2 (i64.wrap (k2 + 1)) (i64.wrap ((i64.wrap (k2 + 1)) + 1)))) (x := ((), (), ())) a7 hs) Z ?_
 refine zU [5] 2 ?_
 exact IT (_, ((a2.set i (Requester.mk k2 (i64.wrap (k2 + 1)) (i64.wrap ((i64.wrap (k2 + 1)) + 1)))) : List Requester), i64.wrap ((i64.wrap ((i64.wrap (k2 + 1)) + 1)) + 1), i + 1) ⟨τ0, τ2, (aef v3 (show ok n ((Requester.mk k2 (i64.wrap (k2 + 1)) (i64.wrap ((i64.wrap (k2 + 1)) + 1))) : Requester) from (An v4 (An (ad3 _) (ad3 _))))), (ad3 _), (by rw [v5, show a.length - i = (a.length - (i + 1)) + 1 by omega]; simp only [a8u, a4, cT, cF])⟩ τ1 [2]
 have aa := v5.trans (show _ = ((a2 : List Requester), k2) by rw [show a.length - i = 0 by omega]; simp only [a8u, cT, cF])
 refine yE 501 2 6 (hn := (show a.length = a2.length from by omega)) ?_
 refine SL 7 a2.length ?_
 refine SL 0 a2.length ?_
 rw [show a1j a k = (k2, a2) by simp only [a1j, aa, cT, cF]]
 exact zX [7] () ⟨⟨v4, (ada τ0 v3 : ok n (a2 : List Requester))⟩, (show a2.length = a.length from by omega)⟩
theorem f212 (hn : n + 0 ≤ 9) (a : (List PendingInterest)) (K0 : Option Addr) (M0 : Nat) {k : Int} {H : GH} (hH : Le H (hp w)) (hown : Sep H (GoT.oa a (K0, M0))) (a1 : ok n a) (a7 : ok n k) :
 Does Tryz.prog 212 #[vS K0 a M0, vI k] w H (Post w H (fun _ : Unit => .int .i64 ((a0m a k).1)) (fun _ => GoT.oa ((a0m a k).2 : (List PendingInterest)) (K0, M0)) ((ok n ((a0m a k).1 : Int) ∧ ok n ((a0m a k).2 : (List PendingInterest))) ∧ ((a0m a k).2).length = (a).length)) := by
 have hb := bS0 hn
 refine WX.enterM (tt := tt) (Γ := []) 1 Tryz.func212 Z J Z adc hH hown (fun f hf => GoT.oak f hf) Z ?_
 refine zN (kk := 3) 501 1 2 fun ag aj => ?_
 have r1 := (okl a1).1
 refine LM Z (ag, (a : List PendingInterest), k, 0) (fun | (a0, a2, k2, i) => ((i ≤ a.length) ∧ (a2.length = a.length) ∧ JE n a2 ∧ J6 k2 ∧ (a8v (a.length) 0 (a : List PendingInterest) k = a8v (a.length - i) i a2 k2), a.length - i, [(1, .v (vI k2)), (5, .v (vI i))], [], [(501, ⟨3, K0, a.length, M0, a0⟩)], [(2, MF.ol a0 (a2 : List PendingInterest))])) ⟨zl, τ5, (okl a1).2, a7, Z⟩ [0] [] [] [2] ?_
 rintro ⟨a0, a2, k2, i⟩ ⟨v1, v2, v3, v4, v5⟩
 refine yKD 9 ?_ ?_ <;> intro h1 am
 have a8 : i < a.length := τ3
 refine R0 ?_
 refine zR 501 i a8 ?_
 rintro ah rfl
 have a9 : i < a2.length := τ3
 obtain ⟨e1, a6⟩ := gE a9
 have aa : ok n e1 := v3 _ (List.mem_of_getElem? a6)
 refine R0 ?_
 refine zO (α := PendingInterest) (e := e1) 501 2 3 i a6 ?_
 rintro A1 B1 ⟨⟨p1, c1⟩, ⟨p2, c2⟩, ⟨⟩⟩ a4 al
 refine zA 501 a4 a8 ?_
 refine R0 ?_
 refine CN [5] 9 Z Z Z Z Z Z O Z (fun w β H η σ γ => f103 n τ0 e1.name.parts p1 c1 η σ (ae4 (ad8 aa).1) v4) ?_
 rintro ⟨⟩ a3
 have af : ((a00 e1.name.parts k2).2).length = e1.name.parts.length := a3.2
 have ac : i < a.length := τ3
 refine R0 ?_
 refine zR 501 i ac ?_
 rintro ak ⟨⟩
 refine R0 ?_
 refine zA 501 a4 ac ?_
 refine R0 ?_
 refine CN [6] 11 Z Z Z Z Z Z O Z (fun w β H η σ γ => f304 n τ0 e1.requesters p2 c2 η σ ((ad8 aa).2.1) a3.1.1) ?_
 rintro ⟨⟩ a5
 have ae : ((a1j e1.requesters ((a00 e1.name.parts k2).1)).2).length = e1.requesters.length := a5.2
 have ab : i < a.length := τ3
 refine R0 ?_
 refine zR 501 i ab ?_
 rintro ai ⟨⟩
 refine R0 ?_
 refine zS 501 a4 ab ?_
 refine SW ?_
 refine SA ?_
 refine R0 ?_
 refine WX.turn [10, 12, 7, 8] 13 Z (fun h hs => by have z_ : Sep h [MF.ol (A1 ++ [.slice p1 (((a00 e1.name.parts k2).2).length) c1, .slice p2 (((a1j e1.requesters ((a00 e1.name.parts k2).1)).2).length) c2, .int .i64 ((a1j e1.requesters ((a00 e1.name.parts k2).1)).1)] ++ B1) _] := aej (α := PendingInterest) (e := (PendingInterest.mk (Name.mk ((a00 e1.name.parts k2).2)) ((a1j e1.requesters ((a00 e1.name.parts k2).1)).2) ((a1j e1.requesters ((a00 e1.name.parts k2).1)).1))) (x := ((p1, c1), (p2, c2), ())) a9 hs; rw [af, ae] at z_; exact z_) Z ?_
 refine zU [13] 2 ?_
 exact IT (_, ((a2.set i (PendingInterest.mk (Name.mk ((a00 e1.name.parts k2).2)) ((a1j e1.requesters ((a00 e1.name.parts k2).1)).2) ((a1j e1.requesters ((a00 e1.name.parts k2).1)).1))) : List PendingInterest), i64.wrap (((a1j e1.requesters ((a00 e1.name.parts k2).1)).1) + 1), i + 1) ⟨τ0, τ2, (aef v3 (show ok n ((PendingInterest.mk (Name.mk ((a00 e1.name.parts k2).2)) ((a1j e1.requesters ((a00 e1.name.parts k2).1)).2) ((a1j e1.requesters ((a00 e1.name.parts k2).1)).1)) : PendingInterest) from (An a3.1.2 (An a5.1.2 a5.1.1)))), (ad3 _), (by rw [v5, show a.length - i = (a.length - (i + 1)) + 1 by omega]; simp only [a8v, a6, cT, cF])⟩ τ1 [2]
 have ad := v5.trans (show _ = ((a2 : List PendingInterest), k2) by rw [show a.length - i = 0 by omega]; simp only [a8v, cT, cF])
 refine yE 501 2 14 (hn := (show a.length = a2.length from by omega)) ?_
 refine SL 7 a2.length ?_
 refine SL 0 a2.length ?_
 rw [show a0m a k = (k2, a2) by simp only [a0m, ad, cT, cF]]
 exact zX [15] () ⟨⟨v4, (ada τ0 v3 : ok n (a2 : List PendingInterest))⟩, (show a2.length = a.length from by omega)⟩
theorem f213 (hn : n + 0 ≤ 9) (a : (List SeenNonce)) (K0 : Option Addr) (M0 : Nat) {k : Int} {H : GH} (hH : Le H (hp w)) (hown : Sep H (GoT.oa a (K0, M0))) (a1 : ok n a) (a5 : ok n k) :
 Does Tryz.prog 213 #[vS K0 a M0, vI k] w H (Post w H (fun _ : Unit => .int .i64 ((a0n a k).1)) (fun _ => GoT.oa ((a0n a k).2 : (List SeenNonce)) (K0, M0)) ((ok n ((a0n a k).1 : Int) ∧ ok n ((a0n a k).2 : (List SeenNonce))) ∧ ((a0n a k).2).length = (a).length)) := by
 have hb := bS0 hn
 refine WX.enterM (tt := tt) (Γ := []) 1 Tryz.func213 Z J Z adc hH hown (fun f hf => GoT.oak f hf) Z ?_
 refine zN (kk := 2) 501 1 2 fun ad af => ?_
 have r1 := (okl a1).1
 refine LM Z (ad, (a : List SeenNonce), k, 0) (fun | (a0, a2, k2, i) => ((i ≤ a.length) ∧ (a2.length = a.length) ∧ JE n a2 ∧ J6 k2 ∧ (a8w (a.length) 0 (a : List SeenNonce) k = a8w (a.length - i) i a2 k2), a.length - i, [(1, .v (vI k2)), (5, .v (vI i))], [], [(501, ⟨2, K0, a.length, M0, a0⟩)], [(2, MF.ol a0 (a2 : List SeenNonce))])) ⟨zl, τ5, (okl a1).2, a5, Z⟩ [0] [] [] [2] ?_
 rintro ⟨a0, a2, k2, i⟩ ⟨v1, v2, v3, v4, v5⟩
 refine yKD 9 ?_ ?_ <;> intro h1 ai
 have a6 : i < a.length := τ3
 refine R0 ?_
 refine zR 501 i a6 ?_
 rintro ae rfl
 have a8 : i < a2.length := τ3
 obtain ⟨e1, a4⟩ := gE a8
 have ab : ok n e1 := v3 _ (List.mem_of_getElem? a4)
 refine R0 ?_
 refine zO (α := SeenNonce) (e := e1) 501 2 3 i a4 ?_
 rintro A1 B1 ⟨⟨p1, c1⟩, ⟨⟩⟩ a7 ah
 refine zA 501 a7 a6 ?_
 refine R0 ?_
 refine CN [4] 7 Z Z Z Z Z Z O Z (fun w β H η σ γ => f103 n τ0 e1.name.parts p1 c1 η σ (ae4 (aew ab).1) v4) ?_
 rintro ⟨⟩ a3
 have ac : ((a00 e1.name.parts k2).2).length = e1.name.parts.length := a3.2
 have a9 : i < a.length := τ3
 refine R0 ?_
 refine zR 501 i a9 ?_
 rintro ag ⟨⟩
 refine R0 ?_
 refine zS 501 a7 a9 ?_
 refine SW ?_
 refine SA ?_
 refine R0 ?_
 refine WX.turn [8, 5, 6] 9 Z (fun h hs => by have z_ : Sep h [MF.ol (A1 ++ [.slice p1 (((a00 e1.name.parts k2).2).length) c1, .int .i64 ((a00 e1.name.parts k2).1)] ++ B1) _] := aej (α := SeenNonce) (e := (SeenNonce.mk (Name.mk ((a00 e1.name.parts k2).2)) ((a00 e1.name.parts k2).1))) (x := ((p1, c1), ())) a8 hs; rw [ac] at z_; exact z_) Z ?_
 refine zU [9] 2 ?_
 exact IT (_, ((a2.set i (SeenNonce.mk (Name.mk ((a00 e1.name.parts k2).2)) ((a00 e1.name.parts k2).1))) : List SeenNonce), i64.wrap (((a00 e1.name.parts k2).1) + 1), i + 1) ⟨τ0, τ2, (aef v3 (show ok n ((SeenNonce.mk (Name.mk ((a00 e1.name.parts k2).2)) ((a00 e1.name.parts k2).1)) : SeenNonce) from (An a3.1.2 a3.1.1))), (ad3 _), (by rw [v5, show a.length - i = (a.length - (i + 1)) + 1 by omega]; simp only [a8w, a4, cT, cF])⟩ τ1 [2]
 have aa := v5.trans (show _ = ((a2 : List SeenNonce), k2) by rw [show a.length - i = 0 by omega]; simp only [a8w, cT, cF])
 refine yE 501 2 10 (hn := (show a.length = a2.length from by omega)) ?_
 refine SL 7 a2.length ?_
 refine SL 0 a2.length ?_
 rw [show a0n a k = (k2, a2) by simp only [a0n, aa, cT, cF]]
 exact zX [11] () ⟨⟨v4, (ada τ0 v3 : ok n (a2 : List SeenNonce))⟩, (show a2.length = a.length from by omega)⟩
theorem f214 (hn : n + 0 ≤ 9) (a : (List Route)) (K0 : Option Addr) (M0 : Nat) {k : Int} {H : GH} (hH : Le H (hp w)) (hown : Sep H (GoT.oa a (K0, M0))) (a1 : ok n a) (a6 : ok n k) :
 Does Tryz.prog 214 #[vS K0 a M0, vI k] w H (Post w H (fun _ : Unit => .int .i64 ((a0z a k).1)) (fun _ => GoT.oa ((a0z a k).2 : (List Route)) (K0, M0)) ((ok n ((a0z a k).1 : Int) ∧ ok n ((a0z a k).2 : (List Route))) ∧ ((a0z a k).2).length = (a).length)) := by
 have hb := bS0 hn
 refine WX.enterM (tt := tt) (Γ := []) 1 Tryz.func214 Z J Z adc hH hown (fun f hf => GoT.oak f hf) Z ?_
 refine zN (kk := 3) 501 1 2 fun ae ah => ?_
 have r1 := (okl a1).1
 refine LM Z (ae, (a : List Route), k, 0) (fun | (a0, a2, k2, i) => ((i ≤ a.length) ∧ (a2.length = a.length) ∧ JE n a2 ∧ J6 k2 ∧ (a8x (a.length) 0 (a : List Route) k = a8x (a.length - i) i a2 k2), a.length - i, [(1, .v (vI k2)), (5, .v (vI i))], [], [(501, ⟨3, K0, a.length, M0, a0⟩)], [(2, MF.ol a0 (a2 : List Route))])) ⟨zl, τ5, (okl a1).2, a6, Z⟩ [0] [] [] [2] ?_
 rintro ⟨a0, a2, k2, i⟩ ⟨v1, v2, v3, v4, v5⟩
 refine yKD 9 ?_ ?_ <;> intro h1 ak
 have a7 : i < a.length := τ3
 refine R0 ?_
 refine zR 501 i a7 ?_
 rintro af rfl
 have a8 : i < a2.length := τ3
 obtain ⟨e1, a5⟩ := gE a8
 have ac : ok n e1 := v3 _ (List.mem_of_getElem? a5)
 refine R0 ?_
 refine zO (α := Route) (e := e1) 501 2 3 i a5 ?_
 rintro A1 B1 ⟨⟨p1, c1⟩, ⟨⟩, ⟨⟩⟩ a4 aj
 refine zA 501 a4 a7 ?_
 refine R0 ?_
 refine CN [4] 7 Z Z Z Z Z Z O Z (fun w β H η σ γ => f103 n τ0 e1.pfx.parts p1 c1 η σ (ae4 (adn ac).1) v4) ?_
 rintro ⟨⟩ a3
 have ad : ((a00 e1.pfx.parts k2).2).length = e1.pfx.parts.length := a3.2
 have aa : i < a.length := τ3
 refine R0 ?_
 refine zR 501 i aa ?_
 rintro ai ⟨⟩
 refine R0 ?_
 refine zS 501 a4 aa ?_
 refine SW ?_
 have a9 : i < a.length := τ3
 refine R0 ?_
 refine zR 501 i a9 ?_
 rintro ag ⟨⟩
 refine R0 ?_
 refine zS 501 a4 a9 ?_
 refine SW ?_
 refine SA ?_
 refine R0 ?_
 refine WX.turn [8, 5, 6] 9 Z (fun h hs => by have z_ : Sep h [MF.ol (A1 ++ [.slice p1 (((a00 e1.pfx.parts k2).2).length) c1, .int .i64 ((a00 e1.pfx.parts k2).1), .int .i64 (i64.wrap (((a00 e1.pfx.parts k2).1) + 1))] ++ B1) _] := aej (α := Route) (e := (Route.mk (Name.mk ((a00 e1.pfx.parts k2).2)) ((a00 e1.pfx.parts k2).1) (i64.wrap (((a00 e1.pfx.parts k2).1) + 1)))) (x := ((p1, c1), (), ())) a8 hs; rw [ad] at z_; exact z_) Z ?_
 refine zU [9] 2 ?_
 exact IT (_, ((a2.set i (Route.mk (Name.mk ((a00 e1.pfx.parts k2).2)) ((a00 e1.pfx.parts k2).1) (i64.wrap (((a00 e1.pfx.parts k2).1) + 1)))) : List Route), i64.wrap ((i64.wrap (((a00 e1.pfx.parts k2).1) + 1)) + 1), i + 1) ⟨τ0, τ2, (aef v3 (show ok n ((Route.mk (Name.mk ((a00 e1.pfx.parts k2).2)) ((a00 e1.pfx.parts k2).1) (i64.wrap (((a00 e1.pfx.parts k2).1) + 1))) : Route) from (An a3.1.2 (An a3.1.1 (ad3 _))))), (ad3 _), (by rw [v5, show a.length - i = (a.length - (i + 1)) + 1 by omega]; simp only [a8x, a5, cT, cF])⟩ τ1 [2]
 have ab := v5.trans (show _ = ((a2 : List Route), k2) by rw [show a.length - i = 0 by omega]; simp only [a8x, cT, cF])
 refine yE 501 2 10 (hn := (show a.length = a2.length from by omega)) ?_
 refine SL 7 a2.length ?_
 refine SL 0 a2.length ?_
 rw [show a0z a k = (k2, a2) by simp only [a0z, ab, cT, cF]]
 exact zX [11] () ⟨⟨v4, (ada τ0 v3 : ok n (a2 : List Route))⟩, (show a2.length = a.length from by omega)⟩
theorem f215 (hn : n + 0 ≤ 9) (a : (List Measurement)) (K0 : Option Addr) (M0 : Nat) {k : Int} {H : GH} (hH : Le H (hp w)) (hown : Sep H (GoT.oa a (K0, M0))) (a1 : ok n a) (a6 : ok n k) :
 Does Tryz.prog 215 #[vS K0 a M0, vI k] w H (Post w H (fun _ : Unit => .int .i64 ((a1k a k).1)) (fun _ => GoT.oa ((a1k a k).2 : (List Measurement)) (K0, M0)) ((ok n ((a1k a k).1 : Int) ∧ ok n ((a1k a k).2 : (List Measurement))) ∧ ((a1k a k).2).length = (a).length)) := by
 have hb := bS0 hn
 refine WX.enterM (tt := tt) (Γ := []) 1 Tryz.func215 Z J Z adc hH hown (fun f hf => GoT.oak f hf) Z ?_
 refine zN (kk := 3) 501 1 2 fun ae ah => ?_
 have r1 := (okl a1).1
 refine LM Z (ae, (a : List Measurement), k, 0) (fun | (a0, a2, k2, i) => ((i ≤ a.length) ∧ (a2.length = a.length) ∧ JE n a2 ∧ J6 k2 ∧ (a8y (a.length) 0 (a : List Measurement) k = a8y (a.length - i) i a2 k2), a.length - i, [(1, .v (vI k2)), (5, .v (vI i))], [], [(501, ⟨3, K0, a.length, M0, a0⟩)], [(2, MF.ol a0 (a2 : List Measurement))])) ⟨zl, τ5, (okl a1).2, a6, Z⟩ [0] [] [] [2] ?_
 rintro ⟨a0, a2, k2, i⟩ ⟨v1, v2, v3, v4, v5⟩
 refine yKD 9 ?_ ?_ <;> intro h1 ak
 have a7 : i < a.length := τ3
 refine R0 ?_
 refine zR 501 i a7 ?_
 rintro af rfl
 have a8 : i < a2.length := τ3
 obtain ⟨e1, a5⟩ := gE a8
 have ac : ok n e1 := v3 _ (List.mem_of_getElem? a5)
 refine R0 ?_
 refine zO (α := Measurement) (e := e1) 501 2 3 i a5 ?_
 rintro A1 B1 ⟨⟨p1, c1⟩, ⟨⟩, ⟨⟩⟩ a4 aj
 refine zA 501 a4 a7 ?_
 refine R0 ?_
 refine CN [4] 7 Z Z Z Z Z Z O Z (fun w β H η σ γ => f103 n τ0 e1.pfx.parts p1 c1 η σ (ae4 (ae3 ac).1) v4) ?_
 rintro ⟨⟩ a3
 have ad : ((a00 e1.pfx.parts k2).2).length = e1.pfx.parts.length := a3.2
 have aa : i < a.length := τ3
 refine R0 ?_
 refine zR 501 i aa ?_
 rintro ai ⟨⟩
 refine R0 ?_
 refine zS 501 a4 aa ?_
 refine SW ?_
 have a9 : i < a.length := τ3
 refine R0 ?_
 refine zR 501 i a9 ?_
 rintro ag ⟨⟩
 refine R0 ?_
 refine zS 501 a4 a9 ?_
 refine SW ?_
 refine SA ?_
 refine R0 ?_
 refine WX.turn [8, 5, 6] 9 Z (fun h hs => by have z_ : Sep h [MF.ol (A1 ++ [.slice p1 (((a00 e1.pfx.parts k2).2).length) c1, .int .i64 ((a00 e1.pfx.parts k2).1), .int .i64 (i64.wrap (((a00 e1.pfx.parts k2).1) + 1))] ++ B1) _] := aej (α := Measurement) (e := (Measurement.mk (Name.mk ((a00 e1.pfx.parts k2).2)) ((a00 e1.pfx.parts k2).1) (i64.wrap (((a00 e1.pfx.parts k2).1) + 1)))) (x := ((p1, c1), (), ())) a8 hs; rw [ad] at z_; exact z_) Z ?_
 refine zU [9] 2 ?_
 exact IT (_, ((a2.set i (Measurement.mk (Name.mk ((a00 e1.pfx.parts k2).2)) ((a00 e1.pfx.parts k2).1) (i64.wrap (((a00 e1.pfx.parts k2).1) + 1)))) : List Measurement), i64.wrap ((i64.wrap (((a00 e1.pfx.parts k2).1) + 1)) + 1), i + 1) ⟨τ0, τ2, (aef v3 (show ok n ((Measurement.mk (Name.mk ((a00 e1.pfx.parts k2).2)) ((a00 e1.pfx.parts k2).1) (i64.wrap (((a00 e1.pfx.parts k2).1) + 1))) : Measurement) from (An a3.1.2 (An a3.1.1 (ad3 _))))), (ad3 _), (by rw [v5, show a.length - i = (a.length - (i + 1)) + 1 by omega]; simp only [a8y, a5, cT, cF])⟩ τ1 [2]
 have ab := v5.trans (show _ = ((a2 : List Measurement), k2) by rw [show a.length - i = 0 by omega]; simp only [a8y, cT, cF])
 refine yE 501 2 10 (hn := (show a.length = a2.length from by omega)) ?_
 refine SL 7 a2.length ?_
 refine SL 0 a2.length ?_
 rw [show a1k a k = (k2, a2) by simp only [a1k, ab, cT, cF]]
 exact zX [11] () ⟨⟨v4, (ada τ0 v3 : ok n (a2 : List Measurement))⟩, (show a2.length = a.length from by omega)⟩
theorem f104 (hn : n + 0 ≤ 9) (a : (List NodeP)) (K0 : Option Addr) (M0 : Nat) {k : Int} {H : GH} (hH : Le H (hp w)) (hown : Sep H (GoT.oa a (K0, M0))) (a4 : ok n a) (ab : ok n k) :
 Does Tryz.prog 104 #[vS K0 a M0, vI k] w H (Post w H (fun _ : Unit => .int .i64 ((a0l a k).1)) (fun _ => GoT.oa ((a0l a k).2 : (List NodeP)) (K0, M0)) ((ok n ((a0l a k).1 : Int) ∧ ok n ((a0l a k).2 : (List NodeP))) ∧ ((a0l a k).2).length = (a).length)) := by
 have hb := bS0 hn
 refine WX.enterM (tt := tt) (Γ := []) 1 Tryz.func104 Z J Z adc hH hown (fun f hf => GoT.oak f hf) Z ?_
 refine zN (kk := 8) 501 1 2 fun av b1 => ?_
 have r1 := (okl a4).1
 refine LM Z (av, (a : List NodeP), k, 0) (fun | (a1, a2, k2, i) => ((i ≤ a.length) ∧ (a2.length = a.length) ∧ JE n a2 ∧ J6 k2 ∧ (a8z (a.length) 0 (a : List NodeP) k = a8z (a.length - i) i a2 k2), a.length - i, [(1, .v (vI k2)), (5, .v (vI i))], [], [(501, ⟨8, K0, a.length, M0, a1⟩)], [(2, MF.ol a1 (a2 : List NodeP))])) ⟨zl, τ5, (okl a4).2, ab, Z⟩ [0] [] [] [2] ?_
 rintro ⟨a1, a2, k2, i⟩ ⟨v1, v2, v3, v4, v5⟩
 refine yKD 9 ?_ ?_ <;> intro h1 ax
 have ad : i < a.length := τ3
 refine R0 ?_
 refine zR 501 i ad ?_
 rintro aw rfl
 have ae : i < a2.length := τ3
 obtain ⟨e1, aa⟩ := gE ae
 have a3 : ok n e1 := v3 _ (List.mem_of_getElem? aa)
 refine R0 ?_
 refine zO (α := NodeP) (e := e1) 501 2 3 i aa ?_
 rintro A1 B1 ⟨⟨p1, c1⟩, ⟨⟨⟩, ⟨p2, c2⟩⟩, ⟨p3, c3⟩, ⟨p4, c4⟩, ⟨p5, c5⟩, ⟨p6, c6⟩, ⟨⟩⟩ a0 b5
 refine zA 501 a0 ad ?_
 refine R0 ?_
 refine CN [9] 17 Z Z Z Z Z Z O Z (fun w β H η σ γ => f102 n τ0 e1.locl p1 c1 η σ ((ad6 a3).1) v4) ?_
 rintro ⟨⟩ a6
 have au : ((a0d e1.locl k2).2).length = e1.locl.length := a6.2
 have ak : i < a.length := τ3
 refine R0 ?_
 refine zR 501 i ak ?_
 rintro b2 ⟨⟩
 refine R0 ?_
 refine zS 501 a0 ak ?_
 refine SW ?_
 have ag : i < a.length := τ3
 refine R0 ?_
 refine zR 501 i ag ?_
 rintro ay ⟨⟩
 refine R0 ?_
 refine zA 501 a0 ag ?_
 refine R0 ?_
 refine CN [10] 19 Z Z Z Z Z Z O Z (fun w β H η σ γ => f211 n τ0 e1.cache.entries p2 c2 η σ ((aei (ad6 a3).2.1).2) (ad3 _)) ?_
 rintro ⟨⟩ a7
 have ar : ((a0i e1.cache.entries (i64.wrap (((a0d e1.locl k2).1) + 1))).2).length = e1.cache.entries.length := a7.2
 have aj : i < a.length := τ3
 refine R0 ?_
 refine zR 501 i aj ?_
 rintro b6 ⟨⟩
 refine R0 ?_
 refine zA 501 a0 aj ?_
 refine R0 ?_
 refine CN [11] 21 Z Z Z Z Z Z O Z (fun w β H η σ γ => f212 n τ0 e1.pending p3 c3 η σ ((ad6 a3).2.2.1) a7.1.1) ?_
 rintro ⟨⟩ ac
 have aq : ((a0m e1.pending ((a0i e1.cache.entries (i64.wrap (((a0d e1.locl k2).1) + 1))).1)).2).length = e1.pending.length := ac.2
 have ai : i < a.length := τ3
 refine R0 ?_
 refine zR 501 i ai ?_
 rintro b3 ⟨⟩
 refine R0 ?_
 refine zA 501 a0 ai ?_
 refine R0 ?_
 refine CN [12] 23 Z Z Z Z Z Z O Z (fun w β H η σ γ => f213 n τ0 e1.seen p4 c4 η σ ((ad6 a3).2.2.2.1) ac.1.1) ?_
 rintro ⟨⟩ a8
 have ao : ((a0n e1.seen ((a0m e1.pending ((a0i e1.cache.entries (i64.wrap (((a0d e1.locl k2).1) + 1))).1)).1)).2).length = e1.seen.length := a8.2
 have ah : i < a.length := τ3
 refine R0 ?_
 refine zR 501 i ah ?_
 rintro b4 ⟨⟩
 refine R0 ?_
 refine zA 501 a0 ah ?_
 refine R0 ?_
 refine CN [13] 25 Z Z Z Z Z Z O Z (fun w β H η σ γ => f214 n τ0 e1.routes p5 c5 η σ ((ad6 a3).2.2.2.2.1) a8.1.1) ?_
 rintro ⟨⟩ a5
 have am : ((a0z e1.routes ((a0n e1.seen ((a0m e1.pending ((a0i e1.cache.entries (i64.wrap (((a0d e1.locl k2).1) + 1))).1)).1)).1)).2).length = e1.routes.length := a5.2
 have af : i < a.length := τ3
 refine R0 ?_
 refine zR 501 i af ?_
 rintro b0 ⟨⟩
 refine R0 ?_
 refine zA 501 a0 af ?_
 refine R0 ?_
 refine CN [14] 27 Z Z Z Z Z Z O Z (fun w β H η σ γ => f215 n τ0 e1.measurements p6 c6 η σ ((ad6 a3).2.2.2.2.2.1) a5.1.1) ?_
 rintro ⟨⟩ a9
 have ap : ((a1k e1.measurements ((a0z e1.routes ((a0n e1.seen ((a0m e1.pending ((a0i e1.cache.entries (i64.wrap (((a0d e1.locl k2).1) + 1))).1)).1)).1)).1)).2).length = e1.measurements.length := a9.2
 have al : i < a.length := τ3
 refine R0 ?_
 refine zR 501 i al ?_
 rintro az ⟨⟩
 refine R0 ?_
 refine zS 501 a0 al ?_
 refine SW ?_
 refine SA ?_
 refine R0 ?_
 refine WX.turn [18, 20, 22, 24, 26, 28, 15, 16] 29 Z (fun h hs => by have z_ : Sep h [MF.ol (A1 ++ [.slice p1 (((a0d e1.locl k2).2).length) c1, .int .i64 ((a0d e1.locl k2).1), .slice p2 (((a0i e1.cache.entries (i64.wrap (((a0d e1.locl k2).1) + 1))).2).length) c2, .slice p3 (((a0m e1.pending ((a0i e1.cache.entries (i64.wrap (((a0d e1.locl k2).1) + 1))).1)).2).length) c3, .slice p4 (((a0n e1.seen ((a0m e1.pending ((a0i e1.cache.entries (i64.wrap (((a0d e1.locl k2).1) + 1))).1)).1)).2).length) c4, .slice p5 (((a0z e1.routes ((a0n e1.seen ((a0m e1.pending ((a0i e1.cache.entries (i64.wrap (((a0d e1.locl k2).1) + 1))).1)).1)).1)).2).length) c5, .slice p6 (((a1k e1.measurements ((a0z e1.routes ((a0n e1.seen ((a0m e1.pending ((a0i e1.cache.entries (i64.wrap (((a0d e1.locl k2).1) + 1))).1)).1)).1)).1)).2).length) c6, .int .i64 ((a1k e1.measurements ((a0z e1.routes ((a0n e1.seen ((a0m e1.pending ((a0i e1.cache.entries (i64.wrap (((a0d e1.locl k2).1) + 1))).1)).1)).1)).1)).1)] ++ B1) _] := aej (α := NodeP) (e := (NodeP.mk ((a0d e1.locl k2).2) (ContentStore.mk ((a0d e1.locl k2).1) ((a0i e1.cache.entries (i64.wrap (((a0d e1.locl k2).1) + 1))).2)) ((a0m e1.pending ((a0i e1.cache.entries (i64.wrap (((a0d e1.locl k2).1) + 1))).1)).2) ((a0n e1.seen ((a0m e1.pending ((a0i e1.cache.entries (i64.wrap (((a0d e1.locl k2).1) + 1))).1)).1)).2) ((a0z e1.routes ((a0n e1.seen ((a0m e1.pending ((a0i e1.cache.entries (i64.wrap (((a0d e1.locl k2).1) + 1))).1)).1)).1)).2) ((a1k e1.measurements ((a0z e1.routes ((a0n e1.seen ((a0m e1.pending ((a0i e1.cache.entries (i64.wrap (((a0d e1.locl k2).1) + 1))).1)).1)).1)).1)).2) ((a1k e1.measurements ((a0z e1.routes ((a0n e1.seen ((a0m e1.pending ((a0i e1.cache.entries (i64.wrap (((a0d e1.locl k2).1) + 1))).1)).1)).1)).1)).1))) (x := ((p1, c1), ((), (p2, c2)), (p3, c3), (p4, c4), (p5, c5), (p6, c6), ())) ae hs; rw [au, ar, aq, ao, am, ap] at z_; exact z_) Z ?_
 refine zU [29] 2 ?_
 exact IT (_, ((a2.set i (NodeP.mk ((a0d e1.locl k2).2) (ContentStore.mk ((a0d e1.locl k2).1) ((a0i e1.cache.entries (i64.wrap (((a0d e1.locl k2).1) + 1))).2)) ((a0m e1.pending ((a0i e1.cache.entries (i64.wrap (((a0d e1.locl k2).1) + 1))).1)).2) ((a0n e1.seen ((a0m e1.pending ((a0i e1.cache.entries (i64.wrap (((a0d e1.locl k2).1) + 1))).1)).1)).2) ((a0z e1.routes ((a0n e1.seen ((a0m e1.pending ((a0i e1.cache.entries (i64.wrap (((a0d e1.locl k2).1) + 1))).1)).1)).1)).2) ((a1k e1.measurements ((a0z e1.routes ((a0n e1.seen ((a0m e1.pending ((a0i e1.cache.entries (i64.wrap (((a0d e1.locl k2).1) + 1))).1)).1)).1)).1)).2) ((a1k e1.measurements ((a0z e1.routes ((a0n e1.seen ((a0m e1.pending ((a0i e1.cache.entries (i64.wrap (((a0d e1.locl k2).1) + 1))).1)).1)).1)).1)).1))) : List NodeP), i64.wrap (((a1k e1.measurements ((a0z e1.routes ((a0n e1.seen ((a0m e1.pending ((a0i e1.cache.entries (i64.wrap (((a0d e1.locl k2).1) + 1))).1)).1)).1)).1)).1) + 1), i + 1) ⟨τ0, τ2, (aef v3 (show ok n ((NodeP.mk ((a0d e1.locl k2).2) (ContentStore.mk ((a0d e1.locl k2).1) ((a0i e1.cache.entries (i64.wrap (((a0d e1.locl k2).1) + 1))).2)) ((a0m e1.pending ((a0i e1.cache.entries (i64.wrap (((a0d e1.locl k2).1) + 1))).1)).2) ((a0n e1.seen ((a0m e1.pending ((a0i e1.cache.entries (i64.wrap (((a0d e1.locl k2).1) + 1))).1)).1)).2) ((a0z e1.routes ((a0n e1.seen ((a0m e1.pending ((a0i e1.cache.entries (i64.wrap (((a0d e1.locl k2).1) + 1))).1)).1)).1)).2) ((a1k e1.measurements ((a0z e1.routes ((a0n e1.seen ((a0m e1.pending ((a0i e1.cache.entries (i64.wrap (((a0d e1.locl k2).1) + 1))).1)).1)).1)).1)).2) ((a1k e1.measurements ((a0z e1.routes ((a0n e1.seen ((a0m e1.pending ((a0i e1.cache.entries (i64.wrap (((a0d e1.locl k2).1) + 1))).1)).1)).1)).1)).1)) : NodeP) from (An a6.1.2 (An (An a6.1.1 a7.1.2) (An ac.1.2 (An a8.1.2 (An a5.1.2 (An a9.1.2 a9.1.1)))))))), (ad3 _), (by rw [v5, show a.length - i = (a.length - (i + 1)) + 1 by omega]; simp only [a8z, aa, cT, cF])⟩ τ1 [2]
 have an := v5.trans (show _ = ((a2 : List NodeP), k2) by rw [show a.length - i = 0 by omega]; simp only [a8z, cT, cF])
 refine yE 501 2 30 (hn := (show a.length = a2.length from by omega)) ?_
 refine SL 7 a2.length ?_
 refine SL 0 a2.length ?_
 rw [show a0l a k = (k2, a2) by simp only [a0l, an, cT, cF]]
 exact zX [31] () ⟨⟨v4, (ada τ0 v3 : ok n (a2 : List NodeP))⟩, (show a2.length = a.length from by omega)⟩
theorem f105 (hn : n + 0 ≤ 9) (a : (List Int)) (K0 : Option Addr) (M0 : Nat) {k : Int} {H : GH} (hH : Le H (hp w)) (hown : Sep H (GoT.oa a (K0, M0))) (a1 : ok n a) (a4 : ok n k) :
 Does Tryz.prog 105 #[vS K0 a M0, vI k] w H (Post w H (fun _ : Unit => .int .i64 ((a0o a k).1)) (fun _ => GoT.oa ((a0o a k).2 : (List Int)) (K0, M0)) ((ok n ((a0o a k).1 : Int) ∧ ok n ((a0o a k).2 : (List Int))) ∧ ((a0o a k).2).length = (a).length)) := by
 have hb := bS0 hn
 refine WX.enterM (tt := tt) (Γ := []) 1 Tryz.func105 Z J Z adc hH hown (fun f hf => GoT.oak f hf) Z ?_
 refine zN (kk := 1) 501 1 2 fun a9 ac => ?_
 have r1 := (okl a1).1
 refine LM Z (a9, (a : List Int), k, 0) (fun | (a0, a2, k2, i) => ((i ≤ a.length) ∧ (a2.length = a.length) ∧ JE n a2 ∧ J6 k2 ∧ (a90 (a.length) 0 (a : List Int) k = a90 (a.length - i) i a2 k2), a.length - i, [(1, .v (vI k2)), (5, .v (vI i))], [], [(501, ⟨1, K0, a.length, M0, a0⟩)], [(2, MF.ol a0 (a2 : List Int))])) ⟨zl, τ5, (okl a1).2, a4, Z⟩ [0] [] [] [2] ?_
 rintro ⟨a0, a2, k2, i⟩ ⟨v1, v2, v3, v4, v5⟩
 refine yKD 9 ?_ ?_ <;> intro h1 ae
 have a5 : i < a.length := τ3
 refine R0 ?_
 refine zR 501 i a5 ?_
 rintro aa rfl
 have a6 : i < a2.length := τ3
 obtain ⟨e1, a3⟩ := gE a6
 have ab : ok n e1 := v3 _ (List.mem_of_getElem? a3)
 refine zO (α := Int) (e := e1) 501 2 3 i a3 ?_
 rintro A1 B1 ⟨⟩ a8 ad
 refine zS 501 a8 a5 ?_
 refine SW ?_
 refine SA ?_
 refine R0 ?_
 refine WX.turn [3, 4] 5 Z (fun h hs => aej (α := Int) (e := k2) (x := ()) a6 hs) Z ?_
 refine zU [5] 2 ?_
 exact IT (_, ((a2.set i k2) : List Int), i64.wrap (k2 + 1), i + 1) ⟨τ0, τ2, (aef v3 (show ok n (k2 : Int) from v4)), (ad3 _), (by rw [v5, show a.length - i = (a.length - (i + 1)) + 1 by omega]; simp only [a90, a3, cT, cF])⟩ τ1 [2]
 have a7 := v5.trans (show _ = ((a2 : List Int), k2) by rw [show a.length - i = 0 by omega]; simp only [a90, cT, cF])
 refine yE 501 2 6 (hn := (show a.length = a2.length from by omega)) ?_
 refine SL 7 a2.length ?_
 refine SL 0 a2.length ?_
 rw [show a0o a k = (k2, a2) by simp only [a0o, a7, cT, cF]]
 exact zX [7] () ⟨⟨v4, (ada τ0 v3 : ok n (a2 : List Int))⟩, (show a2.length = a.length from by omega)⟩
theorem f106 (hn : n + 0 ≤ 9) (a : (List PacketInFlight)) (K0 : Option Addr) (M0 : Nat) {k : Int} {H : GH} (hH : Le H (hp w)) (hown : Sep H (GoT.oa a (K0, M0))) (a5 : ok n a) (ac : ok n k) :
 Does Tryz.prog 106 #[vS K0 a M0, vI k] w H (Post w H (fun _ : Unit => .int .i64 ((a13 a k).1)) (fun _ => GoT.oa ((a13 a k).2 : (List PacketInFlight)) (K0, M0)) ((ok n ((a13 a k).1 : Int) ∧ ok n ((a13 a k).2 : (List PacketInFlight))) ∧ ((a13 a k).2).length = (a).length)) := by
 have hb := bS0 hn
 refine WX.enterM (tt := tt) (Γ := []) 1 Tryz.func106 Z J Z adc hH hown (fun f hf => GoT.oak f hf) Z ?_
 refine zN (kk := 12) 501 1 2 fun aw b5 => ?_
 have r1 := (okl a5).1
 refine LM Z (aw, (a : List PacketInFlight), k, 0) (fun | (a1, a2, k2, i) => ((i ≤ a.length) ∧ (a2.length = a.length) ∧ JE n a2 ∧ J6 k2 ∧ (a91 (a.length) 0 (a : List PacketInFlight) k = a91 (a.length - i) i a2 k2), a.length - i, [(1, .v (vI k2)), (5, .v (vI i))], [], [(501, ⟨12, K0, a.length, M0, a1⟩)], [(2, MF.ol a1 (a2 : List PacketInFlight))])) ⟨zl, τ5, (okl a5).2, ac, Z⟩ [0] [] [] [2] ?_
 rintro ⟨a1, a2, k2, i⟩ ⟨v1, v2, v3, v4, v5⟩
 refine yKD 9 ?_ ?_ <;> intro h1 b0
 have ae : i < a.length := τ3
 refine R0 ?_
 refine zR 501 i ae ?_
 rintro az rfl
 have ag : i < a2.length := τ3
 obtain ⟨e1, ab⟩ := gE ag
 have a7 : ok n e1 := v3 _ (List.mem_of_getElem? ab)
 refine R0 ?_
 refine zO (α := PacketInFlight) (e := e1) 501 2 3 i ab ?_
 rintro A1 B1 ⟨⟨⟩, ⟨⟩, ⟨⟩, ⟨⟨p1, c1⟩, ⟨⟩, ⟨⟩, ⟨⟩⟩, ⟨⟨p2, c2⟩, ⟨p3, c3⟩, ⟨p4, c4⟩, ⟨⟩, ⟨⟩⟩⟩ a0 b9
 refine zS 501 a0 ae ?_
 refine SW ?_
 have am : i < a.length := τ3
 refine R0 ?_
 refine zR 501 i am ?_
 rintro b6 ⟨⟩
 refine R0 ?_
 refine zS 501 a0 am ?_
 refine SW ?_
 have r2 := ali (i64.wrap ((i64.wrap (k2 + 1)) + 1)) (show (0 : Int) < 3 by omega)
 refine KS Z Z Z Z (fun _ hΓ => aiw Z Z Z τ8) ?_
 have ai : i < a.length := τ3
 refine R0 ?_
 refine zR 501 i ai ?_
 rintro b1 ⟨⟩
 refine R0 ?_
 refine zS 501 a0 ai ?_
 refine SW ?_
 have al : i < a.length := τ3
 refine R0 ?_
 refine zR 501 i al ?_
 rintro ba ⟨⟩
 refine R0 ?_
 refine zA 501 a0 al ?_
 refine R0 ?_
 refine CN [7] 13 Z Z Z Z Z Z O Z (fun w β H η σ γ => f103 n τ0 e1.interest.name.parts p1 c1 η σ (ae4 (aep (ad5 a7).2.2.2.1).1) (ad3 _)) ?_
 rintro ⟨⟩ a8
 have av : ((a00 e1.interest.name.parts (i64.wrap ((i64.wrap ((i64.wrap (k2 + 1)) + 1)) + 1))).2).length = e1.interest.name.parts.length := a8.2
 have ak : i < a.length := τ3
 refine R0 ?_
 refine zR 501 i ak ?_
 rintro b7 ⟨⟩
 refine R0 ?_
 refine zS 501 a0 ak ?_
 refine SW ?_
 have aj : i < a.length := τ3
 refine R0 ?_
 refine zR 501 i aj ?_
 rintro b8 ⟨⟩
 refine R0 ?_
 refine zS 501 a0 aj ?_
 refine SW ?_
 have ah : i < a.length := τ3
 refine R0 ?_
 refine zR 501 i ah ?_
 rintro b4 ⟨⟩
 refine R0 ?_
 refine zS 501 a0 ah ?_
 refine SW ?_
 have an : i < a.length := τ3
 refine R0 ?_
 refine zR 501 i an ?_
 rintro b2 ⟨⟩
 refine R0 ?_
 refine zA 501 a0 an ?_
 refine R0 ?_
 refine CN [8] 15 Z Z Z Z Z Z O Z (fun w β H η σ γ => f103 n τ0 e1.data.name.parts p2 c2 η σ (ae4 (ado (ad5 a7).2.2.2.2).1) (ad3 _)) ?_
 rintro ⟨⟩ a9
 have au : ((a00 e1.data.name.parts (i64.wrap ((i64.wrap ((i64.wrap (((a00 e1.interest.name.parts (i64.wrap ((i64.wrap ((i64.wrap (k2 + 1)) + 1)) + 1))).1) + 1)) + 1)) + 1))).2).length = e1.data.name.parts.length := a9.2
 have af : i < a.length := τ3
 refine R0 ?_
 refine zR 501 i af ?_
 rintro b3 ⟨⟩
 refine R0 ?_
 refine zA 501 a0 af ?_
 refine R0 ?_
 refine CN [9] 17 Z Z Z Z Z Z O Z (fun w β H η σ γ => f209 n τ0 e1.data.content p3 c3 η σ ((ado (ad5 a7).2.2.2.2).2.1) a9.1.1) ?_
 rintro ⟨⟩ ad
 have aq : ((a03 e1.data.content ((a00 e1.data.name.parts (i64.wrap ((i64.wrap ((i64.wrap (((a00 e1.interest.name.parts (i64.wrap ((i64.wrap ((i64.wrap (k2 + 1)) + 1)) + 1))).1) + 1)) + 1)) + 1))).1)).2).length = e1.data.content.length := ad.2
 have a4 : i < a.length := τ3
 refine R0 ?_
 refine zR 501 i a4 ?_
 rintro ay ⟨⟩
 refine R0 ?_
 refine zA 501 a0 a4 ?_
 refine R0 ?_
 refine CN [10] 19 Z Z Z Z Z Z O Z (fun w β H η σ γ => f103 n τ0 e1.data.keyName.parts p4 c4 η σ (ae4 (ado (ad5 a7).2.2.2.2).2.2.1) ad.1.1) ?_
 rintro ⟨⟩ aa
 have ap : ((a00 e1.data.keyName.parts ((a03 e1.data.content ((a00 e1.data.name.parts (i64.wrap ((i64.wrap ((i64.wrap (((a00 e1.interest.name.parts (i64.wrap ((i64.wrap ((i64.wrap (k2 + 1)) + 1)) + 1))).1) + 1)) + 1)) + 1))).1)).1)).2).length = e1.data.keyName.parts.length := aa.2
 have a3 : i < a.length := τ3
 refine R0 ?_
 refine zR 501 i a3 ?_
 rintro ar ⟨⟩
 refine R0 ?_
 refine zS 501 a0 a3 ?_
 refine SW ?_
 have a6 : i < a.length := τ3
 refine R0 ?_
 refine zR 501 i a6 ?_
 rintro ax ⟨⟩
 refine R0 ?_
 refine zS 501 a0 a6 ?_
 refine SW ?_
 refine SA ?_
 refine R0 ?_
 refine WX.turn [14, 16, 18, 20, 11, 12] 21 Z (fun h hs => by have z_ : Sep h [MF.ol (A1 ++ [.int .i64 k2, .int .i64 (i64.wrap (k2 + 1)), .bool (Int.tmod (i64.wrap ((i64.wrap (k2 + 1)) + 1)) 3 == 0), .slice p1 (((a00 e1.interest.name.parts (i64.wrap ((i64.wrap ((i64.wrap (k2 + 1)) + 1)) + 1))).2).length) c1, .int .i64 ((a00 e1.interest.name.parts (i64.wrap ((i64.wrap ((i64.wrap (k2 + 1)) + 1)) + 1))).1), .int .i64 (i64.wrap (((a00 e1.interest.name.parts (i64.wrap ((i64.wrap ((i64.wrap (k2 + 1)) + 1)) + 1))).1) + 1)), .int .i64 (i64.wrap ((i64.wrap (((a00 e1.interest.name.parts (i64.wrap ((i64.wrap ((i64.wrap (k2 + 1)) + 1)) + 1))).1) + 1)) + 1)), .slice p2 (((a00 e1.data.name.parts (i64.wrap ((i64.wrap ((i64.wrap (((a00 e1.interest.name.parts (i64.wrap ((i64.wrap ((i64.wrap (k2 + 1)) + 1)) + 1))).1) + 1)) + 1)) + 1))).2).length) c2, .slice p3 (((a03 e1.data.content ((a00 e1.data.name.parts (i64.wrap ((i64.wrap ((i64.wrap (((a00 e1.interest.name.parts (i64.wrap ((i64.wrap ((i64.wrap (k2 + 1)) + 1)) + 1))).1) + 1)) + 1)) + 1))).1)).2).length) c3, .slice p4 (((a00 e1.data.keyName.parts ((a03 e1.data.content ((a00 e1.data.name.parts (i64.wrap ((i64.wrap ((i64.wrap (((a00 e1.interest.name.parts (i64.wrap ((i64.wrap ((i64.wrap (k2 + 1)) + 1)) + 1))).1) + 1)) + 1)) + 1))).1)).1)).2).length) c4, .int .i64 ((a00 e1.data.keyName.parts ((a03 e1.data.content ((a00 e1.data.name.parts (i64.wrap ((i64.wrap ((i64.wrap (((a00 e1.interest.name.parts (i64.wrap ((i64.wrap ((i64.wrap (k2 + 1)) + 1)) + 1))).1) + 1)) + 1)) + 1))).1)).1)).1), .int .i64 (i64.wrap (((a00 e1.data.keyName.parts ((a03 e1.data.content ((a00 e1.data.name.parts (i64.wrap ((i64.wrap ((i64.wrap (((a00 e1.interest.name.parts (i64.wrap ((i64.wrap ((i64.wrap (k2 + 1)) + 1)) + 1))).1) + 1)) + 1)) + 1))).1)).1)).1) + 1))] ++ B1) _] := aej (α := PacketInFlight) (e := (PacketInFlight.mk k2 (i64.wrap (k2 + 1)) (Int.tmod (i64.wrap ((i64.wrap (k2 + 1)) + 1)) 3 == 0) (Interest.mk (Name.mk ((a00 e1.interest.name.parts (i64.wrap ((i64.wrap ((i64.wrap (k2 + 1)) + 1)) + 1))).2)) ((a00 e1.interest.name.parts (i64.wrap ((i64.wrap ((i64.wrap (k2 + 1)) + 1)) + 1))).1) (i64.wrap (((a00 e1.interest.name.parts (i64.wrap ((i64.wrap ((i64.wrap (k2 + 1)) + 1)) + 1))).1) + 1)) (i64.wrap ((i64.wrap (((a00 e1.interest.name.parts (i64.wrap ((i64.wrap ((i64.wrap (k2 + 1)) + 1)) + 1))).1) + 1)) + 1))) (DataP.mk (Name.mk ((a00 e1.data.name.parts (i64.wrap ((i64.wrap ((i64.wrap (((a00 e1.interest.name.parts (i64.wrap ((i64.wrap ((i64.wrap (k2 + 1)) + 1)) + 1))).1) + 1)) + 1)) + 1))).2)) ((a03 e1.data.content ((a00 e1.data.name.parts (i64.wrap ((i64.wrap ((i64.wrap (((a00 e1.interest.name.parts (i64.wrap ((i64.wrap ((i64.wrap (k2 + 1)) + 1)) + 1))).1) + 1)) + 1)) + 1))).1)).2) (Name.mk ((a00 e1.data.keyName.parts ((a03 e1.data.content ((a00 e1.data.name.parts (i64.wrap ((i64.wrap ((i64.wrap (((a00 e1.interest.name.parts (i64.wrap ((i64.wrap ((i64.wrap (k2 + 1)) + 1)) + 1))).1) + 1)) + 1)) + 1))).1)).1)).2)) ((a00 e1.data.keyName.parts ((a03 e1.data.content ((a00 e1.data.name.parts (i64.wrap ((i64.wrap ((i64.wrap (((a00 e1.interest.name.parts (i64.wrap ((i64.wrap ((i64.wrap (k2 + 1)) + 1)) + 1))).1) + 1)) + 1)) + 1))).1)).1)).1) (i64.wrap (((a00 e1.data.keyName.parts ((a03 e1.data.content ((a00 e1.data.name.parts (i64.wrap ((i64.wrap ((i64.wrap (((a00 e1.interest.name.parts (i64.wrap ((i64.wrap ((i64.wrap (k2 + 1)) + 1)) + 1))).1) + 1)) + 1)) + 1))).1)).1)).1) + 1))))) (x := ((), (), (), ((p1, c1), (), (), ()), ((p2, c2), (p3, c3), (p4, c4), (), ()))) ag hs; rw [av, au, aq, ap] at z_; exact z_) Z ?_
 refine zU [21] 2 ?_
 exact IT (_, ((a2.set i (PacketInFlight.mk k2 (i64.wrap (k2 + 1)) (Int.tmod (i64.wrap ((i64.wrap (k2 + 1)) + 1)) 3 == 0) (Interest.mk (Name.mk ((a00 e1.interest.name.parts (i64.wrap ((i64.wrap ((i64.wrap (k2 + 1)) + 1)) + 1))).2)) ((a00 e1.interest.name.parts (i64.wrap ((i64.wrap ((i64.wrap (k2 + 1)) + 1)) + 1))).1) (i64.wrap (((a00 e1.interest.name.parts (i64.wrap ((i64.wrap ((i64.wrap (k2 + 1)) + 1)) + 1))).1) + 1)) (i64.wrap ((i64.wrap (((a00 e1.interest.name.parts (i64.wrap ((i64.wrap ((i64.wrap (k2 + 1)) + 1)) + 1))).1) + 1)) + 1))) (DataP.mk (Name.mk ((a00 e1.data.name.parts (i64.wrap ((i64.wrap ((i64.wrap (((a00 e1.interest.name.parts (i64.wrap ((i64.wrap ((i64.wrap (k2 + 1)) + 1)) + 1))).1) + 1)) + 1)) + 1))).2)) ((a03 e1.data.content ((a00 e1.data.name.parts (i64.wrap ((i64.wrap ((i64.wrap (((a00 e1.interest.name.parts (i64.wrap ((i64.wrap ((i64.wrap (k2 + 1)) + 1)) + 1))).1) + 1)) + 1)) + 1))).1)).2) (Name.mk ((a00 e1.data.keyName.parts ((a03 e1.data.content ((a00 e1.data.name.parts (i64.wrap ((i64.wrap ((i64.wrap (((a00 e1.interest.name.parts (i64.wrap ((i64.wrap ((i64.wrap (k2 + 1)) + 1)) + 1))).1) + 1)) + 1)) + 1))).1)).1)).2)) ((a00 e1.data.keyName.parts ((a03 e1.data.content ((a00 e1.data.name.parts (i64.wrap ((i64.wrap ((i64.wrap (((a00 e1.interest.name.parts (i64.wrap ((i64.wrap ((i64.wrap (k2 + 1)) + 1)) + 1))).1) + 1)) + 1)) + 1))).1)).1)).1) (i64.wrap (((a00 e1.data.keyName.parts ((a03 e1.data.content ((a00 e1.data.name.parts (i64.wrap ((i64.wrap ((i64.wrap (((a00 e1.interest.name.parts (i64.wrap ((i64.wrap ((i64.wrap (k2 + 1)) + 1)) + 1))).1) + 1)) + 1)) + 1))).1)).1)).1) + 1))))) : List PacketInFlight), i64.wrap ((i64.wrap (((a00 e1.data.keyName.parts ((a03 e1.data.content ((a00 e1.data.name.parts (i64.wrap ((i64.wrap ((i64.wrap (((a00 e1.interest.name.parts (i64.wrap ((i64.wrap ((i64.wrap (k2 + 1)) + 1)) + 1))).1) + 1)) + 1)) + 1))).1)).1)).1) + 1)) + 1), i + 1) ⟨τ0, τ2, (aef v3 (show ok n ((PacketInFlight.mk k2 (i64.wrap (k2 + 1)) (Int.tmod (i64.wrap ((i64.wrap (k2 + 1)) + 1)) 3 == 0) (Interest.mk (Name.mk ((a00 e1.interest.name.parts (i64.wrap ((i64.wrap ((i64.wrap (k2 + 1)) + 1)) + 1))).2)) ((a00 e1.interest.name.parts (i64.wrap ((i64.wrap ((i64.wrap (k2 + 1)) + 1)) + 1))).1) (i64.wrap (((a00 e1.interest.name.parts (i64.wrap ((i64.wrap ((i64.wrap (k2 + 1)) + 1)) + 1))).1) + 1)) (i64.wrap ((i64.wrap (((a00 e1.interest.name.parts (i64.wrap ((i64.wrap ((i64.wrap (k2 + 1)) + 1)) + 1))).1) + 1)) + 1))) (DataP.mk (Name.mk ((a00 e1.data.name.parts (i64.wrap ((i64.wrap ((i64.wrap (((a00 e1.interest.name.parts (i64.wrap ((i64.wrap ((i64.wrap (k2 + 1)) + 1)) + 1))).1) + 1)) + 1)) + 1))).2)) ((a03 e1.data.content ((a00 e1.data.name.parts (i64.wrap ((i64.wrap ((i64.wrap (((a00 e1.interest.name.parts (i64.wrap ((i64.wrap ((i64.wrap (k2 + 1)) + 1)) + 1))).1) + 1)) + 1)) + 1))).1)).2) (Name.mk ((a00 e1.data.keyName.parts ((a03 e1.data.content ((a00 e1.data.name.parts (i64.wrap ((i64.wrap ((i64.wrap (((a00 e1.interest.name.parts (i64.wrap ((i64.wrap ((i64.wrap (k2 + 1)) + 1)) + 1))).1) + 1)) + 1)) + 1))).1)).1)).2)) ((a00 e1.data.keyName.parts ((a03 e1.data.content ((a00 e1.data.name.parts (i64.wrap ((i64.wrap ((i64.wrap (((a00 e1.interest.name.parts (i64.wrap ((i64.wrap ((i64.wrap (k2 + 1)) + 1)) + 1))).1) + 1)) + 1)) + 1))).1)).1)).1) (i64.wrap (((a00 e1.data.keyName.parts ((a03 e1.data.content ((a00 e1.data.name.parts (i64.wrap ((i64.wrap ((i64.wrap (((a00 e1.interest.name.parts (i64.wrap ((i64.wrap ((i64.wrap (k2 + 1)) + 1)) + 1))).1) + 1)) + 1)) + 1))).1)).1)).1) + 1)))) : PacketInFlight) from (An v4 (An (ad3 _) (An trivial (An (An a8.1.2 (An a8.1.1 (An (ad3 _) (ad3 _)))) (An a9.1.2 (An ad.1.2 (An aa.1.2 (An aa.1.1 (ad3 _))))))))))), (ad3 _), (by rw [v5, show a.length - i = (a.length - (i + 1)) + 1 by omega]; simp only [a91, ab, cT, cF])⟩ τ1 [2]
 have ao := v5.trans (show _ = ((a2 : List PacketInFlight), k2) by rw [show a.length - i = 0 by omega]; simp only [a91, cT, cF])
 refine yE 501 2 22 (hn := (show a.length = a2.length from by omega)) ?_
 refine SL 7 a2.length ?_
 refine SL 0 a2.length ?_
 rw [show a13 a k = (k2, a2) by simp only [a13, ao, cT, cF]]
 exact zX [23] () ⟨⟨v4, (ada τ0 v3 : ok n (a2 : List PacketInFlight))⟩, (show a2.length = a.length from by omega)⟩
theorem f107 (hn : n + 0 ≤ 9) (a : (List Consumer)) (K0 : Option Addr) (M0 : Nat) {k : Int} {H : GH} (hH : Le H (hp w)) (hown : Sep H (GoT.oa a (K0, M0))) (a5 : ok n a) (ab : ok n k) :
 Does Tryz.prog 107 #[vS K0 a M0, vI k] w H (Post w H (fun _ : Unit => .int .i64 ((a1q a k).1)) (fun _ => GoT.oa ((a1q a k).2 : (List Consumer)) (K0, M0)) ((ok n ((a1q a k).1 : Int) ∧ ok n ((a1q a k).2 : (List Consumer))) ∧ ((a1q a k).2).length = (a).length)) := by
 have hb := bS0 hn
 refine WX.enterM (tt := tt) (Γ := []) 1 Tryz.func107 Z J Z adc hH hown (fun f hf => GoT.oak f hf) Z ?_
 refine zN (kk := 11) 501 1 2 fun av b3 => ?_
 have r1 := (okl a5).1
 refine LM Z (av, (a : List Consumer), k, 0) (fun | (a1, a2, k2, i) => ((i ≤ a.length) ∧ (a2.length = a.length) ∧ JE n a2 ∧ J6 k2 ∧ (a92 (a.length) 0 (a : List Consumer) k = a92 (a.length - i) i a2 k2), a.length - i, [(1, .v (vI k2)), (5, .v (vI i))], [], [(501, ⟨11, K0, a.length, M0, a1⟩)], [(2, MF.ol a1 (a2 : List Consumer))])) ⟨zl, τ5, (okl a5).2, ab, Z⟩ [0] [] [] [2] ?_
 rintro ⟨a1, a2, k2, i⟩ ⟨v1, v2, v3, v4, v5⟩
 refine yKD 9 ?_ ?_ <;> intro h1 ay
 have ad : i < a.length := τ3
 refine R0 ?_
 refine zR 501 i ad ?_
 rintro ax rfl
 have af : i < a2.length := τ3
 obtain ⟨e1, aa⟩ := gE af
 have a6 : ok n e1 := v3 _ (List.mem_of_getElem? aa)
 refine R0 ?_
 refine zO (α := Consumer) (e := e1) 501 2 3 i aa ?_
 rintro A1 B1 ⟨⟨⟩, ⟨⟩, ⟨p1, c1⟩, ⟨⟩, ⟨⟩, ⟨⟩, ⟨⟨p2, c2⟩, ⟨p3, c3⟩, ⟨p4, c4⟩, ⟨⟩, ⟨⟩⟩⟩ a0 b7
 refine zS 501 a0 ad ?_
 refine SW ?_
 have al : i < a.length := τ3
 refine R0 ?_
 refine zR 501 i al ?_
 rintro b4 ⟨⟩
 refine R0 ?_
 refine zS 501 a0 al ?_
 refine SW ?_
 have ah : i < a.length := τ3
 refine R0 ?_
 refine zR 501 i ah ?_
 rintro az ⟨⟩
 refine R0 ?_
 refine zA 501 a0 ah ?_
 refine R0 ?_
 refine CN [7] 13 Z Z Z Z Z Z O Z (fun w β H η σ γ => f103 n τ0 e1.name.parts p1 c1 η σ (ae4 (adp a6).2.2.1) (ad3 _)) ?_
 rintro ⟨⟩ a7
 have au : ((a00 e1.name.parts (i64.wrap ((i64.wrap (k2 + 1)) + 1))).2).length = e1.name.parts.length := a7.2
 have ak : i < a.length := τ3
 refine R0 ?_
 refine zR 501 i ak ?_
 rintro b8 ⟨⟩
 refine R0 ?_
 refine zS 501 a0 ak ?_
 refine SW ?_
 have aj : i < a.length := τ3
 refine R0 ?_
 refine zR 501 i aj ?_
 rintro b5 ⟨⟩
 refine R0 ?_
 refine zS 501 a0 aj ?_
 refine SW ?_
 have r2 := ali (i64.wrap ((i64.wrap (((a00 e1.name.parts (i64.wrap ((i64.wrap (k2 + 1)) + 1))).1) + 1)) + 1)) (show (0 : Int) < 3 by omega)
 refine KS Z Z Z Z (fun _ hΓ => aiw Z Z Z τ8) ?_
 have ai : i < a.length := τ3
 refine R0 ?_
 refine zR 501 i ai ?_
 rintro b6 ⟨⟩
 refine R0 ?_
 refine zS 501 a0 ai ?_
 refine SW ?_
 have ag : i < a.length := τ3
 refine R0 ?_
 refine zR 501 i ag ?_
 rintro b2 ⟨⟩
 refine R0 ?_
 refine zA 501 a0 ag ?_
 refine R0 ?_
 refine CN [8] 15 Z Z Z Z Z Z O Z (fun w β H η σ γ => f103 n τ0 e1.data.name.parts p2 c2 η σ (ae4 (ado (adp a6).2.2.2.2.2.2).1) (ad3 _)) ?_
 rintro ⟨⟩ a8
 have ar : ((a00 e1.data.name.parts (i64.wrap ((i64.wrap ((i64.wrap (((a00 e1.name.parts (i64.wrap ((i64.wrap (k2 + 1)) + 1))).1) + 1)) + 1)) + 1))).2).length = e1.data.name.parts.length := a8.2
 have am : i < a.length := τ3
 refine R0 ?_
 refine zR 501 i am ?_
 rintro b0 ⟨⟩
 refine R0 ?_
 refine zA 501 a0 am ?_
 refine R0 ?_
 refine CN [9] 17 Z Z Z Z Z Z O Z (fun w β H η σ γ => f209 n τ0 e1.data.content p3 c3 η σ ((ado (adp a6).2.2.2.2.2.2).2.1) a8.1.1) ?_
 rintro ⟨⟩ ac
 have ap : ((a03 e1.data.content ((a00 e1.data.name.parts (i64.wrap ((i64.wrap ((i64.wrap (((a00 e1.name.parts (i64.wrap ((i64.wrap (k2 + 1)) + 1))).1) + 1)) + 1)) + 1))).1)).2).length = e1.data.content.length := ac.2
 have ae : i < a.length := τ3
 refine R0 ?_
 refine zR 501 i ae ?_
 rintro b1 ⟨⟩
 refine R0 ?_
 refine zA 501 a0 ae ?_
 refine R0 ?_
 refine CN [10] 19 Z Z Z Z Z Z O Z (fun w β H η σ γ => f103 n τ0 e1.data.keyName.parts p4 c4 η σ (ae4 (ado (adp a6).2.2.2.2.2.2).2.2.1) ac.1.1) ?_
 rintro ⟨⟩ a9
 have ao : ((a00 e1.data.keyName.parts ((a03 e1.data.content ((a00 e1.data.name.parts (i64.wrap ((i64.wrap ((i64.wrap (((a00 e1.name.parts (i64.wrap ((i64.wrap (k2 + 1)) + 1))).1) + 1)) + 1)) + 1))).1)).1)).2).length = e1.data.keyName.parts.length := a9.2
 have a4 : i < a.length := τ3
 refine R0 ?_
 refine zR 501 i a4 ?_
 rintro aw ⟨⟩
 refine R0 ?_
 refine zS 501 a0 a4 ?_
 refine SW ?_
 have a3 : i < a.length := τ3
 refine R0 ?_
 refine zR 501 i a3 ?_
 rintro aq ⟨⟩
 refine R0 ?_
 refine zS 501 a0 a3 ?_
 refine SW ?_
 refine SA ?_
 refine R0 ?_
 refine WX.turn [14, 16, 18, 20, 11, 12] 21 Z (fun h hs => by have z_ : Sep h [MF.ol (A1 ++ [.int .i64 k2, .int .i64 (i64.wrap (k2 + 1)), .slice p1 (((a00 e1.name.parts (i64.wrap ((i64.wrap (k2 + 1)) + 1))).2).length) c1, .int .i64 ((a00 e1.name.parts (i64.wrap ((i64.wrap (k2 + 1)) + 1))).1), .int .i64 (i64.wrap (((a00 e1.name.parts (i64.wrap ((i64.wrap (k2 + 1)) + 1))).1) + 1)), .bool (Int.tmod (i64.wrap ((i64.wrap (((a00 e1.name.parts (i64.wrap ((i64.wrap (k2 + 1)) + 1))).1) + 1)) + 1)) 3 == 0), .slice p2 (((a00 e1.data.name.parts (i64.wrap ((i64.wrap ((i64.wrap (((a00 e1.name.parts (i64.wrap ((i64.wrap (k2 + 1)) + 1))).1) + 1)) + 1)) + 1))).2).length) c2, .slice p3 (((a03 e1.data.content ((a00 e1.data.name.parts (i64.wrap ((i64.wrap ((i64.wrap (((a00 e1.name.parts (i64.wrap ((i64.wrap (k2 + 1)) + 1))).1) + 1)) + 1)) + 1))).1)).2).length) c3, .slice p4 (((a00 e1.data.keyName.parts ((a03 e1.data.content ((a00 e1.data.name.parts (i64.wrap ((i64.wrap ((i64.wrap (((a00 e1.name.parts (i64.wrap ((i64.wrap (k2 + 1)) + 1))).1) + 1)) + 1)) + 1))).1)).1)).2).length) c4, .int .i64 ((a00 e1.data.keyName.parts ((a03 e1.data.content ((a00 e1.data.name.parts (i64.wrap ((i64.wrap ((i64.wrap (((a00 e1.name.parts (i64.wrap ((i64.wrap (k2 + 1)) + 1))).1) + 1)) + 1)) + 1))).1)).1)).1), .int .i64 (i64.wrap (((a00 e1.data.keyName.parts ((a03 e1.data.content ((a00 e1.data.name.parts (i64.wrap ((i64.wrap ((i64.wrap (((a00 e1.name.parts (i64.wrap ((i64.wrap (k2 + 1)) + 1))).1) + 1)) + 1)) + 1))).1)).1)).1) + 1))] ++ B1) _] := aej (α := Consumer) (e := (Consumer.mk k2 (i64.wrap (k2 + 1)) (Name.mk ((a00 e1.name.parts (i64.wrap ((i64.wrap (k2 + 1)) + 1))).2)) ((a00 e1.name.parts (i64.wrap ((i64.wrap (k2 + 1)) + 1))).1) (i64.wrap (((a00 e1.name.parts (i64.wrap ((i64.wrap (k2 + 1)) + 1))).1) + 1)) (Int.tmod (i64.wrap ((i64.wrap (((a00 e1.name.parts (i64.wrap ((i64.wrap (k2 + 1)) + 1))).1) + 1)) + 1)) 3 == 0) (DataP.mk (Name.mk ((a00 e1.data.name.parts (i64.wrap ((i64.wrap ((i64.wrap (((a00 e1.name.parts (i64.wrap ((i64.wrap (k2 + 1)) + 1))).1) + 1)) + 1)) + 1))).2)) ((a03 e1.data.content ((a00 e1.data.name.parts (i64.wrap ((i64.wrap ((i64.wrap (((a00 e1.name.parts (i64.wrap ((i64.wrap (k2 + 1)) + 1))).1) + 1)) + 1)) + 1))).1)).2) (Name.mk ((a00 e1.data.keyName.parts ((a03 e1.data.content ((a00 e1.data.name.parts (i64.wrap ((i64.wrap ((i64.wrap (((a00 e1.name.parts (i64.wrap ((i64.wrap (k2 + 1)) + 1))).1) + 1)) + 1)) + 1))).1)).1)).2)) ((a00 e1.data.keyName.parts ((a03 e1.data.content ((a00 e1.data.name.parts (i64.wrap ((i64.wrap ((i64.wrap (((a00 e1.name.parts (i64.wrap ((i64.wrap (k2 + 1)) + 1))).1) + 1)) + 1)) + 1))).1)).1)).1) (i64.wrap (((a00 e1.data.keyName.parts ((a03 e1.data.content ((a00 e1.data.name.parts (i64.wrap ((i64.wrap ((i64.wrap (((a00 e1.name.parts (i64.wrap ((i64.wrap (k2 + 1)) + 1))).1) + 1)) + 1)) + 1))).1)).1)).1) + 1))))) (x := ((), (), (p1, c1), (), (), (), ((p2, c2), (p3, c3), (p4, c4), (), ()))) af hs; rw [au, ar, ap, ao] at z_; exact z_) Z ?_
 refine zU [21] 2 ?_
 exact IT (_, ((a2.set i (Consumer.mk k2 (i64.wrap (k2 + 1)) (Name.mk ((a00 e1.name.parts (i64.wrap ((i64.wrap (k2 + 1)) + 1))).2)) ((a00 e1.name.parts (i64.wrap ((i64.wrap (k2 + 1)) + 1))).1) (i64.wrap (((a00 e1.name.parts (i64.wrap ((i64.wrap (k2 + 1)) + 1))).1) + 1)) (Int.tmod (i64.wrap ((i64.wrap (((a00 e1.name.parts (i64.wrap ((i64.wrap (k2 + 1)) + 1))).1) + 1)) + 1)) 3 == 0) (DataP.mk (Name.mk ((a00 e1.data.name.parts (i64.wrap ((i64.wrap ((i64.wrap (((a00 e1.name.parts (i64.wrap ((i64.wrap (k2 + 1)) + 1))).1) + 1)) + 1)) + 1))).2)) ((a03 e1.data.content ((a00 e1.data.name.parts (i64.wrap ((i64.wrap ((i64.wrap (((a00 e1.name.parts (i64.wrap ((i64.wrap (k2 + 1)) + 1))).1) + 1)) + 1)) + 1))).1)).2) (Name.mk ((a00 e1.data.keyName.parts ((a03 e1.data.content ((a00 e1.data.name.parts (i64.wrap ((i64.wrap ((i64.wrap (((a00 e1.name.parts (i64.wrap ((i64.wrap (k2 + 1)) + 1))).1) + 1)) + 1)) + 1))).1)).1)).2)) ((a00 e1.data.keyName.parts ((a03 e1.data.content ((a00 e1.data.name.parts (i64.wrap ((i64.wrap ((i64.wrap (((a00 e1.name.parts (i64.wrap ((i64.wrap (k2 + 1)) + 1))).1) + 1)) + 1)) + 1))).1)).1)).1) (i64.wrap (((a00 e1.data.keyName.parts ((a03 e1.data.content ((a00 e1.data.name.parts (i64.wrap ((i64.wrap ((i64.wrap (((a00 e1.name.parts (i64.wrap ((i64.wrap (k2 + 1)) + 1))).1) + 1)) + 1)) + 1))).1)).1)).1) + 1))))) : List Consumer), i64.wrap ((i64.wrap (((a00 e1.data.keyName.parts ((a03 e1.data.content ((a00 e1.data.name.parts (i64.wrap ((i64.wrap ((i64.wrap (((a00 e1.name.parts (i64.wrap ((i64.wrap (k2 + 1)) + 1))).1) + 1)) + 1)) + 1))).1)).1)).1) + 1)) + 1), i + 1) ⟨τ0, τ2, (aef v3 (show ok n ((Consumer.mk k2 (i64.wrap (k2 + 1)) (Name.mk ((a00 e1.name.parts (i64.wrap ((i64.wrap (k2 + 1)) + 1))).2)) ((a00 e1.name.parts (i64.wrap ((i64.wrap (k2 + 1)) + 1))).1) (i64.wrap (((a00 e1.name.parts (i64.wrap ((i64.wrap (k2 + 1)) + 1))).1) + 1)) (Int.tmod (i64.wrap ((i64.wrap (((a00 e1.name.parts (i64.wrap ((i64.wrap (k2 + 1)) + 1))).1) + 1)) + 1)) 3 == 0) (DataP.mk (Name.mk ((a00 e1.data.name.parts (i64.wrap ((i64.wrap ((i64.wrap (((a00 e1.name.parts (i64.wrap ((i64.wrap (k2 + 1)) + 1))).1) + 1)) + 1)) + 1))).2)) ((a03 e1.data.content ((a00 e1.data.name.parts (i64.wrap ((i64.wrap ((i64.wrap (((a00 e1.name.parts (i64.wrap ((i64.wrap (k2 + 1)) + 1))).1) + 1)) + 1)) + 1))).1)).2) (Name.mk ((a00 e1.data.keyName.parts ((a03 e1.data.content ((a00 e1.data.name.parts (i64.wrap ((i64.wrap ((i64.wrap (((a00 e1.name.parts (i64.wrap ((i64.wrap (k2 + 1)) + 1))).1) + 1)) + 1)) + 1))).1)).1)).2)) ((a00 e1.data.keyName.parts ((a03 e1.data.content ((a00 e1.data.name.parts (i64.wrap ((i64.wrap ((i64.wrap (((a00 e1.name.parts (i64.wrap ((i64.wrap (k2 + 1)) + 1))).1) + 1)) + 1)) + 1))).1)).1)).1) (i64.wrap (((a00 e1.data.keyName.parts ((a03 e1.data.content ((a00 e1.data.name.parts (i64.wrap ((i64.wrap ((i64.wrap (((a00 e1.name.parts (i64.wrap ((i64.wrap (k2 + 1)) + 1))).1) + 1)) + 1)) + 1))).1)).1)).1) + 1)))) : Consumer) from (An v4 (An (ad3 _) (An a7.1.2 (An a7.1.1 (An (ad3 _) (An trivial (An a8.1.2 (An ac.1.2 (An a9.1.2 (An a9.1.1 (ad3 _))))))))))))), (ad3 _), (by rw [v5, show a.length - i = (a.length - (i + 1)) + 1 by omega]; simp only [a92, aa, cT, cF])⟩ τ1 [2]
 have an := v5.trans (show _ = ((a2 : List Consumer), k2) by rw [show a.length - i = 0 by omega]; simp only [a92, cT, cF])
 refine yE 501 2 22 (hn := (show a.length = a2.length from by omega)) ?_
 refine SL 7 a2.length ?_
 refine SL 0 a2.length ?_
 rw [show a1q a k = (k2, a2) by simp only [a1q, an, cT, cF]]
 exact zX [23] () ⟨⟨v4, (ada τ0 v3 : ok n (a2 : List Consumer))⟩, (show a2.length = a.length from by omega)⟩
theorem f34 (hn : n + 0 ≤ 9) (a : Network) (K0 : Option Addr) (M0 : Nat) (K1 : Option Addr) (M1 : Nat) (K2 : Option Addr) (M2 : Nat) (K3 : Option Addr) (M3 : Nat) (K4 : Option Addr) (M4 : Nat) (K5 : Option Addr) (M5 : Nat) (K6 : Option Addr) (M6 : Nat) (K7 : Option Addr) (M7 : Nat) (K8 : Option Addr) (M8 : Nat) (K9 : Option Addr) (M9 : Nat) {k : Int} {H : GH} (hH : Le H (hp w)) (hown : Sep H (GoT.oa a (((), (K0, M0)), ((K1, M1), (K2, M2), (K3, M3), (K4, M4)), (K5, M5), (K6, M6), (), (K7, M7), (K8, M8), (K9, M9), (), ()))) (a0 : ok n a) (a7 : ok n k) :
 Does Tryz.prog 34 #[afp a K0 M0 K1 M1 K2 M2 K3 M3 K4 M4 K5 M5 K6 M6 K7 M7 K8 M8 K9 M9, vI k] w H (Post w H (fun _ : Unit => .int .i64 ((a01 a k).1)) (fun _ => GoT.oa ((a01 a k).2 : Network) (((), (K0, M0)), ((K1, M1), (K2, M2), (K3, M3), (K4, M4)), (K5, M5), (K6, M6), (), (K7, M7), (K8, M8), (K9, M9), (), ())) ((ok n ((a01 a k).1 : Int) ∧ ok n ((a01 a k).2 : Network)) ∧ (a01 a k).2.topology.size = a.topology.size ∧ ((a01 a k).2.topology.links).length = (a.topology.links).length ∧ ((a01 a k).2.trust.keys).length = (a.trust.keys).length ∧ ((a01 a k).2.trust.rules).length = (a.trust.rules).length ∧ ((a01 a k).2.trust.anchors).length = (a.trust.anchors).length ∧ ((a01 a k).2.trust.certificates).length = (a.trust.certificates).length ∧ ((a01 a k).2.producers).length = (a.producers).length ∧ ((a01 a k).2.nodes).length = (a.nodes).length ∧ (a01 a k).2.downNodes = a.downNodes ∧ ((a01 a k).2.failedLinks).length = (a.failedLinks).length ∧ ((a01 a k).2.inFlight).length = (a.inFlight).length ∧ ((a01 a k).2.consumers).length = (a.consumers).length ∧ (a01 a k).2.now = a.now ∧ (a01 a k).2.dropped = a.dropped)) := by
 have hb := bS0 hn
 refine WX.enterM (tt := tt) (Γ := []) 10 Tryz.func34 Z J Z adc hH hown (fun f hf => GoT.oak f hf) Z ?_
 refine R0 ?_
 refine CN [10] 20 Z Z Z Z Z Z O Z (fun w β H η σ γ => f31 n τ0 a.topology K0 M0 η σ ((acy a0).1) a7) ?_
 rintro ⟨⟩ a3
 have ai : ((a08 a.topology k).2.links).length = a.topology.links.length := a3.2.2
 refine R0 ?_
 refine CN [11, 12, 13, 14] 22 Z Z Z Z Z Z O Z (fun w β H η σ γ => f32 n τ0 a.trust K1 M1 K2 M2 K3 M3 K4 M4 η σ ((acy a0).2.1) a3.1.1) ?_
 rintro ⟨⟩ a1
 have ag : ((a0a a.trust ((a08 a.topology k).1)).2.keys).length = a.trust.keys.length := a1.2.1
 have af : ((a0a a.trust ((a08 a.topology k).1)).2.rules).length = a.trust.rules.length := a1.2.2.1
 have ad : ((a0a a.trust ((a08 a.topology k).1)).2.anchors).length = a.trust.anchors.length := a1.2.2.2.1
 have aa : ((a0a a.trust ((a08 a.topology k).1)).2.certificates).length = a.trust.certificates.length := a1.2.2.2.2
 refine R0 ?_
 refine CN [15] 30 Z Z Z Z Z Z O Z (fun w β H η σ γ => f33 n τ0 a.producers K5 M5 η σ ((acy a0).2.2.1) a1.1.1) ?_
 rintro ⟨⟩ a8
 have ae : ((a0h a.producers ((a0a a.trust ((a08 a.topology k).1)).1)).2).length = a.producers.length := a8.2
 refine R0 ?_
 refine CN [16] 32 Z Z Z Z Z Z O Z (fun w β H η σ γ => f104 n τ0 a.nodes K6 M6 η σ ((acy a0).2.2.2.1) a8.1.1) ?_
 rintro ⟨⟩ a5
 have ac : ((a0l a.nodes ((a0h a.producers ((a0a a.trust ((a08 a.topology k).1)).1)).1)).2).length = a.nodes.length := a5.2
 refine R0 ?_
 refine CN [17] 34 Z Z Z Z Z Z O Z (fun w β H η σ γ => f105 n τ0 a.failedLinks K7 M7 η σ ((acy a0).2.2.2.2.2.1) a5.1.1) ?_
 rintro ⟨⟩ a2
 have ah : ((a0o a.failedLinks ((a0l a.nodes ((a0h a.producers ((a0a a.trust ((a08 a.topology k).1)).1)).1)).1)).2).length = a.failedLinks.length := a2.2
 refine R0 ?_
 refine CN [18] 36 Z Z Z Z Z Z O Z (fun w β H η σ γ => f106 n τ0 a.inFlight K8 M8 η σ ((acy a0).2.2.2.2.2.2.1) a2.1.1) ?_
 rintro ⟨⟩ a6
 have ab : ((a13 a.inFlight ((a0o a.failedLinks ((a0l a.nodes ((a0h a.producers ((a0a a.trust ((a08 a.topology k).1)).1)).1)).1)).1)).2).length = a.inFlight.length := a6.2
 refine R0 ?_
 refine CN [19] 38 Z Z Z Z Z Z O Z (fun w β H η σ γ => f107 n τ0 a.consumers K9 M9 η σ ((acy a0).2.2.2.2.2.2.2.1) a6.1.1) ?_
 rintro ⟨⟩ a4
 have a9 : ((a1q a.consumers ((a13 a.inFlight ((a0o a.failedLinks ((a0l a.nodes ((a0h a.producers ((a0a a.trust ((a08 a.topology k).1)).1)).1)).1)).1)).1)).2).length = a.consumers.length := a4.2
 rw [show a01 a k = ((a1q a.consumers ((a13 a.inFlight ((a0o a.failedLinks ((a0l a.nodes ((a0h a.producers ((a0a a.trust ((a08 a.topology k).1)).1)).1)).1)).1)).1)).1, Network.mk (Topology.mk a.topology.size ((a08 a.topology k).2.links)) ((a0a a.trust ((a08 a.topology k).1)).2) ((a0h a.producers ((a0a a.trust ((a08 a.topology k).1)).1)).2) ((a0l a.nodes ((a0h a.producers ((a0a a.trust ((a08 a.topology k).1)).1)).1)).2) a.downNodes ((a0o a.failedLinks ((a0l a.nodes ((a0h a.producers ((a0a a.trust ((a08 a.topology k).1)).1)).1)).1)).2) ((a13 a.inFlight ((a0o a.failedLinks ((a0l a.nodes ((a0h a.producers ((a0a a.trust ((a08 a.topology k).1)).1)).1)).1)).1)).2) ((a1q a.consumers ((a13 a.inFlight ((a0o a.failedLinks ((a0l a.nodes ((a0h a.producers ((a0a a.trust ((a08 a.topology k).1)).1)).1)).1)).1)).1)).2) a.now a.dropped) by simp only [a01, cT, cF]]
 exact yX [21, 26, 27, 28, 29, 31, 33, 35, 37, 39] () ⟨⟨a4.1.1, (An (An (ad0 (acy a0).1).1 (ad0 a3.1.2).2) (An a1.1.2 (An a8.1.2 (An a5.1.2 (An (acy a0).2.2.2.2.1 (An a2.1.2 (An a6.1.2 (An a4.1.2 (An (acy a0).2.2.2.2.2.2.2.2.1 (acy a0).2.2.2.2.2.2.2.2.2)))))))))⟩, ⟨Z, ⟨(show ((a08 a.topology k).2.links).length = a.topology.links.length from by omega), ⟨(show ((a0a a.trust ((a08 a.topology k).1)).2.keys).length = a.trust.keys.length from by omega), ⟨(show ((a0a a.trust ((a08 a.topology k).1)).2.rules).length = a.trust.rules.length from by omega), ⟨(show ((a0a a.trust ((a08 a.topology k).1)).2.anchors).length = a.trust.anchors.length from by omega), ⟨(show ((a0a a.trust ((a08 a.topology k).1)).2.certificates).length = a.trust.certificates.length from by omega), ⟨(show ((a0h a.producers ((a0a a.trust ((a08 a.topology k).1)).1)).2).length = a.producers.length from by omega), ⟨(show ((a0l a.nodes ((a0h a.producers ((a0a a.trust ((a08 a.topology k).1)).1)).1)).2).length = a.nodes.length from by omega), ⟨Z, ⟨(show ((a0o a.failedLinks ((a0l a.nodes ((a0h a.producers ((a0a a.trust ((a08 a.topology k).1)).1)).1)).1)).2).length = a.failedLinks.length from by omega), ⟨(show ((a13 a.inFlight ((a0o a.failedLinks ((a0l a.nodes ((a0h a.producers ((a0a a.trust ((a08 a.topology k).1)).1)).1)).1)).1)).2).length = a.inFlight.length from by omega), ⟨(show ((a1q a.consumers ((a13 a.inFlight ((a0o a.failedLinks ((a0l a.nodes ((a0h a.producers ((a0a a.trust ((a08 a.topology k).1)).1)).1)).1)).1)).1)).2).length = a.consumers.length from by omega), ⟨Z, Z⟩⟩⟩⟩⟩⟩⟩⟩⟩⟩⟩⟩⟩⟩
end Go.Proofs.YtpmejlbgjkiobaaGreat
namespace Go.Stp
def a6b : List Link → Int → Ctl (Int) (Int) | [], k2 => (Ctl.nxt k2) | e1 :: rest_, k2 => bif (e1.a != k2) then (Ctl.ret (-1)) else bif (e1.b != i64.wrap (k2 + 1)) then (Ctl.ret (-1)) else a6b rest_ (i64.wrap ((i64.wrap (k2 + 1)) + 1))
def a4o (a : (List Link)) (k : Int) : Int := match a6b a k with | .ret r_ => r_ | .nxt k2 => k2
def a2o (a : Topology) (k : Int) : Int := bif decide ((a4o a.links k) < 0) then (-1) else (a4o a.links k)
def a7k : List Str → Int → Ctl (Int) (Int) | [], k2 => (Ctl.nxt k2) | e1 :: rest_, k2 => bif (!((e1).toList == ((a53 k2)).toList)) then (Ctl.ret (-1)) else a7k rest_ (i64.wrap (k2 + 1))
def a02 (a : (List Str)) (k : Int) : Int := match a7k a k with | .ret r_ => r_ | .nxt k2 => k2
def a6c : List Key → Int → Ctl (Int) (Int) | [], k2 => (Ctl.nxt k2) | e1 :: rest_, k2 => bif decide ((a02 e1.name.parts k2) < 0) then (Ctl.ret (-1)) else bif (e1.secret != (a02 e1.name.parts k2)) then (Ctl.ret (-1)) else a6c rest_ (i64.wrap ((a02 e1.name.parts k2) + 1))
def a36 (a : (List Key)) (k : Int) : Int := match a6c a k with | .ret r_ => r_ | .nxt k2 => k2
def a6d : List Rule → Int → Ctl (Int) (Int) | [], k2 => (Ctl.nxt k2) | e1 :: rest_, k2 => bif decide ((a02 e1.dataPattern.parts k2) < 0) then (Ctl.ret (-1)) else bif decide ((a02 e1.keyPattern.parts (a02 e1.dataPattern.parts k2)) < 0) then (Ctl.ret (-1)) else a6d rest_ (a02 e1.keyPattern.parts (a02 e1.dataPattern.parts k2))
def a3p (a : (List Rule)) (k : Int) : Int := match a6d a k with | .ret r_ => r_ | .nxt k2 => k2
def a7l : List Name → Int → Ctl (Int) (Int) | [], k2 => (Ctl.nxt k2) | e1 :: rest_, k2 => bif decide ((a02 e1.parts k2) < 0) then (Ctl.ret (-1)) else a7l rest_ (a02 e1.parts k2)
def a54 (a : (List Name)) (k : Int) : Int := match a7l a k with | .ret r_ => r_ | .nxt k2 => k2
def a7m : List UInt8 → Int → Ctl (Int) (Int) | [], k2 => (Ctl.nxt k2) | e1 :: rest_, k2 => bif (((e1).toNat : Int) != ((toU8 k2).toNat : Int)) then (Ctl.ret (-1)) else a7m rest_ (i64.wrap (k2 + 1))
def a0s (a : (List UInt8)) (k : Int) : Int := match a7m a k with | .ret r_ => r_ | .nxt k2 => k2
def a45 : List DataP → Int → Ctl (Int) (Int) | [], k2 => (Ctl.nxt k2) | e1 :: rest_, k2 => bif decide ((a02 e1.name.parts k2) < 0) then (Ctl.ret (-1)) else bif decide ((a0s e1.content (a02 e1.name.parts k2)) < 0) then (Ctl.ret (-1)) else bif decide ((a02 e1.keyName.parts (a0s e1.content (a02 e1.name.parts k2))) < 0) then (Ctl.ret (-1)) else bif (e1.freshUntil != (a02 e1.keyName.parts (a0s e1.content (a02 e1.name.parts k2)))) then (Ctl.ret (-1)) else bif (e1.signature != i64.wrap ((a02 e1.keyName.parts (a0s e1.content (a02 e1.name.parts k2))) + 1)) then (Ctl.ret (-1)) else a45 rest_ (i64.wrap ((i64.wrap ((a02 e1.keyName.parts (a0s e1.content (a02 e1.name.parts k2))) + 1)) + 1))
def a14 (a : (List DataP)) (k : Int) : Int := match a45 a k with | .ret r_ => r_ | .nxt k2 => k2
def a1r (a : TrustPolicy) (k : Int) : Int := bif decide ((a36 a.keys k) < 0) then (-1) else bif decide ((a3p a.rules (a36 a.keys k)) < 0) then (-1) else bif decide ((a54 a.anchors (a3p a.rules (a36 a.keys k))) < 0) then (-1) else bif decide ((a14 a.certificates (a54 a.anchors (a3p a.rules (a36 a.keys k)))) < 0) then (-1) else (a14 a.certificates (a54 a.anchors (a3p a.rules (a36 a.keys k))))
def a6e : List TableEntry → Int → Ctl (Int) (Int) | [], k2 => (Ctl.nxt k2) | e1 :: rest_, k2 => bif decide ((a02 e1.name.parts k2) < 0) then (Ctl.ret (-1)) else bif (e1.value != (a02 e1.name.parts k2)) then (Ctl.ret (-1)) else a6e rest_ (i64.wrap ((a02 e1.name.parts k2) + 1))
def a2p (a : (List TableEntry)) (k : Int) : Int := match a6e a k with | .ret r_ => r_ | .nxt k2 => k2
def a3q : List CacheEntry → Int → Ctl (Int) (Int) | [], k2 => (Ctl.nxt k2) | e1 :: rest_, k2 => bif decide ((a02 e1.data.name.parts k2) < 0) then (Ctl.ret (-1)) else bif decide ((a0s e1.data.content (a02 e1.data.name.parts k2)) < 0) then (Ctl.ret (-1)) else bif decide ((a02 e1.data.keyName.parts (a0s e1.data.content (a02 e1.data.name.parts k2))) < 0) then (Ctl.ret (-1)) else bif (e1.data.freshUntil != (a02 e1.data.keyName.parts (a0s e1.data.content (a02 e1.data.name.parts k2)))) then (Ctl.ret (-1)) else bif (e1.data.signature != i64.wrap ((a02 e1.data.keyName.parts (a0s e1.data.content (a02 e1.data.name.parts k2))) + 1)) then (Ctl.ret (-1)) else bif (e1.lastUsed != i64.wrap ((i64.wrap ((a02 e1.data.keyName.parts (a0s e1.data.content (a02 e1.data.name.parts k2))) + 1)) + 1)) then (Ctl.ret (-1)) else a3q rest_ (i64.wrap ((i64.wrap ((i64.wrap ((a02 e1.data.keyName.parts (a0s e1.data.content (a02 e1.data.name.parts k2))) + 1)) + 1)) + 1))
def a18 (a : (List CacheEntry)) (k : Int) : Int := match a3q a k with | .ret r_ => r_ | .nxt k2 => k2
def a55 : List Requester → Int → Ctl (Int) (Int) | [], k2 => (Ctl.nxt k2) | e1 :: rest_, k2 => bif (e1.face != k2) then (Ctl.ret (-1)) else bif (e1.nonce != i64.wrap (k2 + 1)) then (Ctl.ret (-1)) else bif (e1.expiry != i64.wrap ((i64.wrap (k2 + 1)) + 1)) then (Ctl.ret (-1)) else a55 rest_ (i64.wrap ((i64.wrap ((i64.wrap (k2 + 1)) + 1)) + 1))
def a37 (a : (List Requester)) (k : Int) : Int := match a55 a k with | .ret r_ => r_ | .nxt k2 => k2
def a56 : List PendingInterest → Int → Ctl (Int) (Int) | [], k2 => (Ctl.nxt k2) | e1 :: rest_, k2 => bif decide ((a02 e1.name.parts k2) < 0) then (Ctl.ret (-1)) else bif decide ((a37 e1.requesters (a02 e1.name.parts k2)) < 0) then (Ctl.ret (-1)) else bif (e1.lastSent != (a37 e1.requesters (a02 e1.name.parts k2))) then (Ctl.ret (-1)) else a56 rest_ (i64.wrap ((a37 e1.requesters (a02 e1.name.parts k2)) + 1))
def a29 (a : (List PendingInterest)) (k : Int) : Int := match a56 a k with | .ret r_ => r_ | .nxt k2 => k2
def a6f : List SeenNonce → Int → Ctl (Int) (Int) | [], k2 => (Ctl.nxt k2) | e1 :: rest_, k2 => bif decide ((a02 e1.name.parts k2) < 0) then (Ctl.ret (-1)) else bif (e1.nonce != (a02 e1.name.parts k2)) then (Ctl.ret (-1)) else a6f rest_ (i64.wrap ((a02 e1.name.parts k2) + 1))
def a38 (a : (List SeenNonce)) (k : Int) : Int := match a6f a k with | .ret r_ => r_ | .nxt k2 => k2
def a57 : List Route → Int → Ctl (Int) (Int) | [], k2 => (Ctl.nxt k2) | e1 :: rest_, k2 => bif decide ((a02 e1.pfx.parts k2) < 0) then (Ctl.ret (-1)) else bif (e1.face != (a02 e1.pfx.parts k2)) then (Ctl.ret (-1)) else bif (e1.cost != i64.wrap ((a02 e1.pfx.parts k2) + 1)) then (Ctl.ret (-1)) else a57 rest_ (i64.wrap ((i64.wrap ((a02 e1.pfx.parts k2) + 1)) + 1))
def a2q (a : (List Route)) (k : Int) : Int := match a57 a k with | .ret r_ => r_ | .nxt k2 => k2
def a58 : List Measurement → Int → Ctl (Int) (Int) | [], k2 => (Ctl.nxt k2) | e1 :: rest_, k2 => bif decide ((a02 e1.pfx.parts k2) < 0) then (Ctl.ret (-1)) else bif (e1.face != (a02 e1.pfx.parts k2)) then (Ctl.ret (-1)) else bif (e1.failures != i64.wrap ((a02 e1.pfx.parts k2) + 1)) then (Ctl.ret (-1)) else a58 rest_ (i64.wrap ((i64.wrap ((a02 e1.pfx.parts k2) + 1)) + 1))
def a39 (a : (List Measurement)) (k : Int) : Int := match a58 a k with | .ret r_ => r_ | .nxt k2 => k2
def a2r : List NodeP → Int → Ctl (Int) (Int) | [], k2 => (Ctl.nxt k2) | e1 :: rest_, k2 => bif decide ((a14 e1.locl k2) < 0) then (Ctl.ret (-1)) else bif (e1.cache.capacity != (a14 e1.locl k2)) then (Ctl.ret (-1)) else bif decide ((a18 e1.cache.entries (i64.wrap ((a14 e1.locl k2) + 1))) < 0) then (Ctl.ret (-1)) else bif decide ((a29 e1.pending (a18 e1.cache.entries (i64.wrap ((a14 e1.locl k2) + 1)))) < 0) then (Ctl.ret (-1)) else bif decide ((a38 e1.seen (a29 e1.pending (a18 e1.cache.entries (i64.wrap ((a14 e1.locl k2) + 1))))) < 0) then (Ctl.ret (-1)) else bif decide ((a2q e1.routes (a38 e1.seen (a29 e1.pending (a18 e1.cache.entries (i64.wrap ((a14 e1.locl k2) + 1)))))) < 0) then (Ctl.ret (-1)) else bif decide ((a39 e1.measurements (a2q e1.routes (a38 e1.seen (a29 e1.pending (a18 e1.cache.entries (i64.wrap ((a14 e1.locl k2) + 1))))))) < 0) then (Ctl.ret (-1)) else bif (e1.dropped != (a39 e1.measurements (a2q e1.routes (a38 e1.seen (a29 e1.pending (a18 e1.cache.entries (i64.wrap ((a14 e1.locl k2) + 1)))))))) then (Ctl.ret (-1)) else a2r rest_ (i64.wrap ((a39 e1.measurements (a2q e1.routes (a38 e1.seen (a29 e1.pending (a18 e1.cache.entries (i64.wrap ((a14 e1.locl k2) + 1))))))) + 1))
def a16 (a : (List NodeP)) (k : Int) : Int := match a2r a k with | .ret r_ => r_ | .nxt k2 => k2
def a7n : List Int → Int → Ctl (Int) (Int) | [], k2 => (Ctl.nxt k2) | e1 :: rest_, k2 => bif (e1 != k2) then (Ctl.ret (-1)) else a7n rest_ (i64.wrap (k2 + 1))
def a4p (a : (List Int)) (k : Int) : Int := match a7n a k with | .ret r_ => r_ | .nxt k2 => k2
def a1z : List PacketInFlight → Int → Ctl (Int) (Int) | [], k2 => (Ctl.nxt k2) | e1 :: rest_, k2 => bif (e1.to != k2) then (Ctl.ret (-1)) else bif (e1.face != i64.wrap (k2 + 1)) then (Ctl.ret (-1)) else bif (!(e1.isInterest == (Int.tmod (i64.wrap ((i64.wrap (k2 + 1)) + 1)) 3 == 0))) then (Ctl.ret (-1)) else bif decide ((a02 e1.interest.name.parts (i64.wrap ((i64.wrap ((i64.wrap (k2 + 1)) + 1)) + 1))) < 0) then (Ctl.ret (-1)) else bif (e1.interest.nonce != (a02 e1.interest.name.parts (i64.wrap ((i64.wrap ((i64.wrap (k2 + 1)) + 1)) + 1)))) then (Ctl.ret (-1)) else bif (e1.interest.hopLimit != i64.wrap ((a02 e1.interest.name.parts (i64.wrap ((i64.wrap ((i64.wrap (k2 + 1)) + 1)) + 1))) + 1)) then (Ctl.ret (-1)) else bif (e1.interest.lifetime != i64.wrap ((i64.wrap ((a02 e1.interest.name.parts (i64.wrap ((i64.wrap ((i64.wrap (k2 + 1)) + 1)) + 1))) + 1)) + 1)) then (Ctl.ret (-1)) else bif decide ((a02 e1.data.name.parts (i64.wrap ((i64.wrap ((i64.wrap ((a02 e1.interest.name.parts (i64.wrap ((i64.wrap ((i64.wrap (k2 + 1)) + 1)) + 1))) + 1)) + 1)) + 1))) < 0) then (Ctl.ret (-1)) else bif decide ((a0s e1.data.content (a02 e1.data.name.parts (i64.wrap ((i64.wrap ((i64.wrap ((a02 e1.interest.name.parts (i64.wrap ((i64.wrap ((i64.wrap (k2 + 1)) + 1)) + 1))) + 1)) + 1)) + 1)))) < 0) then (Ctl.ret (-1)) else bif decide ((a02 e1.data.keyName.parts (a0s e1.data.content (a02 e1.data.name.parts (i64.wrap ((i64.wrap ((i64.wrap ((a02 e1.interest.name.parts (i64.wrap ((i64.wrap ((i64.wrap (k2 + 1)) + 1)) + 1))) + 1)) + 1)) + 1))))) < 0) then (Ctl.ret (-1)) else bif (e1.data.freshUntil != (a02 e1.data.keyName.parts (a0s e1.data.content (a02 e1.data.name.parts (i64.wrap ((i64.wrap ((i64.wrap ((a02 e1.interest.name.parts (i64.wrap ((i64.wrap ((i64.wrap (k2 + 1)) + 1)) + 1))) + 1)) + 1)) + 1)))))) then (Ctl.ret (-1)) else bif (e1.data.signature != i64.wrap ((a02 e1.data.keyName.parts (a0s e1.data.content (a02 e1.data.name.parts (i64.wrap ((i64.wrap ((i64.wrap ((a02 e1.interest.name.parts (i64.wrap ((i64.wrap ((i64.wrap (k2 + 1)) + 1)) + 1))) + 1)) + 1)) + 1))))) + 1)) then (Ctl.ret (-1)) else a1z rest_ (i64.wrap ((i64.wrap ((a02 e1.data.keyName.parts (a0s e1.data.content (a02 e1.data.name.parts (i64.wrap ((i64.wrap ((i64.wrap ((a02 e1.interest.name.parts (i64.wrap ((i64.wrap ((i64.wrap (k2 + 1)) + 1)) + 1))) + 1)) + 1)) + 1))))) + 1)) + 1))
def a0q (a : (List PacketInFlight)) (k : Int) : Int := match a1z a k with | .ret r_ => r_ | .nxt k2 => k2
def a24 : List Consumer → Int → Ctl (Int) (Int) | [], k2 => (Ctl.nxt k2) | e1 :: rest_, k2 => bif (e1.node != k2) then (Ctl.ret (-1)) else bif (e1.index != i64.wrap (k2 + 1)) then (Ctl.ret (-1)) else bif decide ((a02 e1.name.parts (i64.wrap ((i64.wrap (k2 + 1)) + 1))) < 0) then (Ctl.ret (-1)) else bif (e1.attempts != (a02 e1.name.parts (i64.wrap ((i64.wrap (k2 + 1)) + 1)))) then (Ctl.ret (-1)) else bif (e1.wait != i64.wrap ((a02 e1.name.parts (i64.wrap ((i64.wrap (k2 + 1)) + 1))) + 1)) then (Ctl.ret (-1)) else bif (!(e1.satisfied == (Int.tmod (i64.wrap ((i64.wrap ((a02 e1.name.parts (i64.wrap ((i64.wrap (k2 + 1)) + 1))) + 1)) + 1)) 3 == 0))) then (Ctl.ret (-1)) else bif decide ((a02 e1.data.name.parts (i64.wrap ((i64.wrap ((i64.wrap ((a02 e1.name.parts (i64.wrap ((i64.wrap (k2 + 1)) + 1))) + 1)) + 1)) + 1))) < 0) then (Ctl.ret (-1)) else bif decide ((a0s e1.data.content (a02 e1.data.name.parts (i64.wrap ((i64.wrap ((i64.wrap ((a02 e1.name.parts (i64.wrap ((i64.wrap (k2 + 1)) + 1))) + 1)) + 1)) + 1)))) < 0) then (Ctl.ret (-1)) else bif decide ((a02 e1.data.keyName.parts (a0s e1.data.content (a02 e1.data.name.parts (i64.wrap ((i64.wrap ((i64.wrap ((a02 e1.name.parts (i64.wrap ((i64.wrap (k2 + 1)) + 1))) + 1)) + 1)) + 1))))) < 0) then (Ctl.ret (-1)) else bif (e1.data.freshUntil != (a02 e1.data.keyName.parts (a0s e1.data.content (a02 e1.data.name.parts (i64.wrap ((i64.wrap ((i64.wrap ((a02 e1.name.parts (i64.wrap ((i64.wrap (k2 + 1)) + 1))) + 1)) + 1)) + 1)))))) then (Ctl.ret (-1)) else bif (e1.data.signature != i64.wrap ((a02 e1.data.keyName.parts (a0s e1.data.content (a02 e1.data.name.parts (i64.wrap ((i64.wrap ((i64.wrap ((a02 e1.name.parts (i64.wrap ((i64.wrap (k2 + 1)) + 1))) + 1)) + 1)) + 1))))) + 1)) then (Ctl.ret (-1)) else a24 rest_ (i64.wrap ((i64.wrap ((a02 e1.data.keyName.parts (a0s e1.data.content (a02 e1.data.name.parts (i64.wrap ((i64.wrap ((i64.wrap ((a02 e1.name.parts (i64.wrap ((i64.wrap (k2 + 1)) + 1))) + 1)) + 1)) + 1))))) + 1)) + 1))
def a0v (a : (List Consumer)) (k : Int) : Int := match a24 a k with | .ret r_ => r_ | .nxt k2 => k2
def a1l (a : Network) (k : Int) : Int := bif decide ((a2o a.topology k) < 0) then (-1) else bif decide ((a1r a.trust (a2o a.topology k)) < 0) then (-1) else bif decide ((a2p a.producers (a1r a.trust (a2o a.topology k))) < 0) then (-1) else bif decide ((a16 a.nodes (a2p a.producers (a1r a.trust (a2o a.topology k)))) < 0) then (-1) else bif decide ((a4p a.failedLinks (a16 a.nodes (a2p a.producers (a1r a.trust (a2o a.topology k))))) < 0) then (-1) else bif decide ((a0q a.inFlight (a4p a.failedLinks (a16 a.nodes (a2p a.producers (a1r a.trust (a2o a.topology k)))))) < 0) then (-1) else bif decide ((a0v a.consumers (a0q a.inFlight (a4p a.failedLinks (a16 a.nodes (a2p a.producers (a1r a.trust (a2o a.topology k))))))) < 0) then (-1) else (a0v a.consumers (a0q a.inFlight (a4p a.failedLinks (a16 a.nodes (a2p a.producers (a1r a.trust (a2o a.topology k)))))))
end Go.Stp
namespace Go.Proofs.YtpmejlbgjkiobaaGreat
open Go.Stp
open Go.Stp.GoT (ok)
variable {w : World} (n : Nat) {K0 K1 K2 K3 K4 K5 K6 K7 K8 K9 : Option Addr} {M0 M1 M2 M3 M4 M5 M6 M7 M8 M9 : Nat}
theorem f216 (hn : n + 0 ≤ 9) {a : List Link} (N0 : Rd w K0 M0 a) {k : Int} (a1 : ok n a) (a3 : ok n k) :
 DP 216 #[vS K0 a M0, vI k] w (pI n (a4o a k)) := by
 have hb := bS0 hn
 refine EN Tryz.func216 Z (aS1 N0) ?_
 have r1 := (okl a1).1
 refine LM Z (k, 0) (fun | (k2, i) => ((i ≤ a.length) ∧ J6 k2 ∧ (a6b a k = a6b (a.drop i) k2), a.length - i, [(1, .v (vI k2)), (5, .v (vI i))], [], [], [])) ⟨zl, a3, Z⟩ [0] [] [0] [0] ?_
 rintro ⟨k2, i⟩ ⟨v1, v2, v3⟩
 refine yKD 9 ?_ ?_ <;> intro h1 ac
 have a2 : i < a.length := τ0
 obtain ⟨e1, a0⟩ := gE a2
 have a9 := okE a1 a0
 refine yI 0 i a2 ?_
 rintro a7 rfl
 refine yL 0 1 e1 a0 ?_
 rintro ⟨⟨⟩, ⟨⟩⟩
 refine yKM 18 ?_ ?_ <;> intro h2 ab
 have a5 := v3.trans (show _ = (Ctl.ret (-1)) by rw [acx a0]; simp only [a6b, h2, cT, cF])
 rw [show a4o a k = (-1) by simp only [a4o, a5, cT, cF]]
 exact R6r Z Z (i6 (-1))
 refine SW ?_
 refine yI 0 i a2 ?_
 rintro aa ⟨⟩
 refine yL 0 1 e1 a0 ?_
 rintro ⟨⟨⟩, ⟨⟩⟩
 refine yKM 27 ?_ ?_ <;> intro h3 a8
 have a6 := v3.trans (show _ = (Ctl.ret (-1)) by rw [acx a0]; simp only [a6b, h2, h3, cT, cF])
 rw [show a4o a k = (-1) by simp only [a4o, a6, cT, cF]]
 exact R6r Z Z (i6 (-1))
 refine SW ?_
 refine SA ?_
 exact ITr Z (i64.wrap ((i64.wrap (k2 + 1)) + 1), i + 1) ⟨τ0, (ad3 _), (by rw [v3, acx a0]; simp only [a6b, h2, h3, cT, cF])⟩ τ1 [0]
 have a4 := v3.trans (show _ = (Ctl.nxt k2) by rw [dn (show a.length ≤ i by omega)]; simp only [a6b, cT, cF])
 rw [show a4o a k = k2 by simp only [a4o, a4, cT, cF]]
 exact R6r Z Z v2
theorem f108 (hn : n + 0 ≤ 9) (a : Topology) (N0 : Rd w K0 M0 a.links) {k : Int} (a1 : ok n a) (a0 : ok n k) :
 DP 108 #[aeq a K0 M0, vI k] w (pI n (a2o a k)) := by
 have hb := bS0 hn
 refine EN Tryz.func108 Z (aS1 N0) ?_
 refine KV Z Z Z Z Z Z O Z (fun w γ => f216 n τ0 (γ.q 0 Z) ((ad0 a1).2) a0) fun a2 => ?_
 refine yKD 10 ?_ ?_ <;> intro h1 a3
 rw [show a2o a k = (-1) by simp only [a2o, h1, cT, cF]]
 exact R6r Z Z (i6 (-1))
 rw [show a2o a k = (a4o a.links k) by simp only [a2o, h1, cT, cF]]
 exact R6r Z Z a2
theorem f221 (hn : n + 0 ≤ 9) {a : List Str} (N0 : Rd w K0 M0 a) {k : Int} (a0 : ok n a) (a2 : ok n k) :
 DP 221 #[vS K0 a M0, vI k] w (pI n (a02 a k)) := by
 have hb := bS0 hn
 refine EN Tryz.func221 Z (aS1 N0) ?_
 have r1 := (okl a0).1
 refine LM Z (k, 0) (fun | (k2, i) => ((i ≤ a.length) ∧ J6 k2 ∧ (a7k a k = a7k (a.drop i) k2), a.length - i, [(1, .v (vI k2)), (5, .v (vI i))], [], [], [])) ⟨zl, a2, Z⟩ [0] [] [0] [0] ?_
 rintro ⟨k2, i⟩ ⟨v1, v2, v3⟩
 refine yKD 9 ?_ ?_ <;> intro h1 ab
 have a4 : i < a.length := τ0
 obtain ⟨e1, a1⟩ := gE a4
 have a9 := okE a0 a1
 refine R0 ?_
 refine WX.draw [] mixed fun bs G0 a3 => ?_
 refine dT 5 [1, 3] ?_
 refine zDI 2 0 i a3 Z a4 ?_
 rintro a8 rfl
 refine zDL 3 0 1 e1 a3 a1 ?_
 rintro ⟨⟩
 refine dT 2 [9] ?_
 refine DXV 5 Z J Z Z Z Z Z Z O Z (fun w γ => f210 n τ0 v2) fun a7 => ?_
 refine dT 0 [13] ?_
 refine DX.tail2 [] Z Z J ?_
 refine yKX 18 ?_ ?_ <;> intro h2 aa
 have a6 := v3.trans (show _ = (Ctl.ret (-1)) by rw [acx a1]; simp only [a7k, h2, cT, cF])
 rw [show a02 a k = (-1) by simp only [a02, a6, cT, cF]]
 exact R6r Z Z (i6 (-1))
 refine SW ?_
 refine SA ?_
 exact ITr Z (i64.wrap (k2 + 1), i + 1) ⟨τ0, (ad3 _), (by rw [v3, acx a1]; simp only [a7k, h2, cT, cF])⟩ τ1 [0]
 have a5 := v3.trans (show _ = (Ctl.nxt k2) by rw [dn (show a.length ≤ i by omega)]; simp only [a7k, cT, cF])
 rw [show a02 a k = k2 by simp only [a02, a5, cT, cF]]
 exact R6r Z Z v2
theorem f217 (hn : n + 0 ≤ 9) {a : List Key} (N0 : Rd w K0 M0 a) {k : Int} (a1 : ok n a) (a3 : ok n k) :
 DP 217 #[vS K0 a M0, vI k] w (pI n (a36 a k)) := by
 have hb := bS0 hn
 refine EN Tryz.func217 Z (aS1 N0) ?_
 have r1 := (okl a1).1
 refine LM Z (k, 0) (fun | (k2, i) => ((i ≤ a.length) ∧ J6 k2 ∧ (a6c a k = a6c (a.drop i) k2), a.length - i, [(1, .v (vI k2)), (5, .v (vI i))], [], [], [])) ⟨zl, a3, Z⟩ [0] [] [0] [0] ?_
 rintro ⟨k2, i⟩ ⟨v1, v2, v3⟩
 refine yKD 9 ?_ ?_ <;> intro h1 ad
 have a2 : i < a.length := τ0
 obtain ⟨e1, a0⟩ := gE a2
 have a6 := okE a1 a0
 refine yI 0 i a2 ?_
 rintro a9 rfl
 refine yL 0 1 e1 a0 ?_
 rintro ⟨⟨p1, c1⟩, ⟨⟩⟩
 refine KV Z Z Z Z Z Z O Z (fun w γ => f221 n τ0 (γ.q 1 Z) (ae4 (ag3 a6).1) v2) fun a8 => ?_
 refine yKD 21 ?_ ?_ <;> intro h2 ac
 have a5 := v3.trans (show _ = (Ctl.ret (-1)) by rw [acx a0]; simp only [a6c, h2, cT, cF])
 rw [show a36 a k = (-1) by simp only [a36, a5, cT, cF]]
 exact R6r Z Z (i6 (-1))
 refine yI 0 i a2 ?_
 rintro ab ⟨⟩
 refine yL 0 2 e1 a0 ?_
 rintro ⟨⟨p2, c2⟩, ⟨⟩⟩
 refine yKM 28 ?_ ?_ <;> intro h3 aa
 have a7 := v3.trans (show _ = (Ctl.ret (-1)) by rw [acx a0]; simp only [a6c, h2, h3, cT, cF])
 rw [show a36 a k = (-1) by simp only [a36, a7, cT, cF]]
 exact R6r Z Z (i6 (-1))
 refine SW ?_
 refine SA ?_
 exact ITr Z (i64.wrap ((a02 e1.name.parts k2) + 1), i + 1) ⟨τ0, (ad3 _), (by rw [v3, acx a0]; simp only [a6c, h2, h3, cT, cF])⟩ τ1 [0]
 have a4 := v3.trans (show _ = (Ctl.nxt k2) by rw [dn (show a.length ≤ i by omega)]; simp only [a6c, cT, cF])
 rw [show a36 a k = k2 by simp only [a36, a4, cT, cF]]
 exact R6r Z Z v2
theorem f218 (hn : n + 0 ≤ 9) {a : List Rule} (N0 : Rd w K0 M0 a) {k : Int} (a1 : ok n a) (a3 : ok n k) :
 DP 218 #[vS K0 a M0, vI k] w (pI n (a3p a k)) := by
 have hb := bS0 hn
 refine EN Tryz.func218 Z (aS1 N0) ?_
 have r1 := (okl a1).1
 refine LM Z (k, 0) (fun | (k2, i) => ((i ≤ a.length) ∧ J6 k2 ∧ (a6d a k = a6d (a.drop i) k2), a.length - i, [(1, .v (vI k2)), (5, .v (vI i))], [], [], [])) ⟨zl, a3, Z⟩ [0] [] [0] [0] ?_
 rintro ⟨k2, i⟩ ⟨v1, v2, v3⟩
 refine yKD 9 ?_ ?_ <;> intro h1 ae
 have a2 : i < a.length := τ0
 obtain ⟨e1, a0⟩ := gE a2
 have a4 := okE a1 a0
 refine yI 0 i a2 ?_
 rintro aa rfl
 refine yL 0 1 e1 a0 ?_
 rintro ⟨⟨p1, c1⟩, ⟨p2, c2⟩⟩
 refine KV Z Z Z Z Z Z O Z (fun w γ => f221 n τ0 (γ.q 1 Z) (ad9 (adx a4).1) v2) fun a6 => ?_
 refine yKD 21 ?_ ?_ <;> intro h2 ad
 have a7 := v3.trans (show _ = (Ctl.ret (-1)) by rw [acx a0]; simp only [a6d, h2, cT, cF])
 rw [show a3p a k = (-1) by simp only [a3p, a7, cT, cF]]
 exact R6r Z Z (i6 (-1))
 refine yI 0 i a2 ?_
 rintro ac ⟨⟩
 refine yL 0 3 e1 a0 ?_
 rintro ⟨⟨p3, c3⟩, ⟨p4, c4⟩⟩
 refine KV Z Z Z Z Z Z O Z (fun w γ => f221 n τ0 (γ.q 4 Z) (ad9 (adx a4).2) a6) fun a8 => ?_
 refine yKD 31 ?_ ?_ <;> intro h3 ab
 have a9 := v3.trans (show _ = (Ctl.ret (-1)) by rw [acx a0]; simp only [a6d, h2, h3, cT, cF])
 rw [show a3p a k = (-1) by simp only [a3p, a9, cT, cF]]
 exact R6r Z Z (i6 (-1))
 refine SA ?_
 exact ITr Z ((a02 e1.keyPattern.parts (a02 e1.dataPattern.parts k2)), i + 1) ⟨τ0, a8, (by rw [v3, acx a0]; simp only [a6d, h2, h3, cT, cF])⟩ τ1 [0]
 have a5 := v3.trans (show _ = (Ctl.nxt k2) by rw [dn (show a.length ≤ i by omega)]; simp only [a6d, cT, cF])
 rw [show a3p a k = k2 by simp only [a3p, a5, cT, cF]]
 exact R6r Z Z v2
theorem f219 (hn : n + 0 ≤ 9) {a : List Name} (N0 : Rd w K0 M0 a) {k : Int} (a0 : ok n a) (a2 : ok n k) :
 DP 219 #[vS K0 a M0, vI k] w (pI n (a54 a k)) := by
 have hb := bS0 hn
 refine EN Tryz.func219 Z (aS1 N0) ?_
 have r1 := (okl a0).1
 refine LM Z (k, 0) (fun | (k2, i) => ((i ≤ a.length) ∧ J6 k2 ∧ (a7l a k = a7l (a.drop i) k2), a.length - i, [(1, .v (vI k2)), (5, .v (vI i))], [], [], [])) ⟨zl, a2, Z⟩ [0] [] [0] [0] ?_
 rintro ⟨k2, i⟩ ⟨v1, v2, v3⟩
 refine yKD 9 ?_ ?_ <;> intro h1 aa
 have a3 : i < a.length := τ0
 obtain ⟨e1, a1⟩ := gE a3
 have a7 := okE a0 a1
 refine yI 0 i a3 ?_
 rintro a8 rfl
 refine yL 0 1 e1 a1 ?_
 rintro ⟨p1, c1⟩
 refine KV Z Z Z Z Z Z O Z (fun w γ => f221 n τ0 (γ.q 1 Z) (ae4 a7) v2) fun a5 => ?_
 refine yKD 20 ?_ ?_ <;> intro h2 a9
 have a6 := v3.trans (show _ = (Ctl.ret (-1)) by rw [acx a1]; simp only [a7l, h2, cT, cF])
 rw [show a54 a k = (-1) by simp only [a54, a6, cT, cF]]
 exact R6r Z Z (i6 (-1))
 refine SA ?_
 exact ITr Z ((a02 e1.parts k2), i + 1) ⟨τ0, a5, (by rw [v3, acx a1]; simp only [a7l, h2, cT, cF])⟩ τ1 [0]
 have a4 := v3.trans (show _ = (Ctl.nxt k2) by rw [dn (show a.length ≤ i by omega)]; simp only [a7l, cT, cF])
 rw [show a54 a k = k2 by simp only [a54, a4, cT, cF]]
 exact R6r Z Z v2
theorem f227 (hn : n + 0 ≤ 9) {a : List UInt8} (N0 : Rd w K0 M0 a) {k : Int} (a0 : ok n a) (a2 : ok n k) :
 DP 227 #[vS K0 a M0, vI k] w (pI n (a0s a k)) := by
 have hb := bS0 hn
 refine EN Tryz.func227 Z (aS1 N0) ?_
 have r1 := (okl a0).1
 refine LM Z (k, 0) (fun | (k2, i) => ((i ≤ a.length) ∧ J6 k2 ∧ (a7m a k = a7m (a.drop i) k2), a.length - i, [(1, .v (vI k2)), (5, .v (vI i))], [], [], [])) ⟨zl, a2, Z⟩ [0] [] [0] [0] ?_
 rintro ⟨k2, i⟩ ⟨v1, v2, v3⟩
 refine yKD 9 ?_ ?_ <;> intro h1 a7
 have a3 : i < a.length := τ0
 obtain ⟨e1, a1⟩ := gE a3
 refine yI 0 i a3 ?_
 rintro a6 rfl
 refine zL 0 1 e1 a1 ?_
 rintro ⟨⟩
 refine KS Z Z Z Z (fun _ hΓ => aln ttOk Z Z Z Z Z Z) ?_
 refine yKM 18 ?_ ?_ <;> intro h2 a8
 have a5 := v3.trans (show _ = (Ctl.ret (-1)) by rw [acx a1]; simp only [a7m, h2, cT, cF])
 rw [show a0s a k = (-1) by simp only [a0s, a5, cT, cF]]
 exact R6r Z Z (i6 (-1))
 refine SW ?_
 refine SA ?_
 exact ITr Z (i64.wrap (k2 + 1), i + 1) ⟨τ0, (ad3 _), (by rw [v3, acx a1]; simp only [a7m, h2, cT, cF])⟩ τ1 [0]
 have a4 := v3.trans (show _ = (Ctl.nxt k2) by rw [dn (show a.length ≤ i by omega)]; simp only [a7m, cT, cF])
 rw [show a0s a k = k2 by simp only [a0s, a4, cT, cF]]
 exact R6r Z Z v2
theorem f220 (hn : n + 0 ≤ 9) {a : List DataP} (N0 : Rd w K0 M0 a) {k : Int} (a2 : ok n a) (a4 : ok n k) :
 DP 220 #[vS K0 a M0, vI k] w (pI n (a14 a k)) := by
 have hb := bS0 hn
 refine EN Tryz.func220 Z (aS1 N0) ?_
 have r1 := (okl a2).1
 refine LM Z (k, 0) (fun | (k2, i) => ((i ≤ a.length) ∧ J6 k2 ∧ (a45 a k = a45 (a.drop i) k2), a.length - i, [(1, .v (vI k2)), (5, .v (vI i))], [], [], [])) ⟨zl, a4, Z⟩ [0] [] [0] [0] ?_
 rintro ⟨k2, i⟩ ⟨v1, v2, v3⟩
 refine yKD 9 ?_ ?_ <;> intro h1 ah
 have a1 : i < a.length := τ0
 obtain ⟨e1, a0⟩ := gE a1
 have a3 := okE a2 a0
 refine yI 0 i a1 ?_
 rintro ag rfl
 refine yL 0 1 e1 a0 ?_
 rintro ⟨⟨p1, c1⟩, ⟨p2, c2⟩, ⟨p3, c3⟩, ⟨⟩, ⟨⟩⟩
 refine KV Z Z Z Z Z Z O Z (fun w γ => f221 n τ0 (γ.q 1 Z) (ae4 (ado a3).1) v2) fun a6 => ?_
 refine yKD 21 ?_ ?_ <;> intro h2 az
 have a7 := v3.trans (show _ = (Ctl.ret (-1)) by rw [acx a0]; simp only [a45, h2, cT, cF])
 rw [show a14 a k = (-1) by simp only [a14, a7, cT, cF]]
 exact R6r Z Z (i6 (-1))
 refine yI 0 i a1 ?_
 rintro ax ⟨⟩
 refine yL 0 4 e1 a0 ?_
 rintro ⟨⟨p4, c4⟩, ⟨p5, c5⟩, ⟨p6, c6⟩, ⟨⟩, ⟨⟩⟩
 refine KV Z Z Z Z Z Z O Z (fun w γ => f227 n τ0 (γ.q 5 Z) ((ado a3).2.1) a6) fun a9 => ?_
 refine yKD 30 ?_ ?_ <;> intro h3 ai
 have ac := v3.trans (show _ = (Ctl.ret (-1)) by rw [acx a0]; simp only [a45, h2, h3, cT, cF])
 rw [show a14 a k = (-1) by simp only [a14, ac, cT, cF]]
 exact R6r Z Z (i6 (-1))
 refine yI 0 i a1 ?_
 rintro aj ⟨⟩
 refine yL 0 7 e1 a0 ?_
 rintro ⟨⟨p7, c7⟩, ⟨p8, c8⟩, ⟨p9, c9⟩, ⟨⟩, ⟨⟩⟩
 refine KV Z Z Z Z Z Z O Z (fun w γ => f221 n τ0 (γ.q 9 Z) (ae4 (ado a3).2.2.1) a9) fun b1 => ?_
 refine yKD 40 ?_ ?_ <;> intro h4 al
 have ab := v3.trans (show _ = (Ctl.ret (-1)) by rw [acx a0]; simp only [a45, h2, h3, h4, cT, cF])
 rw [show a14 a k = (-1) by simp only [a14, ab, cT, cF]]
 exact R6r Z Z (i6 (-1))
 refine yI 0 i a1 ?_
 rintro b2 ⟨⟩
 refine yL 0 10 e1 a0 ?_
 rintro ⟨⟨an, ar⟩, ⟨aw, aq⟩, ⟨ao, ad⟩, ⟨⟩, ⟨⟩⟩
 refine yKM 47 ?_ ?_ <;> intro h5 ap
 have aa := v3.trans (show _ = (Ctl.ret (-1)) by rw [acx a0]; simp only [a45, h2, h3, h4, h5, cT, cF])
 rw [show a14 a k = (-1) by simp only [a14, aa, cT, cF]]
 exact R6r Z Z (i6 (-1))
 refine SW ?_
 refine yI 0 i a1 ?_
 rintro b0 ⟨⟩
 refine yL 0 13 e1 a0 ?_
 rintro ⟨⟨ak, au⟩, ⟨av, am⟩, ⟨ay, af⟩, ⟨⟩, ⟨⟩⟩
 refine yKM 56 ?_ ?_ <;> intro h6 ae
 have a8 := v3.trans (show _ = (Ctl.ret (-1)) by rw [acx a0]; simp only [a45, h2, h3, h4, h5, h6, cT, cF])
 rw [show a14 a k = (-1) by simp only [a14, a8, cT, cF]]
 exact R6r Z Z (i6 (-1))
 refine SW ?_
 refine SA ?_
 exact ITr Z (i64.wrap ((i64.wrap ((a02 e1.keyName.parts (a0s e1.content (a02 e1.name.parts k2))) + 1)) + 1), i + 1) ⟨τ0, (ad3 _), (by rw [v3, acx a0]; simp only [a45, h2, h3, h4, h5, h6, cT, cF])⟩ τ1 [0]
 have a5 := v3.trans (show _ = (Ctl.nxt k2) by rw [dn (show a.length ≤ i by omega)]; simp only [a45, cT, cF])
 rw [show a14 a k = k2 by simp only [a14, a5, cT, cF]]
 exact R6r Z Z v2
theorem f109 (hn : n + 0 ≤ 9) (a : TrustPolicy) (N0 : Rd w K0 M0 a.keys) (N1 : Rd w K1 M1 a.rules) (N2 : Rd w K2 M2 a.anchors) (N3 : Rd w K3 M3 a.certificates) {k : Int} (a0 : ok n a) (a1 : ok n k) :
 DP 109 #[af4 a K0 M0 K1 M1 K2 M2 K3 M3, vI k] w (pI n (a1r a k)) := by
 have hb := bS0 hn
 refine EN Tryz.func109 Z (aS4 N0 N1 N2 N3) ?_
 refine KV Z Z Z Z Z Z O Z (fun w γ => f217 n τ0 (γ.q 0 Z) ((acz a0).1) a1) fun a2 => ?_
 refine yKD 10 ?_ ?_ <;> intro h1 a9
 rw [show a1r a k = (-1) by simp only [a1r, h1, cT, cF]]
 exact R6r Z Z (i6 (-1))
 refine KV Z Z Z Z Z Z O Z (fun w γ => f218 n τ0 (γ.q 1 Z) ((acz a0).2.1) a2) fun a5 => ?_
 refine yKD 16 ?_ ?_ <;> intro h2 a6
 rw [show a1r a k = (-1) by simp only [a1r, h1, h2, cT, cF]]
 exact R6r Z Z (i6 (-1))
 refine KV Z Z Z Z Z Z O Z (fun w γ => f219 n τ0 (γ.q 2 Z) ((acz a0).2.2.1) a5) fun a3 => ?_
 refine yKD 22 ?_ ?_ <;> intro h3 a7
 rw [show a1r a k = (-1) by simp only [a1r, h1, h2, h3, cT, cF]]
 exact R6r Z Z (i6 (-1))
 refine KV Z Z Z Z Z Z O Z (fun w γ => f220 n τ0 (γ.q 3 Z) ((acz a0).2.2.2) a3) fun a4 => ?_
 refine yKD 28 ?_ ?_ <;> intro h4 a8
 rw [show a1r a k = (-1) by simp only [a1r, h1, h2, h3, h4, cT, cF]]
 exact R6r Z Z (i6 (-1))
 rw [show a1r a k = (a14 a.certificates (a54 a.anchors (a3p a.rules (a36 a.keys k)))) by simp only [a1r, h1, h2, h3, h4, cT, cF]]
 exact R6r Z Z a4
theorem f110 (hn : n + 0 ≤ 9) {a : List TableEntry} (N0 : Rd w K0 M0 a) {k : Int} (a1 : ok n a) (a3 : ok n k) :
 DP 110 #[vS K0 a M0, vI k] w (pI n (a2p a k)) := by
 have hb := bS0 hn
 refine EN Tryz.func110 Z (aS1 N0) ?_
 have r1 := (okl a1).1
 refine LM Z (k, 0) (fun | (k2, i) => ((i ≤ a.length) ∧ J6 k2 ∧ (a6e a k = a6e (a.drop i) k2), a.length - i, [(1, .v (vI k2)), (5, .v (vI i))], [], [], [])) ⟨zl, a3, Z⟩ [0] [] [0] [0] ?_
 rintro ⟨k2, i⟩ ⟨v1, v2, v3⟩
 refine yKD 9 ?_ ?_ <;> intro h1 ad
 have a2 : i < a.length := τ0
 obtain ⟨e1, a0⟩ := gE a2
 have a6 := okE a1 a0
 refine yI 0 i a2 ?_
 rintro a9 rfl
 refine yL 0 1 e1 a0 ?_
 rintro ⟨⟨p1, c1⟩, ⟨⟩⟩
 refine KV Z Z Z Z Z Z O Z (fun w γ => f221 n τ0 (γ.q 1 Z) (ae4 (adv a6).1) v2) fun a8 => ?_
 refine yKD 21 ?_ ?_ <;> intro h2 ac
 have a5 := v3.trans (show _ = (Ctl.ret (-1)) by rw [acx a0]; simp only [a6e, h2, cT, cF])
 rw [show a2p a k = (-1) by simp only [a2p, a5, cT, cF]]
 exact R6r Z Z (i6 (-1))
 refine yI 0 i a2 ?_
 rintro ab ⟨⟩
 refine yL 0 2 e1 a0 ?_
 rintro ⟨⟨p2, c2⟩, ⟨⟩⟩
 refine yKM 28 ?_ ?_ <;> intro h3 aa
 have a7 := v3.trans (show _ = (Ctl.ret (-1)) by rw [acx a0]; simp only [a6e, h2, h3, cT, cF])
 rw [show a2p a k = (-1) by simp only [a2p, a7, cT, cF]]
 exact R6r Z Z (i6 (-1))
 refine SW ?_
 refine SA ?_
 exact ITr Z (i64.wrap ((a02 e1.name.parts k2) + 1), i + 1) ⟨τ0, (ad3 _), (by rw [v3, acx a0]; simp only [a6e, h2, h3, cT, cF])⟩ τ1 [0]
 have a4 := v3.trans (show _ = (Ctl.nxt k2) by rw [dn (show a.length ≤ i by omega)]; simp only [a6e, cT, cF])
 rw [show a2p a k = k2 by simp only [a2p, a4, cT, cF]]
 exact R6r Z Z v2
theorem f222 (hn : n + 0 ≤ 9) {a : List CacheEntry} (N0 : Rd w K0 M0 a) {k : Int} (a2 : ok n a) (a3 : ok n k) :
 DP 222 #[vS K0 a M0, vI k] w (pI n (a18 a k)) := by
 have hb := bS0 hn
 refine EN Tryz.func222 Z (aS1 N0) ?_
 have r1 := (okl a2).1
 refine LM Z (k, 0) (fun | (k2, i) => ((i ≤ a.length) ∧ J6 k2 ∧ (a3q a k = a3q (a.drop i) k2), a.length - i, [(1, .v (vI k2)), (5, .v (vI i))], [], [], [])) ⟨zl, a3, Z⟩ [0] [] [0] [0] ?_
 rintro ⟨k2, i⟩ ⟨v1, v2, v3⟩
 refine yKD 9 ?_ ?_ <;> intro h1 aw
 have a1 : i < a.length := τ0
 obtain ⟨e1, a0⟩ := gE a1
 have a4 := okE a2 a0
 refine yI 0 i a1 ?_
 rintro af rfl
 refine yL 0 1 e1 a0 ?_
 rintro ⟨⟨⟨p1, c1⟩, ⟨p2, c2⟩, ⟨p3, c3⟩, ⟨⟩, ⟨⟩⟩, ⟨⟩⟩
 refine KV Z Z Z Z Z Z O Z (fun w γ => f221 n τ0 (γ.q 1 Z) (ae4 (ado (aec a4).1).1) v2) fun a9 => ?_
 refine yKD 22 ?_ ?_ <;> intro h2 ar
 have ad := v3.trans (show _ = (Ctl.ret (-1)) by rw [acx a0]; simp only [a3q, h2, cT, cF])
 rw [show a18 a k = (-1) by simp only [a18, ad, cT, cF]]
 exact R6r Z Z (i6 (-1))
 refine yI 0 i a1 ?_
 rintro ak ⟨⟩
 refine yL 0 4 e1 a0 ?_
 rintro ⟨⟨⟨p4, c4⟩, ⟨p5, c5⟩, ⟨p6, c6⟩, ⟨⟩, ⟨⟩⟩, ⟨⟩⟩
 refine KV Z Z Z Z Z Z O Z (fun w γ => f227 n τ0 (γ.q 5 Z) ((ado (aec a4).1).2.1) a9) fun aa => ?_
 refine yKD 32 ?_ ?_ <;> intro h3 ag
 have a8 := v3.trans (show _ = (Ctl.ret (-1)) by rw [acx a0]; simp only [a3q, h2, h3, cT, cF])
 rw [show a18 a k = (-1) by simp only [a18, a8, cT, cF]]
 exact R6r Z Z (i6 (-1))
 refine yI 0 i a1 ?_
 rintro ay ⟨⟩
 refine yL 0 7 e1 a0 ?_
 rintro ⟨⟨⟨p7, c7⟩, ⟨p8, c8⟩, ⟨p9, c9⟩, ⟨⟩, ⟨⟩⟩, ⟨⟩⟩
 refine KV Z Z Z Z Z Z O Z (fun w γ => f221 n τ0 (γ.q 9 Z) (ae4 (ado (aec a4).1).2.2.1) aa) fun av => ?_
 refine yKD 43 ?_ ?_ <;> intro h4 an
 have a7 := v3.trans (show _ = (Ctl.ret (-1)) by rw [acx a0]; simp only [a3q, h2, h3, h4, cT, cF])
 rw [show a18 a k = (-1) by simp only [a18, a7, cT, cF]]
 exact R6r Z Z (i6 (-1))
 refine yI 0 i a1 ?_
 rintro bb ⟨⟩
 refine yL 0 10 e1 a0 ?_
 rintro ⟨⟨⟨ao, ai⟩, ⟨b7, b6⟩, ⟨ap, al⟩, ⟨⟩, ⟨⟩⟩, ⟨⟩⟩
 refine yKM 51 ?_ ?_ <;> intro h5 aq
 have a6 := v3.trans (show _ = (Ctl.ret (-1)) by rw [acx a0]; simp only [a3q, h2, h3, h4, h5, cT, cF])
 rw [show a18 a k = (-1) by simp only [a18, a6, cT, cF]]
 exact R6r Z Z (i6 (-1))
 refine SW ?_
 refine yI 0 i a1 ?_
 rintro ba ⟨⟩
 refine yL 0 13 e1 a0 ?_
 rintro ⟨⟨⟨b4, b2⟩, ⟨aj, b5⟩, ⟨b8, ae⟩, ⟨⟩, ⟨⟩⟩, ⟨⟩⟩
 refine yKM 61 ?_ ?_ <;> intro h6 b3
 have ac := v3.trans (show _ = (Ctl.ret (-1)) by rw [acx a0]; simp only [a3q, h2, h3, h4, h5, h6, cT, cF])
 rw [show a18 a k = (-1) by simp only [a18, ac, cT, cF]]
 exact R6r Z Z (i6 (-1))
 refine SW ?_
 refine yI 0 i a1 ?_
 rintro au ⟨⟩
 refine yL 0 16 e1 a0 ?_
 rintro ⟨⟨⟨b1, am⟩, ⟨ah, b9⟩, ⟨b0, ax⟩, ⟨⟩, ⟨⟩⟩, ⟨⟩⟩
 refine yKM 70 ?_ ?_ <;> intro h7 az
 have a5 := v3.trans (show _ = (Ctl.ret (-1)) by rw [acx a0]; simp only [a3q, h2, h3, h4, h5, h6, h7, cT, cF])
 rw [show a18 a k = (-1) by simp only [a18, a5, cT, cF]]
 exact R6r Z Z (i6 (-1))
 refine SW ?_
 refine SA ?_
 exact ITr Z (i64.wrap ((i64.wrap ((i64.wrap ((a02 e1.data.keyName.parts (a0s e1.data.content (a02 e1.data.name.parts k2))) + 1)) + 1)) + 1), i + 1) ⟨τ0, (ad3 _), (by rw [v3, acx a0]; simp only [a3q, h2, h3, h4, h5, h6, h7, cT, cF])⟩ τ1 [0]
 have ab := v3.trans (show _ = (Ctl.nxt k2) by rw [dn (show a.length ≤ i by omega)]; simp only [a3q, cT, cF])
 rw [show a18 a k = k2 by simp only [a18, ab, cT, cF]]
 exact R6r Z Z v2
theorem f305 (hn : n + 0 ≤ 9) {a : List Requester} (N0 : Rd w K0 M0 a) {k : Int} (a1 : ok n a) (a3 : ok n k) :
 DP 305 #[vS K0 a M0, vI k] w (pI n (a37 a k)) := by
 have hb := bS0 hn
 refine EN Tryz.func305 Z (aS1 N0) ?_
 have r1 := (okl a1).1
 refine LM Z (k, 0) (fun | (k2, i) => ((i ≤ a.length) ∧ J6 k2 ∧ (a55 a k = a55 (a.drop i) k2), a.length - i, [(1, .v (vI k2)), (5, .v (vI i))], [], [], [])) ⟨zl, a3, Z⟩ [0] [] [0] [0] ?_
 rintro ⟨k2, i⟩ ⟨v1, v2, v3⟩
 refine yKD 9 ?_ ?_ <;> intro h1 af
 have a2 : i < a.length := τ0
 obtain ⟨e1, a0⟩ := gE a2
 have ac := okE a1 a0
 refine yI 0 i a2 ?_
 rintro a8 rfl
 refine yL 0 1 e1 a0 ?_
 rintro ⟨⟨⟩, ⟨⟩, ⟨⟩⟩
 refine yKM 18 ?_ ?_ <;> intro h2 ae
 have a5 := v3.trans (show _ = (Ctl.ret (-1)) by rw [acx a0]; simp only [a55, h2, cT, cF])
 rw [show a37 a k = (-1) by simp only [a37, a5, cT, cF]]
 exact R6r Z Z (i6 (-1))
 refine SW ?_
 refine yI 0 i a2 ?_
 rintro ad ⟨⟩
 refine yL 0 1 e1 a0 ?_
 rintro ⟨⟨⟩, ⟨⟩, ⟨⟩⟩
 refine yKM 27 ?_ ?_ <;> intro h3 a9
 have a7 := v3.trans (show _ = (Ctl.ret (-1)) by rw [acx a0]; simp only [a55, h2, h3, cT, cF])
 rw [show a37 a k = (-1) by simp only [a37, a7, cT, cF]]
 exact R6r Z Z (i6 (-1))
 refine SW ?_
 refine yI 0 i a2 ?_
 rintro aa ⟨⟩
 refine yL 0 1 e1 a0 ?_
 rintro ⟨⟨⟩, ⟨⟩, ⟨⟩⟩
 refine yKM 36 ?_ ?_ <;> intro h4 ab
 have a6 := v3.trans (show _ = (Ctl.ret (-1)) by rw [acx a0]; simp only [a55, h2, h3, h4, cT, cF])
 rw [show a37 a k = (-1) by simp only [a37, a6, cT, cF]]
 exact R6r Z Z (i6 (-1))
 refine SW ?_
 refine SA ?_
 exact ITr Z (i64.wrap ((i64.wrap ((i64.wrap (k2 + 1)) + 1)) + 1), i + 1) ⟨τ0, (ad3 _), (by rw [v3, acx a0]; simp only [a55, h2, h3, h4, cT, cF])⟩ τ1 [0]
 have a4 := v3.trans (show _ = (Ctl.nxt k2) by rw [dn (show a.length ≤ i by omega)]; simp only [a55, cT, cF])
 rw [show a37 a k = k2 by simp only [a37, a4, cT, cF]]
 exact R6r Z Z v2
theorem f223 (hn : n + 0 ≤ 9) {a : List PendingInterest} (N0 : Rd w K0 M0 a) {k : Int} (a1 : ok n a) (a3 : ok n k) :
 DP 223 #[vS K0 a M0, vI k] w (pI n (a29 a k)) := by
 have hb := bS0 hn
 refine EN Tryz.func223 Z (aS1 N0) ?_
 have r1 := (okl a1).1
 refine LM Z (k, 0) (fun | (k2, i) => ((i ≤ a.length) ∧ J6 k2 ∧ (a56 a k = a56 (a.drop i) k2), a.length - i, [(1, .v (vI k2)), (5, .v (vI i))], [], [], [])) ⟨zl, a3, Z⟩ [0] [] [0] [0] ?_
 rintro ⟨k2, i⟩ ⟨v1, v2, v3⟩
 refine yKD 9 ?_ ?_ <;> intro h1 ah
 have a2 : i < a.length := τ0
 obtain ⟨e1, a0⟩ := gE a2
 have a4 := okE a1 a0
 refine yI 0 i a2 ?_
 rintro aa rfl
 refine yL 0 1 e1 a0 ?_
 rintro ⟨⟨p1, c1⟩, ⟨p2, c2⟩, ⟨⟩⟩
 refine KV Z Z Z Z Z Z O Z (fun w γ => f221 n τ0 (γ.q 1 Z) (ae4 (ad8 a4).1) v2) fun a6 => ?_
 refine yKD 21 ?_ ?_ <;> intro h2 ag
 have a7 := v3.trans (show _ = (Ctl.ret (-1)) by rw [acx a0]; simp only [a56, h2, cT, cF])
 rw [show a29 a k = (-1) by simp only [a29, a7, cT, cF]]
 exact R6r Z Z (i6 (-1))
 refine yI 0 i a2 ?_
 rintro af ⟨⟩
 refine yL 0 3 e1 a0 ?_
 rintro ⟨⟨p3, c3⟩, ⟨p4, c4⟩, ⟨⟩⟩
 refine KV Z Z Z Z Z Z O Z (fun w γ => f305 n τ0 (γ.q 4 Z) ((ad8 a4).2.1) a6) fun ab => ?_
 refine yKD 30 ?_ ?_ <;> intro h3 ac
 have a9 := v3.trans (show _ = (Ctl.ret (-1)) by rw [acx a0]; simp only [a56, h2, h3, cT, cF])
 rw [show a29 a k = (-1) by simp only [a29, a9, cT, cF]]
 exact R6r Z Z (i6 (-1))
 refine yI 0 i a2 ?_
 rintro ad ⟨⟩
 refine yL 0 5 e1 a0 ?_
 rintro ⟨⟨p5, c5⟩, ⟨p6, c6⟩, ⟨⟩⟩
 refine yKM 37 ?_ ?_ <;> intro h4 ae
 have a8 := v3.trans (show _ = (Ctl.ret (-1)) by rw [acx a0]; simp only [a56, h2, h3, h4, cT, cF])
 rw [show a29 a k = (-1) by simp only [a29, a8, cT, cF]]
 exact R6r Z Z (i6 (-1))
 refine SW ?_
 refine SA ?_
 exact ITr Z (i64.wrap ((a37 e1.requesters (a02 e1.name.parts k2)) + 1), i + 1) ⟨τ0, (ad3 _), (by rw [v3, acx a0]; simp only [a56, h2, h3, h4, cT, cF])⟩ τ1 [0]
 have a5 := v3.trans (show _ = (Ctl.nxt k2) by rw [dn (show a.length ≤ i by omega)]; simp only [a56, cT, cF])
 rw [show a29 a k = k2 by simp only [a29, a5, cT, cF]]
 exact R6r Z Z v2
theorem f224 (hn : n + 0 ≤ 9) {a : List SeenNonce} (N0 : Rd w K0 M0 a) {k : Int} (a1 : ok n a) (a3 : ok n k) :
 DP 224 #[vS K0 a M0, vI k] w (pI n (a38 a k)) := by
 have hb := bS0 hn
 refine EN Tryz.func224 Z (aS1 N0) ?_
 have r1 := (okl a1).1
 refine LM Z (k, 0) (fun | (k2, i) => ((i ≤ a.length) ∧ J6 k2 ∧ (a6f a k = a6f (a.drop i) k2), a.length - i, [(1, .v (vI k2)), (5, .v (vI i))], [], [], [])) ⟨zl, a3, Z⟩ [0] [] [0] [0] ?_
 rintro ⟨k2, i⟩ ⟨v1, v2, v3⟩
 refine yKD 9 ?_ ?_ <;> intro h1 ad
 have a2 : i < a.length := τ0
 obtain ⟨e1, a0⟩ := gE a2
 have a6 := okE a1 a0
 refine yI 0 i a2 ?_
 rintro a9 rfl
 refine yL 0 1 e1 a0 ?_
 rintro ⟨⟨p1, c1⟩, ⟨⟩⟩
 refine KV Z Z Z Z Z Z O Z (fun w γ => f221 n τ0 (γ.q 1 Z) (ae4 (aew a6).1) v2) fun a8 => ?_
 refine yKD 21 ?_ ?_ <;> intro h2 ac
 have a5 := v3.trans (show _ = (Ctl.ret (-1)) by rw [acx a0]; simp only [a6f, h2, cT, cF])
 rw [show a38 a k = (-1) by simp only [a38, a5, cT, cF]]
 exact R6r Z Z (i6 (-1))
 refine yI 0 i a2 ?_
 rintro ab ⟨⟩
 refine yL 0 2 e1 a0 ?_
 rintro ⟨⟨p2, c2⟩, ⟨⟩⟩
 refine yKM 28 ?_ ?_ <;> intro h3 aa
 have a7 := v3.trans (show _ = (Ctl.ret (-1)) by rw [acx a0]; simp only [a6f, h2, h3, cT, cF])
 rw [show a38 a k = (-1) by simp only [a38, a7, cT, cF]]
 exact R6r Z Z (i6 (-1))
 refine SW ?_
 refine SA ?_
 exact ITr Z (i64.wrap ((a02 e1.name.parts k2) + 1), i + 1) ⟨τ0, (ad3 _), (by rw [v3, acx a0]; simp only [a6f, h2, h3, cT, cF])⟩ τ1 [0]
 have a4 := v3.trans (show _ = (Ctl.nxt k2) by rw [dn (show a.length ≤ i by omega)]; simp only [a6f, cT, cF])
 rw [show a38 a k = k2 by simp only [a38, a4, cT, cF]]
 exact R6r Z Z v2
theorem f225 (hn : n + 0 ≤ 9) {a : List Route} (N0 : Rd w K0 M0 a) {k : Int} (a1 : ok n a) (a3 : ok n k) :
 DP 225 #[vS K0 a M0, vI k] w (pI n (a2q a k)) := by
 have hb := bS0 hn
 refine EN Tryz.func225 Z (aS1 N0) ?_
 have r1 := (okl a1).1
 refine LM Z (k, 0) (fun | (k2, i) => ((i ≤ a.length) ∧ J6 k2 ∧ (a57 a k = a57 (a.drop i) k2), a.length - i, [(1, .v (vI k2)), (5, .v (vI i))], [], [], [])) ⟨zl, a3, Z⟩ [0] [] [0] [0] ?_
 rintro ⟨k2, i⟩ ⟨v1, v2, v3⟩
 refine yKD 9 ?_ ?_ <;> intro h1 ag
 have a2 : i < a.length := τ0
 obtain ⟨e1, a0⟩ := gE a2
 have a6 := okE a1 a0
 refine yI 0 i a2 ?_
 rintro aa rfl
 refine yL 0 1 e1 a0 ?_
 rintro ⟨⟨p1, c1⟩, ⟨⟩, ⟨⟩⟩
 refine KV Z Z Z Z Z Z O Z (fun w γ => f221 n τ0 (γ.q 1 Z) (ae4 (adn a6).1) v2) fun a9 => ?_
 refine yKD 21 ?_ ?_ <;> intro h2 af
 have a5 := v3.trans (show _ = (Ctl.ret (-1)) by rw [acx a0]; simp only [a57, h2, cT, cF])
 rw [show a2q a k = (-1) by simp only [a2q, a5, cT, cF]]
 exact R6r Z Z (i6 (-1))
 refine yI 0 i a2 ?_
 rintro ae ⟨⟩
 refine yL 0 2 e1 a0 ?_
 rintro ⟨⟨p2, c2⟩, ⟨⟩, ⟨⟩⟩
 refine yKM 28 ?_ ?_ <;> intro h3 ab
 have a8 := v3.trans (show _ = (Ctl.ret (-1)) by rw [acx a0]; simp only [a57, h2, h3, cT, cF])
 rw [show a2q a k = (-1) by simp only [a2q, a8, cT, cF]]
 exact R6r Z Z (i6 (-1))
 refine SW ?_
 refine yI 0 i a2 ?_
 rintro ac ⟨⟩
 refine yL 0 3 e1 a0 ?_
 rintro ⟨⟨p3, c3⟩, ⟨⟩, ⟨⟩⟩
 refine yKM 37 ?_ ?_ <;> intro h4 ad
 have a7 := v3.trans (show _ = (Ctl.ret (-1)) by rw [acx a0]; simp only [a57, h2, h3, h4, cT, cF])
 rw [show a2q a k = (-1) by simp only [a2q, a7, cT, cF]]
 exact R6r Z Z (i6 (-1))
 refine SW ?_
 refine SA ?_
 exact ITr Z (i64.wrap ((i64.wrap ((a02 e1.pfx.parts k2) + 1)) + 1), i + 1) ⟨τ0, (ad3 _), (by rw [v3, acx a0]; simp only [a57, h2, h3, h4, cT, cF])⟩ τ1 [0]
 have a4 := v3.trans (show _ = (Ctl.nxt k2) by rw [dn (show a.length ≤ i by omega)]; simp only [a57, cT, cF])
 rw [show a2q a k = k2 by simp only [a2q, a4, cT, cF]]
 exact R6r Z Z v2
theorem f226 (hn : n + 0 ≤ 9) {a : List Measurement} (N0 : Rd w K0 M0 a) {k : Int} (a1 : ok n a) (a3 : ok n k) :
 DP 226 #[vS K0 a M0, vI k] w (pI n (a39 a k)) := by
 have hb := bS0 hn
 refine EN Tryz.func226 Z (aS1 N0) ?_
 have r1 := (okl a1).1
 refine LM Z (k, 0) (fun | (k2, i) => ((i ≤ a.length) ∧ J6 k2 ∧ (a58 a k = a58 (a.drop i) k2), a.length - i, [(1, .v (vI k2)), (5, .v (vI i))], [], [], [])) ⟨zl, a3, Z⟩ [0] [] [0] [0] ?_
 rintro ⟨k2, i⟩ ⟨v1, v2, v3⟩
 refine yKD 9 ?_ ?_ <;> intro h1 ag
 have a2 : i < a.length := τ0
 obtain ⟨e1, a0⟩ := gE a2
 have a6 := okE a1 a0
 refine yI 0 i a2 ?_
 rintro aa rfl
 refine yL 0 1 e1 a0 ?_
 rintro ⟨⟨p1, c1⟩, ⟨⟩, ⟨⟩⟩
 refine KV Z Z Z Z Z Z O Z (fun w γ => f221 n τ0 (γ.q 1 Z) (ae4 (ae3 a6).1) v2) fun a9 => ?_
 refine yKD 21 ?_ ?_ <;> intro h2 af
 have a5 := v3.trans (show _ = (Ctl.ret (-1)) by rw [acx a0]; simp only [a58, h2, cT, cF])
 rw [show a39 a k = (-1) by simp only [a39, a5, cT, cF]]
 exact R6r Z Z (i6 (-1))
 refine yI 0 i a2 ?_
 rintro ae ⟨⟩
 refine yL 0 2 e1 a0 ?_
 rintro ⟨⟨p2, c2⟩, ⟨⟩, ⟨⟩⟩
 refine yKM 28 ?_ ?_ <;> intro h3 ab
 have a8 := v3.trans (show _ = (Ctl.ret (-1)) by rw [acx a0]; simp only [a58, h2, h3, cT, cF])
 rw [show a39 a k = (-1) by simp only [a39, a8, cT, cF]]
 exact R6r Z Z (i6 (-1))
 refine SW ?_
 refine yI 0 i a2 ?_
 rintro ac ⟨⟩
 refine yL 0 3 e1 a0 ?_
 rintro ⟨⟨p3, c3⟩, ⟨⟩, ⟨⟩⟩
 refine yKM 37 ?_ ?_ <;> intro h4 ad
 have a7 := v3.trans (show _ = (Ctl.ret (-1)) by rw [acx a0]; simp only [a58, h2, h3, h4, cT, cF])
 rw [show a39 a k = (-1) by simp only [a39, a7, cT, cF]]
 exact R6r Z Z (i6 (-1))
 refine SW ?_
 refine SA ?_
 exact ITr Z (i64.wrap ((i64.wrap ((a02 e1.pfx.parts k2) + 1)) + 1), i + 1) ⟨τ0, (ad3 _), (by rw [v3, acx a0]; simp only [a58, h2, h3, h4, cT, cF])⟩ τ1 [0]
 have a4 := v3.trans (show _ = (Ctl.nxt k2) by rw [dn (show a.length ≤ i by omega)]; simp only [a58, cT, cF])
 rw [show a39 a k = k2 by simp only [a39, a4, cT, cF]]
 exact R6r Z Z v2
theorem f111 (hn : n + 0 ≤ 9) {a : List NodeP} (N0 : Rd w K0 M0 a) {k : Int} (a3 : ok n a) (a4 : ok n k) :
 DP 111 #[vS K0 a M0, vI k] w (pI n (a16 a k)) := by
 have hb := bS0 hn
 refine EN Tryz.func111 Z (aS1 N0) ?_
 have r1 := (okl a3).1
 refine LM Z (k, 0) (fun | (k2, i) => ((i ≤ a.length) ∧ J6 k2 ∧ (a2r a k = a2r (a.drop i) k2), a.length - i, [(1, .v (vI k2)), (5, .v (vI i))], [], [], [])) ⟨zl, a4, Z⟩ [0] [] [0] [0] ?_
 rintro ⟨k2, i⟩ ⟨v1, v2, v3⟩
 refine yKD 9 ?_ ?_ <;> intro h1 cb
 have a1 : i < a.length := τ0
 obtain ⟨e1, a0⟩ := gE a1
 have a2 := okE a3 a0
 refine yI 0 i a1 ?_
 rintro an rfl
 refine yL 0 1 e1 a0 ?_
 rintro ⟨⟨p1, c1⟩, ⟨⟨⟩, ⟨p2, c2⟩⟩, ⟨p3, c3⟩, ⟨p4, c4⟩, ⟨p5, c5⟩, ⟨p6, c6⟩, ⟨⟩⟩
 refine KV Z Z Z Z Z Z O Z (fun w γ => f220 n τ0 (γ.q 1 Z) ((ad6 a2).1) v2) fun cd => ?_
 refine yKD 20 ?_ ?_ <;> intro h2 bx
 have ah := v3.trans (show _ = (Ctl.ret (-1)) by rw [acx a0]; simp only [a2r, h2, cT, cF])
 rw [show a16 a k = (-1) by simp only [a16, ah, cT, cF]]
 exact R6r Z Z (i6 (-1))
 refine yI 0 i a1 ?_
 rintro bb ⟨⟩
 refine yL 0 7 e1 a0 ?_
 rintro ⟨⟨p7, c7⟩, ⟨⟨⟩, ⟨p8, c8⟩⟩, ⟨p9, c9⟩, ⟨bq, b2⟩, ⟨d9, d7⟩, ⟨br, bk⟩, ⟨⟩⟩
 refine yKM 28 ?_ ?_ <;> intro h3 au
 have ab := v3.trans (show _ = (Ctl.ret (-1)) by rw [acx a0]; simp only [a2r, h2, h3, cT, cF])
 rw [show a16 a k = (-1) by simp only [a16, ab, cT, cF]]
 exact R6r Z Z (i6 (-1))
 refine SW ?_
 refine yI 0 i a1 ?_
 rintro cf ⟨⟩
 refine yL 0 13 e1 a0 ?_
 rintro ⟨⟨d1, cn⟩, ⟨⟨⟩, ⟨b7, d3⟩⟩, ⟨da, ak⟩, ⟨cm, bl⟩, ⟨az, dc⟩, ⟨ck, ce⟩, ⟨⟩⟩
 refine KV Z Z Z Z Z Z O Z (fun w γ => f222 n τ0 (γ.q 14 Z) ((aei (ad6 a2).2.1).2) (ad3 _)) fun ae => ?_
 refine yKD 40 ?_ ?_ <;> intro h4 bn
 have aa := v3.trans (show _ = (Ctl.ret (-1)) by rw [acx a0]; simp only [a2r, h2, h3, h4, cT, cF])
 rw [show a16 a k = (-1) by simp only [a16, aa, cT, cF]]
 exact R6r Z Z (i6 (-1))
 refine yI 0 i a1 ?_
 rintro dj ⟨⟩
 refine yL 0 19 e1 a0 ?_
 rintro ⟨⟨bm, cq⟩, ⟨⟨⟩, ⟨bf, cv⟩⟩, ⟨ca, b1⟩, ⟨bw, cc⟩, ⟨dk, ax⟩, ⟨b0, cw⟩, ⟨⟩⟩
 refine KV Z Z Z Z Z Z O Z (fun w γ => f223 n τ0 (γ.q 21 Z) ((ad6 a2).2.2.1) ae) fun ad => ?_
 refine yKD 49 ?_ ?_ <;> intro h5 bt
 have a9 := v3.trans (show _ = (Ctl.ret (-1)) by rw [acx a0]; simp only [a2r, h2, h3, h4, h5, cT, cF])
 rw [show a16 a k = (-1) by simp only [a16, a9, cT, cF]]
 exact R6r Z Z (i6 (-1))
 refine yI 0 i a1 ?_
 rintro df ⟨⟩
 refine yL 0 25 e1 a0 ?_
 rintro ⟨⟨cp, bu⟩, ⟨⟨⟩, ⟨ci, di⟩⟩, ⟨aw, bh⟩, ⟨ar, bj⟩, ⟨bg, ba⟩, ⟨ct, aq⟩, ⟨⟩⟩
 refine KV Z Z Z Z Z Z O Z (fun w γ => f224 n τ0 (γ.q 28 Z) ((ad6 a2).2.2.2.1) ad) fun ac => ?_
 refine yKD 58 ?_ ?_ <;> intro h6 cz
 have ag := v3.trans (show _ = (Ctl.ret (-1)) by rw [acx a0]; simp only [a2r, h2, h3, h4, h5, h6, cT, cF])
 rw [show a16 a k = (-1) by simp only [a16, ag, cT, cF]]
 exact R6r Z Z (i6 (-1))
 refine yI 0 i a1 ?_
 rintro bz ⟨⟩
 refine yL 0 31 e1 a0 ?_
 rintro ⟨⟨d4, bp⟩, ⟨⟨⟩, ⟨d2, c0⟩⟩, ⟨bs, de⟩, ⟨cg, d8⟩, ⟨bv, ay⟩, ⟨b6, bo⟩, ⟨⟩⟩
 refine KV Z Z Z Z Z Z O Z (fun w γ => f225 n τ0 (γ.q 35 Z) ((ad6 a2).2.2.2.2.1) ac) fun a8 => ?_
 refine yKD 67 ?_ ?_ <;> intro h7 cl
 have a7 := v3.trans (show _ = (Ctl.ret (-1)) by rw [acx a0]; simp only [a2r, h2, h3, h4, h5, h6, h7, cT, cF])
 rw [show a16 a k = (-1) by simp only [a16, a7, cT, cF]]
 exact R6r Z Z (i6 (-1))
 refine yI 0 i a1 ?_
 rintro cs ⟨⟩
 refine yL 0 37 e1 a0 ?_
 rintro ⟨⟨b8, d6⟩, ⟨⟨⟩, ⟨co, b9⟩⟩, ⟨cy, ao⟩, ⟨d5, cj⟩, ⟨bc, dg⟩, ⟨be, d0⟩, ⟨⟩⟩
 refine KV Z Z Z Z Z Z O Z (fun w γ => f226 n τ0 (γ.q 42 Z) ((ad6 a2).2.2.2.2.2.1) a8) fun db => ?_
 refine yKD 76 ?_ ?_ <;> intro h8 av
 have a5 := v3.trans (show _ = (Ctl.ret (-1)) by rw [acx a0]; simp only [a2r, h2, h3, h4, h5, h6, h7, h8, cT, cF])
 rw [show a16 a k = (-1) by simp only [a16, a5, cT, cF]]
 exact R6r Z Z (i6 (-1))
 refine yI 0 i a1 ?_
 rintro ch ⟨⟩
 refine yL 0 43 e1 a0 ?_
 rintro ⟨⟨al, b4⟩, ⟨⟨⟩, ⟨cx, aj⟩⟩, ⟨cr, dh⟩, ⟨b3, dd⟩, ⟨ai, ap⟩, ⟨bi, b5⟩, ⟨⟩⟩
 refine yKM 83 ?_ ?_ <;> intro h9 am
 have a6 := v3.trans (show _ = (Ctl.ret (-1)) by rw [acx a0]; simp only [a2r, h2, h3, h4, h5, h6, h7, h8, h9, cT, cF])
 rw [show a16 a k = (-1) by simp only [a16, a6, cT, cF]]
 exact R6r Z Z (i6 (-1))
 refine SW ?_
 refine SA ?_
 exact ITr Z (i64.wrap ((a39 e1.measurements (a2q e1.routes (a38 e1.seen (a29 e1.pending (a18 e1.cache.entries (i64.wrap ((a14 e1.locl k2) + 1))))))) + 1), i + 1) ⟨τ0, (ad3 _), (by rw [v3, acx a0]; simp only [a2r, h2, h3, h4, h5, h6, h7, h8, h9, cT, cF])⟩ τ1 [0]
 have af := v3.trans (show _ = (Ctl.nxt k2) by rw [dn (show a.length ≤ i by omega)]; simp only [a2r, cT, cF])
 rw [show a16 a k = k2 by simp only [a16, af, cT, cF]]
 exact R6r Z Z v2
theorem f112 (hn : n + 0 ≤ 9) {a : List Int} (N0 : Rd w K0 M0 a) {k : Int} (a0 : ok n a) (a2 : ok n k) :
 DP 112 #[vS K0 a M0, vI k] w (pI n (a4p a k)) := by
 have hb := bS0 hn
 refine EN Tryz.func112 Z (aS1 N0) ?_
 have r1 := (okl a0).1
 refine LM Z (k, 0) (fun | (k2, i) => ((i ≤ a.length) ∧ J6 k2 ∧ (a7n a k = a7n (a.drop i) k2), a.length - i, [(1, .v (vI k2)), (5, .v (vI i))], [], [], [])) ⟨zl, a2, Z⟩ [0] [] [0] [0] ?_
 rintro ⟨k2, i⟩ ⟨v1, v2, v3⟩
 refine yKD 9 ?_ ?_ <;> intro h1 a9
 have a3 : i < a.length := τ0
 obtain ⟨e1, a1⟩ := gE a3
 have a7 := okE a0 a1
 refine yI 0 i a3 ?_
 rintro a6 rfl
 refine zL 0 1 e1 a1 ?_
 rintro ⟨⟩
 refine yKM 17 ?_ ?_ <;> intro h2 a8
 have a5 := v3.trans (show _ = (Ctl.ret (-1)) by rw [acx a1]; simp only [a7n, h2, cT, cF])
 rw [show a4p a k = (-1) by simp only [a4p, a5, cT, cF]]
 exact R6r Z Z (i6 (-1))
 refine SW ?_
 refine SA ?_
 exact ITr Z (i64.wrap (k2 + 1), i + 1) ⟨τ0, (ad3 _), (by rw [v3, acx a1]; simp only [a7n, h2, cT, cF])⟩ τ1 [0]
 have a4 := v3.trans (show _ = (Ctl.nxt k2) by rw [dn (show a.length ≤ i by omega)]; simp only [a7n, cT, cF])
 rw [show a4p a k = k2 by simp only [a4p, a4, cT, cF]]
 exact R6r Z Z v2
theorem f113 (hn : n + 0 ≤ 9) {a : List PacketInFlight} (N0 : Rd w K0 M0 a) {k : Int} (a3 : ok n a) (a8 : ok n k) :
 DP 113 #[vS K0 a M0, vI k] w (pI n (a0q a k)) := by
 have hb := bS0 hn
 refine EN Tryz.func113 Z (aS1 N0) ?_
 have r1 := (okl a3).1
 refine LM Z (k, 0) (fun | (k2, i) => ((i ≤ a.length) ∧ J6 k2 ∧ (a1z a k = a1z (a.drop i) k2), a.length - i, [(1, .v (vI k2)), (5, .v (vI i))], [], [], [])) ⟨zl, a8, Z⟩ [0] [] [0] [0] ?_
 rintro ⟨k2, i⟩ ⟨v1, v2, v3⟩
 refine yKD 9 ?_ ?_ <;> intro h1 cp
 have a1 : i < a.length := τ0
 obtain ⟨e1, a0⟩ := gE a1
 have a4 := okE a3 a0
 refine yI 0 i a1 ?_
 rintro b2 rfl
 refine yL 0 1 e1 a0 ?_
 rintro ⟨⟨⟩, ⟨⟩, ⟨⟩, ⟨⟨p1, c1⟩, ⟨⟩, ⟨⟩, ⟨⟩⟩, ⟨⟨p2, c2⟩, ⟨p3, c3⟩, ⟨p4, c4⟩, ⟨⟩, ⟨⟩⟩⟩
 refine yKM 18 ?_ ?_ <;> intro h2 cl
 have av := v3.trans (show _ = (Ctl.ret (-1)) by rw [acx a0]; simp only [a1z, h2, cT, cF])
 rw [show a0q a k = (-1) by simp only [a0q, av, cT, cF]]
 exact R6r Z Z (i6 (-1))
 refine SW ?_
 refine yI 0 i a1 ?_
 rintro bp ⟨⟩
 refine yL 0 5 e1 a0 ?_
 rintro ⟨⟨⟩, ⟨⟩, ⟨⟩, ⟨⟨p5, c5⟩, ⟨⟩, ⟨⟩, ⟨⟩⟩, ⟨⟨p6, c6⟩, ⟨p7, c7⟩, ⟨p8, c8⟩, ⟨⟩, ⟨⟩⟩⟩
 refine yKM 27 ?_ ?_ <;> intro h3 b7
 have ai := v3.trans (show _ = (Ctl.ret (-1)) by rw [acx a0]; simp only [a1z, h2, h3, cT, cF])
 rw [show a0q a k = (-1) by simp only [a0q, ai, cT, cF]]
 exact R6r Z Z (i6 (-1))
 refine SW ?_
 refine yI 0 i a1 ?_
 rintro ct ⟨⟩
 refine yL 0 9 e1 a0 ?_
 rintro ⟨⟨⟩, ⟨⟩, ⟨⟩, ⟨⟨p9, c9⟩, ⟨⟩, ⟨⟩, ⟨⟩⟩, ⟨⟨cd, bg⟩, ⟨dq, dm⟩, ⟨ce, bx⟩, ⟨⟩, ⟨⟩⟩⟩
 have r2 := ali (i64.wrap ((i64.wrap (k2 + 1)) + 1)) (show (0 : Int) < 3 by omega)
 refine KS Z Z Z Z (fun _ hΓ => aiw Z Z Z τ8) ?_
 refine KS Z Z Z Z (fun _ hΓ => akr ttOk Z Z Z Z Z Z) ?_
 refine yKN 38 ?_ ?_ <;> intro h4 ca
 have ah := v3.trans (show _ = (Ctl.ret (-1)) by rw [acx a0]; simp only [a1z, h2, h3, h4, cT, cF])
 rw [show a0q a k = (-1) by simp only [a0q, ah, cT, cF]]
 exact R6r Z Z (i6 (-1))
 refine SW ?_
 refine yI 0 i a1 ?_
 rintro dz ⟨⟩
 refine yL 0 13 e1 a0 ?_
 rintro ⟨⟨⟩, ⟨⟩, ⟨⟩, ⟨⟨dg, d2⟩, ⟨⟩, ⟨⟩, ⟨⟩⟩, ⟨⟨bl, di⟩, ⟨dr, az⟩, ⟨d1, bz⟩, ⟨⟩, ⟨⟩⟩⟩
 refine KV Z Z Z Z Z Z O Z (fun w γ => f221 n τ0 (γ.q 13 Z) (ae4 (aep (ad5 a4).2.2.2.1).1) (ad3 _)) fun cr => ?_
 refine yKD 51 ?_ ?_ <;> intro h5 cg
 have ag := v3.trans (show _ = (Ctl.ret (-1)) by rw [acx a0]; simp only [a1z, h2, h3, h4, h5, cT, cF])
 rw [show a0q a k = (-1) by simp only [a0q, ag, cT, cF]]
 exact R6r Z Z (i6 (-1))
 refine yI 0 i a1 ?_
 rintro dv ⟨⟩
 refine yL 0 17 e1 a0 ?_
 rintro ⟨⟨⟩, ⟨⟩, ⟨⟩, ⟨⟨bc, ds⟩, ⟨⟩, ⟨⟩, ⟨⟩⟩, ⟨⟨cz, cs⟩, ⟨c0, d5⟩, ⟨bs, da⟩, ⟨⟩, ⟨⟩⟩⟩
 refine yKM 59 ?_ ?_ <;> intro h6 de
 have au := v3.trans (show _ = (Ctl.ret (-1)) by rw [acx a0]; simp only [a1z, h2, h3, h4, h5, h6, cT, cF])
 rw [show a0q a k = (-1) by simp only [a0q, au, cT, cF]]
 exact R6r Z Z (i6 (-1))
 refine SW ?_
 refine yI 0 i a1 ?_
 rintro cm ⟨⟩
 refine yL 0 21 e1 a0 ?_
 rintro ⟨⟨⟩, ⟨⟩, ⟨⟩, ⟨⟨co, bf⟩, ⟨⟩, ⟨⟩, ⟨⟩⟩, ⟨⟨ck, cq⟩, ⟨e0, ba⟩, ⟨be, db⟩, ⟨⟩, ⟨⟩⟩⟩
 refine yKM 69 ?_ ?_ <;> intro h7 d0
 have ae := v3.trans (show _ = (Ctl.ret (-1)) by rw [acx a0]; simp only [a1z, h2, h3, h4, h5, h6, h7, cT, cF])
 rw [show a0q a k = (-1) by simp only [a0q, ae, cT, cF]]
 exact R6r Z Z (i6 (-1))
 refine SW ?_
 refine yI 0 i a1 ?_
 rintro d8 ⟨⟩
 refine yL 0 25 e1 a0 ?_
 rintro ⟨⟨⟩, ⟨⟩, ⟨⟩, ⟨⟨d4, ch⟩, ⟨⟩, ⟨⟩, ⟨⟩⟩, ⟨⟨cx, dy⟩, ⟨b9, bu⟩, ⟨b6, bw⟩, ⟨⟩, ⟨⟩⟩⟩
 refine yKM 79 ?_ ?_ <;> intro h8 b8
 have a9 := v3.trans (show _ = (Ctl.ret (-1)) by rw [acx a0]; simp only [a1z, h2, h3, h4, h5, h6, h7, h8, cT, cF])
 rw [show a0q a k = (-1) by simp only [a0q, a9, cT, cF]]
 exact R6r Z Z (i6 (-1))
 refine SW ?_
 refine yI 0 i a1 ?_
 rintro cw ⟨⟩
 refine yL 0 29 e1 a0 ?_
 rintro ⟨⟨⟩, ⟨⟩, ⟨⟩, ⟨⟨bt, bo⟩, ⟨⟩, ⟨⟩, ⟨⟩⟩, ⟨⟨d9, b5⟩, ⟨dj, cc⟩, ⟨dh, cn⟩, ⟨⟩, ⟨⟩⟩⟩
 refine KV Z Z Z Z Z Z O Z (fun w γ => f221 n τ0 (γ.q 30 Z) (ae4 (ado (ad5 a4).2.2.2.2).1) (ad3 _)) fun an => ?_
 refine yKD 92 ?_ ?_ <;> intro h9 b1
 have ac := v3.trans (show _ = (Ctl.ret (-1)) by rw [acx a0]; simp only [a1z, h2, h3, h4, h5, h6, h7, h8, h9, cT, cF])
 rw [show a0q a k = (-1) by simp only [a0q, ac, cT, cF]]
 exact R6r Z Z (i6 (-1))
 refine yI 0 i a1 ?_
 rintro d6 ⟨⟩
 refine yL 0 33 e1 a0 ?_
 rintro ⟨⟨⟩, ⟨⟩, ⟨⟩, ⟨⟨cf, du⟩, ⟨⟩, ⟨⟩, ⟨⟩⟩, ⟨⟨cv, dp⟩, ⟨ci, bb⟩, ⟨bk, cb⟩, ⟨⟩, ⟨⟩⟩⟩
 refine KV Z Z Z Z Z Z O Z (fun w γ => f227 n τ0 (γ.q 35 Z) ((ado (ad5 a4).2.2.2.2).2.1) an) fun am => ?_
 refine yKD 102 ?_ ?_ <;> intro a2 aw
 have ad := v3.trans (show _ = (Ctl.ret (-1)) by rw [acx a0]; simp only [a1z, h2, h3, h4, h5, h6, h7, h8, h9, a2, cT, cF])
 rw [show a0q a k = (-1) by simp only [a0q, ad, cT, cF]]
 exact R6r Z Z (i6 (-1))
 refine yI 0 i a1 ?_
 rintro aq ⟨⟩
 refine yL 0 37 e1 a0 ?_
 rintro ⟨⟨⟩, ⟨⟩, ⟨⟩, ⟨⟨bm, dl⟩, ⟨⟩, ⟨⟩, ⟨⟩⟩, ⟨⟨d3, bn⟩, ⟨dd, b3⟩, ⟨dk, cy⟩, ⟨⟩, ⟨⟩⟩⟩
 refine KV Z Z Z Z Z Z O Z (fun w γ => f221 n τ0 (γ.q 40 Z) (ae4 (ado (ad5 a4).2.2.2.2).2.2.1) am) fun cj => ?_
 refine yKD 113 ?_ ?_ <;> intro a5 ao
 have a7 := v3.trans (show _ = (Ctl.ret (-1)) by rw [acx a0]; simp only [a1z, h2, h3, h4, h5, h6, h7, h8, h9, a2, a5, cT, cF])
 rw [show a0q a k = (-1) by simp only [a0q, a7, cT, cF]]
 exact R6r Z Z (i6 (-1))
 refine yI 0 i a1 ?_
 rintro ak ⟨⟩
 refine yL 0 41 e1 a0 ?_
 rintro ⟨⟨⟩, ⟨⟩, ⟨⟩, ⟨⟨bq, dw⟩, ⟨⟩, ⟨⟩, ⟨⟩⟩, ⟨⟨br, df⟩, ⟨b0, bi⟩, ⟨dc, ay⟩, ⟨⟩, ⟨⟩⟩⟩
 refine yKM 121 ?_ ?_ <;> intro a6 al
 have ab := v3.trans (show _ = (Ctl.ret (-1)) by rw [acx a0]; simp only [a1z, h2, h3, h4, h5, h6, h7, h8, h9, a2, a5, a6, cT, cF])
 rw [show a0q a k = (-1) by simp only [a0q, ab, cT, cF]]
 exact R6r Z Z (i6 (-1))
 refine SW ?_
 refine yI 0 i a1 ?_
 rintro ap ⟨⟩
 refine yL 0 45 e1 a0 ?_
 rintro ⟨⟨⟩, ⟨⟩, ⟨⟩, ⟨⟨d7, dx⟩, ⟨⟩, ⟨⟩, ⟨⟩⟩, ⟨⟨bh, dt⟩, ⟨ax, b4⟩, ⟨bv, bj⟩, ⟨⟩, ⟨⟩⟩⟩
 refine yKM 131 ?_ ?_ <;> intro af aj
 have aa := v3.trans (show _ = (Ctl.ret (-1)) by rw [acx a0]; simp only [a1z, h2, h3, h4, h5, h6, h7, h8, h9, a2, a5, a6, af, cT, cF])
 rw [show a0q a k = (-1) by simp only [a0q, aa, cT, cF]]
 exact R6r Z Z (i6 (-1))
 refine SW ?_
 refine SA ?_
 exact ITr Z (i64.wrap ((i64.wrap ((a02 e1.data.keyName.parts (a0s e1.data.content (a02 e1.data.name.parts (i64.wrap ((i64.wrap ((i64.wrap ((a02 e1.interest.name.parts (i64.wrap ((i64.wrap ((i64.wrap (k2 + 1)) + 1)) + 1))) + 1)) + 1)) + 1))))) + 1)) + 1), i + 1) ⟨τ0, (ad3 _), (by rw [v3, acx a0]; simp only [a1z, h2, h3, h4, h5, h6, h7, h8, h9, a2, a5, a6, af, cT, cF])⟩ τ1 [0]
 have ar := v3.trans (show _ = (Ctl.nxt k2) by rw [dn (show a.length ≤ i by omega)]; simp only [a1z, cT, cF])
 rw [show a0q a k = k2 by simp only [a0q, ar, cT, cF]]
 exact R6r Z Z v2
theorem f114 (hn : n + 0 ≤ 9) {a : List Consumer} (N0 : Rd w K0 M0 a) {k : Int} (a2 : ok n a) (a6 : ok n k) :
 DP 114 #[vS K0 a M0, vI k] w (pI n (a0v a k)) := by
 have hb := bS0 hn
 refine EN Tryz.func114 Z (aS1 N0) ?_
 have r1 := (okl a2).1
 refine LM Z (k, 0) (fun | (k2, i) => ((i ≤ a.length) ∧ J6 k2 ∧ (a24 a k = a24 (a.drop i) k2), a.length - i, [(1, .v (vI k2)), (5, .v (vI i))], [], [], [])) ⟨zl, a6, Z⟩ [0] [] [0] [0] ?_
 rintro ⟨k2, i⟩ ⟨v1, v2, v3⟩
 refine yKD 9 ?_ ?_ <;> intro h1 cg
 have a1 : i < a.length := τ0
 obtain ⟨e1, a0⟩ := gE a1
 have a4 := okE a2 a0
 refine yI 0 i a1 ?_
 rintro ax rfl
 refine yL 0 1 e1 a0 ?_
 rintro ⟨⟨⟩, ⟨⟩, ⟨p1, c1⟩, ⟨⟩, ⟨⟩, ⟨⟩, ⟨⟨p2, c2⟩, ⟨p3, c3⟩, ⟨p4, c4⟩, ⟨⟩, ⟨⟩⟩⟩
 refine yKM 18 ?_ ?_ <;> intro h2 cc
 have ap := v3.trans (show _ = (Ctl.ret (-1)) by rw [acx a0]; simp only [a24, h2, cT, cF])
 rw [show a0v a k = (-1) by simp only [a0v, ap, cT, cF]]
 exact R6r Z Z (i6 (-1))
 refine SW ?_
 refine yI 0 i a1 ?_
 rintro bh ⟨⟩
 refine yL 0 5 e1 a0 ?_
 rintro ⟨⟨⟩, ⟨⟩, ⟨p5, c5⟩, ⟨⟩, ⟨⟩, ⟨⟩, ⟨⟨p6, c6⟩, ⟨p7, c7⟩, ⟨p8, c8⟩, ⟨⟩, ⟨⟩⟩⟩
 refine yKM 27 ?_ ?_ <;> intro h3 b1
 have ag := v3.trans (show _ = (Ctl.ret (-1)) by rw [acx a0]; simp only [a24, h2, h3, cT, cF])
 rw [show a0v a k = (-1) by simp only [a0v, ag, cT, cF]]
 exact R6r Z Z (i6 (-1))
 refine SW ?_
 refine yI 0 i a1 ?_
 rintro ck ⟨⟩
 refine yL 0 9 e1 a0 ?_
 rintro ⟨⟨⟩, ⟨⟩, ⟨p9, c9⟩, ⟨⟩, ⟨⟩, ⟨⟩, ⟨⟨bu, b9⟩, ⟨de, dc⟩, ⟨bv, bo⟩, ⟨⟩, ⟨⟩⟩⟩
 refine KV Z Z Z Z Z Z O Z (fun w γ => f221 n τ0 (γ.q 9 Z) (ae4 (adp a4).2.2.1) (ad3 _)) fun ci => ?_
 refine yKD 39 ?_ ?_ <;> intro h4 br
 have af := v3.trans (show _ = (Ctl.ret (-1)) by rw [acx a0]; simp only [a24, h2, h3, h4, cT, cF])
 rw [show a0v a k = (-1) by simp only [a0v, af, cT, cF]]
 exact R6r Z Z (i6 (-1))
 refine yI 0 i a1 ?_
 rintro dl ⟨⟩
 refine yL 0 13 e1 a0 ?_
 rintro ⟨⟨⟩, ⟨⟩, ⟨d6, cs⟩, ⟨⟩, ⟨⟩, ⟨⟩, ⟨⟨bc, d8⟩, ⟨df, au⟩, ⟨cr, bp⟩, ⟨⟩, ⟨⟩⟩⟩
 refine yKM 46 ?_ ?_ <;> intro h5 bx
 have ae := v3.trans (show _ = (Ctl.ret (-1)) by rw [acx a0]; simp only [a24, h2, h3, h4, h5, cT, cF])
 rw [show a0v a k = (-1) by simp only [a0v, ae, cT, cF]]
 exact R6r Z Z (i6 (-1))
 refine SW ?_
 refine yI 0 i a1 ?_
 rintro di ⟨⟩
 refine yL 0 17 e1 a0 ?_
 rintro ⟨⟨⟩, ⟨⟩, ⟨b6, dg⟩, ⟨⟩, ⟨⟩, ⟨⟩, ⟨⟨cp, cj⟩, ⟨bq, cw⟩, ⟨bk, d0⟩, ⟨⟩, ⟨⟩⟩⟩
 refine yKM 55 ?_ ?_ <;> intro h6 d4
 have ao := v3.trans (show _ = (Ctl.ret (-1)) by rw [acx a0]; simp only [a24, h2, h3, h4, h5, h6, cT, cF])
 rw [show a0v a k = (-1) by simp only [a0v, ao, cT, cF]]
 exact R6r Z Z (i6 (-1))
 refine SW ?_
 refine yI 0 i a1 ?_
 rintro cd ⟨⟩
 refine yL 0 21 e1 a0 ?_
 rintro ⟨⟨⟩, ⟨⟩, ⟨cf, b8⟩, ⟨⟩, ⟨⟩, ⟨⟩, ⟨⟨cb, ch⟩, ⟨dm, b4⟩, ⟨b7, d1⟩, ⟨⟩, ⟨⟩⟩⟩
 have r2 := ali (i64.wrap ((i64.wrap ((a02 e1.name.parts (i64.wrap ((i64.wrap (k2 + 1)) + 1))) + 1)) + 1)) (show (0 : Int) < 3 by omega)
 refine KS Z Z Z Z (fun _ hΓ => aiw Z Z Z τ8) ?_
 refine KS Z Z Z Z (fun _ hΓ => akr ttOk Z Z Z Z Z Z) ?_
 refine yKN 66 ?_ ?_ <;> intro h7 cq
 have ac := v3.trans (show _ = (Ctl.ret (-1)) by rw [acx a0]; simp only [a24, h2, h3, h4, h5, h6, h7, cT, cF])
 rw [show a0v a k = (-1) by simp only [a0v, ac, cT, cF]]
 exact R6r Z Z (i6 (-1))
 refine SW ?_
 refine yI 0 i a1 ?_
 rintro cy ⟨⟩
 refine yL 0 25 e1 a0 ?_
 rintro ⟨⟨⟩, ⟨⟩, ⟨cv, bz⟩, ⟨⟩, ⟨⟩, ⟨⟩, ⟨⟨cn, dk⟩, ⟨b3, bm⟩, ⟨b0, bn⟩, ⟨⟩, ⟨⟩⟩⟩
 refine KV Z Z Z Z Z Z O Z (fun w γ => f221 n τ0 (γ.q 26 Z) (ae4 (ado (adp a4).2.2.2.2.2.2).1) (ad3 _)) fun ak => ?_
 refine yKD 79 ?_ ?_ <;> intro h8 b2
 have a7 := v3.trans (show _ = (Ctl.ret (-1)) by rw [acx a0]; simp only [a24, h2, h3, h4, h5, h6, h7, h8, cT, cF])
 rw [show a0v a k = (-1) by simp only [a0v, a7, cT, cF]]
 exact R6r Z Z (i6 (-1))
 refine yI 0 i a1 ?_
 rintro cm ⟨⟩
 refine yL 0 29 e1 a0 ?_
 rintro ⟨⟨⟩, ⟨⟩, ⟨bl, bg⟩, ⟨⟩, ⟨⟩, ⟨⟩, ⟨⟨cz, az⟩, ⟨d9, bt⟩, ⟨d7, ce⟩, ⟨⟩, ⟨⟩⟩⟩
 refine KV Z Z Z Z Z Z O Z (fun w γ => f227 n τ0 (γ.q 31 Z) ((ado (adp a4).2.2.2.2.2.2).2.1) ak) fun aj => ?_
 refine yKD 89 ?_ ?_ <;> intro h9 aw
 have aa := v3.trans (show _ = (Ctl.ret (-1)) by rw [acx a0]; simp only [a24, h2, h3, h4, h5, h6, h7, h8, h9, cT, cF])
 rw [show a0v a k = (-1) by simp only [a0v, aa, cT, cF]]
 exact R6r Z Z (i6 (-1))
 refine yI 0 i a1 ?_
 rintro cx ⟨⟩
 refine yL 0 33 e1 a0 ?_
 rintro ⟨⟨⟩, ⟨⟩, ⟨bw, dh⟩, ⟨⟩, ⟨⟩, ⟨⟩, ⟨⟨cl, dd⟩, ⟨c0, b5⟩, ⟨bb, bs⟩, ⟨⟩, ⟨⟩⟩⟩
 refine KV Z Z Z Z Z Z O Z (fun w γ => f221 n τ0 (γ.q 36 Z) (ae4 (ado (adp a4).2.2.2.2.2.2).2.2.1) aj) fun ca => ?_
 refine yKD 100 ?_ ?_ <;> intro a3 aq
 have ab := v3.trans (show _ = (Ctl.ret (-1)) by rw [acx a0]; simp only [a24, h2, h3, h4, h5, h6, h7, h8, h9, a3, cT, cF])
 rw [show a0v a k = (-1) by simp only [a0v, ab, cT, cF]]
 exact R6r Z Z (i6 (-1))
 refine yI 0 i a1 ?_
 rintro am ⟨⟩
 refine yL 0 37 e1 a0 ?_
 rintro ⟨⟨⟩, ⟨⟩, ⟨be, db⟩, ⟨⟩, ⟨⟩, ⟨⟩, ⟨⟨ct, bf⟩, ⟨d3, ay⟩, ⟨da, co⟩, ⟨⟩, ⟨⟩⟩⟩
 refine yKM 108 ?_ ?_ <;> intro a8 al
 have a5 := v3.trans (show _ = (Ctl.ret (-1)) by rw [acx a0]; simp only [a24, h2, h3, h4, h5, h6, h7, h8, h9, a3, a8, cT, cF])
 rw [show a0v a k = (-1) by simp only [a0v, a5, cT, cF]]
 exact R6r Z Z (i6 (-1))
 refine SW ?_
 refine yI 0 i a1 ?_
 rintro ah ⟨⟩
 refine yL 0 41 e1 a0 ?_
 rintro ⟨⟨⟩, ⟨⟩, ⟨bi, dj⟩, ⟨⟩, ⟨⟩, ⟨⟩, ⟨⟨bj, d5⟩, ⟨av, ba⟩, ⟨d2, ar⟩, ⟨⟩, ⟨⟩⟩⟩
 refine yKM 118 ?_ ?_ <;> intro ad ai
 have a9 := v3.trans (show _ = (Ctl.ret (-1)) by rw [acx a0]; simp only [a24, h2, h3, h4, h5, h6, h7, h8, h9, a3, a8, ad, cT, cF])
 rw [show a0v a k = (-1) by simp only [a0v, a9, cT, cF]]
 exact R6r Z Z (i6 (-1))
 refine SW ?_
 refine SA ?_
 exact ITr Z (i64.wrap ((i64.wrap ((a02 e1.data.keyName.parts (a0s e1.data.content (a02 e1.data.name.parts (i64.wrap ((i64.wrap ((i64.wrap ((a02 e1.name.parts (i64.wrap ((i64.wrap (k2 + 1)) + 1))) + 1)) + 1)) + 1))))) + 1)) + 1), i + 1) ⟨τ0, (ad3 _), (by rw [v3, acx a0]; simp only [a24, h2, h3, h4, h5, h6, h7, h8, h9, a3, a8, ad, cT, cF])⟩ τ1 [0]
 have an := v3.trans (show _ = (Ctl.nxt k2) by rw [dn (show a.length ≤ i by omega)]; simp only [a24, cT, cF])
 rw [show a0v a k = k2 by simp only [a0v, an, cT, cF]]
 exact R6r Z Z v2
theorem f35 (hn : n + 0 ≤ 9) (a : Network) (N0 : Rd w K0 M0 a.topology.links) (N1 : Rd w K1 M1 a.trust.keys) (N2 : Rd w K2 M2 a.trust.rules) (N3 : Rd w K3 M3 a.trust.anchors) (N4 : Rd w K4 M4 a.trust.certificates) (N5 : Rd w K5 M5 a.producers) (N6 : Rd w K6 M6 a.nodes) (N7 : Rd w K7 M7 a.failedLinks) (N8 : Rd w K8 M8 a.inFlight) (N9 : Rd w K9 M9 a.consumers) {k : Int} (a0 : ok n a) (a1 : ok n k) :
 DP 35 #[afp a K0 M0 K1 M1 K2 M2 K3 M3 K4 M4 K5 M5 K6 M6 K7 M7 K8 M8 K9 M9, vI k] w (pI n (a1l a k)) := by
 have hb := bS0 hn
 refine EN Tryz.func35 Z (aC 0 N0 (aC 1 N1 (aC 2 N2 (aC 3 N3 (aC 4 N4 (aC 5 N5 (aC 6 N6 (aC 7 N7 (aC 8 N8 (aC 9 N9 adc)))))))))) ?_
 refine KV Z Z Z Z Z Z O Z (fun w γ => f108 n τ0 a.topology (γ.q 0 Z) ((acy a0).1) a1) fun a3 => ?_
 refine yKD 10 ?_ ?_ <;> intro h1 af
 rw [show a1l a k = (-1) by simp only [a1l, h1, cT, cF]]
 exact R6r Z Z (i6 (-1))
 refine KV Z Z Z Z Z Z O Z (fun w γ => f109 n τ0 a.trust (γ.q 1 Z) (γ.q 2 Z) (γ.q 3 Z) (γ.q 4 Z) ((acy a0).2.1) a3) fun a4 => ?_
 refine yKD 16 ?_ ?_ <;> intro h2 ae
 rw [show a1l a k = (-1) by simp only [a1l, h1, h2, cT, cF]]
 exact R6r Z Z (i6 (-1))
 refine KV Z Z Z Z Z Z O Z (fun w γ => f110 n τ0 (γ.q 5 Z) ((acy a0).2.2.1) a4) fun a8 => ?_
 refine yKD 22 ?_ ?_ <;> intro h3 aa
 rw [show a1l a k = (-1) by simp only [a1l, h1, h2, h3, cT, cF]]
 exact R6r Z Z (i6 (-1))
 refine KV Z Z Z Z Z Z O Z (fun w γ => f111 n τ0 (γ.q 6 Z) ((acy a0).2.2.2.1) a8) fun a6 => ?_
 refine yKD 28 ?_ ?_ <;> intro h4 ab
 rw [show a1l a k = (-1) by simp only [a1l, h1, h2, h3, h4, cT, cF]]
 exact R6r Z Z (i6 (-1))
 refine KV Z Z Z Z Z Z O Z (fun w γ => f112 n τ0 (γ.q 7 Z) ((acy a0).2.2.2.2.2.1) a6) fun a2 => ?_
 refine yKD 34 ?_ ?_ <;> intro h5 ad
 rw [show a1l a k = (-1) by simp only [a1l, h1, h2, h3, h4, h5, cT, cF]]
 exact R6r Z Z (i6 (-1))
 refine KV Z Z Z Z Z Z O Z (fun w γ => f113 n τ0 (γ.q 8 Z) ((acy a0).2.2.2.2.2.2.1) a2) fun a7 => ?_
 refine yKD 40 ?_ ?_ <;> intro h6 a9
 rw [show a1l a k = (-1) by simp only [a1l, h1, h2, h3, h4, h5, h6, cT, cF]]
 exact R6r Z Z (i6 (-1))
 refine KV Z Z Z Z Z Z O Z (fun w γ => f114 n τ0 (γ.q 9 Z) ((acy a0).2.2.2.2.2.2.2.1) a7) fun a5 => ?_
 refine yKD 46 ?_ ?_ <;> intro h7 ac
 rw [show a1l a k = (-1) by simp only [a1l, h1, h2, h3, h4, h5, h6, h7, cT, cF]]
 exact R6r Z Z (i6 (-1))
 rw [show a1l a k = (a0v a.consumers (a0q a.inFlight (a4p a.failedLinks (a16 a.nodes (a2p a.producers (a1r a.trust (a2o a.topology k))))))) by simp only [a1l, h1, h2, h3, h4, h5, h6, h7, cT, cF]]
 exact R6r Z Z a5
end Go.Proofs.YtpmejlbgjkiobaaGreat
namespace Go.Stp
def ae6 (s2 : (List Str)) : List Str → Nat → Option (Bool) | [], i => none | e1 :: rest_, i => match (s2)[i]? with | none => default | some e2 => bif (!((e1).toList == (e2).toList)) then (some false) else ae6 s2 rest_ (i + 1)
def af2 (s1 : (List Str)) (s2 : (List Str)) : Bool := bif ((((s1).length : Nat) : Int) != (((s2).length : Nat) : Int)) then false else match ae6 s2 s1 0 with | some r_ => r_ | none => true
def aat (a : Name) (b : Name) : Bool := (af2 a.parts b.parts)
def a2a (a : Str) (b : Str) : Int := bif (Op.bytesLess (a).toList (b).toList) then (-1) else bif (!(Op.bytesLess (a).toList (b).toList || (a).toList == (b).toList)) then 1 else 0
def a1e (b : Name) : List Str → Nat → Option (Int) | [], i => none | e1 :: rest_, i => bif decide (((i : Nat) : Int) < (((b.parts).length : Nat) : Int)) then match (b.parts)[i]? with | none => default | some e2 => bif ((a2a e1 e2) != 0) then (some (a2a e1 e2)) else a1e b rest_ (i + 1) else none
def a20 (a : Name) (b : Name) : Int := match a1e b a.parts 0 with | some r_ => r_ | none => bif decide ((((a.parts).length : Nat) : Int) < (((b.parts).length : Nat) : Int)) then (-1) else bif decide ((((a.parts).length : Nat) : Int) > (((b.parts).length : Nat) : Int)) then 1 else 0
def a3a (a : Name) (b : Name) : Bool := ((a20 a b) == 0)
end Go.Stp
namespace Go.Proofs.YtpmejlbgjkiobaaGreat
open Go.Stp
open Go.Stp.GoT (ok)
variable {w : World} (n : Nat) {K0 K1 K2 K3 K4 K5 : Option Addr} {M0 M1 M2 M3 M4 M5 : Nat}
theorem f267 (hn : n + 0 ≤ 9) {s1 : List Str} (N0 : Rd w K0 M0 s1) {s2 : List Str} (N1 : Rd w K1 M1 s2) (a0 : ok n s1) (a1 : ok n s2) :
 DP 267 #[vS K0 s1 M0, vS K1 s2 M1] w (pB (af2 s1 s2)) := by
 have hb := bS0 hn
 refine EN Tryz.func267 Z (aS2 N0 N1) ?_
 refine yKM 10 ?_ ?_ <;> intro h1 af
 exact R4r Z Z (by simp only [af2, h1, cT, cF])
 have r1 := (okl a0).1
 refine LM Z 0 (fun i => ((i ≤ s1.length) ∧ (ae6 s2 s1 0 = ae6 s2 (s1.drop i) i), s1.length - i, [(13, .v (vI i))], [], [], [])) ⟨zl, Z⟩ [12, 0, 1] [] [0, 1] [0, 1] ?_
 rintro i ⟨v1, v2⟩
 refine yKD 14 ?_ ?_ <;> intro h2 ae
 have a5 : i < s1.length := τ0
 obtain ⟨e1, a4⟩ := gE a5
 have ab := okE a0 a4
 refine R0 ?_
 refine WX.draw [] mixed fun bs G0 a2 => ?_
 refine dT 7 [1, 3] ?_
 refine zDI 2 0 i a2 Z a5 ?_
 rintro a9 rfl
 refine zDL 3 0 2 e1 a2 a4 ?_
 rintro ⟨⟩
 refine dT 3 [9, 11] ?_
 have a6 : i < s2.length := τ3
 obtain ⟨e2, a3⟩ := gE a6
 have ad := okE a1 a3
 refine zDI 6 1 i a2 Z a6 ?_
 rintro ac rfl
 refine zDL 7 1 2 e2 a2 a3 ?_
 rintro ⟨⟩
 refine dT 0 [17] ?_
 refine DX.tail2 [] Z Z J ?_
 refine yKX 24 ?_ ?_ <;> intro h3 aa
 have a8 := v2.trans (show _ = (some false) by rw [acx a4]; simp only [ae6, a3, h3, cT, cF])
 exact R4r Z Z (by simp only [af2, h1, a8, cT, cF])
 refine SA ?_
 exact ITr Z (i + 1) ⟨τ0, (by rw [v2, acx a4]; simp only [ae6, a3, h3, cT, cF])⟩ τ1 [0, 1]
 have a7 := v2.trans (show _ = none by rw [dn (show s1.length ≤ i by omega)]; simp only [ae6, cT, cF])
 exact R4r Z Z (by simp only [af2, h1, a7, cT, cF])
theorem f154 (hn : n + 0 ≤ 9) (a : Name) (N0 : Rd w K0 M0 a.parts) (b : Name) (N1 : Rd w K1 M1 b.parts) (a1 : ok n a) (a0 : ok n b) :
 DP 154 #[.agg #[vS K0 a.parts M0], .agg #[vS K1 b.parts M1]] w (pB (aat a b)) := by
 have hb := bS0 hn
 refine EN Tryz.func154 Z (aS2 N0 N1) ?_
 refine KV Z Z Z Z Z Z O Z (fun w γ => f267 n τ0 (γ.q 0 Z) (γ.q 1 Z) (ae4 a1) (ae4 a0)) fun a2 => ?_
 exact R4r Z Z (by simp only [aat, cT, cF])
theorem f357 (hn : n + 0 ≤ 9) {a : Str} {b : Str} (a0 : ok n a) (a1 : ok n b) :
 DP 357 #[.string a, .string b] w (pI n (a2a a b)) := by
 have hb := bS0 hn
 refine EN Tryz.func357 Z adc ?_
 refine yKA 5 ?_ ?_ <;> intro h1
 rw [show a2a a b = (-1) by simp only [a2a, h1, cT, cF]]
 exact R6r Z Z (i6 (-1))
 refine yKA 9 ?_ ?_ <;> intro h2
 rw [show a2a a b = 1 by first | (simp only [a2a, h1, h2, cT, cF]; done) | (unfold a2a; rw [h2, h1]; simp only [cT, cF])]
 exact R6r Z Z (i6 1)
 rw [show a2a a b = 0 by first | (simp only [a2a, h1, h2, cT, cF]; done) | (unfold a2a; rw [h2, h1]; simp only [cT, cF])]
 exact R6r Z Z (i6 0)
theorem f282 (hn : n + 0 ≤ 9) (a : Name) (N0 : Rd w K0 M0 a.parts) (b : Name) (N1 : Rd w K1 M1 b.parts) (a0 : ok n a) (a6 : ok n b) :
 DP 282 #[.agg #[vS K0 a.parts M0], .agg #[vS K1 b.parts M1]] w (pI n (a20 a b)) := by
 have hb := bS0 hn
 refine EN Tryz.func282 Z (aS2 N0 N1) ?_
 have r1 := (okl (ae4 a0)).1
 refine LM Z 0 (fun i => ((i ≤ a.parts.length) ∧ (a1e b a.parts 0 = a1e b (a.parts.drop i) i), a.parts.length - i, [(5, .v (vI i))], [], [], [])) ⟨zl, Z⟩ [3, 2] [3, 2] [0, 1] [0, 1] ?_
 rintro i ⟨v1, v2⟩
 refine yKD 12 ?_ ?_ <;> intro h1 al
 have a7 : i < a.parts.length := τ0
 obtain ⟨e1, a1⟩ := gE a7
 have ab := okE (ae4 a0) a1
 refine yKD 18 ?_ ?_ <;> intro h2 ak
 refine R0 ?_
 refine WX.draw [] mixed fun bs G0 a2 => ?_
 refine dT 9 [1, 2, 5] ?_
 refine zDI 3 0 i a2 Z a7 ?_
 rintro ae rfl
 refine zDL 4 0 2 e1 a2 a1 ?_
 rintro ⟨⟩
 refine dT 4 [11, 12, 15] ?_
 have a8 : i < b.parts.length := τ3
 obtain ⟨e2, a3⟩ := gE a8
 have ac := okE (ae4 a6) a3
 refine zDI 8 1 i a2 Z a8 ?_
 rintro aj rfl
 refine zDL 9 1 2 e2 a2 a3 ?_
 rintro ⟨⟩
 refine DXV 10 Z J Z Z Z Z Z Z O Z (fun w γ => f357 n τ0 ab ac) fun a9 => ?_
 refine dT 0 [23] ?_
 refine DX.tail2 [] Z Z J ?_
 refine yKM 33 ?_ ?_ <;> intro h3 af
 have aa := v2.trans (show _ = (some (a2a e1 e2)) by rw [acx a1]; simp only [a1e, h2, a3, h3, cT, cF])
 rw [show a20 a b = (a2a e1 e2) by simp only [a20, aa, cT, cF]]
 exact R6r Z Z a9
 refine SA ?_
 exact ITr Z (i + 1) ⟨τ0, (by rw [v2, acx a1]; simp only [a1e, h2, a3, h3, cT, cF])⟩ τ1 [0, 1]
 have a4 := v2.trans (show _ = none by rw [acx a1]; simp only [a1e, h2, cT, cF])
 refine yKD 35 ?_ ?_ <;> intro h4 ag
 rw [show a20 a b = (-1) by simp only [a20, a4, h4, cT, cF]]
 exact R6r Z Z (i6 (-1))
 refine yKD 43 ?_ ?_ <;> intro h5 ai
 rw [show a20 a b = 1 by simp only [a20, a4, h4, h5, cT, cF]]
 exact R6r Z Z (i6 1)
 rw [show a20 a b = 0 by simp only [a20, a4, h4, h5, cT, cF]]
 exact R6r Z Z (i6 0)
 have a5 := v2.trans (show _ = none by rw [dn (show a.parts.length ≤ i by omega)]; simp only [a1e, cT, cF])
 refine yKD 35 ?_ ?_ <;> intro h6 ad
 rw [show a20 a b = (-1) by simp only [a20, a5, h6, cT, cF]]
 exact R6r Z Z (i6 (-1))
 refine yKD 43 ?_ ?_ <;> intro h7 ah
 rw [show a20 a b = 1 by simp only [a20, a5, h6, h7, cT, cF]]
 exact R6r Z Z (i6 1)
 rw [show a20 a b = 0 by simp only [a20, a5, h6, h7, cT, cF]]
 exact R6r Z Z (i6 0)
theorem f281 (hn : n + 0 ≤ 9) (a : Name) (N0 : Rd w K0 M0 a.parts) (b : Name) (N1 : Rd w K1 M1 b.parts) (a1 : ok n a) (a0 : ok n b) :
 DP 281 #[.agg #[vS K0 a.parts M0], .agg #[vS K1 b.parts M1]] w (pB (a3a a b)) := by
 have hb := bS0 hn
 refine EN Tryz.func281 Z (aS2 N0 N1) ?_
 refine KV Z Z Z Z Z Z O Z (fun w γ => f282 n τ0 a (γ.q 0 Z) b (γ.q 1 Z) a1 a0) fun a2 => ?_
 exact R4r Z Z (by simp only [a3a, cT, cF])
end Go.Proofs.YtpmejlbgjkiobaaGreat
namespace Go.Stp
def a1f : List UInt8 → Option (Bool) | [] => none | e1 :: rest_ => bif decide (((e1).toNat : Int) ≥ 97) then bif decide (((e1).toNat : Int) ≤ 122) then a1f rest_ else bif decide (((e1).toNat : Int) ≥ 48) then bif decide (((e1).toNat : Int) ≤ 57) then a1f rest_ else bif (!(((e1).toNat : Int) == 45)) then (some false) else a1f rest_ else bif (!(((e1).toNat : Int) == 45)) then (some false) else a1f rest_ else bif decide (((e1).toNat : Int) ≥ 48) then bif decide (((e1).toNat : Int) ≤ 57) then a1f rest_ else bif (!(((e1).toNat : Int) == 45)) then (some false) else a1f rest_ else bif (!(((e1).toNat : Int) == 45)) then (some false) else a1f rest_
def a6g (s : Str) : Bool := match a1f ((s).data.toList) with | some r_ => r_ | none => (a0u (((s).size : Nat) : Int) 1 8)
def a3b : List UInt8 → Option (Bool) | [] => none | e1 :: rest_ => bif (!(a0j ((e1).toNat : Int) 97 122)) then bif (!(a0j ((e1).toNat : Int) 48 57)) then bif (((e1).toNat : Int) != 45) then (some false) else a3b rest_ else a3b rest_ else a3b rest_
def a59 (s : Str) : Bool := bif (!(a0j (((s).size : Nat) : Int) 1 8)) then false else match a3b ((s).data.toList) with | some r_ => r_ | none => true
def adl (fq : Str → Bool) : List Str → Nat → Option (Int) | [], i => none | e1 :: rest_, i => bif fq e1 then (some ((i : Nat) : Int)) else adl fq rest_ (i + 1)
def ae7 (s : (List Str)) (fq : Str → Bool) : Int := match adl fq s 0 with | some r_ => r_ | none => (-1)
def aev (s : (List Str)) (fq : Str → Bool) : Bool := (decide ((ae7 s fq) ≥ 0))
def acm (p_ : Str) : Bool := (!(a6g p_))
def a5a (n_ : Name) : Bool := bif decide ((((n_.parts).length : Nat) : Int) ≤ 6) then (!(aev n_.parts (fun e0_ => (acm e0_)))) else false
def a7o : List Str → Option (Bool) | [] => none | e1 :: rest_ => bif (!(a59 e1)) then (some false) else a7o rest_
def a5b (n_ : Name) : Bool := match a7o n_.parts with | some r_ => r_ | none => (decide ((((n_.parts).length : Nat) : Int) ≤ 6))
def a6h (x_ : DataP) : Bool := bif (a5a x_.name) then bif decide ((((x_.name.parts).length : Nat) : Int) > 0) then bif decide ((((x_.content).length : Nat) : Int) ≤ 60) then bif (a5a x_.keyName) then bif (a0u x_.freshUntil 0 100000) then (a0u x_.signature 0 2147483646) else false else false else false else false else false
def a3r (x_ : DataP) : Bool := bif (a5b x_.name) then bif decide ((((x_.name.parts).length : Nat) : Int) > 0) then bif decide ((((x_.content).length : Nat) : Int) ≤ 60) then bif (a5b x_.keyName) then bif (a0j x_.freshUntil 0 100000) then (a0j x_.signature 0 2147483646) else false else false else false else false else false
end Go.Stp
namespace Go.Proofs.YtpmejlbgjkiobaaGreat
open Go.Stp
open Go.Stp.GoT (ok)
variable {w : World} (n : Nat) {K0 K1 K2 K3 : Option Addr} {M0 M1 M2 M3 : Nat}
theorem f360 (hn : n + 0 ≤ 9) {s : Str} (a1 : ok n s) :
 DP 360 #[.string s] w (pB (a6g s)) := by
 have hb := bS0 hn
 refine EN Tryz.func360 Z adc ?_
 have r1 : s.size ≤ bd n := a1
 refine LM Z 0 (fun i => ((i ≤ s.data.toList.length) ∧ (a1f (s.data.toList) = a1f (s.data.toList.drop i)), s.data.toList.length - i, [(7, .v (vI i))], [], [], [])) ⟨zl, Z⟩ [6, 0] [] [] [] ?_
 rintro i ⟨v1, v2⟩
 refine yKD 8 ?_ ?_ <;> intro h1 al
 have a7 : i < s.data.toList.length := (by (have hz_ : s.data.toList.length = s.size := by simp); omega)
 obtain ⟨e1, a0⟩ := gE a7
 refine KS Z Z Z Z (fun _ hΓ => afz ttOk Z Z Z Z Z a0) ?_
 refine yKD 15 ?_ ?_ <;> intro h2 ak
 refine yKD 19 ?_ ?_ <;> intro h3 af
 refine SA ?_
 exact ITr Z (i + 1) ⟨τ0, (by rw [v2, acx a0]; simp only [a1f, h2, h3, cT, cF])⟩ τ1 []
 refine yKD 22 ?_ ?_ <;> intro h4 ag
 refine yKD 27 ?_ ?_ <;> intro h5 aj
 refine SA ?_
 exact ITr Z (i + 1) ⟨τ0, (by rw [v2, acx a0]; simp only [a1f, h2, h3, h4, h5, cT, cF])⟩ τ1 []
 refine yKX 31 ?_ ?_ <;> intro h6 ac
 have a5 := v2.trans (show _ = (some false) by rw [acx a0]; simp only [a1f, h2, h3, h4, h5, h6, cT, cF])
 exact R4r Z Z (by simp only [a6g, a5, cT, cF])
 refine SA ?_
 exact ITr Z (i + 1) ⟨τ0, (by rw [v2, acx a0]; simp only [a1f, h2, h3, h4, h5, h6, cT, cF])⟩ τ1 []
 refine yKX 31 ?_ ?_ <;> intro h7 ai
 have ab := v2.trans (show _ = (some false) by rw [acx a0]; simp only [a1f, h2, h3, h4, h7, cT, cF])
 exact R4r Z Z (by simp only [a6g, ab, cT, cF])
 refine SA ?_
 exact ITr Z (i + 1) ⟨τ0, (by rw [v2, acx a0]; simp only [a1f, h2, h3, h4, h7, cT, cF])⟩ τ1 []
 refine yKD 22 ?_ ?_ <;> intro h8 ah
 refine yKD 27 ?_ ?_ <;> intro h9 ae
 refine SA ?_
 exact ITr Z (i + 1) ⟨τ0, (by rw [v2, acx a0]; simp only [a1f, h2, h8, h9, cT, cF])⟩ τ1 []
 refine yKX 31 ?_ ?_ <;> intro a2 a6
 have aa := v2.trans (show _ = (some false) by rw [acx a0]; simp only [a1f, h2, h8, h9, a2, cT, cF])
 exact R4r Z Z (by simp only [a6g, aa, cT, cF])
 refine SA ?_
 exact ITr Z (i + 1) ⟨τ0, (by rw [v2, acx a0]; simp only [a1f, h2, h8, h9, a2, cT, cF])⟩ τ1 []
 refine yKX 31 ?_ ?_ <;> intro a3 a9
 have a8 := v2.trans (show _ = (some false) by rw [acx a0]; simp only [a1f, h2, h8, a3, cT, cF])
 exact R4r Z Z (by simp only [a6g, a8, cT, cF])
 refine SA ?_
 exact ITr Z (i + 1) ⟨τ0, (by rw [v2, acx a0]; simp only [a1f, h2, h8, a3, cT, cF])⟩ τ1 []
 have a4 := v2.trans (show _ = none by rw [dn (show s.data.toList.length ≤ i by (have hz_ : s.data.toList.length = s.size := by simp); omega)]; simp only [a1f, cT, cF])
 refine KV Z Z Z Z Z Z O Z (fun w γ => f54 n τ0 (i6 ((s.size : Nat) : Int)) (i6 1) (i6 8)) fun ad => ?_
 exact R4r Z Z (by simp only [a6g, a4, cT, cF])
theorem f353 (hn : n + 0 ≤ 9) {s : Str} (a1 : ok n s) :
 DP 353 #[.string s] w (pB (a59 s)) := by
 have hb := bS0 hn
 refine EN Tryz.func353 Z adc ?_
 have r1 : s.size ≤ bd n := a1
 refine KV Z Z Z Z Z Z O Z (fun w γ => f171 n τ0 (i6 ((s.size : Nat) : Int)) (i6 1) (i6 8)) fun a5 => ?_
 refine yKN 8 ?_ ?_ <;> intro h1 a6
 exact R4r Z Z (by simp only [a59, h1, cT, cF])
 have ab := afy (B.nf h1)
 refine LM Z 0 (fun i => ((i ≤ s.data.toList.length) ∧ (a3b (s.data.toList) = a3b (s.data.toList.drop i)), s.data.toList.length - i, [(3, .v (vI i))], [], [], [])) ⟨zl, Z⟩ [0] [] [] [] ?_
 rintro i ⟨v1, v2⟩
 refine yKD 12 ?_ ?_ <;> intro h2 ad
 have a3 : i < s.data.toList.length := (by (have hz_ : s.data.toList.length = s.size := by simp); omega)
 obtain ⟨e1, a0⟩ := gE a3
 refine KS Z Z Z Z (fun _ hΓ => afz ttOk Z Z Z Z Z a0) ?_
 refine WX.see Z Z Z (fun _ hΓ => apg ttOk Z Z Z Z Z Z) ?_
 have r2 : e1.toNat < 256 := UInt8.toNat_lt _
 refine KV Z Z Z Z Z Z O Z (fun w γ => f171 n τ0 (i6 (e1.toNat : Int)) (i6 97) (i6 122)) fun a7 => ?_
 refine yKN 22 ?_ ?_ <;> intro h3 a8
 refine KV Z Z Z Z Z Z O Z (fun w γ => f171 n τ0 (i6 (e1.toNat : Int)) (i6 48) (i6 57)) fun af => ?_
 refine yKN 27 ?_ ?_ <;> intro h4 a9
 refine yKM 30 ?_ ?_ <;> intro h5 ac
 have a4 := v2.trans (show _ = (some false) by rw [acx a0]; simp only [a3b, h3, h4, h5, cT, cF])
 exact R4r Z Z (by simp only [a59, h1, a4, cT, cF])
 refine SA ?_
 exact ITr Z (i + 1) ⟨τ0, (by rw [v2, acx a0]; simp only [a3b, h3, h4, h5, cT, cF])⟩ τ1 []
 have ae := afy (B.nf h4)
 refine SA ?_
 exact ITr Z (i + 1) ⟨τ0, (by rw [v2, acx a0]; simp only [a3b, h3, h4, cT, cF])⟩ τ1 []
 have aa := afy (B.nf h3)
 refine SA ?_
 exact ITr Z (i + 1) ⟨τ0, (by rw [v2, acx a0]; simp only [a3b, h3, cT, cF])⟩ τ1 []
 have a2 := v2.trans (show _ = none by rw [dn (show s.data.toList.length ≤ i by (have hz_ : s.data.toList.length = s.size := by simp); omega)]; simp only [a3b, cT, cF])
 exact R4r Z Z (by simp only [a59, h1, a2, cT, cF])
theorem f399 (hn : n + 0 ≤ 9) {s : List Str} (N0 : Rd w K0 M0 s) (fg : FuncId) (fc : List Value) (fq : Str → Bool) (ff : ∀ w1, Kp emp w w1 → ∀ (e0 : Str) (x0 : GoT.X Str), ok n e0 → All (hp w1) (GoT.fa .der e0 x0) → Does Tryz.prog fg ([(GoT.sh e0 x0).headD undef] ++ fc).toArray w1 emp (fun rv _ => rv = .bool (fq e0) ∧ True)) (a0 : ok n s) :
 DP 399 #[vS K0 s M0, .func (.func fg) #[] fc.toArray] w (pI n (ae7 s fq)) := by
 have hb := bS0 hn
 refine EN Tryz.func399 Z (aS1 N0) ?_
 have r1 := (okl a0).1
 refine LM Z 0 (fun i => ((i ≤ s.length) ∧ (adl fq s 0 = adl fq (s.drop i) i), s.length - i, [(8, .v (vI i))], [], [], [])) ⟨zl, Z⟩ [7, 0, 1] [] [0] [0] ?_
 rintro i ⟨v1, v2⟩
 refine yKD 9 ?_ ?_ <;> intro h1 a8
 have a2 : i < s.length := τ0
 obtain ⟨e1, a1⟩ := gE a2
 have a5 := okE a0 a1
 refine yI 0 i a2 ?_
 rintro a7 rfl
 refine zL 0 1 e1 a1 ?_
 rintro ⟨⟩
 refine WX.callV Z Z Z Z Z O Z (fun w G bs hI hΓ => ff w hI.keep e1 () a5 All.nil) fun a6 => ?_
 refine yKA 16 ?_ ?_ <;> intro h2
 have a4 := v2.trans (show _ = (some ((i : Nat) : Int)) by rw [acx a1]; simp only [adl, h2, cT, cF])
 rw [show ae7 s fq = ((i : Nat) : Int) by simp only [ae7, a4, cT, cF]]
 exact R6r Z Z (i6 ((i : Nat) : Int))
 refine SA ?_
 exact ITr Z (i + 1) ⟨τ0, (by rw [v2, acx a1]; simp only [adl, h2, cT, cF])⟩ τ1 [0]
 have a3 := v2.trans (show _ = none by rw [dn (show s.length ≤ i by omega)]; simp only [adl, cT, cF])
 rw [show ae7 s fq = (-1) by simp only [ae7, a3, cT, cF]]
 exact R6r Z Z (i6 (-1))
theorem ag0 : ∀ (f : Str → Bool) (l : List Str) (i : Nat) (j : Int), adl f l i = some j → j < ((i + l.length : Nat) : Int)
 | f, [], i, j, h => by cases h
 | f, x :: l, i, j, h => by
  simp only [adl] at h
  cases hx : f x
  ·rw [hx, cond_false] at h
   have := ag0 f l (i + 1) j h
   simp only [List.length_cons]; omega
  ·rw [hx, cond_true] at h
   cases h
   simp only [List.length_cons]; omega
theorem ahi (l : List Str) (f : Str → Bool) : ae7 l f < ((l.length : Nat) : Int) := by
 unfold ae7
 cases h : adl f l 0 with
 | none => show (-1 : Int) < _; omega
 | some j => have := ag0 f l 0 j h; show j < _; omega
theorem f358 (hn : n + 0 ≤ 9) {s : List Str} (N0 : Rd w K0 M0 s) (fg : FuncId) (fc : List Value) (fq : Str → Bool) (ff : ∀ w1, Kp emp w w1 → ∀ (e0 : Str) (x0 : GoT.X Str), ok n e0 → All (hp w1) (GoT.fa .der e0 x0) → Does Tryz.prog fg ([(GoT.sh e0 x0).headD undef] ++ fc).toArray w1 emp (fun rv _ => rv = .bool (fq e0) ∧ True)) (a0 : ok n s) :
 DP 358 #[vS K0 s M0, .func (.func fg) #[] fc.toArray] w (pB (aev s fq)) := by
 have hb := bS0 hn
 refine EN Tryz.func358 Z (aS1 N0) ?_
 refine KW Z Z Z Z Z Z O Z (fun w G bs hI hΓ => f399 n τ0 (hΓ.get 0 Z) fg fc fq (fun a1 a2 => ff a1 (hI.keep.trans a2)) a0) fun a3 => ?_
 have q1 := ahi s fq
 exact R4r Z Z (by simp only [aev, cT, cF])
theorem f359 (hn : n + 0 ≤ 9) {p_ : Str} (a0 : ok n p_) :
 DP 359 #[.string p_] w (pB (acm p_)) := by
 have hb := bS0 hn
 refine EN Tryz.func359 Z adc ?_
 refine KV Z Z Z Z Z Z O Z (fun w γ => f360 n τ0 a0) fun a1 => ?_
 exact R4r Z Z (by simp only [acm, cT, cF])
theorem f287 (hn : n + 0 ≤ 9) (n_ : Name) (N0 : Rd w K0 M0 n_.parts) (a0 : ok n n_) :
 DP 287 #[.agg #[vS K0 n_.parts M0]] w (pB (a5a n_)) := by
 have hb := bS0 hn
 refine EN Tryz.func287 Z (aS1 N0) ?_
 refine yKD 7 ?_ ?_ <;> intro h1 a8
 refine KV Z Z Z Z Z Z O Z (fun w γ => f358 n τ0 (γ.q 0 Z) 359 [] (fun a2 => (acm a2)) (fun a5 a6 a2 a7 a1 a3 => f359 n τ0 a1) (ae4 a0)) fun a4 => ?_
 exact R4r Z Z (by simp only [a5a, h1, cT, cF])
 exact R4r Z Z (by simp only [a5a, h1, cT, cF])
theorem f278 (hn : n + 0 ≤ 9) (n_ : Name) (N0 : Rd w K0 M0 n_.parts) (a0 : ok n n_) :
 DP 278 #[.agg #[vS K0 n_.parts M0]] w (pB (a5b n_)) := by
 have hb := bS0 hn
 refine EN Tryz.func278 Z (aS1 N0) ?_
 have r1 := (okl (ae4 a0)).1
 refine LM Z 0 (fun i => ((i ≤ n_.parts.length) ∧ (a7o n_.parts = a7o (n_.parts.drop i)), n_.parts.length - i, [(3, .v (vI i))], [], [], [])) ⟨zl, Z⟩ [1] [1] [0] [0] ?_
 rintro i ⟨v1, v2⟩
 refine yKD 8 ?_ ?_ <;> intro h1 a9
 have a2 : i < n_.parts.length := τ0
 obtain ⟨e1, a1⟩ := gE a2
 have a5 := okE (ae4 a0) a1
 refine yI 0 i a2 ?_
 rintro a7 rfl
 refine zL 0 1 e1 a1 ?_
 rintro ⟨⟩
 refine CV Z Z Z Z Z O Z (fun w γ => f353 n τ0 a5) fun a6 => ?_
 refine yKN 17 ?_ ?_ <;> intro h2 a8
 have a4 := v2.trans (show _ = (some false) by rw [acx a1]; simp only [a7o, h2, cT, cF])
 exact R4r Z Z (by simp only [a5b, a4, cT, cF])
 refine SA ?_
 exact ITr Z (i + 1) ⟨τ0, (by rw [v2, acx a1]; simp only [a7o, h2, cT, cF])⟩ τ1 [0]
 have a3 := v2.trans (show _ = none by rw [dn (show n_.parts.length ≤ i by omega)]; simp only [a7o, cT, cF])
 exact R4r Z Z (by simp only [a5b, a3, cT, cF])
theorem f190 (hn : n + 0 ≤ 9) (x_ : DataP) (N0 : Rd w K0 M0 x_.name.parts) (N1 : Rd w K1 M1 x_.content) (N2 : Rd w K2 M2 x_.keyName.parts) (a0 : ok n x_) :
 DP 190 #[al6 x_ K0 M0 K1 M1 K2 M2] w (pB (a6h x_)) := by
 have hb := bS0 hn
 refine EN Tryz.func190 Z (aS3 N0 N1 N2) ?_
 refine KV Z Z Z Z Z Z O Z (fun w γ => f287 n τ0 x_.name (γ.q 0 Z) ((ado a0).1)) fun a1 => ?_
 refine yKA 6 ?_ ?_ <;> intro h1
 refine yKD 13 ?_ ?_ <;> intro h2 a6
 refine yKD 19 ?_ ?_ <;> intro h3 a7
 refine KV Z Z Z Z Z Z O Z (fun w γ => f287 n τ0 x_.keyName (γ.q 2 Z) ((ado a0).2.2.1)) fun a5 => ?_
 refine yKA 24 ?_ ?_ <;> intro h4
 refine KV Z Z Z Z Z Z O Z (fun w γ => f54 n τ0 ((ado a0).2.2.2.1) (i6 0) (i6 100000)) fun a2 => ?_
 refine yKA 29 ?_ ?_ <;> intro h5
 have a4 := agk h5
 refine KV Z Z Z Z Z Z O Z (fun w γ => f54 n τ0 ((ado a0).2.2.2.2) (i6 0) (i6 2147483646)) fun a3 => ?_
 exact R4r Z Z (by simp only [a6h, h1, h2, h3, h4, h5, cT, cF])
 exact R4r Z Z (by simp only [a6h, h1, h2, h3, h4, h5, cT, cF])
 exact R4r Z Z (by simp only [a6h, h1, h2, h3, h4, cT, cF])
 exact R4r Z Z (by simp only [a6h, h1, h2, h3, cT, cF])
 exact R4r Z Z (by simp only [a6h, h1, h2, cT, cF])
 exact R4r Z Z (by simp only [a6h, h1, cT, cF])
theorem f176 (hn : n + 0 ≤ 9) (x_ : DataP) (N0 : Rd w K0 M0 x_.name.parts) (N1 : Rd w K1 M1 x_.content) (N2 : Rd w K2 M2 x_.keyName.parts) (a0 : ok n x_) :
 DP 176 #[al6 x_ K0 M0 K1 M1 K2 M2] w (pB (a3r x_)) := by
 have hb := bS0 hn
 refine EN Tryz.func176 Z (aS3 N0 N1 N2) ?_
 refine KV Z Z Z Z Z Z O Z (fun w γ => f278 n τ0 x_.name (γ.q 0 Z) ((ado a0).1)) fun a1 => ?_
 refine yKA 6 ?_ ?_ <;> intro h1
 refine yKD 13 ?_ ?_ <;> intro h2 a6
 refine yKD 19 ?_ ?_ <;> intro h3 a7
 refine KV Z Z Z Z Z Z O Z (fun w γ => f278 n τ0 x_.keyName (γ.q 2 Z) ((ado a0).2.2.1)) fun a5 => ?_
 refine yKA 24 ?_ ?_ <;> intro h4
 refine KV Z Z Z Z Z Z O Z (fun w γ => f171 n τ0 ((ado a0).2.2.2.1) (i6 0) (i6 100000)) fun a2 => ?_
 refine yKA 29 ?_ ?_ <;> intro h5
 have a4 := afy h5
 refine KV Z Z Z Z Z Z O Z (fun w γ => f171 n τ0 ((ado a0).2.2.2.2) (i6 0) (i6 2147483646)) fun a3 => ?_
 exact R4r Z Z (by simp only [a3r, h1, h2, h3, h4, h5, cT, cF])
 exact R4r Z Z (by simp only [a3r, h1, h2, h3, h4, h5, cT, cF])
 exact R4r Z Z (by simp only [a3r, h1, h2, h3, h4, cT, cF])
 exact R4r Z Z (by simp only [a3r, h1, h2, h3, cT, cF])
 exact R4r Z Z (by simp only [a3r, h1, h2, cT, cF])
 exact R4r Z Z (by simp only [a3r, h1, cT, cF])
end Go.Proofs.YtpmejlbgjkiobaaGreat
namespace Go.Stp
def afi (x_ : Str) : Bool := (!((x_).toList == (x_).toList))
def adj (x_ : Str) (y : Str) : Int := bif (afi x_) then bif (afi y) then 0 else (-1) else bif (afi y) then 1 else bif (Op.bytesLess (x_).toList (y).toList) then (-1) else bif (!(Op.bytesLess (x_).toList (y).toList || (x_).toList == (y).toList)) then 1 else 0
def adm (s2 : (List Str)) : List Str → Nat → Option (Int) | [], i => none | e1 :: rest_, i => bif decide (((i : Nat) : Int) ≥ (((s2).length : Nat) : Int)) then (some 1) else match (s2)[i]? with | none => default | some e2 => bif ((adj e1 e2) != 0) then (some (adj e1 e2)) else adm s2 rest_ (i + 1)
def ady (s1 : (List Str)) (s2 : (List Str)) : Int := match adm s2 s1 0 with | some r_ => r_ | none => bif decide ((((s1).length : Nat) : Int) < (((s2).length : Nat) : Int)) then (-1) else 0
def abs (a : Name) (b : Name) : Int := (ady a.parts b.parts)
def a4q (l : (List TableEntry)) : List TableEntry → Nat → Option (Bool) | [], i => none | e1 :: rest_, i => bif (!(a5a e1.name)) then (some false) else bif decide (((i : Nat) : Int) > 0) then match (l)[(((i : Nat) : Int) - 1).toNat]? with | none => default | some e2 => bif decide ((abs e2.name e1.name) ≥ 0) then (some false) else a4q l rest_ (i + 1) else a4q l rest_ (i + 1)
def aau (l : (List TableEntry)) : Bool := match a4q l l 0 with | some r_ => r_ | none => (decide ((((l).length : Nat) : Int) ≤ 20))
def a4r (l : (List TableEntry)) : List TableEntry → Nat → Option (Bool) | [], i => none | e1 :: rest_, i => bif (!(a5b e1.name)) then (some false) else bif decide (((i : Nat) : Int) > 0) then match (l)[(((i : Nat) : Int) - 1).toNat]? with | none => default | some e2 => bif decide ((a20 e2.name e1.name) ≥ 0) then (some false) else a4r l rest_ (i + 1) else a4r l rest_ (i + 1)
def a93 (l : (List TableEntry)) : Bool := match a4r l l 0 with | some r_ => r_ | none => (decide ((((l).length : Nat) : Int) ≤ 20))
def adb (fq : TableEntry → Bool) : List TableEntry → Nat → Option (Int) | [], i => none | e1 :: rest_, i => bif fq e1 then (some ((i : Nat) : Int)) else adb fq rest_ (i + 1)
def adw (s : (List TableEntry)) (fq : TableEntry → Bool) : Int := match adb fq s 0 with | some r_ => r_ | none => (-1)
def aen (s : (List TableEntry)) (fq : TableEntry → Bool) : Bool := (decide ((adw s fq) ≥ 0))
end Go.Stp
