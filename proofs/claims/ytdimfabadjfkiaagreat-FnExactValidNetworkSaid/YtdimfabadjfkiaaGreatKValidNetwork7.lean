/-
  What the proof of one law needs: rules of the program logic, functions as Lean functions, contracts. No condition but what each says. Written by a program (pack.py) out of my own texts.
-/
import Derived.Test.YtdimfabadjfkiaaGreatKValidNetwork6
namespace Go.Proofs.YtdimfabadjfkiaaGreat
open Go.Stp
set_option linter.unusedVariables false
set_option linter.unusedSimpArgs false
theorem f426 (w : World) (n : Nat) (hn : n + 0 ≤ 9) (s : (List Str)) (ps : Option Addr) (cs : Nat) (N0 : RdSl (hp w) ps cs s) (v : Str) (hoks : GoT.ok n s) (hokv : GoT.ok n v) :
  Does Tryz.prog 426 #[.slice ps ((s).length) cs, .string v] w emp (fun (rv : Value) (_ : World) => rv = .int .i64 ((slices_Index_string s v)) ∧ GoT.ok n ((slices_Index_string s v) : Int)) := by
 have hbP := bd_pos n
 have hbB := bd_big (n := n) (by omega)
 refine WX.enter (tt := tt) (Γ := [(0, MF.rs .stb ps cs s)]) Tryz.func426 rfl (by kernel_rfl) rfl (allS_cons rfl N0 allS_nil) ?_
 refine R0 ?_
 have r1 : (s).length ≤ bd n := (okl hoks).1
 refine WX.loop (ι := Nat) ⟨fun i => (i ≤ (s).length) ∧ (slices_Index_string_L1 v s 0 = slices_Index_string_L1 v ((s).drop i) i), fun i => (s).length - i, fun i => [(8, .v (.int .i64 (((i : Nat) : Int)))), (7, .v (.int .i64 ((((s).length : Nat) : Int)))), (0, .v (.slice ps ((s).length) cs)), (1, .v (.string v))], fun i => [], fun i => [], fun i => [(0, MF.rs .stb ps cs s)]⟩ 0 ⟨(Nat.zero_le _), rfl⟩
  (.cons rfl (.cons rfl (.cons rfl (.cons rfl (.nil))))) .nil .nil [0] rfl ?_
 rintro i hpre
 have hpre_ : (i ≤ (s).length) ∧ (slices_Index_string_L1 v s 0 = slices_Index_string_L1 v ((s).drop i) i) := hpre
 clear hpre
 obtain ⟨v1, v2⟩ := hpre_
 refine R0 ?_
 refine WX.cases 9 rfl (fun h1 => ?_) (fun h1 => ?_)
 ·skip
  have h1d := B.dt h1
  have e1i : i < (s).length := (by omega)
  obtain ⟨e1, e1h⟩ : ∃ e1, (s)[i]? = some e1 := ⟨_, List.getElem?_eq_getElem e1i⟩
  have ok1 : GoT.ok n e1 := (okl hoks).2 _ (List.mem_of_getElem? e1h)
  refine R0 ?_
  refine WX.idx 0 i ttOk rfl rfl rfl rfl rfl rfl rfl rfl rfl rfl e1i ?_
  rintro ad1 rfl
  refine WX.ldE 0 1 e1 ttOk rfl rfl rfl rfl rfl rfl rfl rfl e1h (fun _ => rfl) (fun _ => rfl) ?_
  rintro ⟨⟩
  refine R0 ?_
  refine WX.cases 16 rfl (fun h2 => ?_) (fun h2 => ?_)
  ·skip
   have h2d := B.et h2
   refine R0 ?_
   have hP1 : slices_Index_string_L1 v s 0 = (some ((i : Nat) : Int)) := by rw [v2, drop_get e1h]; simp only [slices_Index_string_L1, h2, ct, cf]
   have hP2 : slices_Index_string s v = ((i : Nat) : Int) := by simp only [slices_Index_string, hP1, ct, cf]
   refine R1 ?_
   intro w1 G bs hI hΓ
   rw [hP2]
   exact ⟨rfl, (show I64 ((i : Nat) : Int) from (by unfold I64; omega))⟩
  ·skip
   have h2d := B.ef h2
   refine R0 ?_
   refine WX.see rfl rfl rfl (fun _ hΓ => looks_arith rfl rfl rfl rfl (by unfold I64; first | omega | (simp only [List.length_take] at *; omega))) ?_
   refine R0 ?_
   exact WX.iter (i + 1) ⟨(by omega), (by rw [v2, drop_get e1h]; simp only [slices_Index_string_L1, h2, ct, cf])⟩ (by first | (dsimp only; omega) | omega) (.cons rfl (.cons rfl (.cons rfl (.cons rfl (.nil))))) .nil .nil [0] rfl
 ·skip
  have h1d := B.df h1
  refine R0 ?_
  have hX1 : slices_Index_string_L1 v s 0 = none := by rw [v2, List.drop_eq_nil_of_le (show (s).length ≤ i by omega)]; simp only [slices_Index_string_L1, ct, cf]
  have hP3 : slices_Index_string s v = (-1) := by simp only [slices_Index_string, hX1, ct, cf]
  refine R1 ?_
  intro w1 G bs hI hΓ
  rw [hP3]
  exact ⟨rfl, (show I64 (-1) from (by unfold I64; omega))⟩
theorem f395 (w : World) (n : Nat) (hn : n + 0 ≤ 9) (s : (List Str)) (ps : Option Addr) (cs : Nat) (N0 : RdSl (hp w) ps cs s) (v : Str) (hoks : GoT.ok n s) (hokv : GoT.ok n v) :
  Does Tryz.prog 395 #[.slice ps ((s).length) cs, .string v] w emp (fun (rv : Value) (_ : World) => rv = .bool (slices_Contains_string s v) ∧ True) := by
 have hbP := bd_pos n
 have hbB := bd_big (n := n) (by omega)
 refine WX.enter (tt := tt) (Γ := [(0, MF.rs .stb ps cs s)]) Tryz.func395 rfl (by kernel_rfl) rfl (allS_cons rfl N0 allS_nil) ?_
 refine R0 ?_
 refine WX.callV rfl rfl rfl rfl rfl (fun _ => rfl) rfl (fun w G bs hI hΓ => f426 w n (by omega) s ps cs (hΓ.get 0 rfl) v hoks hokv) ?_
 intro hq1
 refine R0 ?_
 have hP1 : slices_Contains_string s v = (decide ((slices_Index_string s v) ≥ 0)) := by simp only [slices_Contains_string, ct, cf]
 exact R3 hP1
theorem f342 (w : World) (n : Nat) (hn : n + 0 ≤ 9) (secret : Int) (hoksecret : GoT.ok n secret) :
  Does Tryz.prog 342 #[.int .i64 (secret)] w emp (fun (rv : Value) (_ : World) => rv = .bool (impl_ValidSecret secret) ∧ True) := by
 have hbP := bd_pos n
 have hbB := bd_big (n := n) (by omega)
 refine WX.enter (tt := tt) (Γ := []) Tryz.func342 rfl (by kernel_rfl) rfl allS_nil ?_
 refine R0 ?_
 refine WX.callV rfl rfl rfl rfl rfl (fun _ => rfl) rfl (fun w G bs hI hΓ => f138 w n (by omega) secret 1 2147483646 hoksecret (show I64 1 from (by unfold I64; omega)) (show I64 2147483646 from (by unfold I64; omega))) ?_
 intro hq1
 refine R0 ?_
 have hP1 : impl_ValidSecret secret = (impl_InRange secret 1 2147483646) := by simp only [impl_ValidSecret, ct, cf]
 exact R3 hP1
theorem f325 (w : World) (n : Nat) (hn : n + 0 ≤ 9) (secret : Int) (hoksecret : GoT.ok n secret) :
  Does Tryz.prog 325 #[.int .i64 (secret)] w emp (fun (rv : Value) (_ : World) => rv = .bool (spec_ValidSecret secret) ∧ True) := by
 have hbP := bd_pos n
 have hbB := bd_big (n := n) (by omega)
 refine WX.enter (tt := tt) (Γ := []) Tryz.func325 rfl (by kernel_rfl) rfl allS_nil ?_
 refine R0 ?_
 refine WX.callV rfl rfl rfl rfl rfl (fun _ => rfl) rfl (fun w G bs hI hΓ => f142 w n (by omega) secret 1 2147483646 hoksecret (show I64 1 from (by unfold I64; omega)) (show I64 2147483646 from (by unfold I64; omega))) ?_
 intro hq1
 refine R0 ?_
 have hP1 : spec_ValidSecret secret = (spec_l1In secret 1 2147483646) := by simp only [spec_ValidSecret, ct, cf]
 exact R3 hP1
theorem f394 (w : World) (n : Nat) (hn : n + 0 ≤ 9) (s : Str) (hoks : GoT.ok n s) :
  Does Tryz.prog 394 #[.string s] w emp (fun (rv : Value) (_ : World) => rv = .bool (impl_isVariable s) ∧ True) := by
 have hbP := bd_pos n
 have hbB := bd_big (n := n) (by omega)
 refine WX.enter (tt := tt) (Γ := []) Tryz.func394 rfl (by kernel_rfl) rfl allS_nil ?_
 refine R0 ?_
 refine WX.cases 6 rfl (fun h1 => ?_) (fun h1 => ?_)
 ·skip
  have h1d := B.et h1
  refine R0 ?_
  have e1i : 0 < ((s).data.toList).length := (by rw [show ((s).data.toList).length = (s).size from by simp]; omega)
  obtain ⟨e1, e1h⟩ : ∃ e1, ((s).data.toList)[0]? = some e1 := ⟨_, List.getElem?_eq_getElem e1i⟩
  refine WX.see rfl rfl rfl (fun _ hΓ => looks_strIdx ttOk rfl rfl rfl rfl rfl e1h) ?_
  refine R0 ?_
  refine WX.cases 11 rfl (fun h2 => ?_) (fun h2 => ?_)
  ·skip
   have h2d := B.et h2
   refine R0 ?_
   have e2i : 1 < ((s).data.toList).length := (by rw [show ((s).data.toList).length = (s).size from by simp]; omega)
   obtain ⟨e2, e2h⟩ : ∃ e2, ((s).data.toList)[1]? = some e2 := ⟨_, List.getElem?_eq_getElem e2i⟩
   refine WX.see rfl rfl rfl (fun _ hΓ => looks_strIdx ttOk rfl rfl rfl rfl rfl e2h) ?_
   refine R0 ?_
   refine WX.cases 16 rfl (fun h3 => ?_) (fun h3 => ?_)
   ·skip
    have h3d := B.dt h3
    refine R0 ?_
    refine WX.see rfl rfl rfl (fun _ hΓ => looks_strIdx ttOk rfl rfl rfl rfl rfl e2h) ?_
    refine R0 ?_
    have hP1 : impl_isVariable s = (decide (((e2).toNat : Int) ≤ 122)) := by simp only [impl_isVariable, h1, e1h, h2, e2h, h3, ct, cf]
    exact R3 hP1
   ·skip
    have h3d := B.df h3
    refine R0 ?_
    have hP2 : impl_isVariable s = false := by simp only [impl_isVariable, h1, e1h, h2, e2h, h3, ct, cf]
    exact R3 hP2
  ·skip
   have h2d := B.ef h2
   refine R0 ?_
   have hP3 : impl_isVariable s = false := by simp only [impl_isVariable, h1, e1h, h2, ct, cf]
   exact R3 hP3
 ·skip
  have h1d := B.ef h1
  refine R0 ?_
  have hP4 : impl_isVariable s = false := by simp only [impl_isVariable, h1, ct, cf]
  exact R3 hP4
theorem f384 (w : World) (n : Nat) (hn : n + 0 ≤ 9) (s : Str) (hoks : GoT.ok n s) :
  Does Tryz.prog 384 #[.string s] w emp (fun (rv : Value) (_ : World) => rv = .bool (spec_l5Letter s) ∧ True) := by
 have hbP := bd_pos n
 have hbB := bd_big (n := n) (by omega)
 refine WX.enter (tt := tt) (Γ := []) Tryz.func384 rfl (by kernel_rfl) rfl allS_nil ?_
 refine R0 ?_
 refine WX.cases 6 rfl (fun h1 => ?_) (fun h1 => ?_)
 ·skip
  have h1d := B.et h1
  refine R0 ?_
  have e1i : 0 < ((s).data.toList).length := (by rw [show ((s).data.toList).length = (s).size from by simp]; omega)
  obtain ⟨e1, e1h⟩ : ∃ e1, ((s).data.toList)[0]? = some e1 := ⟨_, List.getElem?_eq_getElem e1i⟩
  refine WX.see rfl rfl rfl (fun _ hΓ => looks_strIdx ttOk rfl rfl rfl rfl rfl e1h) ?_
  refine R0 ?_
  refine WX.cases 11 rfl (fun h2 => ?_) (fun h2 => ?_)
  ·skip
   have h2d := B.et h2
   refine R0 ?_
   have e2i : 1 < ((s).data.toList).length := (by rw [show ((s).data.toList).length = (s).size from by simp]; omega)
   obtain ⟨e2, e2h⟩ : ∃ e2, ((s).data.toList)[1]? = some e2 := ⟨_, List.getElem?_eq_getElem e2i⟩
   refine WX.see rfl rfl rfl (fun _ hΓ => looks_strIdx ttOk rfl rfl rfl rfl rfl e2h) ?_
   refine WX.see rfl rfl rfl (fun _ hΓ => looks_ofU8 ttOk rfl rfl rfl rfl rfl rfl) ?_
   have r1 : (e2).toNat < 256 := UInt8.toNat_lt _
   refine WX.callV rfl rfl rfl rfl rfl (fun _ => rfl) rfl (fun w G bs hI hΓ => f142 w n (by omega) ((e2).toNat : Int) 97 122 (show I64 ((e2).toNat : Int) from (by unfold I64; omega)) (show I64 97 from (by unfold I64; omega)) (show I64 122 from (by unfold I64; omega))) ?_
   intro hq1
   refine R0 ?_
   have hP1 : spec_l5Letter s = (spec_l1In ((e2).toNat : Int) 97 122) := by simp only [spec_l5Letter, h1, e1h, h2, e2h, ct, cf]
   exact R3 hP1
  ·skip
   have h2d := B.ef h2
   refine R0 ?_
   have hP2 : spec_l5Letter s = false := by simp only [spec_l5Letter, h1, e1h, h2, ct, cf]
   exact R3 hP2
 ·skip
  have h1d := B.ef h1
  refine R0 ?_
  have hP3 : spec_l5Letter s = false := by simp only [spec_l5Letter, h1, ct, cf]
  exact R3 hP3
theorem f393 (w : World) (n : Nat) (hn : n + 0 ≤ 9) (p_ : Pattern) (K0 : Option Addr) (M0 : Nat) (N0 : RdSl (hp w) K0 M0 p_.parts) (hokp_ : GoT.ok n p_) :
  Does Tryz.prog 393 #[.agg #[.slice K0 ((p_.parts).length) M0]] w emp (fun (rv : Value) (_ : World) => rv = .bool (impl_ValidPattern p_) ∧ True) := by
 have hbP := bd_pos n
 have hbB := bd_big (n := n) (by omega)
 refine WX.enter (tt := tt) (Γ := [(0, MF.rs .stb K0 M0 p_.parts)]) Tryz.func393 rfl (by kernel_rfl) rfl (allS_cons rfl N0 allS_nil) ?_
 refine R0 ?_
 have r1 : (p_.parts).length ≤ bd n := (okl (ok_Pattern hokp_)).1
 refine WX.loop (ι := Nat) ⟨fun i => (i ≤ (p_.parts).length) ∧ (impl_ValidPattern_L1 p_ p_.parts 0 = impl_ValidPattern_L1 p_ ((p_.parts).drop i) i), fun i => (p_.parts).length - i, fun i => [(8, .v (.int .i64 (((i : Nat) : Int)))), (7, .v (.int .i64 ((((p_.parts).length : Nat) : Int)))), (6, .v (.slice K0 ((p_.parts).length) M0)), (1, .p 1 0)], fun i => [(1, ⟨278, [.slice K0 ((p_.parts).length) M0]⟩)], fun i => [], fun i => [(0, MF.rs .stb K0 M0 p_.parts)]⟩ 0 ⟨(Nat.zero_le _), rfl⟩
  (.cons rfl (.cons rfl (.cons rfl (.cons rfl (.nil))))) (.cons rfl (.nil)) .nil [0] rfl ?_
 rintro i hpre
 have hpre_ : (i ≤ (p_.parts).length) ∧ (impl_ValidPattern_L1 p_ p_.parts 0 = impl_ValidPattern_L1 p_ ((p_.parts).drop i) i) := hpre
 clear hpre
 obtain ⟨v1, v2⟩ := hpre_
 refine R0 ?_
 refine WX.cases 9 rfl (fun h1 => ?_) (fun h1 => ?_)
 ·skip
  have h1d := B.dt h1
  have e1i : i < (p_.parts).length := (by omega)
  obtain ⟨e1, e1h⟩ : ∃ e1, (p_.parts)[i]? = some e1 := ⟨_, List.getElem?_eq_getElem e1i⟩
  have ok1 : GoT.ok n e1 := (okl (ok_Pattern hokp_)).2 _ (List.mem_of_getElem? e1h)
  refine R0 ?_
  refine WX.idx 0 i ttOk rfl rfl rfl rfl rfl rfl rfl rfl rfl rfl e1i ?_
  rintro ad1 rfl
  refine WX.ldE 0 1 e1 ttOk rfl rfl rfl rfl rfl rfl rfl rfl e1h (fun _ => rfl) (fun _ => rfl) ?_
  rintro ⟨⟩
  refine R0 ?_
  refine WX.callV rfl rfl rfl rfl rfl (fun _ => rfl) rfl (fun w G bs hI hΓ => f216 w n (by omega) e1 ok1) ?_
  intro hq1
  refine R0 ?_
  refine WX.cases 16 rfl (fun h2 => ?_) (fun h2 => ?_)
  ·skip
   have h2d := (B.nt h2)
   refine R0 ?_
   refine WX.cases 20 rfl (fun h3 => ?_) (fun h3 => ?_)
   ·skip
    have h3d := B.ef (B.nt h3)
    refine R0 ?_
    refine WX.callV rfl rfl rfl rfl rfl (fun _ => rfl) rfl (fun w G bs hI hΓ => f394 w n (by omega) e1 ok1) ?_
    intro hq2
    refine R0 ?_
    refine WX.cases 25 rfl (fun h4 => ?_) (fun h4 => ?_)
    ·skip
     have h4d := (B.nt h4)
     refine R0 ?_
     refine WX.cases 28 rfl (fun h5 => ?_) (fun h5 => ?_)
     ·skip
      have h5d := B.ef (B.nt h5)
      refine R0 ?_
      have hP1 : impl_ValidPattern_L1 p_ p_.parts 0 = (some false) := by rw [v2, drop_get e1h]; simp only [impl_ValidPattern_L1, h2, h3, h4, h5, ct, cf]
      have hP2 : impl_ValidPattern p_ = false := by simp only [impl_ValidPattern, hP1, ct, cf]
      exact R3 hP2
     ·skip
      have h5d := B.et (B.nf h5)
      refine R0 ?_
      refine WX.see rfl rfl rfl (fun _ hΓ => looks_wrap rfl rfl rfl rfl) ?_
      refine R0 ?_
      refine WX.cases 36 rfl (fun h6 => ?_) (fun h6 => ?_)
      ·skip
       have h6d := B.nt' h6
       refine R0 ?_
       have hP3 : impl_ValidPattern_L1 p_ p_.parts 0 = (some false) := by rw [v2, drop_get e1h]; simp only [impl_ValidPattern_L1, h2, h3, h4, h5, h6, ct, cf]
       have hP4 : impl_ValidPattern p_ = false := by simp only [impl_ValidPattern, hP3, ct, cf]
       exact R3 hP4
      ·skip
       have h6d := B.nf' h6
       refine R0 ?_
       refine WX.see rfl rfl rfl (fun _ hΓ => looks_arith rfl rfl rfl rfl (by unfold I64; first | omega | (simp only [List.length_take] at *; omega))) ?_
       refine R0 ?_
       exact WX.iter (i + 1) ⟨(by omega), (by rw [v2, drop_get e1h]; simp only [impl_ValidPattern_L1, h2, h3, h4, h5, h6, ct, cf])⟩ (by first | (dsimp only; omega) | omega) (.cons rfl (.cons rfl (.cons rfl (.cons rfl (.nil))))) (.cons rfl (.nil)) .nil [0] rfl
    ·skip
     have h4d := (B.nf h4)
     refine R0 ?_
     refine WX.see rfl rfl rfl (fun _ hΓ => looks_arith rfl rfl rfl rfl (by unfold I64; first | omega | (simp only [List.length_take] at *; omega))) ?_
     refine R0 ?_
     exact WX.iter (i + 1) ⟨(by omega), (by rw [v2, drop_get e1h]; simp only [impl_ValidPattern_L1, h2, h3, h4, ct, cf])⟩ (by first | (dsimp only; omega) | omega) (.cons rfl (.cons rfl (.cons rfl (.cons rfl (.nil))))) (.cons rfl (.nil)) .nil [0] rfl
   ·skip
    have h3d := B.et (B.nf h3)
    refine R0 ?_
    refine WX.see rfl rfl rfl (fun _ hΓ => looks_arith rfl rfl rfl rfl (by unfold I64; first | omega | (simp only [List.length_take] at *; omega))) ?_
    refine R0 ?_
    exact WX.iter (i + 1) ⟨(by omega), (by rw [v2, drop_get e1h]; simp only [impl_ValidPattern_L1, h2, h3, ct, cf])⟩ (by first | (dsimp only; omega) | omega) (.cons rfl (.cons rfl (.cons rfl (.cons rfl (.nil))))) (.cons rfl (.nil)) .nil [0] rfl
  ·skip
   have h2d := (B.nf h2)
   refine R0 ?_
   refine WX.see rfl rfl rfl (fun _ hΓ => looks_arith rfl rfl rfl rfl (by unfold I64; first | omega | (simp only [List.length_take] at *; omega))) ?_
   refine R0 ?_
   exact WX.iter (i + 1) ⟨(by omega), (by rw [v2, drop_get e1h]; simp only [impl_ValidPattern_L1, h2, ct, cf])⟩ (by first | (dsimp only; omega) | omega) (.cons rfl (.cons rfl (.cons rfl (.cons rfl (.nil))))) (.cons rfl (.nil)) .nil [0] rfl
 ·skip
  have h1d := B.df h1
  refine R0 ?_
  have hX1 : impl_ValidPattern_L1 p_ p_.parts 0 = none := by rw [v2, List.drop_eq_nil_of_le (show (p_.parts).length ≤ i by omega)]; simp only [impl_ValidPattern_L1, ct, cf]
  have hP5 : impl_ValidPattern p_ = (decide ((((p_.parts).length : Nat) : Int) ≤ 6)) := by simp only [impl_ValidPattern, hX1, ct, cf]
  exact R3 hP5
theorem f383 (w : World) (n : Nat) (hn : n + 0 ≤ 9) (p_ : Pattern) (K0 : Option Addr) (M0 : Nat) (N0 : RdSl (hp w) K0 M0 p_.parts) (hokp_ : GoT.ok n p_) :
  Does Tryz.prog 383 #[.agg #[.slice K0 ((p_.parts).length) M0]] w emp (fun (rv : Value) (_ : World) => rv = .bool (spec_ValidPattern p_) ∧ True) := by
 have hbP := bd_pos n
 have hbB := bd_big (n := n) (by omega)
 refine WX.enter (tt := tt) (Γ := [(0, MF.rs .stb K0 M0 p_.parts)]) Tryz.func383 rfl (by kernel_rfl) rfl (allS_cons rfl N0 allS_nil) ?_
 refine R0 ?_
 have r1 : (p_.parts).length ≤ bd n := (okl (ok_Pattern hokp_)).1
 refine WX.loop (ι := Nat) ⟨fun i => (i ≤ (p_.parts).length) ∧ (spec_ValidPattern_L1 p_ p_.parts 0 = spec_ValidPattern_L1 p_ ((p_.parts).drop i) i), fun i => (p_.parts).length - i, fun i => [(3, .v (.int .i64 (((i : Nat) : Int)))), (1, .p 1 0)], fun i => [(1, ⟨278, [.slice K0 ((p_.parts).length) M0]⟩)], fun i => [], fun i => [(0, MF.rs .stb K0 M0 p_.parts)]⟩ 0 ⟨(Nat.zero_le _), rfl⟩
  (.cons rfl (.cons rfl (.nil))) (.cons rfl (.nil)) .nil [0] rfl ?_
 rintro i hpre
 have hpre_ : (i ≤ (p_.parts).length) ∧ (spec_ValidPattern_L1 p_ p_.parts 0 = spec_ValidPattern_L1 p_ ((p_.parts).drop i) i) := hpre
 clear hpre
 obtain ⟨v1, v2⟩ := hpre_
 refine R0 ?_
 refine WX.cases 9 rfl (fun h1 => ?_) (fun h1 => ?_)
 ·skip
  have h1d := B.dt h1
  have e1i : i < (p_.parts).length := (by omega)
  obtain ⟨e1, e1h⟩ : ∃ e1, (p_.parts)[i]? = some e1 := ⟨_, List.getElem?_eq_getElem e1i⟩
  have ok1 : GoT.ok n e1 := (okl (ok_Pattern hokp_)).2 _ (List.mem_of_getElem? e1h)
  refine R0 ?_
  refine WX.idx 0 i ttOk rfl rfl rfl rfl rfl rfl rfl rfl rfl rfl e1i ?_
  rintro ad1 rfl
  refine WX.ldE 0 1 e1 ttOk rfl rfl rfl rfl rfl rfl rfl rfl e1h (fun _ => rfl) (fun _ => rfl) ?_
  rintro ⟨⟩
  refine R0 ?_
  refine WX.callV rfl rfl rfl rfl rfl (fun _ => rfl) rfl (fun w G bs hI hΓ => f218 w n (by omega) e1 ok1) ?_
  intro hq1
  refine R0 ?_
  refine WX.cases 20 rfl (fun h2 => ?_) (fun h2 => ?_)
  ·skip
   have h2d := (B.nt h2)
   refine R0 ?_
   refine WX.cases 24 rfl (fun h3 => ?_) (fun h3 => ?_)
   ·skip
    have h3d := B.ef (B.nt h3)
    refine R0 ?_
    refine WX.callV rfl rfl rfl rfl rfl (fun _ => rfl) rfl (fun w G bs hI hΓ => f384 w n (by omega) e1 ok1) ?_
    intro hq2
    refine R0 ?_
    refine WX.cases 29 rfl (fun h4 => ?_) (fun h4 => ?_)
    ·skip
     have h4d := (B.nt h4)
     refine R0 ?_
     refine WX.cases 32 rfl (fun h5 => ?_) (fun h5 => ?_)
     ·skip
      have h5d := B.ef (B.nt h5)
      refine R0 ?_
      have hP1 : spec_ValidPattern_L1 p_ p_.parts 0 = (some false) := by rw [v2, drop_get e1h]; simp only [spec_ValidPattern_L1, h2, h3, h4, h5, ct, cf]
      have hP2 : spec_ValidPattern p_ = false := by simp only [spec_ValidPattern, hP1, ct, cf]
      exact R3 hP2
     ·skip
      have h5d := B.et (B.nf h5)
      refine R0 ?_
      refine WX.see rfl rfl rfl (fun _ hΓ => looks_wrap rfl rfl rfl rfl) ?_
      refine R0 ?_
      refine WX.cases 40 rfl (fun h6 => ?_) (fun h6 => ?_)
      ·skip
       have h6d := B.dt h6
       refine R0 ?_
       have hP3 : spec_ValidPattern_L1 p_ p_.parts 0 = (some false) := by rw [v2, drop_get e1h]; simp only [spec_ValidPattern_L1, h2, h3, h4, h5, h6, ct, cf]
       have hP4 : spec_ValidPattern p_ = false := by simp only [spec_ValidPattern, hP3, ct, cf]
       exact R3 hP4
      ·skip
       have h6d := B.df h6
       refine R0 ?_
       refine WX.see rfl rfl rfl (fun _ hΓ => looks_arith rfl rfl rfl rfl (by unfold I64; first | omega | (simp only [List.length_take] at *; omega))) ?_
       refine R0 ?_
       exact WX.iter (i + 1) ⟨(by omega), (by rw [v2, drop_get e1h]; simp only [spec_ValidPattern_L1, h2, h3, h4, h5, h6, ct, cf])⟩ (by first | (dsimp only; omega) | omega) (.cons rfl (.cons rfl (.nil))) (.cons rfl (.nil)) .nil [0] rfl
    ·skip
     have h4d := (B.nf h4)
     refine R0 ?_
     refine WX.see rfl rfl rfl (fun _ hΓ => looks_arith rfl rfl rfl rfl (by unfold I64; first | omega | (simp only [List.length_take] at *; omega))) ?_
     refine R0 ?_
     exact WX.iter (i + 1) ⟨(by omega), (by rw [v2, drop_get e1h]; simp only [spec_ValidPattern_L1, h2, h3, h4, ct, cf])⟩ (by first | (dsimp only; omega) | omega) (.cons rfl (.cons rfl (.nil))) (.cons rfl (.nil)) .nil [0] rfl
   ·skip
    have h3d := B.et (B.nf h3)
    refine R0 ?_
    refine WX.see rfl rfl rfl (fun _ hΓ => looks_arith rfl rfl rfl rfl (by unfold I64; first | omega | (simp only [List.length_take] at *; omega))) ?_
    refine R0 ?_
    exact WX.iter (i + 1) ⟨(by omega), (by rw [v2, drop_get e1h]; simp only [spec_ValidPattern_L1, h2, h3, ct, cf])⟩ (by first | (dsimp only; omega) | omega) (.cons rfl (.cons rfl (.nil))) (.cons rfl (.nil)) .nil [0] rfl
  ·skip
   have h2d := (B.nf h2)
   refine R0 ?_
   refine WX.see rfl rfl rfl (fun _ hΓ => looks_arith rfl rfl rfl rfl (by unfold I64; first | omega | (simp only [List.length_take] at *; omega))) ?_
   refine R0 ?_
   exact WX.iter (i + 1) ⟨(by omega), (by rw [v2, drop_get e1h]; simp only [spec_ValidPattern_L1, h2, ct, cf])⟩ (by first | (dsimp only; omega) | omega) (.cons rfl (.cons rfl (.nil))) (.cons rfl (.nil)) .nil [0] rfl
 ·skip
  have h1d := B.df h1
  refine R0 ?_
  have hX1 : spec_ValidPattern_L1 p_ p_.parts 0 = none := by rw [v2, List.drop_eq_nil_of_le (show (p_.parts).length ≤ i by omega)]; simp only [spec_ValidPattern_L1, ct, cf]
  have hP5 : spec_ValidPattern p_ = (decide ((((p_.parts).length : Nat) : Int) ≤ 6)) := by simp only [spec_ValidPattern, hX1, ct, cf]
  exact R3 hP5
theorem f385 (w : World) (n : Nat) (hn : n + 0 ≤ 9) (p_ : Pattern) (K0 : Option Addr) (M0 : Nat) (N0 : RdSl (hp w) K0 M0 p_.parts) (s : Str) (hokp_ : GoT.ok n p_) (hoks : GoT.ok n s) :
  Does Tryz.prog 385 #[.agg #[.slice K0 ((p_.parts).length) M0], .string s] w emp (fun (rv : Value) (_ : World) => rv = .bool (spec_l10Has p_ s) ∧ True) := by
 have hbP := bd_pos n
 have hbB := bd_big (n := n) (by omega)
 refine WX.enter (tt := tt) (Γ := [(0, MF.rs .stb K0 M0 p_.parts)]) Tryz.func385 rfl (by kernel_rfl) rfl (allS_cons rfl N0 allS_nil) ?_
 refine R0 ?_
 have r1 : (p_.parts).length ≤ bd n := (okl (ok_Pattern hokp_)).1
 refine WX.loop (ι := Nat) ⟨fun i => (i ≤ (p_.parts).length) ∧ (spec_l10Has_L1 s p_.parts = spec_l10Has_L1 s ((p_.parts).drop i)), fun i => (p_.parts).length - i, fun i => [(5, .v (.int .i64 (((i : Nat) : Int)))), (2, .p 2 0), (1, .v (.string s))], fun i => [(2, ⟨278, [.slice K0 ((p_.parts).length) M0]⟩)], fun i => [], fun i => [(0, MF.rs .stb K0 M0 p_.parts)]⟩ 0 ⟨(Nat.zero_le _), rfl⟩
  (.cons rfl (.cons rfl (.cons rfl (.nil)))) (.cons rfl (.nil)) .nil [0] rfl ?_
 rintro i hpre
 have hpre_ : (i ≤ (p_.parts).length) ∧ (spec_l10Has_L1 s p_.parts = spec_l10Has_L1 s ((p_.parts).drop i)) := hpre
 clear hpre
 obtain ⟨v1, v2⟩ := hpre_
 refine R0 ?_
 refine WX.cases 10 rfl (fun h1 => ?_) (fun h1 => ?_)
 ·skip
  have h1d := B.dt h1
  have e1i : i < (p_.parts).length := (by omega)
  obtain ⟨e1, e1h⟩ : ∃ e1, (p_.parts)[i]? = some e1 := ⟨_, List.getElem?_eq_getElem e1i⟩
  have ok1 : GoT.ok n e1 := (okl (ok_Pattern hokp_)).2 _ (List.mem_of_getElem? e1h)
  refine R0 ?_
  refine WX.idx 0 i ttOk rfl rfl rfl rfl rfl rfl rfl rfl rfl rfl e1i ?_
  rintro ad1 rfl
  refine WX.ldE 0 1 e1 ttOk rfl rfl rfl rfl rfl rfl rfl rfl e1h (fun _ => rfl) (fun _ => rfl) ?_
  rintro ⟨⟩
  refine R0 ?_
  refine WX.cases 19 rfl (fun h2 => ?_) (fun h2 => ?_)
  ·skip
   have h2d := B.et h2
   refine R0 ?_
   have hP1 : spec_l10Has_L1 s p_.parts = (some true) := by rw [v2, drop_get e1h]; simp only [spec_l10Has_L1, h2, ct, cf]
   have hP2 : spec_l10Has p_ s = true := by simp only [spec_l10Has, hP1, ct, cf]
   exact R3 hP2
  ·skip
   have h2d := B.ef h2
   refine R0 ?_
   refine WX.see rfl rfl rfl (fun _ hΓ => looks_arith rfl rfl rfl rfl (by unfold I64; first | omega | (simp only [List.length_take] at *; omega))) ?_
   refine R0 ?_
   exact WX.iter (i + 1) ⟨(by omega), (by rw [v2, drop_get e1h]; simp only [spec_l10Has_L1, h2, ct, cf])⟩ (by first | (dsimp only; omega) | omega) (.cons rfl (.cons rfl (.cons rfl (.nil)))) (.cons rfl (.nil)) .nil [0] rfl
 ·skip
  have h1d := B.df h1
  refine R0 ?_
  have hX1 : spec_l10Has_L1 s p_.parts = none := by rw [v2, List.drop_eq_nil_of_le (show (p_.parts).length ≤ i by omega)]; simp only [spec_l10Has_L1, ct, cf]
  have hP3 : spec_l10Has p_ s = false := by simp only [spec_l10Has, hX1, ct, cf]
  exact R3 hP3
theorem f345 (w : World) (n : Nat) (hn : n + 0 ≤ 9) (r : Rule) (K0 : Option Addr) (M0 : Nat) (N0 : RdSl (hp w) K0 M0 r.dataPattern.parts) (K1 : Option Addr) (M1 : Nat) (N1 : RdSl (hp w) K1 M1 r.keyPattern.parts) (hokr : GoT.ok n r) :
  Does Tryz.prog 345 #[.agg #[.slice K0 ((r.dataPattern.parts).length) M0, .slice K1 ((r.keyPattern.parts).length) M1]] w emp (fun (rv : Value) (_ : World) => rv = .bool (impl_ValidRule r) ∧ True) := by
 have hbP := bd_pos n
 have hbB := bd_big (n := n) (by omega)
 refine WX.enter (tt := tt) (Γ := [(0, MF.rs .stb K0 M0 r.dataPattern.parts), (1, MF.rs .stb K1 M1 r.keyPattern.parts)]) Tryz.func345 rfl (by kernel_rfl) rfl (allS_cons rfl N0 (allS_cons rfl N1 allS_nil)) ?_
 refine R0 ?_
 refine WX.callV rfl rfl rfl rfl rfl (fun _ => rfl) rfl (fun w G bs hI hΓ => f393 w n (by omega) r.dataPattern K0 M0 (hΓ.get 0 rfl) ((ok_Rule hokr).1)) ?_
 intro hq1
 refine R0 ?_
 refine WX.cases 9 rfl (fun h1 => ?_) (fun h1 => ?_)
 ·skip
  have h1d := (B.nt h1)
  refine R0 ?_
  have hP1 : impl_ValidRule r = false := by simp only [impl_ValidRule, h1, ct, cf]
  exact R3 hP1
 ·skip
  have h1d := (B.nf h1)
  refine R0 ?_
  refine WX.callV rfl rfl rfl rfl rfl (fun _ => rfl) rfl (fun w G bs hI hΓ => f393 w n (by omega) r.keyPattern K1 M1 (hΓ.get 1 rfl) ((ok_Rule hokr).2)) ?_
  intro hq2
  refine R0 ?_
  refine WX.cases 14 rfl (fun h2 => ?_) (fun h2 => ?_)
  ·skip
   have h2d := (B.nt h2)
   refine R0 ?_
   have hP2 : impl_ValidRule r = false := by simp only [impl_ValidRule, h1, h2, ct, cf]
   exact R3 hP2
  ·skip
   have h2d := (B.nf h2)
   refine R0 ?_
   have r1 : (r.keyPattern.parts).length ≤ bd n := (okl (ok_Pattern (ok_Rule hokr).2)).1
   refine WX.loop (ι := Nat) ⟨fun i => (i ≤ (r.keyPattern.parts).length) ∧ (impl_ValidRule_L1 r r.keyPattern.parts = impl_ValidRule_L1 r ((r.keyPattern.parts).drop i)), fun i => (r.keyPattern.parts).length - i, fun i => [(19, .v (.int .i64 (((i : Nat) : Int)))), (18, .v (.int .i64 ((((r.keyPattern.parts).length : Nat) : Int)))), (17, .v (.slice K1 ((r.keyPattern.parts).length) M1)), (1, .p 1 0)], fun i => [(1, ⟨280, [.slice K0 ((r.dataPattern.parts).length) M0, .slice K1 ((r.keyPattern.parts).length) M1]⟩)], fun i => [], fun i => [(0, MF.rs .stb K0 M0 r.dataPattern.parts), (1, MF.rs .stb K1 M1 r.keyPattern.parts)]⟩ 0 ⟨(Nat.zero_le _), rfl⟩
    (.cons rfl (.cons rfl (.cons rfl (.cons rfl (.nil))))) (.cons rfl (.nil)) .nil [0, 1] rfl ?_
   rintro i hpre
   have hpre_ : (i ≤ (r.keyPattern.parts).length) ∧ (impl_ValidRule_L1 r r.keyPattern.parts = impl_ValidRule_L1 r ((r.keyPattern.parts).drop i)) := hpre
   clear hpre
   obtain ⟨v1, v2⟩ := hpre_
   refine R0 ?_
   refine WX.cases 20 rfl (fun h3 => ?_) (fun h3 => ?_)
   ·skip
    have h3d := B.dt h3
    have e1i : i < (r.keyPattern.parts).length := (by omega)
    obtain ⟨e1, e1h⟩ : ∃ e1, (r.keyPattern.parts)[i]? = some e1 := ⟨_, List.getElem?_eq_getElem e1i⟩
    have ok1 : GoT.ok n e1 := (okl (ok_Pattern (ok_Rule hokr).2)).2 _ (List.mem_of_getElem? e1h)
    refine R0 ?_
    refine WX.idx 1 i ttOk rfl rfl rfl rfl rfl rfl rfl rfl rfl rfl e1i ?_
    rintro ad1 rfl
    refine WX.ldE 1 2 e1 ttOk rfl rfl rfl rfl rfl rfl rfl rfl e1h (fun _ => rfl) (fun _ => rfl) ?_
    rintro ⟨⟩
    refine R0 ?_
    refine WX.callV rfl rfl rfl rfl rfl (fun _ => rfl) rfl (fun w G bs hI hΓ => f394 w n (by omega) e1 ok1) ?_
    intro hq3
    refine R0 ?_
    refine WX.cases 25 rfl (fun h4 => ?_) (fun h4 => ?_)
    ·skip
     refine R0 ?_
     refine WX.callV rfl rfl rfl rfl rfl (fun _ => rfl) rfl (fun w G bs hI hΓ => f395 w n (by omega) r.dataPattern.parts K0 M0 (hΓ.get 0 rfl) e1 (ok_Pattern (ok_Rule hokr).1) ok1) ?_
     intro hq4
     refine R0 ?_
     refine WX.cases 32 rfl (fun h5 => ?_) (fun h5 => ?_)
     ·skip
      have h5d := (B.nt h5)
      refine R0 ?_
      have hP3 : impl_ValidRule_L1 r r.keyPattern.parts = (some false) := by rw [v2, drop_get e1h]; simp only [impl_ValidRule_L1, h4, h5, ct, cf]
      have hP4 : impl_ValidRule r = false := by simp only [impl_ValidRule, h1, h2, hP3, ct, cf]
      exact R3 hP4
     ·skip
      have h5d := (B.nf h5)
      refine R0 ?_
      refine WX.see rfl rfl rfl (fun _ hΓ => looks_arith rfl rfl rfl rfl (by unfold I64; first | omega | (simp only [List.length_take] at *; omega))) ?_
      refine R0 ?_
      exact WX.iter (i + 1) ⟨(by omega), (by rw [v2, drop_get e1h]; simp only [impl_ValidRule_L1, h4, h5, ct, cf])⟩ (by first | (dsimp only; omega) | omega) (.cons rfl (.cons rfl (.cons rfl (.cons rfl (.nil))))) (.cons rfl (.nil)) .nil [0, 1] rfl
    ·skip
     refine R0 ?_
     refine WX.see rfl rfl rfl (fun _ hΓ => looks_arith rfl rfl rfl rfl (by unfold I64; first | omega | (simp only [List.length_take] at *; omega))) ?_
     refine R0 ?_
     exact WX.iter (i + 1) ⟨(by omega), (by rw [v2, drop_get e1h]; simp only [impl_ValidRule_L1, h4, ct, cf])⟩ (by first | (dsimp only; omega) | omega) (.cons rfl (.cons rfl (.cons rfl (.cons rfl (.nil))))) (.cons rfl (.nil)) .nil [0, 1] rfl
   ·skip
    have h3d := B.df h3
    refine R0 ?_
    have hX1 : impl_ValidRule_L1 r r.keyPattern.parts = none := by rw [v2, List.drop_eq_nil_of_le (show (r.keyPattern.parts).length ≤ i by omega)]; simp only [impl_ValidRule_L1, ct, cf]
    have hP5 : impl_ValidRule r = true := by simp only [impl_ValidRule, h1, h2, hX1, ct, cf]
    exact R3 hP5
theorem f326 (w : World) (n : Nat) (hn : n + 0 ≤ 9) (r : Rule) (K0 : Option Addr) (M0 : Nat) (N0 : RdSl (hp w) K0 M0 r.dataPattern.parts) (K1 : Option Addr) (M1 : Nat) (N1 : RdSl (hp w) K1 M1 r.keyPattern.parts) (hokr : GoT.ok n r) :
  Does Tryz.prog 326 #[.agg #[.slice K0 ((r.dataPattern.parts).length) M0, .slice K1 ((r.keyPattern.parts).length) M1]] w emp (fun (rv : Value) (_ : World) => rv = .bool (spec_ValidRule r) ∧ True) := by
 have hbP := bd_pos n
 have hbB := bd_big (n := n) (by omega)
 refine WX.enter (tt := tt) (Γ := [(0, MF.rs .stb K0 M0 r.dataPattern.parts), (1, MF.rs .stb K1 M1 r.keyPattern.parts)]) Tryz.func326 rfl (by kernel_rfl) rfl (allS_cons rfl N0 (allS_cons rfl N1 allS_nil)) ?_
 refine R0 ?_
 refine WX.callV rfl rfl rfl rfl rfl (fun _ => rfl) rfl (fun w G bs hI hΓ => f383 w n (by omega) r.dataPattern K0 M0 (hΓ.get 0 rfl) ((ok_Rule hokr).1)) ?_
 intro hq1
 refine R0 ?_
 refine WX.cases 8 rfl (fun h1 => ?_) (fun h1 => ?_)
 ·skip
  have h1d := (B.nt h1)
  refine R0 ?_
  have hP1 : spec_ValidRule r = false := by simp only [spec_ValidRule, h1, ct, cf]
  exact R3 hP1
 ·skip
  have h1d := (B.nf h1)
  refine R0 ?_
  refine WX.callV rfl rfl rfl rfl rfl (fun _ => rfl) rfl (fun w G bs hI hΓ => f383 w n (by omega) r.keyPattern K1 M1 (hΓ.get 1 rfl) ((ok_Rule hokr).2)) ?_
  intro hq2
  refine R0 ?_
  refine WX.cases 13 rfl (fun h2 => ?_) (fun h2 => ?_)
  ·skip
   have h2d := (B.nt h2)
   refine R0 ?_
   have hP2 : spec_ValidRule r = false := by simp only [spec_ValidRule, h1, h2, ct, cf]
   exact R3 hP2
  ·skip
   have h2d := (B.nf h2)
   refine R0 ?_
   have r1 : (r.keyPattern.parts).length ≤ bd n := (okl (ok_Pattern (ok_Rule hokr).2)).1
   refine WX.loop (ι := Nat) ⟨fun i => (i ≤ (r.keyPattern.parts).length) ∧ (spec_ValidRule_L1 r r.keyPattern.parts = spec_ValidRule_L1 r ((r.keyPattern.parts).drop i)), fun i => (r.keyPattern.parts).length - i, fun i => [(3, .v (.int .i64 (((i : Nat) : Int)))), (1, .p 1 0)], fun i => [(1, ⟨280, [.slice K0 ((r.dataPattern.parts).length) M0, .slice K1 ((r.keyPattern.parts).length) M1]⟩)], fun i => [], fun i => [(0, MF.rs .stb K0 M0 r.dataPattern.parts), (1, MF.rs .stb K1 M1 r.keyPattern.parts)]⟩ 0 ⟨(Nat.zero_le _), rfl⟩
    (.cons rfl (.cons rfl (.nil))) (.cons rfl (.nil)) .nil [0, 1] rfl ?_
   rintro i hpre
   have hpre_ : (i ≤ (r.keyPattern.parts).length) ∧ (spec_ValidRule_L1 r r.keyPattern.parts = spec_ValidRule_L1 r ((r.keyPattern.parts).drop i)) := hpre
   clear hpre
   obtain ⟨v1, v2⟩ := hpre_
   refine R0 ?_
   refine WX.cases 19 rfl (fun h3 => ?_) (fun h3 => ?_)
   ·skip
    have h3d := B.dt h3
    have e1i : i < (r.keyPattern.parts).length := (by omega)
    obtain ⟨e1, e1h⟩ : ∃ e1, (r.keyPattern.parts)[i]? = some e1 := ⟨_, List.getElem?_eq_getElem e1i⟩
    have ok1 : GoT.ok n e1 := (okl (ok_Pattern (ok_Rule hokr).2)).2 _ (List.mem_of_getElem? e1h)
    refine R0 ?_
    refine WX.draw [] mixed ?_
    intro bs G0 hΓ0
    refine DX.takes (fuel := 15) ttOk [(0, true), (1, true), (2, false), (3, true)] (by kernel_rfl) rfl ?_
    refine DX.idx 4 1 i ttOk hΓ0 (by kernel_rfl) rfl rfl rfl rfl rfl rfl rfl rfl rfl rfl rfl e1i ?_
    rintro ad1 rfl
    refine DX.ldE 5 1 2 e1 ttOk hΓ0 (by kernel_rfl) rfl rfl rfl rfl rfl rfl rfl rfl e1h (fun _ => rfl) (fun _ => rfl) ?_
    rintro ⟨⟩
    refine DX.callV 6 rfl (by kernel_rfl) rfl rfl rfl rfl rfl rfl (fun _ => rfl) rfl (fun w G bs hI hΓ => f384 w n (by omega) e1 ok1) ?_
    intro hq3
    refine DX.takes (fuel := 11) ttOk [(7, true)] (by kernel_rfl) rfl ?_
    refine DX.cases 29 rfl (fun h4 => ?_) (fun h4 => ?_)
    ·skip
     refine DX.takes (fuel := 5) ttOk [(8, true), (9, false), (10, true), (11, true), (12, false), (13, true)] (by kernel_rfl) rfl ?_
     refine DX.idx 14 1 i ttOk hΓ0 (by kernel_rfl) rfl rfl rfl rfl rfl rfl rfl rfl rfl rfl rfl e1i ?_
     rintro ad2 ⟨⟩
     refine DX.ldE 15 1 2 e1 ttOk hΓ0 (by kernel_rfl) rfl rfl rfl rfl rfl rfl rfl rfl e1h (fun _ => rfl) (fun _ => rfl) ?_
     rintro ⟨⟩
     refine DX.callV 16 rfl (by kernel_rfl) rfl rfl rfl rfl rfl rfl (fun _ => rfl) rfl (fun w G bs hI hΓ => f385 w n (by omega) r.dataPattern K0 M0 (hΓ.get 0 rfl) e1 ((ok_Rule hokr).1) ok1) ?_
     intro hq4
     refine DX.takes (fuel := 0) ttOk [(17, true), (18, true)] (by kernel_rfl) rfl ?_
     refine DX.tail2 [] rfl rfl (by kernel_rfl) ?_
     refine R0 ?_
     refine WX.cases 40 rfl (fun h5 => ?_) (fun h5 => ?_)
     ·skip
      have h5d := (B.nt h5)
      refine R0 ?_
      have hP3 : spec_ValidRule_L1 r r.keyPattern.parts = (some false) := by rw [v2, drop_get e1h]; simp only [spec_ValidRule_L1, h4, h5, ct, cf]
      have hP4 : spec_ValidRule r = false := by simp only [spec_ValidRule, h1, h2, hP3, ct, cf]
      exact R3 hP4
     ·skip
      have h5d := (B.nf h5)
      refine R0 ?_
      refine WX.see rfl rfl rfl (fun _ hΓ => looks_arith rfl rfl rfl rfl (by unfold I64; first | omega | (simp only [List.length_take] at *; omega))) ?_
      refine R0 ?_
      exact WX.iter (i + 1) ⟨(by omega), (by rw [v2, drop_get e1h]; simp only [spec_ValidRule_L1, h4, h5, ct, cf])⟩ (by first | (dsimp only; omega) | omega) (.cons rfl (.cons rfl (.nil))) (.cons rfl (.nil)) .nil [0, 1] rfl
    ·skip
     refine DX.takes (fuel := 0) ttOk [(8, true), (9, true), (10, true), (11, true), (12, true), (13, true), (14, true), (15, true), (16, true), (17, true), (18, true)] (by kernel_rfl) rfl ?_
     refine DX.tail2 [] rfl rfl (by kernel_rfl) ?_
     refine R0 ?_
     refine WX.see rfl rfl rfl (fun _ hΓ => looks_arith rfl rfl rfl rfl (by unfold I64; first | omega | (simp only [List.length_take] at *; omega))) ?_
     refine R0 ?_
     exact WX.iter (i + 1) ⟨(by omega), (by rw [v2, drop_get e1h]; simp only [spec_ValidRule_L1, h4, ct, cf])⟩ (by first | (dsimp only; omega) | omega) (.cons rfl (.cons rfl (.nil))) (.cons rfl (.nil)) .nil [0, 1] rfl
   ·skip
    have h3d := B.df h3
    refine R0 ?_
    have hX1 : spec_ValidRule_L1 r r.keyPattern.parts = none := by rw [v2, List.drop_eq_nil_of_le (show (r.keyPattern.parts).length ≤ i by omega)]; simp only [spec_ValidRule_L1, ct, cf]
    have hP5 : spec_ValidRule r = true := by simp only [spec_ValidRule, h1, h2, hX1, ct, cf]
    exact R3 hP5
theorem f341 (w : World) (n : Nat) (hn : n + 0 ≤ 9) (s : (List Key)) (ps : Option Addr) (cs : Nat) (N0 : RdSl (hp w) ps cs s) (fg : FuncId) (fc : List Value) (fq : Key → Bool) (ff : ∀ w1, Kp emp w w1 → ∀ (e0 : Key) (x0 : GoT.X Key), GoT.ok n e0 → All (hp w1) (GoT.fa .der e0 x0) → Does Tryz.prog fg ([Value.agg ⟨GoT.sh e0 x0⟩] ++ fc).toArray w1 emp (fun rv _ => rv = .bool (fq e0) ∧ True)) (hoks : GoT.ok n s) :
  Does Tryz.prog 341 #[.slice ps ((s).length) cs, .func (.func fg) #[] fc.toArray] w emp (fun (rv : Value) (_ : World) => rv = .int .i64 ((slices_IndexFunc_Key s fq)) ∧ GoT.ok n ((slices_IndexFunc_Key s fq) : Int)) := by
 have hbP := bd_pos n
 have hbB := bd_big (n := n) (by omega)
 refine WX.enter (tt := tt) (Γ := [(0, MF.rs .stb ps cs s)]) Tryz.func341 rfl (by kernel_rfl) rfl (allS_cons rfl N0 allS_nil) ?_
 refine R0 ?_
 have r1 : (s).length ≤ bd n := (okl hoks).1
 refine WX.loop (ι := Nat) ⟨fun i => (i ≤ (s).length) ∧ (slices_IndexFunc_Key_L1 fq s 0 = slices_IndexFunc_Key_L1 fq ((s).drop i) i), fun i => (s).length - i, fun i => [(8, .v (.int .i64 (((i : Nat) : Int)))), (7, .v (.int .i64 ((((s).length : Nat) : Int)))), (0, .v (.slice ps ((s).length) cs)), (1, .v (.func (.func fg) #[] fc.toArray))], fun i => [], fun i => [], fun i => [(0, MF.rs .stb ps cs s)]⟩ 0 ⟨(Nat.zero_le _), rfl⟩
  (.cons rfl (.cons rfl (.cons rfl (.cons rfl (.nil))))) .nil .nil [0] rfl ?_
 rintro i hpre
 have hpre_ : (i ≤ (s).length) ∧ (slices_IndexFunc_Key_L1 fq s 0 = slices_IndexFunc_Key_L1 fq ((s).drop i) i) := hpre
 clear hpre
 obtain ⟨v1, v2⟩ := hpre_
 refine R0 ?_
 refine WX.cases 9 rfl (fun h1 => ?_) (fun h1 => ?_)
 ·skip
  have h1d := B.dt h1
  have e1i : i < (s).length := (by omega)
  obtain ⟨e1, e1h⟩ : ∃ e1, (s)[i]? = some e1 := ⟨_, List.getElem?_eq_getElem e1i⟩
  have ok1 : GoT.ok n e1 := (okl hoks).2 _ (List.mem_of_getElem? e1h)
  refine R0 ?_
  refine WX.idx 0 i ttOk rfl rfl rfl rfl rfl rfl rfl rfl rfl rfl e1i ?_
  rintro ad1 rfl
  refine WX.ldE 0 1 e1 ttOk rfl rfl rfl rfl rfl rfl rfl rfl e1h (fun _ => rfl) (fun _ => rfl) ?_
  rintro ⟨⟨p1, c1⟩, ⟨⟩⟩
  refine WX.callV rfl rfl rfl rfl rfl (fun _ => rfl) rfl (fun w G bs hI hΓ => ff w hI.keep e1 ((p1, c1), ()) ok1 (All.cons (hΓ.get 1 rfl : RdSl _ _ _ _) All.nil)) ?_
  intro hq1
  refine R0 ?_
  refine WX.cases 16 rfl (fun h2 => ?_) (fun h2 => ?_)
  ·skip
   refine R0 ?_
   have hP1 : slices_IndexFunc_Key_L1 fq s 0 = (some ((i : Nat) : Int)) := by rw [v2, drop_get e1h]; simp only [slices_IndexFunc_Key_L1, h2, ct, cf]
   have hP2 : slices_IndexFunc_Key s fq = ((i : Nat) : Int) := by simp only [slices_IndexFunc_Key, hP1, ct, cf]
   refine R1 ?_
   intro w1 G bs hI hΓ
   rw [hP2]
   exact ⟨rfl, (show I64 ((i : Nat) : Int) from (by unfold I64; omega))⟩
  ·skip
   refine R0 ?_
   refine WX.see rfl rfl rfl (fun _ hΓ => looks_arith rfl rfl rfl rfl (by unfold I64; first | omega | (simp only [List.length_take] at *; omega))) ?_
   refine R0 ?_
   exact WX.iter (i + 1) ⟨(by omega), (by rw [v2, drop_get e1h]; simp only [slices_IndexFunc_Key_L1, h2, ct, cf])⟩ (by first | (dsimp only; omega) | omega) (.cons rfl (.cons rfl (.cons rfl (.cons rfl (.nil))))) .nil .nil [0] rfl
 ·skip
  have h1d := B.df h1
  refine R0 ?_
  have hX1 : slices_IndexFunc_Key_L1 fq s 0 = none := by rw [v2, List.drop_eq_nil_of_le (show (s).length ≤ i by omega)]; simp only [slices_IndexFunc_Key_L1, ct, cf]
  have hP3 : slices_IndexFunc_Key s fq = (-1) := by simp only [slices_IndexFunc_Key, hX1, ct, cf]
  refine R1 ?_
  intro w1 G bs hI hΓ
  rw [hP3]
  exact ⟨rfl, (show I64 (-1) from (by unfold I64; omega))⟩
theorem ltL_slices_IndexFunc_Key : ∀ (f : Key → Bool) (l : List Key) (i : Nat) (j : Int), slices_IndexFunc_Key_L1 f l i = some j → j < ((i + l.length : Nat) : Int)
  | f, [], i, j, h => by cases h
  | f, x :: l, i, j, h => by
    simp only [slices_IndexFunc_Key_L1] at h
    cases hx : f x
    · rw [hx, cond_false] at h
      have := ltL_slices_IndexFunc_Key f l (i + 1) j h
      simp only [List.length_cons]; omega
    · rw [hx, cond_true] at h
      cases h
      simp only [List.length_cons]; omega
theorem ltI_slices_IndexFunc_Key (l : List Key) (f : Key → Bool) : slices_IndexFunc_Key l f < ((l.length : Nat) : Int) := by
  unfold slices_IndexFunc_Key
  cases h : slices_IndexFunc_Key_L1 f l 0 with
  | none => show (-1 : Int) < _; omega
  | some j => have := ltL_slices_IndexFunc_Key f l 0 j h; show j < _; omega
theorem f279 (w : World) (n : Nat) (hn : n + 0 ≤ 9) (s : (List Key)) (ps : Option Addr) (cs : Nat) (N0 : RdSl (hp w) ps cs s) (fg : FuncId) (fc : List Value) (fq : Key → Bool) (ff : ∀ w1, Kp emp w w1 → ∀ (e0 : Key) (x0 : GoT.X Key), GoT.ok n e0 → All (hp w1) (GoT.fa .der e0 x0) → Does Tryz.prog fg ([Value.agg ⟨GoT.sh e0 x0⟩] ++ fc).toArray w1 emp (fun rv _ => rv = .bool (fq e0) ∧ True)) (hoks : GoT.ok n s) :
  Does Tryz.prog 279 #[.slice ps ((s).length) cs, .func (.func fg) #[] fc.toArray] w emp (fun (rv : Value) (_ : World) => rv = .bool (slices_ContainsFunc_Key s fq) ∧ True) := by
 have hbP := bd_pos n
 have hbB := bd_big (n := n) (by omega)
 refine WX.enter (tt := tt) (Γ := [(0, MF.rs .stb ps cs s)]) Tryz.func279 rfl (by kernel_rfl) rfl (allS_cons rfl N0 allS_nil) ?_
 refine R0 ?_
 refine WX.callV rfl rfl rfl rfl rfl (fun _ => rfl) rfl (fun w G bs hI hΓ => f341 w n (by omega) s ps cs (hΓ.get 0 rfl) fg fc fq (fun w1_ hb_ => ff w1_ (hI.keep.trans hb_)) hoks) ?_
 intro hq1
 have q1 := ltI_slices_IndexFunc_Key s fq
 refine R0 ?_
 have hP1 : slices_ContainsFunc_Key s fq = (decide ((slices_IndexFunc_Key s fq) ≥ 0)) := by simp only [slices_ContainsFunc_Key, ct, cf]
 exact R3 hP1
theorem f392 (w : World) (n : Nat) (hn : n + 0 ≤ 9) (s : (List Rule)) (ps : Option Addr) (cs : Nat) (N0 : RdSl (hp w) ps cs s) (fg : FuncId) (fc : List Value) (fq : Rule → Bool) (ff : ∀ w1, Kp emp w w1 → ∀ (e0 : Rule) (x0 : GoT.X Rule), GoT.ok n e0 → All (hp w1) (GoT.fa .der e0 x0) → Does Tryz.prog fg ([Value.agg ⟨GoT.sh e0 x0⟩] ++ fc).toArray w1 emp (fun rv _ => rv = .bool (fq e0) ∧ True)) (hoks : GoT.ok n s) :
  Does Tryz.prog 392 #[.slice ps ((s).length) cs, .func (.func fg) #[] fc.toArray] w emp (fun (rv : Value) (_ : World) => rv = .int .i64 ((slices_IndexFunc_Rule s fq)) ∧ GoT.ok n ((slices_IndexFunc_Rule s fq) : Int)) := by
 have hbP := bd_pos n
 have hbB := bd_big (n := n) (by omega)
 refine WX.enter (tt := tt) (Γ := [(0, MF.rs .stb ps cs s)]) Tryz.func392 rfl (by kernel_rfl) rfl (allS_cons rfl N0 allS_nil) ?_
 refine R0 ?_
 have r1 : (s).length ≤ bd n := (okl hoks).1
 refine WX.loop (ι := Nat) ⟨fun i => (i ≤ (s).length) ∧ (slices_IndexFunc_Rule_L1 fq s 0 = slices_IndexFunc_Rule_L1 fq ((s).drop i) i), fun i => (s).length - i, fun i => [(8, .v (.int .i64 (((i : Nat) : Int)))), (7, .v (.int .i64 ((((s).length : Nat) : Int)))), (0, .v (.slice ps ((s).length) cs)), (1, .v (.func (.func fg) #[] fc.toArray))], fun i => [], fun i => [], fun i => [(0, MF.rs .stb ps cs s)]⟩ 0 ⟨(Nat.zero_le _), rfl⟩
  (.cons rfl (.cons rfl (.cons rfl (.cons rfl (.nil))))) .nil .nil [0] rfl ?_
 rintro i hpre
 have hpre_ : (i ≤ (s).length) ∧ (slices_IndexFunc_Rule_L1 fq s 0 = slices_IndexFunc_Rule_L1 fq ((s).drop i) i) := hpre
 clear hpre
 obtain ⟨v1, v2⟩ := hpre_
 refine R0 ?_
 refine WX.cases 9 rfl (fun h1 => ?_) (fun h1 => ?_)
 ·skip
  have h1d := B.dt h1
  have e1i : i < (s).length := (by omega)
  obtain ⟨e1, e1h⟩ : ∃ e1, (s)[i]? = some e1 := ⟨_, List.getElem?_eq_getElem e1i⟩
  have ok1 : GoT.ok n e1 := (okl hoks).2 _ (List.mem_of_getElem? e1h)
  refine R0 ?_
  refine WX.idx 0 i ttOk rfl rfl rfl rfl rfl rfl rfl rfl rfl rfl e1i ?_
  rintro ad1 rfl
  refine WX.ldE 0 1 e1 ttOk rfl rfl rfl rfl rfl rfl rfl rfl e1h (fun _ => rfl) (fun _ => rfl) ?_
  rintro ⟨⟨p1, c1⟩, ⟨p2, c2⟩⟩
  refine WX.callV rfl rfl rfl rfl rfl (fun _ => rfl) rfl (fun w G bs hI hΓ => ff w hI.keep e1 ((p1, c1), (p2, c2)) ok1 (All.cons (hΓ.get 1 rfl : RdSl _ _ _ _) (All.cons (hΓ.get 2 rfl : RdSl _ _ _ _) All.nil))) ?_
  intro hq1
  refine R0 ?_
  refine WX.cases 16 rfl (fun h2 => ?_) (fun h2 => ?_)
  ·skip
   refine R0 ?_
   have hP1 : slices_IndexFunc_Rule_L1 fq s 0 = (some ((i : Nat) : Int)) := by rw [v2, drop_get e1h]; simp only [slices_IndexFunc_Rule_L1, h2, ct, cf]
   have hP2 : slices_IndexFunc_Rule s fq = ((i : Nat) : Int) := by simp only [slices_IndexFunc_Rule, hP1, ct, cf]
   refine R1 ?_
   intro w1 G bs hI hΓ
   rw [hP2]
   exact ⟨rfl, (show I64 ((i : Nat) : Int) from (by unfold I64; omega))⟩
  ·skip
   refine R0 ?_
   refine WX.see rfl rfl rfl (fun _ hΓ => looks_arith rfl rfl rfl rfl (by unfold I64; first | omega | (simp only [List.length_take] at *; omega))) ?_
   refine R0 ?_
   exact WX.iter (i + 1) ⟨(by omega), (by rw [v2, drop_get e1h]; simp only [slices_IndexFunc_Rule_L1, h2, ct, cf])⟩ (by first | (dsimp only; omega) | omega) (.cons rfl (.cons rfl (.cons rfl (.cons rfl (.nil))))) .nil .nil [0] rfl
 ·skip
  have h1d := B.df h1
  refine R0 ?_
  have hX1 : slices_IndexFunc_Rule_L1 fq s 0 = none := by rw [v2, List.drop_eq_nil_of_le (show (s).length ≤ i by omega)]; simp only [slices_IndexFunc_Rule_L1, ct, cf]
  have hP3 : slices_IndexFunc_Rule s fq = (-1) := by simp only [slices_IndexFunc_Rule, hX1, ct, cf]
  refine R1 ?_
  intro w1 G bs hI hΓ
  rw [hP3]
  exact ⟨rfl, (show I64 (-1) from (by unfold I64; omega))⟩
theorem ltL_slices_IndexFunc_Rule : ∀ (f : Rule → Bool) (l : List Rule) (i : Nat) (j : Int), slices_IndexFunc_Rule_L1 f l i = some j → j < ((i + l.length : Nat) : Int)
  | f, [], i, j, h => by cases h
  | f, x :: l, i, j, h => by
    simp only [slices_IndexFunc_Rule_L1] at h
    cases hx : f x
    · rw [hx, cond_false] at h
      have := ltL_slices_IndexFunc_Rule f l (i + 1) j h
      simp only [List.length_cons]; omega
    · rw [hx, cond_true] at h
      cases h
      simp only [List.length_cons]; omega
theorem ltI_slices_IndexFunc_Rule (l : List Rule) (f : Rule → Bool) : slices_IndexFunc_Rule l f < ((l.length : Nat) : Int) := by
  unfold slices_IndexFunc_Rule
  cases h : slices_IndexFunc_Rule_L1 f l 0 with
  | none => show (-1 : Int) < _; omega
  | some j => have := ltL_slices_IndexFunc_Rule f l 0 j h; show j < _; omega
theorem f343 (w : World) (n : Nat) (hn : n + 0 ≤ 9) (s : (List Rule)) (ps : Option Addr) (cs : Nat) (N0 : RdSl (hp w) ps cs s) (fg : FuncId) (fc : List Value) (fq : Rule → Bool) (ff : ∀ w1, Kp emp w w1 → ∀ (e0 : Rule) (x0 : GoT.X Rule), GoT.ok n e0 → All (hp w1) (GoT.fa .der e0 x0) → Does Tryz.prog fg ([Value.agg ⟨GoT.sh e0 x0⟩] ++ fc).toArray w1 emp (fun rv _ => rv = .bool (fq e0) ∧ True)) (hoks : GoT.ok n s) :
  Does Tryz.prog 343 #[.slice ps ((s).length) cs, .func (.func fg) #[] fc.toArray] w emp (fun (rv : Value) (_ : World) => rv = .bool (slices_ContainsFunc_Rule s fq) ∧ True) := by
 have hbP := bd_pos n
 have hbB := bd_big (n := n) (by omega)
 refine WX.enter (tt := tt) (Γ := [(0, MF.rs .stb ps cs s)]) Tryz.func343 rfl (by kernel_rfl) rfl (allS_cons rfl N0 allS_nil) ?_
 refine R0 ?_
 refine WX.callV rfl rfl rfl rfl rfl (fun _ => rfl) rfl (fun w G bs hI hΓ => f392 w n (by omega) s ps cs (hΓ.get 0 rfl) fg fc fq (fun w1_ hb_ => ff w1_ (hI.keep.trans hb_)) hoks) ?_
 intro hq1
 have q1 := ltI_slices_IndexFunc_Rule s fq
 refine R0 ?_
 have hP1 : slices_ContainsFunc_Rule s fq = (decide ((slices_IndexFunc_Rule s fq) ≥ 0)) := by simp only [slices_ContainsFunc_Rule, ct, cf]
 exact R3 hP1
theorem f283 (w : World) (n : Nat) (hn : n + 0 ≤ 9) (s : (List DataP)) (ps : Option Addr) (cs : Nat) (N0 : RdSl (hp w) ps cs s) (fg : FuncId) (fc : List Value) (fq : DataP → Bool) (ff : ∀ w1, Kp emp w w1 → ∀ (e0 : DataP) (x0 : GoT.X DataP), GoT.ok n e0 → All (hp w1) (GoT.fa .der e0 x0) → Does Tryz.prog fg ([Value.agg ⟨GoT.sh e0 x0⟩] ++ fc).toArray w1 emp (fun rv _ => rv = .bool (fq e0) ∧ True)) (hoks : GoT.ok n s) :
  Does Tryz.prog 283 #[.slice ps ((s).length) cs, .func (.func fg) #[] fc.toArray] w emp (fun (rv : Value) (_ : World) => rv = .bool (slices_ContainsFunc_Data s fq) ∧ True) := by
 have hbP := bd_pos n
 have hbB := bd_big (n := n) (by omega)
 refine WX.enter (tt := tt) (Γ := [(0, MF.rs .stb ps cs s)]) Tryz.func283 rfl (by kernel_rfl) rfl (allS_cons rfl N0 allS_nil) ?_
 refine R0 ?_
 refine WX.callV rfl rfl rfl rfl rfl (fun _ => rfl) rfl (fun w G bs hI hΓ => f212 w n (by omega) s ps cs (hΓ.get 0 rfl) fg fc fq (fun w1_ hb_ => ff w1_ (hI.keep.trans hb_)) hoks) ?_
 intro hq1
 refine R0 ?_
 have hP1 : slices_ContainsFunc_Data s fq = (decide ((slices_IndexFunc_Data s fq) ≥ 0)) := by simp only [slices_ContainsFunc_Data, ct, cf]
 exact R3 hP1
theorem f344 (w : World) (n : Nat) (hn : n + 0 ≤ 9) (r : Rule) (K0 : Option Addr) (M0 : Nat) (N0 : RdSl (hp w) K0 M0 r.dataPattern.parts) (K1 : Option Addr) (M1 : Nat) (N1 : RdSl (hp w) K1 M1 r.keyPattern.parts) (hokr : GoT.ok n r) :
  Does Tryz.prog 344 #[.agg #[.slice K0 ((r.dataPattern.parts).length) M0, .slice K1 ((r.keyPattern.parts).length) M1]] w emp (fun (rv : Value) (_ : World) => rv = .bool (impl_ValidRules_c1 r) ∧ True) := by
 have hbP := bd_pos n
 have hbB := bd_big (n := n) (by omega)
 refine WX.enter (tt := tt) (Γ := [(0, MF.rs .stb K0 M0 r.dataPattern.parts), (1, MF.rs .stb K1 M1 r.keyPattern.parts)]) Tryz.func344 rfl (by kernel_rfl) rfl (allS_cons rfl N0 (allS_cons rfl N1 allS_nil)) ?_
 refine R0 ?_
 refine WX.callV rfl rfl rfl rfl rfl (fun _ => rfl) rfl (fun w G bs hI hΓ => f345 w n (by omega) r K0 M0 (hΓ.get 0 rfl) K1 M1 (hΓ.get 1 rfl) hokr) ?_
 intro hq1
 refine R0 ?_
 have hP1 : impl_ValidRules_c1 r = (!(impl_ValidRule r)) := by simp only [impl_ValidRules_c1, ct, cf]
 exact R3 hP1
theorem f282 (w : World) (n : Nat) (hn : n + 0 ≤ 9) (l : (List Rule)) (pl : Option Addr) (cl : Nat) (N0 : RdSl (hp w) pl cl l) (hokl : GoT.ok n l) :
  Does Tryz.prog 282 #[.slice pl ((l).length) cl] w emp (fun (rv : Value) (_ : World) => rv = .bool (impl_ValidRules l) ∧ True) := by
 have hbP := bd_pos n
 have hbB := bd_big (n := n) (by omega)
 refine WX.enter (tt := tt) (Γ := [(0, MF.rs .stb pl cl l)]) Tryz.func282 rfl (by kernel_rfl) rfl (allS_cons rfl N0 allS_nil) ?_
 refine R0 ?_
 refine WX.cases 6 rfl (fun h1 => ?_) (fun h1 => ?_)
 ·skip
  have h1d := B.dt h1
  refine R0 ?_
  refine WX.callV rfl rfl rfl rfl rfl (fun _ => rfl) rfl (fun w G bs hI hΓ => f343 w n (by omega) l pl cl (hΓ.get 0 rfl) 344 [] (fun e0_ => (impl_ValidRules_c1 e0_)) (fun w1_ hb_ e0_ x0_ hk0_ hx0_ => f344 w1_ n (by omega) e0_ x0_.1.1 x0_.1.2 (hx0_ _ List.mem_cons_self) x0_.2.1 x0_.2.2 (hx0_ (MF.rs .der x0_.2.1 x0_.2.2 e0_.keyPattern.parts) (by simp [GoT.fa])) hk0_) hokl) ?_
  intro hq1
  refine R0 ?_
  have hP1 : impl_ValidRules l = (!(slices_ContainsFunc_Rule l (fun e0_ => (impl_ValidRules_c1 e0_)))) := by simp only [impl_ValidRules, h1, ct, cf]
  exact R3 hP1
 ·skip
  have h1d := B.df h1
  refine R0 ?_
  have hP2 : impl_ValidRules l = false := by simp only [impl_ValidRules, h1, ct, cf]
  exact R3 hP2
theorem f267 (w : World) (n : Nat) (hn : n + 0 ≤ 9) (l : (List Rule)) (pl : Option Addr) (cl : Nat) (N0 : RdSl (hp w) pl cl l) (hokl : GoT.ok n l) :
  Does Tryz.prog 267 #[.slice pl ((l).length) cl] w emp (fun (rv : Value) (_ : World) => rv = .bool (spec_ValidRules l) ∧ True) := by
 have hbP := bd_pos n
 have hbB := bd_big (n := n) (by omega)
 refine WX.enter (tt := tt) (Γ := [(0, MF.rs .stb pl cl l)]) Tryz.func267 rfl (by kernel_rfl) rfl (allS_cons rfl N0 allS_nil) ?_
 refine R0 ?_
 have r1 : (l).length ≤ bd n := (okl hokl).1
 refine WX.loop (ι := Nat) ⟨fun i => (i ≤ (l).length) ∧ (spec_ValidRules_L1 l = spec_ValidRules_L1 ((l).drop i)), fun i => (l).length - i, fun i => [(3, .v (.int .i64 (((i : Nat) : Int)))), (0, .v (.slice pl ((l).length) cl))], fun i => [], fun i => [], fun i => [(0, MF.rs .stb pl cl l)]⟩ 0 ⟨(Nat.zero_le _), rfl⟩
  (.cons rfl (.cons rfl (.nil))) .nil .nil [0] rfl ?_
 rintro i hpre
 have hpre_ : (i ≤ (l).length) ∧ (spec_ValidRules_L1 l = spec_ValidRules_L1 ((l).drop i)) := hpre
 clear hpre
 obtain ⟨v1, v2⟩ := hpre_
 refine R0 ?_
 refine WX.cases 7 rfl (fun h1 => ?_) (fun h1 => ?_)
 ·skip
  have h1d := B.dt h1
  have e1i : i < (l).length := (by omega)
  obtain ⟨e1, e1h⟩ : ∃ e1, (l)[i]? = some e1 := ⟨_, List.getElem?_eq_getElem e1i⟩
  have ok1 : GoT.ok n e1 := (okl hokl).2 _ (List.mem_of_getElem? e1h)
  refine R0 ?_
  refine WX.idx 0 i ttOk rfl rfl rfl rfl rfl rfl rfl rfl rfl rfl e1i ?_
  rintro ad1 rfl
  refine WX.ldE 0 1 e1 ttOk rfl rfl rfl rfl rfl rfl rfl rfl e1h (fun _ => rfl) (fun _ => rfl) ?_
  rintro ⟨⟨p1, c1⟩, ⟨p2, c2⟩⟩
  refine WX.callV rfl rfl rfl rfl rfl (fun _ => rfl) rfl (fun w G bs hI hΓ => f326 w n (by omega) e1 p1 c1 (hΓ.get 1 rfl) p2 c2 (hΓ.get 2 rfl) ok1) ?_
  intro hq1
  refine R0 ?_
  refine WX.cases 15 rfl (fun h2 => ?_) (fun h2 => ?_)
  ·skip
   have h2d := (B.nt h2)
   refine R0 ?_
   have hP1 : spec_ValidRules_L1 l = (some false) := by rw [v2, drop_get e1h]; simp only [spec_ValidRules_L1, h2, ct, cf]
   have hP2 : spec_ValidRules l = false := by simp only [spec_ValidRules, hP1, ct, cf]
   exact R3 hP2
  ·skip
   have h2d := (B.nf h2)
   refine R0 ?_
   refine WX.see rfl rfl rfl (fun _ hΓ => looks_arith rfl rfl rfl rfl (by unfold I64; first | omega | (simp only [List.length_take] at *; omega))) ?_
   refine R0 ?_
   exact WX.iter (i + 1) ⟨(by omega), (by rw [v2, drop_get e1h]; simp only [spec_ValidRules_L1, h2, ct, cf])⟩ (by first | (dsimp only; omega) | omega) (.cons rfl (.cons rfl (.nil))) .nil .nil [0] rfl
 ·skip
  have h1d := B.df h1
  refine R0 ?_
  have hX1 : spec_ValidRules_L1 l = none := by rw [v2, List.drop_eq_nil_of_le (show (l).length ≤ i by omega)]; simp only [spec_ValidRules_L1, ct, cf]
  have hP3 : spec_ValidRules l = (decide ((((l).length : Nat) : Int) ≤ 8)) := by simp only [spec_ValidRules, hX1, ct, cf]
  exact R3 hP3
theorem f281 (w : World) (n : Nat) (hn : n + 0 ≤ 9) (l : (List Key)) (pl : Option Addr) (cl : Nat) (N0 : RdSl (hp w) pl cl l) (hokl : GoT.ok n l) :
  Does Tryz.prog 281 #[.slice pl ((l).length) cl] w emp (fun (rv : Value) (_ : World) => rv = .bool (impl_ValidKeys l) ∧ True) := by
 have hbP := bd_pos n
 have hbB := bd_big (n := n) (by omega)
 refine WX.enter (tt := tt) (Γ := [(0, MF.rs .stb pl cl l)]) Tryz.func281 rfl (by kernel_rfl) rfl (allS_cons rfl N0 allS_nil) ?_
 refine R0 ?_
 have r1 : (l).length ≤ bd n := (okl hokl).1
 refine WX.loop (ι := Nat) ⟨fun i => (i ≤ (l).length) ∧ (impl_ValidKeys_L1 l l 0 = impl_ValidKeys_L1 l ((l).drop i) i), fun i => (l).length - i, fun i => [(9, .v (.int .i64 (((i : Nat) : Int)))), (8, .v (.int .i64 ((((l).length : Nat) : Int)))), (7, .v (.slice pl ((l).length) cl)), (0, .v (.slice pl ((l).length) cl))], fun i => [], fun i => [], fun i => [(0, MF.rs .stb pl cl l)]⟩ 0 ⟨(Nat.zero_le _), rfl⟩
  (.cons rfl (.cons rfl (.cons rfl (.cons rfl (.nil))))) .nil .nil [0] rfl ?_
 rintro i hpre
 have hpre_ : (i ≤ (l).length) ∧ (impl_ValidKeys_L1 l l 0 = impl_ValidKeys_L1 l ((l).drop i) i) := hpre
 clear hpre
 obtain ⟨v1, v2⟩ := hpre_
 refine R0 ?_
 refine WX.cases 10 rfl (fun h1 => ?_) (fun h1 => ?_)
 ·skip
  have h1d := B.dt h1
  have e1i : i < (l).length := (by omega)
  obtain ⟨e1, e1h⟩ : ∃ e1, (l)[i]? = some e1 := ⟨_, List.getElem?_eq_getElem e1i⟩
  have ok1 : GoT.ok n e1 := (okl hokl).2 _ (List.mem_of_getElem? e1h)
  refine R0 ?_
  refine WX.idx 0 i ttOk rfl rfl rfl rfl rfl rfl rfl rfl rfl rfl e1i ?_
  rintro ad1 rfl
  refine WX.ldE 0 1 e1 ttOk rfl rfl rfl rfl rfl rfl rfl rfl e1h (fun _ => rfl) (fun _ => rfl) ?_
  rintro ⟨⟨p1, c1⟩, ⟨⟩⟩
  refine R0 ?_
  refine WX.callV rfl rfl rfl rfl rfl (fun _ => rfl) rfl (fun w G bs hI hΓ => f103 w n (by omega) e1.name p1 c1 (hΓ.get 1 rfl) ((ok_Key ok1).1)) ?_
  intro hq1
  refine R0 ?_
  refine WX.cases 18 rfl (fun h2 => ?_) (fun h2 => ?_)
  ·skip
   have h2d := (B.nt h2)
   refine R0 ?_
   have hP1 : impl_ValidKeys_L1 l l 0 = (some false) := by rw [v2, drop_get e1h]; simp only [impl_ValidKeys_L1, h2, ct, cf]
   have hP2 : impl_ValidKeys l = false := by simp only [impl_ValidKeys, hP1, ct, cf]
   exact R3 hP2
  ·skip
   have h2d := (B.nf h2)
   refine R0 ?_
   refine WX.cases 25 rfl (fun h3 => ?_) (fun h3 => ?_)
   ·skip
    have h3d := B.et h3
    refine R0 ?_
    have hP3 : impl_ValidKeys_L1 l l 0 = (some false) := by rw [v2, drop_get e1h]; simp only [impl_ValidKeys_L1, h2, h3, ct, cf]
    have hP4 : impl_ValidKeys l = false := by simp only [impl_ValidKeys, hP3, ct, cf]
    exact R3 hP4
   ·skip
    have h3d := B.ef h3
    refine R0 ?_
    refine WX.callV rfl rfl rfl rfl rfl (fun _ => rfl) rfl (fun w G bs hI hΓ => f342 w n (by omega) e1.secret ((ok_Key ok1).2)) ?_
    intro hq2
    refine R0 ?_
    refine WX.cases 30 rfl (fun h4 => ?_) (fun h4 => ?_)
    ·skip
     have h4d := (B.nt h4)
     refine R0 ?_
     have hP5 : impl_ValidKeys_L1 l l 0 = (some false) := by rw [v2, drop_get e1h]; simp only [impl_ValidKeys_L1, h2, h3, h4, ct, cf]
     have hP6 : impl_ValidKeys l = false := by simp only [impl_ValidKeys, hP5, ct, cf]
     exact R3 hP6
    ·skip
     have h4d := (B.nf h4)
     refine R0 ?_
     refine WX.see rfl rfl rfl (fun _ hΓ => looks_slH i ttOk rfl rfl rfl rfl (by simp) (Nat.le_trans (show i ≤ (l).length from (by omega)) (hΓ.get 0 rfl : RdSl _ _ _ _).1)) ?_
     refine WX.slot 33 (y := .v (.slice (some ad1) (((List.take i l)).length) cl)) rfl (fun _ => by rw [show ((List.take i l)).length = i from (by simp only [List.length_take]; have z_ := (show i ≤ (l).length from (by omega)); omega)]) ?_
     refine WX.stb 2 (MF.rs .stb (some ad1) cl (List.take i l)) rfl 0 rfl rfl (fun _ h => RdSl.pre h i) ?_
     refine R0 ?_
     refine WX.loop (ι := Nat) ⟨fun i2 => (i2 ≤ ((List.take i l)).length) ∧ (impl_ValidKeys_L2 e1 (List.take i l) = impl_ValidKeys_L2 e1 (((List.take i l)).drop i2)), fun i2 => ((List.take i l)).length - i2, fun i2 => [(35, .v (.int .i64 (((i2 : Nat) : Int)))), (34, .v (.int .i64 (((((List.take i l)).length : Nat) : Int)))), (33, .v (.slice (some ad1) (((List.take i l)).length) cl)), (29, .v (.bool (!(impl_ValidSecret e1.secret)))), (28, .v (.bool (impl_ValidSecret e1.secret))), (27, .v (.int .i64 (e1.secret))), (26, .p 4 1), (23, .v (.bool ((((e1.name.parts).length : Nat) : Int) == 0))), (22, .v (.int .i64 ((((e1.name.parts).length : Nat) : Int)))), (21, .v (.slice p1 ((e1.name.parts).length) c1)), (20, .p 4 0), (19, .p 4 0), (4, .p 4 0), (9, .v (.int .i64 (((i : Nat) : Int)))), (8, .v (.int .i64 ((((l).length : Nat) : Int)))), (7, .v (.slice (some ad1) ((l).length) cl)), (0, .v (.slice (some ad1) ((l).length) cl))], fun i2 => [(4, ⟨276, [.slice p1 ((e1.name.parts).length) c1, .int .i64 (e1.secret)]⟩)], fun i2 => [], fun i2 => [(0, MF.rs .stb (some ad1) cl l), (1, MF.rs .stb p1 c1 e1.name.parts), (2, MF.rs .stb (some ad1) cl (List.take i l))]⟩ 0 ⟨(Nat.zero_le _), rfl⟩
      (.cons rfl (.cons rfl (.cons rfl (.cons rfl (.cons rfl (.cons rfl (.cons rfl (.cons rfl (.cons rfl (.cons rfl (.cons rfl (.cons rfl (.cons rfl (.cons rfl (.cons rfl (.cons rfl (.cons rfl (.nil)))))))))))))))))) (.cons rfl (.nil)) .nil [0, 1, 2] rfl ?_
     rintro i2 hpre
     have hpre_ : (i2 ≤ ((List.take i l)).length) ∧ (impl_ValidKeys_L2 e1 (List.take i l) = impl_ValidKeys_L2 e1 (((List.take i l)).drop i2)) := hpre
     clear hpre
     obtain ⟨v3, v4⟩ := hpre_
     refine R0 ?_
     refine WX.cases 36 rfl (fun h5 => ?_) (fun h5 => ?_)
     ·skip
      have h5d := B.dt h5
      have e2i : i2 < ((List.take i l)).length := (by omega)
      obtain ⟨e2, e2h⟩ : ∃ e2, ((List.take i l))[i2]? = some e2 := ⟨_, List.getElem?_eq_getElem e2i⟩
      have ok2 : GoT.ok n e2 := (fun a ha => (okl hokl).2 a (List.mem_of_mem_take ha)) _ (List.mem_of_getElem? e2h)
      refine R0 ?_
      refine WX.idx 2 i2 ttOk rfl rfl rfl rfl rfl rfl rfl rfl rfl rfl e2i ?_
      rintro ad2 ⟨⟩
      refine WX.ldE 2 3 e2 ttOk rfl rfl rfl rfl rfl rfl rfl rfl e2h (fun _ => rfl) (fun _ => rfl) ?_
      rintro ⟨⟨p2, c2⟩, ⟨⟩⟩
      refine R0 ?_
      refine WX.callV rfl rfl rfl rfl rfl (fun _ => rfl) rfl (fun w G bs hI hΓ => f100 w n (by omega) e2.name p2 c2 (hΓ.get 3 rfl) e1.name p1 c1 (hΓ.get 1 rfl) ((ok_Key ok2).1) ((ok_Key ok1).1)) ?_
      intro hq3
      refine R0 ?_
      refine WX.cases 44 rfl (fun h6 => ?_) (fun h6 => ?_)
      ·skip
       refine R0 ?_
       have hP7 : impl_ValidKeys_L2 e1 (List.take i l) = (some false) := by rw [v4, drop_get e2h]; simp only [impl_ValidKeys_L2, h6, ct, cf]
       have hP8 : impl_ValidKeys_L1 l l 0 = (some false) := by rw [v2, drop_get e1h]; simp only [impl_ValidKeys_L1, h2, h3, h4, hP7, ct, cf]
       have hP9 : impl_ValidKeys l = false := by simp only [impl_ValidKeys, hP8, ct, cf]
       exact R3 hP9
      ·skip
       refine R0 ?_
       refine WX.cases 50 rfl (fun h7 => ?_) (fun h7 => ?_)
       ·skip
        have h7d := B.et h7
        refine R0 ?_
        have hP10 : impl_ValidKeys_L2 e1 (List.take i l) = (some false) := by rw [v4, drop_get e2h]; simp only [impl_ValidKeys_L2, h6, h7, ct, cf]
        have hP11 : impl_ValidKeys_L1 l l 0 = (some false) := by rw [v2, drop_get e1h]; simp only [impl_ValidKeys_L1, h2, h3, h4, hP10, ct, cf]
        have hP12 : impl_ValidKeys l = false := by simp only [impl_ValidKeys, hP11, ct, cf]
        exact R3 hP12
       ·skip
        have h7d := B.ef h7
        refine R0 ?_
        refine WX.see rfl rfl rfl (fun _ hΓ => looks_arith rfl rfl rfl rfl (by unfold I64; first | omega | (simp only [List.length_take] at *; omega))) ?_
        refine R0 ?_
        exact WX.iter (i2 + 1) ⟨(by omega), (by rw [v4, drop_get e2h]; simp only [impl_ValidKeys_L2, h6, h7, ct, cf])⟩ (by first | (dsimp only; omega) | omega) (.cons rfl (.cons rfl (.cons rfl (.cons rfl (.cons rfl (.cons rfl (.cons rfl (.cons rfl (.cons rfl (.cons rfl (.cons rfl (.cons rfl (.cons rfl (.cons rfl (.cons rfl (.cons rfl (.cons rfl (.nil)))))))))))))))))) (.cons rfl (.nil)) .nil [0, 1, 2] rfl
     ·skip
      have h5d := B.df h5
      refine R0 ?_
      have hX1 : impl_ValidKeys_L2 e1 (List.take i l) = none := by rw [v4, List.drop_eq_nil_of_le (show ((List.take i l)).length ≤ i2 by omega)]; simp only [impl_ValidKeys_L2, ct, cf]
      refine WX.see rfl rfl rfl (fun _ hΓ => looks_arith rfl rfl rfl rfl (by unfold I64; first | omega | (simp only [List.length_take] at *; omega))) ?_
      refine R0 ?_
      exact WX.iter (i + 1) ⟨(by omega), (by rw [v2, drop_get e1h]; simp only [impl_ValidKeys_L1, h2, h3, h4, hX1, ct, cf])⟩ (by first | (dsimp only; omega) | omega) (.cons rfl (.cons rfl (.cons rfl (.cons rfl (.nil))))) .nil .nil [0] rfl
 ·skip
  have h1d := B.df h1
  refine R0 ?_
  have hX2 : impl_ValidKeys_L1 l l 0 = none := by rw [v2, List.drop_eq_nil_of_le (show (l).length ≤ i by omega)]; simp only [impl_ValidKeys_L1, ct, cf]
  have hP13 : impl_ValidKeys l = (decide ((((l).length : Nat) : Int) ≤ 8)) := by simp only [impl_ValidKeys, hX2, ct, cf]
  exact R3 hP13
theorem f268 (w : World) (n : Nat) (hn : n + 0 ≤ 9) (l : (List Key)) (pl : Option Addr) (cl : Nat) (N0 : RdSl (hp w) pl cl l) (n_ : Name) (K1 : Option Addr) (M1 : Nat) (N1 : RdSl (hp w) K1 M1 n_.parts) (hokl : GoT.ok n l) (hokn_ : GoT.ok n n_) :
  Does Tryz.prog 268 #[.slice pl ((l).length) cl, .agg #[.slice K1 ((n_.parts).length) M1]] w emp (fun (rv : Value) (_ : World) => rv = .int .i64 ((spec_l9Find l n_)) ∧ GoT.ok n ((spec_l9Find l n_) : Int)) := by
 have hbP := bd_pos n
 have hbB := bd_big (n := n) (by omega)
 refine WX.enter (tt := tt) (Γ := [(0, MF.rs .stb pl cl l), (1, MF.rs .stb K1 M1 n_.parts)]) Tryz.func268 rfl (by kernel_rfl) rfl (allS_cons rfl N0 (allS_cons rfl N1 allS_nil)) ?_
 refine R0 ?_
 have r1 : (l).length ≤ bd n := (okl hokl).1
 refine WX.loop (ι := Nat) ⟨fun i => (i ≤ (l).length) ∧ (spec_l9Find_L1 n_ l 0 = spec_l9Find_L1 n_ ((l).drop i) i), fun i => (l).length - i, fun i => [(5, .v (.int .i64 (((i : Nat) : Int)))), (3, .p 3 0), (0, .v (.slice pl ((l).length) cl))], fun i => [(3, ⟨30, [.slice K1 ((n_.parts).length) M1]⟩)], fun i => [], fun i => [(0, MF.rs .stb pl cl l), (1, MF.rs .stb K1 M1 n_.parts)]⟩ 0 ⟨(Nat.zero_le _), rfl⟩
  (.cons rfl (.cons rfl (.cons rfl (.nil)))) (.cons rfl (.nil)) .nil [0, 1] rfl ?_
 rintro i hpre
 have hpre_ : (i ≤ (l).length) ∧ (spec_l9Find_L1 n_ l 0 = spec_l9Find_L1 n_ ((l).drop i) i) := hpre
 clear hpre
 obtain ⟨v1, v2⟩ := hpre_
 refine R0 ?_
 refine WX.cases 9 rfl (fun h1 => ?_) (fun h1 => ?_)
 ·skip
  have h1d := B.dt h1
  have e1i : i < (l).length := (by omega)
  obtain ⟨e1, e1h⟩ : ∃ e1, (l)[i]? = some e1 := ⟨_, List.getElem?_eq_getElem e1i⟩
  have ok1 : GoT.ok n e1 := (okl hokl).2 _ (List.mem_of_getElem? e1h)
  refine R0 ?_
  refine WX.draw [] mixed ?_
  intro bs G0 hΓ0
  refine DX.takes (fuel := 5) ttOk [(0, true), (1, true)] (by kernel_rfl) rfl ?_
  refine DX.idx 2 0 i ttOk hΓ0 (by kernel_rfl) rfl rfl rfl rfl rfl rfl rfl rfl rfl rfl rfl e1i ?_
  rintro ad1 rfl
  refine DX.takes (fuel := 3) ttOk [(3, true)] (by kernel_rfl) rfl ?_
  refine DX.ldE 4 0 2 e1 ttOk hΓ0 (by kernel_rfl) rfl rfl rfl rfl rfl rfl rfl rfl e1h (fun _ => rfl) (fun _ => rfl) ?_
  rintro ⟨⟨p1, c1⟩, ⟨⟩⟩
  refine DX.takes (fuel := 1) ttOk [(5, false)] (by kernel_rfl) rfl ?_
  refine DX.callV 6 rfl (by kernel_rfl) rfl rfl rfl rfl rfl rfl (fun _ => rfl) rfl (fun w G bs hI hΓ => f152 w n (by omega) e1.name p1 c1 (hΓ.get 2 rfl) n_ K1 M1 (hΓ.get 1 rfl) ((ok_Key ok1).1) hokn_) ?_
  intro hq1
  refine DX.tail2 [] rfl rfl (by kernel_rfl) ?_
  refine R0 ?_
  refine WX.cases 18 rfl (fun h2 => ?_) (fun h2 => ?_)
  ·skip
   refine R0 ?_
   have hP1 : spec_l9Find_L1 n_ l 0 = (some ((i : Nat) : Int)) := by rw [v2, drop_get e1h]; simp only [spec_l9Find_L1, h2, ct, cf]
   have hP2 : spec_l9Find l n_ = ((i : Nat) : Int) := by simp only [spec_l9Find, hP1, ct, cf]
   refine R1 ?_
   intro w1 G bs hI hΓ
   rw [hP2]
   exact ⟨rfl, (show I64 ((i : Nat) : Int) from (by unfold I64; omega))⟩
  ·skip
   refine R0 ?_
   refine WX.see rfl rfl rfl (fun _ hΓ => looks_arith rfl rfl rfl rfl (by unfold I64; first | omega | (simp only [List.length_take] at *; omega))) ?_
   refine R0 ?_
   exact WX.iter (i + 1) ⟨(by omega), (by rw [v2, drop_get e1h]; simp only [spec_l9Find_L1, h2, ct, cf])⟩ (by first | (dsimp only; omega) | omega) (.cons rfl (.cons rfl (.cons rfl (.nil)))) (.cons rfl (.nil)) .nil [0, 1] rfl
 ·skip
  have h1d := B.df h1
  refine R0 ?_
  have hX1 : spec_l9Find_L1 n_ l 0 = none := by rw [v2, List.drop_eq_nil_of_le (show (l).length ≤ i by omega)]; simp only [spec_l9Find_L1, ct, cf]
  have hP3 : spec_l9Find l n_ = (-1) := by simp only [spec_l9Find, hX1, ct, cf]
  refine R1 ?_
  intro w1 G bs hI hΓ
  rw [hP3]
  exact ⟨rfl, (show I64 (-1) from (by unfold I64; omega))⟩
theorem f266 (w : World) (n : Nat) (hn : n + 0 ≤ 9) (l : (List Key)) (pl : Option Addr) (cl : Nat) (N0 : RdSl (hp w) pl cl l) (hokl : GoT.ok n l) :
  Does Tryz.prog 266 #[.slice pl ((l).length) cl] w emp (fun (rv : Value) (_ : World) => rv = .bool (spec_ValidKeys l) ∧ True) := by
 have hbP := bd_pos n
 have hbB := bd_big (n := n) (by omega)
 refine WX.enter (tt := tt) (Γ := [(0, MF.rs .stb pl cl l)]) Tryz.func266 rfl (by kernel_rfl) rfl (allS_cons rfl N0 allS_nil) ?_
 refine R0 ?_
 have r1 : (l).length ≤ bd n := (okl hokl).1
 refine WX.loop (ι := Nat) ⟨fun i => (i ≤ (l).length) ∧ (spec_ValidKeys_L1 l l 0 = spec_ValidKeys_L1 l ((l).drop i) i), fun i => (l).length - i, fun i => [(3, .v (.int .i64 (((i : Nat) : Int)))), (0, .v (.slice pl ((l).length) cl))], fun i => [], fun i => [], fun i => [(0, MF.rs .stb pl cl l)]⟩ 0 ⟨(Nat.zero_le _), rfl⟩
  (.cons rfl (.cons rfl (.nil))) .nil .nil [0] rfl ?_
 rintro i hpre
 have hpre_ : (i ≤ (l).length) ∧ (spec_ValidKeys_L1 l l 0 = spec_ValidKeys_L1 l ((l).drop i) i) := hpre
 clear hpre
 obtain ⟨v1, v2⟩ := hpre_
 refine R0 ?_
 refine WX.cases 8 rfl (fun h1 => ?_) (fun h1 => ?_)
 ·skip
  have h1d := B.dt h1
  have e1i : i < (l).length := (by omega)
  obtain ⟨e1, e1h⟩ : ∃ e1, (l)[i]? = some e1 := ⟨_, List.getElem?_eq_getElem e1i⟩
  have ok1 : GoT.ok n e1 := (okl hokl).2 _ (List.mem_of_getElem? e1h)
  refine R0 ?_
  refine WX.draw [] mixed ?_
  intro bs G0 hΓ0
  refine DX.takes (fuel := 36) ttOk [(0, true), (1, true)] (by kernel_rfl) rfl ?_
  refine DX.idx 2 0 i ttOk hΓ0 (by kernel_rfl) rfl rfl rfl rfl rfl rfl rfl rfl rfl rfl rfl e1i ?_
  rintro ad1 rfl
  refine DX.takes (fuel := 34) ttOk [(3, true)] (by kernel_rfl) rfl ?_
  refine DX.ldE 4 0 1 e1 ttOk hΓ0 (by kernel_rfl) rfl rfl rfl rfl rfl rfl rfl rfl e1h (fun _ => rfl) (fun _ => rfl) ?_
  rintro ⟨⟨p1, c1⟩, ⟨⟩⟩
  refine DX.callV 5 rfl (by kernel_rfl) rfl rfl rfl rfl rfl rfl (fun _ => rfl) rfl (fun w G bs hI hΓ => f106 w n (by omega) e1.name p1 c1 (hΓ.get 1 rfl) ((ok_Key ok1).1)) ?_
  intro hq1
  refine DX.takes (fuel := 30) ttOk [(6, true), (7, true)] (by kernel_rfl) rfl ?_
  refine DX.cases 18 rfl (fun h2 => ?_) (fun h2 => ?_)
  ·skip
   have h2d := (B.nt h2)
   refine DX.takes (fuel := 0) ttOk [(8, true), (9, true), (10, true), (11, true), (12, true), (13, true), (14, true), (15, true), (16, true), (17, true), (18, true), (19, true), (20, true), (21, true), (22, true), (23, true), (24, true), (25, true), (26, true), (27, true), (28, true), (29, true), (30, true), (31, true), (32, true), (33, true), (34, true), (35, true), (36, true), (37, true)] (by kernel_rfl) rfl ?_
   refine DX.tail2 [] rfl rfl (by kernel_rfl) ?_
   refine R0 ?_
   have hP1 : spec_ValidKeys_L1 l l 0 = (some false) := by rw [v2, drop_get e1h]; simp only [spec_ValidKeys_L1, h2, ct, cf]
   have hP2 : spec_ValidKeys l = false := by simp only [spec_ValidKeys, hP1, ct, cf]
   exact R3 hP2
  ·skip
   have h2d := (B.nf h2)
   refine DX.takes (fuel := 28) ttOk [(8, true), (9, true)] (by kernel_rfl) rfl ?_
   refine DX.idx 10 0 i ttOk hΓ0 (by kernel_rfl) rfl rfl rfl rfl rfl rfl rfl rfl rfl rfl rfl e1i ?_
   rintro ad2 ⟨⟩
   refine DX.takes (fuel := 25) ttOk [(11, true), (12, true)] (by kernel_rfl) rfl ?_
   refine DX.ldE 13 0 2 e1 ttOk hΓ0 (by kernel_rfl) rfl rfl rfl rfl rfl rfl rfl rfl e1h (fun _ => rfl) (fun _ => rfl) ?_
   rintro ⟨⟨p2, c2⟩, ⟨⟩⟩
   refine DX.takes (fuel := 20) ttOk [(14, true), (15, true), (16, true), (17, true)] (by kernel_rfl) rfl ?_
   refine DX.cases 28 rfl (fun h3 => ?_) (fun h3 => ?_)
   ·skip
    have h3d := B.et h3
    refine DX.takes (fuel := 0) ttOk [(18, true), (19, true), (20, true), (21, true), (22, true), (23, true), (24, true), (25, true), (26, true), (27, true), (28, true), (29, true), (30, true), (31, true), (32, true), (33, true), (34, true), (35, true), (36, true), (37, true)] (by kernel_rfl) rfl ?_
    refine DX.tail2 [] rfl rfl (by kernel_rfl) ?_
    refine R0 ?_
    have hP3 : spec_ValidKeys_L1 l l 0 = (some false) := by rw [v2, drop_get e1h]; simp only [spec_ValidKeys_L1, h2, h3, ct, cf]
    have hP4 : spec_ValidKeys l = false := by simp only [spec_ValidKeys, hP3, ct, cf]
    exact R3 hP4
   ·skip
    have h3d := B.ef h3
    refine DX.takes (fuel := 18) ttOk [(18, true), (19, true)] (by kernel_rfl) rfl ?_
    refine DX.idx 20 0 i ttOk hΓ0 (by kernel_rfl) rfl rfl rfl rfl rfl rfl rfl rfl rfl rfl rfl e1i ?_
    rintro ad3 ⟨⟩
    refine DX.takes (fuel := 16) ttOk [(21, true)] (by kernel_rfl) rfl ?_
    refine DX.ldE 22 0 3 e1 ttOk hΓ0 (by kernel_rfl) rfl rfl rfl rfl rfl rfl rfl rfl e1h (fun _ => rfl) (fun _ => rfl) ?_
    rintro ⟨⟨p3, c3⟩, ⟨⟩⟩
    refine DX.callV 23 rfl (by kernel_rfl) rfl rfl rfl rfl rfl rfl (fun _ => rfl) rfl (fun w G bs hI hΓ => f325 w n (by omega) e1.secret ((ok_Key ok1).2)) ?_
    intro hq2
    refine DX.takes (fuel := 11) ttOk [(24, true), (25, true), (26, true)] (by kernel_rfl) rfl ?_
    refine DX.cases 37 rfl (fun h4 => ?_) (fun h4 => ?_)
    ·skip
     have h4d := (B.nt h4)
     refine DX.takes (fuel := 0) ttOk [(27, true), (28, true), (29, true), (30, true), (31, true), (32, true), (33, true), (34, true), (35, true), (36, true), (37, true)] (by kernel_rfl) rfl ?_
     refine DX.tail2 [] rfl rfl (by kernel_rfl) ?_
     refine R0 ?_
     have hP5 : spec_ValidKeys_L1 l l 0 = (some false) := by rw [v2, drop_get e1h]; simp only [spec_ValidKeys_L1, h2, h3, h4, ct, cf]
     have hP6 : spec_ValidKeys l = false := by simp only [spec_ValidKeys, hP5, ct, cf]
     exact R3 hP6
    ·skip
     have h4d := (B.nf h4)
     refine DX.takes (fuel := 9) ttOk [(27, true), (28, true)] (by kernel_rfl) rfl ?_
     refine DX.seeP 29 (by kernel_rfl) rfl rfl rfl rfl (looksP_slH i ttOk rfl rfl rfl rfl (by simp) (Nat.le_trans (show i ≤ (l).length from (by omega)) (hΓ0.get 0 rfl : RdSl _ _ _ _).1)) ?_
     refine DX.slot 40 (y := .v (.slice (some ad1) (((List.take i l)).length) cl)) rfl (fun _ => by rw [show ((List.take i l)).length = i from (by simp only [List.length_take]; have z_ := (show i ≤ (l).length from (by omega)); omega)]) ?_
     refine DX.der 4 (MF.rs .der (some ad1) cl (List.take i l)) rfl (fun _ hΓ => RdSl.pre (hΓ.get 0 rfl : RdSl _ _ _ _) i) ?_
     refine DX.takes (fuel := 6) ttOk [(30, true), (31, true)] (by kernel_rfl) rfl ?_
     refine DX.idx 32 0 i ttOk hΓ0 (by kernel_rfl) rfl rfl rfl rfl rfl rfl rfl rfl rfl rfl rfl e1i ?_
     rintro ad4 ⟨⟩
     refine DX.takes (fuel := 4) ttOk [(33, true)] (by kernel_rfl) rfl ?_
     refine DX.ldE 34 0 5 e1 ttOk hΓ0 (by kernel_rfl) rfl rfl rfl rfl rfl rfl rfl rfl e1h (fun _ => rfl) (fun _ => rfl) ?_
     rintro ⟨⟨p4, c4⟩, ⟨⟩⟩
     refine DX.callV 35 rfl (by kernel_rfl) rfl rfl rfl rfl rfl rfl (fun _ => rfl) rfl (fun w G bs hI hΓ => f268 w n (by omega) (List.take i l) (some ad1) cl (hΓ.get 4 rfl) e1.name p4 c4 (hΓ.get 5 rfl) (okl_mk (by first | assumption | omega | (simp; omega)) (fun a ha => (okl hokl).2 a (List.mem_of_mem_take ha)) : GoT.ok n ((List.take i l) : List Key)) ((ok_Key ok1).1)) ?_
     intro hq3
     refine DX.takes (fuel := 0) ttOk [(36, true), (37, true)] (by kernel_rfl) rfl ?_
     refine DX.tail2 [] rfl rfl (by kernel_rfl) ?_
     refine R0 ?_
     refine WX.cases 48 rfl (fun h5 => ?_) (fun h5 => ?_)
     ·skip
      have h5d := B.dt h5
      refine R0 ?_
      have hP7 : spec_ValidKeys_L1 l l 0 = (some false) := by rw [v2, drop_get e1h]; simp only [spec_ValidKeys_L1, h2, h3, h4, h5, ct, cf]
      have hP8 : spec_ValidKeys l = false := by simp only [spec_ValidKeys, hP7, ct, cf]
      exact R3 hP8
     ·skip
      have h5d := B.df h5
      refine R0 ?_
      refine WX.loop (ι := Nat) ⟨fun i2 => (i2 ≤ i) ∧ (spec_ValidKeys_L2 l e1 i 0 = spec_ValidKeys_L2 l e1 (i - i2) i2), fun i2 => i - i2, fun i2 => [(4, .v (.int .i64 (((i2 : Nat) : Int)))), (47, .v (.bool (decide ((spec_l9Find (List.take i l) e1.name) ≥ 0)))), (46, .v (.int .i64 ((spec_l9Find (List.take i l) e1.name)))), (45, .v (.agg #[.slice p4 ((e1.name.parts).length) c4])), (44, .e (some ad1) i 2 0), (43, .e (some ad1) i 2 0), (42, .v (.int .i64 (((i : Nat) : Int)))), (41, .v (.slice (some ad1) ((l).length) cl)), (40, .v (.slice (some ad1) (((List.take i l)).length) cl)), (39, .v (.int .i64 (((i : Nat) : Int)))), (38, .v (.slice (some ad1) ((l).length) cl)), (35, .v (.bool (!(spec_ValidSecret e1.secret)))), (34, .v (.bool (spec_ValidSecret e1.secret))), (33, .v (.int .i64 (e1.secret))), (32, .e (some ad1) i 2 1), (31, .e (some ad1) i 2 0), (30, .v (.int .i64 (((i : Nat) : Int)))), (29, .v (.slice (some ad1) ((l).length) cl)), (26, .v (.bool ((((e1.name.parts).length : Nat) : Int) == 0))), (25, .v (.int .i64 ((((e1.name.parts).length : Nat) : Int)))), (24, .v (.slice p2 ((e1.name.parts).length) c2)), (23, .e (some ad1) i 2 0), (22, .e (some ad1) i 2 0), (21, .e (some ad1) i 2 0), (20, .v (.int .i64 (((i : Nat) : Int)))), (19, .v (.slice (some ad1) ((l).length) cl)), (3, .v (.int .i64 (((i : Nat) : Int)))), (0, .v (.slice (some ad1) ((l).length) cl))], fun i2 => [], fun i2 => [], fun i2 => [(0, MF.rs .stb (some ad1) cl l)]⟩ 0 ⟨(Nat.zero_le _), rfl⟩
       (.cons rfl (.cons rfl (.cons rfl (.cons rfl (.cons rfl (.cons rfl (.cons rfl (.cons rfl (.cons rfl (.cons rfl (.cons rfl (.cons rfl (.cons rfl (.cons rfl (.cons rfl (.cons rfl (.cons rfl (.cons rfl (.cons rfl (.cons rfl (.cons rfl (.cons rfl (.cons rfl (.cons rfl (.cons rfl (.cons rfl (.cons rfl (.cons rfl (.nil))))))))))))))))))))))))))))) .nil .nil [0] rfl ?_
      rintro i2 hpre
      have hpre_ : (i2 ≤ i) ∧ (spec_ValidKeys_L2 l e1 i 0 = spec_ValidKeys_L2 l e1 (i - i2) i2) := hpre
      clear hpre
      obtain ⟨v3, v4⟩ := hpre_
      refine R0 ?_
      refine WX.cases 51 rfl (fun h6 => ?_) (fun h6 => ?_)
      ·skip
       have h6d := B.dt h6
       refine R0 ?_
       refine WX.draw [] mixed ?_
       intro bs G0 hΓ0
       refine DX.takes (fuel := 9) ttOk [(0, true), (1, true)] (by kernel_rfl) rfl ?_
       have e2i : i2 < (l).length := (by first | assumption | omega)
       obtain ⟨e2, e2h⟩ : ∃ e2, (l)[i2]? = some e2 := ⟨_, List.getElem?_eq_getElem e2i⟩
       have ok2 : GoT.ok n e2 := (okl hokl).2 _ (List.mem_of_getElem? e2h)
       refine DX.idx 2 0 i2 ttOk hΓ0 (by kernel_rfl) rfl rfl rfl rfl rfl rfl rfl rfl rfl rfl rfl e2i ?_
       rintro ad5 ⟨⟩
       refine DX.takes (fuel := 7) ttOk [(3, true)] (by kernel_rfl) rfl ?_
       refine DX.ldE 4 0 6 e2 ttOk hΓ0 (by kernel_rfl) rfl rfl rfl rfl rfl rfl rfl rfl e2h (fun _ => rfl) (fun _ => rfl) ?_
       rintro ⟨⟨p5, c5⟩, ⟨⟩⟩
       refine DX.takes (fuel := 4) ttOk [(5, true), (6, true)] (by kernel_rfl) rfl ?_
       refine DX.idx 7 0 i ttOk hΓ0 (by kernel_rfl) rfl rfl rfl rfl rfl rfl rfl rfl rfl rfl rfl e1i ?_
       rintro ad6 ⟨⟩
       refine DX.takes (fuel := 2) ttOk [(8, true)] (by kernel_rfl) rfl ?_
       refine DX.ldE 9 0 7 e1 ttOk hΓ0 (by kernel_rfl) rfl rfl rfl rfl rfl rfl rfl rfl e1h (fun _ => rfl) (fun _ => rfl) ?_
       rintro ⟨⟨p6, c6⟩, ⟨⟩⟩
       refine DX.takes (fuel := 0) ttOk [(10, true)] (by kernel_rfl) rfl ?_
       refine DX.tail2 [] rfl rfl (by kernel_rfl) ?_
       refine R0 ?_
       refine WX.cases 64 rfl (fun h7 => ?_) (fun h7 => ?_)
       ·skip
        have h7d := B.et h7
        refine R0 ?_
        have hP9 : spec_ValidKeys_L2 l e1 i 0 = (some false) := by rw [v4, show i - i2 = (i - (i2 + 1)) + 1 by omega]; simp only [spec_ValidKeys_L2, e2h, h7, ct, cf]
        have hP10 : spec_ValidKeys_L1 l l 0 = (some false) := by rw [v2, drop_get e1h]; simp only [spec_ValidKeys_L1, h2, h3, h4, h5, hP9, ct, cf]
        have hP11 : spec_ValidKeys l = false := by simp only [spec_ValidKeys, hP10, ct, cf]
        exact R3 hP11
       ·skip
        have h7d := B.ef h7
        refine R0 ?_
        refine WX.see rfl rfl rfl (fun _ hΓ => looks_arith rfl rfl rfl rfl (by unfold I64; first | omega | (simp only [List.length_take] at *; omega))) ?_
        refine R0 ?_
        exact WX.iter (i2 + 1) ⟨(by omega), (by rw [v4, show i - i2 = (i - (i2 + 1)) + 1 by omega]; simp only [spec_ValidKeys_L2, e2h, h7, ct, cf])⟩ (by first | (dsimp only; omega) | omega) (.cons rfl (.cons rfl (.cons rfl (.cons rfl (.cons rfl (.cons rfl (.cons rfl (.cons rfl (.cons rfl (.cons rfl (.cons rfl (.cons rfl (.cons rfl (.cons rfl (.cons rfl (.cons rfl (.cons rfl (.cons rfl (.cons rfl (.cons rfl (.cons rfl (.cons rfl (.cons rfl (.cons rfl (.cons rfl (.cons rfl (.cons rfl (.cons rfl (.nil))))))))))))))))))))))))))))) .nil .nil [0] rfl
      ·skip
       have h6d := B.df h6
       refine R0 ?_
       have hX1 : spec_ValidKeys_L2 l e1 i 0 = none := by rw [v4, show i - i2 = 0 by omega]; simp only [spec_ValidKeys_L2, ct, cf]
       refine WX.see rfl rfl rfl (fun _ hΓ => looks_arith rfl rfl rfl rfl (by unfold I64; first | omega | (simp only [List.length_take] at *; omega))) ?_
       refine R0 ?_
       exact WX.iter (i + 1) ⟨(by omega), (by rw [v2, drop_get e1h]; simp only [spec_ValidKeys_L1, h2, h3, h4, h5, hX1, ct, cf])⟩ (by first | (dsimp only; omega) | omega) (.cons rfl (.cons rfl (.nil))) .nil .nil [0] rfl
 ·skip
  have h1d := B.df h1
  refine R0 ?_
  have hX2 : spec_ValidKeys_L1 l l 0 = none := by rw [v2, List.drop_eq_nil_of_le (show (l).length ≤ i by omega)]; simp only [spec_ValidKeys_L1, ct, cf]
  have hP12 : spec_ValidKeys l = (decide ((((l).length : Nat) : Int) ≤ 8)) := by simp only [spec_ValidKeys, hX2, ct, cf]
  exact R3 hP12
theorem f280 (w : World) (n : Nat) (hn : n + 0 ≤ 9) (k : Key) (K0 : Option Addr) (M0 : Nat) (N0 : RdSl (hp w) K0 M0 k.name.parts) (n_ : Name) (bn_ : Addr) (hn_ : RdSl (hp w) (some bn_) 1 [n_]) (hokk : GoT.ok n k) (hokn_ : GoT.ok n n_) :
  Does Tryz.prog 280 #[.agg #[.slice K0 ((k.name.parts).length) M0, .int .i64 (k.secret)], .pointer (some bn_)] w emp (fun (rv : Value) (_ : World) => rv = .bool (impl_ValidTrust_c1 n_ k) ∧ True) := by
 have hbP := bd_pos n
 have hbB := bd_big (n := n) (by omega)
 refine WX.enter (tt := tt) (Γ := [(0, MF.rs .stb K0 M0 k.name.parts), (1, MF.rs .stb (some bn_) 1 ([n_]))]) Tryz.func280 rfl (by kernel_rfl) rfl (allS_cons rfl N0 (allS_cons rfl hn_ allS_nil)) ?_
 have n_h : ([n_] : List Name)[0]? = some n_ := rfl
 refine WX.slot 1 (y := .e (some bn_) 0 1 0) rfl (fun _ => cap_eq) ?_
 refine R0 ?_
 refine WX.ldE 1 2 n_ ttOk rfl rfl rfl rfl rfl rfl rfl rfl n_h (fun _ => rfl) (fun _ => rfl) ?_
 rintro ⟨p1, c1⟩
 refine WX.callV rfl rfl rfl rfl rfl (fun _ => rfl) rfl (fun w G bs hI hΓ => f100 w n (by omega) k.name K0 M0 (hΓ.get 0 rfl) n_ p1 c1 (hΓ.get 2 rfl) ((ok_Key hokk).1) hokn_) ?_
 intro hq1
 refine R0 ?_
 have hP1 : impl_ValidTrust_c1 n_ k = (impl_EqualNames k.name n_) := by simp only [impl_ValidTrust_c1, ct, cf]
 exact R3 hP1
theorem f284 (w : World) (n : Nat) (hn : n + 0 ≤ 9) (x_ : DataP) (K0 : Option Addr) (M0 : Nat) (N0 : RdSl (hp w) K0 M0 x_.name.parts) (K1 : Option Addr) (M1 : Nat) (N1 : RdSl (hp w) K1 M1 x_.content) (K2 : Option Addr) (M2 : Nat) (N2 : RdSl (hp w) K2 M2 x_.keyName.parts) (hokx_ : GoT.ok n x_) :
  Does Tryz.prog 284 #[.agg #[.slice K0 ((x_.name.parts).length) M0, .slice K1 ((x_.content).length) M1, .slice K2 ((x_.keyName.parts).length) M2, .int .i64 (x_.freshUntil), .int .i64 (x_.signature)]] w emp (fun (rv : Value) (_ : World) => rv = .bool (impl_ValidTrust_c2 x_) ∧ True) := by
 have hbP := bd_pos n
 have hbB := bd_big (n := n) (by omega)
 refine WX.enter (tt := tt) (Γ := [(0, MF.rs .stb K0 M0 x_.name.parts), (1, MF.rs .stb K1 M1 x_.content), (2, MF.rs .stb K2 M2 x_.keyName.parts)]) Tryz.func284 rfl (by kernel_rfl) rfl (allS_cons rfl N0 (allS_cons rfl N1 (allS_cons rfl N2 allS_nil))) ?_
 refine R0 ?_
 refine WX.callV rfl rfl rfl rfl rfl (fun _ => rfl) rfl (fun w G bs hI hΓ => f102 w n (by omega) x_ K0 M0 (hΓ.get 0 rfl) K1 M1 (hΓ.get 1 rfl) K2 M2 (hΓ.get 2 rfl) hokx_) ?_
 intro hq1
 refine R0 ?_
 have hP1 : impl_ValidTrust_c2 x_ = (!(impl_ValidData x_)) := by simp only [impl_ValidTrust_c2, ct, cf]
 exact R3 hP1
theorem f196 (w : World) (n : Nat) (hn : n + 0 ≤ 9) (t : TrustPolicy) (K0 : Option Addr) (M0 : Nat) (N0 : RdSl (hp w) K0 M0 t.keys) (K1 : Option Addr) (M1 : Nat) (N1 : RdSl (hp w) K1 M1 t.rules) (K2 : Option Addr) (M2 : Nat) (N2 : RdSl (hp w) K2 M2 t.anchors) (K3 : Option Addr) (M3 : Nat) (N3 : RdSl (hp w) K3 M3 t.certificates) (hokt : GoT.ok n t) :
  Does Tryz.prog 196 #[.agg #[.slice K0 ((t.keys).length) M0, .slice K1 ((t.rules).length) M1, .slice K2 ((t.anchors).length) M2, .slice K3 ((t.certificates).length) M3]] w emp (fun (rv : Value) (_ : World) => rv = .bool (impl_ValidTrust t) ∧ True) := by
 have hbP := bd_pos n
 have hbB := bd_big (n := n) (by omega)
 refine WX.enter (tt := tt) (Γ := [(0, MF.rs .stb K0 M0 t.keys), (1, MF.rs .stb K1 M1 t.rules), (2, MF.rs .stb K2 M2 t.anchors), (3, MF.rs .stb K3 M3 t.certificates)]) Tryz.func196 rfl (by kernel_rfl) rfl (allS_cons rfl N0 (allS_cons rfl N1 (allS_cons rfl N2 (allS_cons rfl N3 allS_nil)))) ?_
 refine R0 ?_
 have r1 : (t.anchors).length ≤ bd n := (okl (ok_TrustPolicy hokt).2.2.1).1
 refine WX.loop (ι := Nat) ⟨fun i => (i ≤ (t.anchors).length) ∧ (impl_ValidTrust_L1 t t.anchors = impl_ValidTrust_L1 t ((t.anchors).drop i)), fun i => (t.anchors).length - i, fun i => [(8, .v (.int .i64 (((i : Nat) : Int)))), (7, .v (.int .i64 ((((t.anchors).length : Nat) : Int)))), (6, .v (.slice K2 ((t.anchors).length) M2)), (1, .p 1 0)], fun i => [(1, ⟨110, [.slice K0 ((t.keys).length) M0, .slice K1 ((t.rules).length) M1, .slice K2 ((t.anchors).length) M2, .slice K3 ((t.certificates).length) M3]⟩)], fun i => [], fun i => [(0, MF.rs .stb K0 M0 t.keys), (1, MF.rs .stb K1 M1 t.rules), (2, MF.rs .stb K2 M2 t.anchors), (3, MF.rs .stb K3 M3 t.certificates)]⟩ 0 ⟨(Nat.zero_le _), rfl⟩
  (.cons rfl (.cons rfl (.cons rfl (.cons rfl (.nil))))) (.cons rfl (.nil)) .nil [0, 1, 2, 3] rfl ?_
 rintro i hpre
 have hpre_ : (i ≤ (t.anchors).length) ∧ (impl_ValidTrust_L1 t t.anchors = impl_ValidTrust_L1 t ((t.anchors).drop i)) := hpre
 clear hpre
 obtain ⟨v1, v2⟩ := hpre_
 refine R0 ?_
 refine WX.cases 9 rfl (fun h1 => ?_) (fun h1 => ?_)
 ·skip
  have h1d := B.dt h1
  have e1i : i < (t.anchors).length := (by omega)
  obtain ⟨e1, e1h⟩ : ∃ e1, (t.anchors)[i]? = some e1 := ⟨_, List.getElem?_eq_getElem e1i⟩
  have ok1 : GoT.ok n e1 := (okl (ok_TrustPolicy hokt).2.2.1).2 _ (List.mem_of_getElem? e1h)
  refine R0 ?_
  refine WX.idx 2 i ttOk rfl rfl rfl rfl rfl rfl rfl rfl rfl rfl e1i ?_
  rintro ad1 rfl
  refine WX.ldE 2 4 e1 ttOk rfl rfl rfl rfl rfl rfl rfl rfl e1h (fun _ => rfl) (fun _ => rfl) ?_
  rintro ⟨p1, c1⟩
  refine R0 ?_
  refine WX.callV rfl rfl rfl rfl rfl (fun _ => rfl) rfl (fun w G bs hI hΓ => f279 w n (by omega) t.keys K0 M0 (hΓ.get 0 rfl) 280 [Value.pointer (some ⟨bs 4, 0, none⟩)] (fun e0_ => (impl_ValidTrust_c1 e1 e0_)) (fun w1_ hb_ e0_ x0_ hk0_ hx0_ => f280 w1_ n (by omega) e0_ x0_.1.1 x0_.1.2 (hx0_ _ List.mem_cons_self) e1 ⟨bs 4, 0, none⟩ ((rd_box (α := Name) (a := e1) (x := (p1, c1)) (hI.loc 4 _ rfl).1 (All.cons (hΓ.get 4 rfl : RdSl _ _ _ _) All.nil)).mono (kp_le hb_)) hk0_ ok1) ((ok_TrustPolicy hokt).1)) ?_
  intro hq1
  refine R0 ?_
  refine WX.cases 16 rfl (fun h2 => ?_) (fun h2 => ?_)
  ·skip
   have h2d := (B.nt h2)
   refine R0 ?_
   have hP1 : impl_ValidTrust_L1 t t.anchors = (some false) := by rw [v2, drop_get e1h]; simp only [impl_ValidTrust_L1, h2, ct, cf]
   have hP2 : impl_ValidTrust t = false := by simp only [impl_ValidTrust, hP1, ct, cf]
   exact R3 hP2
  ·skip
   have h2d := (B.nf h2)
   refine R0 ?_
   refine WX.see rfl rfl rfl (fun _ hΓ => looks_arith rfl rfl rfl rfl (by unfold I64; first | omega | (simp only [List.length_take] at *; omega))) ?_
   refine R0 ?_
   exact WX.iter (i + 1) ⟨(by omega), (by rw [v2, drop_get e1h]; simp only [impl_ValidTrust_L1, h2, ct, cf])⟩ (by first | (dsimp only; omega) | omega) (.cons rfl (.cons rfl (.cons rfl (.cons rfl (.nil))))) (.cons rfl (.nil)) .nil [0, 1, 2, 3] rfl
 ·skip
  have h1d := B.df h1
  refine R0 ?_
  have hX1 : impl_ValidTrust_L1 t t.anchors = none := by rw [v2, List.drop_eq_nil_of_le (show (t.anchors).length ≤ i by omega)]; simp only [impl_ValidTrust_L1, ct, cf]
  refine WX.callV rfl rfl rfl rfl rfl (fun _ => rfl) rfl (fun w G bs hI hΓ => f281 w n (by omega) t.keys K0 M0 (hΓ.get 0 rfl) ((ok_TrustPolicy hokt).1)) ?_
  intro hq2
  refine R0 ?_
  refine WX.cases 21 rfl (fun h3 => ?_) (fun h3 => ?_)
  ·skip
   refine R0 ?_
   refine WX.callV rfl rfl rfl rfl rfl (fun _ => rfl) rfl (fun w G bs hI hΓ => f282 w n (by omega) t.rules K1 M1 (hΓ.get 1 rfl) ((ok_TrustPolicy hokt).2.1)) ?_
   intro hq3
   refine R0 ?_
   refine WX.cases 26 rfl (fun h4 => ?_) (fun h4 => ?_)
   ·skip
    refine R0 ?_
    refine WX.cases 32 rfl (fun h5 => ?_) (fun h5 => ?_)
    ·skip
     have h5d := B.dt h5
     refine R0 ?_
     refine WX.cases 38 rfl (fun h6 => ?_) (fun h6 => ?_)
     ·skip
      have h6d := B.dt h6
      refine R0 ?_
      refine WX.callV rfl rfl rfl rfl rfl (fun _ => rfl) rfl (fun w G bs hI hΓ => f283 w n (by omega) t.certificates K3 M3 (hΓ.get 3 rfl) 284 [] (fun e0_ => (impl_ValidTrust_c2 e0_)) (fun w1_ hb_ e0_ x0_ hk0_ hx0_ => f284 w1_ n (by omega) e0_ x0_.1.1 x0_.1.2 (hx0_ _ List.mem_cons_self) x0_.2.1.1 x0_.2.1.2 (hx0_ (MF.rs .der x0_.2.1.1 x0_.2.1.2 e0_.content) (by simp [GoT.fa])) x0_.2.2.1.1 x0_.2.2.1.2 (hx0_ (MF.rs .der x0_.2.2.1.1 x0_.2.2.1.2 e0_.keyName.parts) (by simp [GoT.fa])) hk0_) ((ok_TrustPolicy hokt).2.2.2)) ?_
      intro hq4
      refine R0 ?_
      have hP3 : impl_ValidTrust t = (!(slices_ContainsFunc_Data t.certificates (fun e0_ => (impl_ValidTrust_c2 e0_)))) := by simp only [impl_ValidTrust, hX1, h3, h4, h5, h6, ct, cf]
      exact R3 hP3
     ·skip
      have h6d := B.df h6
      refine R0 ?_
      have hP4 : impl_ValidTrust t = false := by simp only [impl_ValidTrust, hX1, h3, h4, h5, h6, ct, cf]
      exact R3 hP4
    ·skip
     have h5d := B.df h5
     refine R0 ?_
     have hP5 : impl_ValidTrust t = false := by simp only [impl_ValidTrust, hX1, h3, h4, h5, ct, cf]
     exact R3 hP5
   ·skip
    refine R0 ?_
    have hP6 : impl_ValidTrust t = false := by simp only [impl_ValidTrust, hX1, h3, h4, ct, cf]
    exact R3 hP6
  ·skip
   refine R0 ?_
   have hP7 : impl_ValidTrust t = false := by simp only [impl_ValidTrust, hX1, h3, ct, cf]
   exact R3 hP7
theorem f183 (w : World) (n : Nat) (hn : n + 0 ≤ 9) (t : TrustPolicy) (K0 : Option Addr) (M0 : Nat) (N0 : RdSl (hp w) K0 M0 t.keys) (K1 : Option Addr) (M1 : Nat) (N1 : RdSl (hp w) K1 M1 t.rules) (K2 : Option Addr) (M2 : Nat) (N2 : RdSl (hp w) K2 M2 t.anchors) (K3 : Option Addr) (M3 : Nat) (N3 : RdSl (hp w) K3 M3 t.certificates) (hokt : GoT.ok n t) :
  Does Tryz.prog 183 #[.agg #[.slice K0 ((t.keys).length) M0, .slice K1 ((t.rules).length) M1, .slice K2 ((t.anchors).length) M2, .slice K3 ((t.certificates).length) M3]] w emp (fun (rv : Value) (_ : World) => rv = .bool (spec_ValidTrust t) ∧ True) := by
 have hbP := bd_pos n
 have hbB := bd_big (n := n) (by omega)
 refine WX.enter (tt := tt) (Γ := [(0, MF.rs .stb K0 M0 t.keys), (1, MF.rs .stb K1 M1 t.rules), (2, MF.rs .stb K2 M2 t.anchors), (3, MF.rs .stb K3 M3 t.certificates)]) Tryz.func183 rfl (by kernel_rfl) rfl (allS_cons rfl N0 (allS_cons rfl N1 (allS_cons rfl N2 (allS_cons rfl N3 allS_nil)))) ?_
 refine R0 ?_
 refine WX.callV rfl rfl rfl rfl rfl (fun _ => rfl) rfl (fun w G bs hI hΓ => f266 w n (by omega) t.keys K0 M0 (hΓ.get 0 rfl) ((ok_TrustPolicy hokt).1)) ?_
 intro hq1
 refine R0 ?_
 refine WX.cases 9 rfl (fun h1 => ?_) (fun h1 => ?_)
 ·skip
  have h1d := (B.nt h1)
  refine R0 ?_
  have hP1 : spec_ValidTrust t = false := by simp only [spec_ValidTrust, h1, ct, cf]
  exact R3 hP1
 ·skip
  have h1d := (B.nf h1)
  refine R0 ?_
  refine WX.callV rfl rfl rfl rfl rfl (fun _ => rfl) rfl (fun w G bs hI hΓ => f267 w n (by omega) t.rules K1 M1 (hΓ.get 1 rfl) ((ok_TrustPolicy hokt).2.1)) ?_
  intro hq2
  refine R0 ?_
  refine WX.cases 15 rfl (fun h2 => ?_) (fun h2 => ?_)
  ·skip
   have h2d := (B.nt h2)
   refine R0 ?_
   have hP2 : spec_ValidTrust t = false := by simp only [spec_ValidTrust, h1, h2, ct, cf]
   exact R3 hP2
  ·skip
   have h2d := (B.nf h2)
   refine R0 ?_
   refine WX.cases 21 rfl (fun h3 => ?_) (fun h3 => ?_)
   ·skip
    have h3d := B.dt h3
    refine R0 ?_
    have hP3 : spec_ValidTrust t = false := by simp only [spec_ValidTrust, h1, h2, h3, ct, cf]
    exact R3 hP3
   ·skip
    have h3d := B.df h3
    refine R0 ?_
    refine WX.cases 26 rfl (fun h4 => ?_) (fun h4 => ?_)
    ·skip
     have h4d := B.dt h4
     refine R0 ?_
     have hP4 : spec_ValidTrust t = false := by simp only [spec_ValidTrust, h1, h2, h3, h4, ct, cf]
     exact R3 hP4
    ·skip
     have h4d := B.df h4
     refine R0 ?_
     have r1 : (t.anchors).length ≤ bd n := (okl (ok_TrustPolicy hokt).2.2.1).1
     refine WX.loop (ι := Nat) ⟨fun i => (i ≤ (t.anchors).length) ∧ (spec_ValidTrust_L1 t t.anchors = spec_ValidTrust_L1 t ((t.anchors).drop i)), fun i => (t.anchors).length - i, fun i => [(3, .v (.int .i64 (((i : Nat) : Int)))), (1, .p 1 0)], fun i => [(1, ⟨110, [.slice K0 ((t.keys).length) M0, .slice K1 ((t.rules).length) M1, .slice K2 ((t.anchors).length) M2, .slice K3 ((t.certificates).length) M3]⟩)], fun i => [], fun i => [(0, MF.rs .stb K0 M0 t.keys), (1, MF.rs .stb K1 M1 t.rules), (2, MF.rs .stb K2 M2 t.anchors), (3, MF.rs .stb K3 M3 t.certificates)]⟩ 0 ⟨(Nat.zero_le _), rfl⟩
      (.cons rfl (.cons rfl (.nil))) (.cons rfl (.nil)) .nil [0, 1, 2, 3] rfl ?_
     rintro i hpre
     have hpre_ : (i ≤ (t.anchors).length) ∧ (spec_ValidTrust_L1 t t.anchors = spec_ValidTrust_L1 t ((t.anchors).drop i)) := hpre
     clear hpre
     obtain ⟨v1, v2⟩ := hpre_
     refine R0 ?_
     refine WX.cases 31 rfl (fun h5 => ?_) (fun h5 => ?_)
     ·skip
      have h5d := B.dt h5
      have e1i : i < (t.anchors).length := (by omega)
      obtain ⟨e1, e1h⟩ : ∃ e1, (t.anchors)[i]? = some e1 := ⟨_, List.getElem?_eq_getElem e1i⟩
      have ok1 : GoT.ok n e1 := (okl (ok_TrustPolicy hokt).2.2.1).2 _ (List.mem_of_getElem? e1h)
      refine R0 ?_
      refine WX.draw [] mixed ?_
      intro bs G0 hΓ0
      refine DX.takes (fuel := 4) ttOk [(0, true), (1, false), (2, true), (3, false), (4, true)] (by kernel_rfl) rfl ?_
      refine DX.idx 5 2 i ttOk hΓ0 (by kernel_rfl) rfl rfl rfl rfl rfl rfl rfl rfl rfl rfl rfl e1i ?_
      rintro ad1 rfl
      refine DX.ldE 6 2 4 e1 ttOk hΓ0 (by kernel_rfl) rfl rfl rfl rfl rfl rfl rfl rfl e1h (fun _ => rfl) (fun _ => rfl) ?_
      rintro ⟨p1, c1⟩
      refine DX.callV 7 rfl (by kernel_rfl) rfl rfl rfl rfl rfl rfl (fun _ => rfl) rfl (fun w G bs hI hΓ => f268 w n (by omega) t.keys K0 M0 (hΓ.get 0 rfl) e1 p1 c1 (hΓ.get 4 rfl) ((ok_TrustPolicy hokt).1) ok1) ?_
      intro hq3
      refine DX.takes (fuel := 0) ttOk [(8, true)] (by kernel_rfl) rfl ?_
      refine DX.tail2 [] rfl rfl (by kernel_rfl) ?_
      refine R0 ?_
      refine WX.cases 42 rfl (fun h6 => ?_) (fun h6 => ?_)
      ·skip
       have h6d := B.dt h6
       refine R0 ?_
       have hP5 : spec_ValidTrust_L1 t t.anchors = (some false) := by rw [v2, drop_get e1h]; simp only [spec_ValidTrust_L1, h6, ct, cf]
       have hP6 : spec_ValidTrust t = false := by simp only [spec_ValidTrust, h1, h2, h3, h4, hP5, ct, cf]
       exact R3 hP6
      ·skip
       have h6d := B.df h6
       refine R0 ?_
       refine WX.see rfl rfl rfl (fun _ hΓ => looks_arith rfl rfl rfl rfl (by unfold I64; first | omega | (simp only [List.length_take] at *; omega))) ?_
       refine R0 ?_
       exact WX.iter (i + 1) ⟨(by omega), (by rw [v2, drop_get e1h]; simp only [spec_ValidTrust_L1, h6, ct, cf])⟩ (by first | (dsimp only; omega) | omega) (.cons rfl (.cons rfl (.nil))) (.cons rfl (.nil)) .nil [0, 1, 2, 3] rfl
     ·skip
      have h5d := B.df h5
      refine R0 ?_
      have hX1 : spec_ValidTrust_L1 t t.anchors = none := by rw [v2, List.drop_eq_nil_of_le (show (t.anchors).length ≤ i by omega)]; simp only [spec_ValidTrust_L1, ct, cf]
      have r2 : (t.certificates).length ≤ bd n := (okl (ok_TrustPolicy hokt).2.2.2).1
      refine WX.loop (ι := Nat) ⟨fun i => (i ≤ (t.certificates).length) ∧ (spec_ValidTrust_L2 t.certificates = spec_ValidTrust_L2 ((t.certificates).drop i)), fun i => (t.certificates).length - i, fun i => [(4, .v (.int .i64 (((i : Nat) : Int)))), (1, .p 1 0)], fun i => [(1, ⟨110, [.slice K0 ((t.keys).length) M0, .slice K1 ((t.rules).length) M1, .slice K2 ((t.anchors).length) M2, .slice K3 ((t.certificates).length) M3]⟩)], fun i => [], fun i => [(0, MF.rs .stb K0 M0 t.keys), (1, MF.rs .stb K1 M1 t.rules), (2, MF.rs .stb K2 M2 t.anchors), (3, MF.rs .stb K3 M3 t.certificates)]⟩ 0 ⟨(Nat.zero_le _), rfl⟩
       (.cons rfl (.cons rfl (.nil))) (.cons rfl (.nil)) .nil [0, 1, 2, 3] rfl ?_
      rintro i hpre
      have hpre_ : (i ≤ (t.certificates).length) ∧ (spec_ValidTrust_L2 t.certificates = spec_ValidTrust_L2 ((t.certificates).drop i)) := hpre
      clear hpre
      obtain ⟨v3, v4⟩ := hpre_
      refine R0 ?_
      refine WX.cases 47 rfl (fun h7 => ?_) (fun h7 => ?_)
      ·skip
       have h7d := B.dt h7
       have e2i : i < (t.certificates).length := (by omega)
       obtain ⟨e2, e2h⟩ : ∃ e2, (t.certificates)[i]? = some e2 := ⟨_, List.getElem?_eq_getElem e2i⟩
       have ok2 : GoT.ok n e2 := (okl (ok_TrustPolicy hokt).2.2.2).2 _ (List.mem_of_getElem? e2h)
       refine R0 ?_
       refine WX.idx 3 i ttOk rfl rfl rfl rfl rfl rfl rfl rfl rfl rfl e2i ?_
       rintro ad2 rfl
       refine WX.ldE 3 5 e2 ttOk rfl rfl rfl rfl rfl rfl rfl rfl e2h (fun _ => rfl) (fun _ => rfl) ?_
       rintro ⟨⟨p2, c2⟩, ⟨p3, c3⟩, ⟨p4, c4⟩, ⟨⟩, ⟨⟩⟩
       refine WX.callV rfl rfl rfl rfl rfl (fun _ => rfl) rfl (fun w G bs hI hΓ => f105 w n (by omega) e2 p2 c2 (hΓ.get 5 rfl) p3 c3 (hΓ.get 6 rfl) p4 c4 (hΓ.get 7 rfl) ok2) ?_
       intro hq4
       refine R0 ?_
       refine WX.cases 56 rfl (fun h8 => ?_) (fun h8 => ?_)
       ·skip
        have h8d := (B.nt h8)
        refine R0 ?_
        have hP7 : spec_ValidTrust_L2 t.certificates = (some false) := by rw [v4, drop_get e2h]; simp only [spec_ValidTrust_L2, h8, ct, cf]
        have hP8 : spec_ValidTrust t = false := by simp only [spec_ValidTrust, h1, h2, h3, h4, hX1, hP7, ct, cf]
        exact R3 hP8
       ·skip
        have h8d := (B.nf h8)
        refine R0 ?_
        refine WX.see rfl rfl rfl (fun _ hΓ => looks_arith rfl rfl rfl rfl (by unfold I64; first | omega | (simp only [List.length_take] at *; omega))) ?_
        refine R0 ?_
        exact WX.iter (i + 1) ⟨(by omega), (by rw [v4, drop_get e2h]; simp only [spec_ValidTrust_L2, h8, ct, cf])⟩ (by first | (dsimp only; omega) | omega) (.cons rfl (.cons rfl (.nil))) (.cons rfl (.nil)) .nil [0, 1, 2, 3] rfl
      ·skip
       have h7d := B.df h7
       refine R0 ?_
       have hX2 : spec_ValidTrust_L2 t.certificates = none := by rw [v4, List.drop_eq_nil_of_le (show (t.certificates).length ≤ i by omega)]; simp only [spec_ValidTrust_L2, ct, cf]
       have hP9 : spec_ValidTrust t = true := by simp only [spec_ValidTrust, h1, h2, h3, h4, hX1, hX2, ct, cf]
       exact R3 hP9
end Go.Proofs.YtdimfabadjfkiaaGreat

namespace Go.Stp
set_option linter.unusedVariables false
set_option linter.unusedSimpArgs false
def spec_l16Find_L1 (n_ : Name) : List DataP → Nat → Option (Int)
  | [], i => none
  | e1 :: rest_, i =>
    bif (spec_EqualNames e1.name n_) then
      (some ((i : Nat) : Int))
    else
      spec_l16Find_L1 n_ rest_ (i + 1)
def spec_l16Find (l : (List DataP)) (n_ : Name) : Int :=
  match spec_l16Find_L1 n_ l 0 with
    | some r_ => r_
    | none =>
      (-1)
end Go.Stp

namespace Go.Proofs.YtdimfabadjfkiaaGreat
open Go.Stp
set_option linter.unusedVariables false
set_option linter.unusedSimpArgs false
theorem f101 (w : World) (n : Nat) (hn : n + 0 ≤ 9) (l : (List DataP)) (pl : Option Addr) (cl : Nat) (N0 : RdSl (hp w) pl cl l) (n_ : Name) (K1 : Option Addr) (M1 : Nat) (N1 : RdSl (hp w) K1 M1 n_.parts) (hokl : GoT.ok n l) (hokn_ : GoT.ok n n_) :
  Does Tryz.prog 101 #[.slice pl ((l).length) cl, .agg #[.slice K1 ((n_.parts).length) M1]] w emp (fun (rv : Value) (_ : World) => rv = .int .i64 ((spec_l16Find l n_)) ∧ GoT.ok n ((spec_l16Find l n_) : Int)) := by
 have hbP := bd_pos n
 have hbB := bd_big (n := n) (by omega)
 refine WX.enter (tt := tt) (Γ := [(0, MF.rs .stb pl cl l), (1, MF.rs .stb K1 M1 n_.parts)]) Tryz.func101 rfl (by kernel_rfl) rfl (allS_cons rfl N0 (allS_cons rfl N1 allS_nil)) ?_
 refine R0 ?_
 have r1 : (l).length ≤ bd n := (okl hokl).1
 refine WX.loop (ι := Nat) ⟨fun i => (i ≤ (l).length) ∧ (spec_l16Find_L1 n_ l 0 = spec_l16Find_L1 n_ ((l).drop i) i), fun i => (l).length - i, fun i => [(5, .v (.int .i64 (((i : Nat) : Int)))), (3, .p 3 0), (0, .v (.slice pl ((l).length) cl))], fun i => [(3, ⟨30, [.slice K1 ((n_.parts).length) M1]⟩)], fun i => [], fun i => [(0, MF.rs .stb pl cl l), (1, MF.rs .stb K1 M1 n_.parts)]⟩ 0 ⟨(Nat.zero_le _), rfl⟩
  (.cons rfl (.cons rfl (.cons rfl (.nil)))) (.cons rfl (.nil)) .nil [0, 1] rfl ?_
 rintro i hpre
 have hpre_ : (i ≤ (l).length) ∧ (spec_l16Find_L1 n_ l 0 = spec_l16Find_L1 n_ ((l).drop i) i) := hpre
 clear hpre
 obtain ⟨v1, v2⟩ := hpre_
 refine R0 ?_
 refine WX.cases 9 rfl (fun h1 => ?_) (fun h1 => ?_)
 ·skip
  have h1d := B.dt h1
  have e1i : i < (l).length := (by omega)
  obtain ⟨e1, e1h⟩ : ∃ e1, (l)[i]? = some e1 := ⟨_, List.getElem?_eq_getElem e1i⟩
  have ok1 : GoT.ok n e1 := (okl hokl).2 _ (List.mem_of_getElem? e1h)
  refine R0 ?_
  refine WX.draw [] mixed ?_
  intro bs G0 hΓ0
  refine DX.takes (fuel := 5) ttOk [(0, true), (1, true)] (by kernel_rfl) rfl ?_
  refine DX.idx 2 0 i ttOk hΓ0 (by kernel_rfl) rfl rfl rfl rfl rfl rfl rfl rfl rfl rfl rfl e1i ?_
  rintro ad1 rfl
  refine DX.takes (fuel := 3) ttOk [(3, true)] (by kernel_rfl) rfl ?_
  refine DX.ldE 4 0 2 e1 ttOk hΓ0 (by kernel_rfl) rfl rfl rfl rfl rfl rfl rfl rfl e1h (fun _ => rfl) (fun _ => rfl) ?_
  rintro ⟨⟨p1, c1⟩, ⟨p2, c2⟩, ⟨p3, c3⟩, ⟨⟩, ⟨⟩⟩
  refine DX.takes (fuel := 1) ttOk [(5, false)] (by kernel_rfl) rfl ?_
  refine DX.callV 6 rfl (by kernel_rfl) rfl rfl rfl rfl rfl rfl (fun _ => rfl) rfl (fun w G bs hI hΓ => f152 w n (by omega) e1.name p1 c1 (hΓ.get 2 rfl) n_ K1 M1 (hΓ.get 1 rfl) ((ok_DataP ok1).1) hokn_) ?_
  intro hq1
  refine DX.tail2 [] rfl rfl (by kernel_rfl) ?_
  refine R0 ?_
  refine WX.cases 18 rfl (fun h2 => ?_) (fun h2 => ?_)
  ·skip
   refine R0 ?_
   have hP1 : spec_l16Find_L1 n_ l 0 = (some ((i : Nat) : Int)) := by rw [v2, drop_get e1h]; simp only [spec_l16Find_L1, h2, ct, cf]
   have hP2 : spec_l16Find l n_ = ((i : Nat) : Int) := by simp only [spec_l16Find, hP1, ct, cf]
   refine R1 ?_
   intro w1 G bs hI hΓ
   rw [hP2]
   exact ⟨rfl, (show I64 ((i : Nat) : Int) from (by unfold I64; omega))⟩
  ·skip
   refine R0 ?_
   refine WX.see rfl rfl rfl (fun _ hΓ => looks_arith rfl rfl rfl rfl (by unfold I64; first | omega | (simp only [List.length_take] at *; omega))) ?_
   refine R0 ?_
   exact WX.iter (i + 1) ⟨(by omega), (by rw [v2, drop_get e1h]; simp only [spec_l16Find_L1, h2, ct, cf])⟩ (by first | (dsimp only; omega) | omega) (.cons rfl (.cons rfl (.cons rfl (.nil)))) (.cons rfl (.nil)) .nil [0, 1] rfl
 ·skip
  have h1d := B.df h1
  refine R0 ?_
  have hX1 : spec_l16Find_L1 n_ l 0 = none := by rw [v2, List.drop_eq_nil_of_le (show (l).length ≤ i by omega)]; simp only [spec_l16Find_L1, ct, cf]
  have hP3 : spec_l16Find l n_ = (-1) := by simp only [spec_l16Find, hX1, ct, cf]
  refine R1 ?_
  intro w1 G bs hI hΓ
  rw [hP3]
  exact ⟨rfl, (show I64 (-1) from (by unfold I64; omega))⟩
theorem lt_l16L (n_ : Name) : ∀ (l : List DataP) (i : Nat) (j : Int), spec_l16Find_L1 n_ l i = some j → j < ((i + l.length : Nat) : Int)
  | [], i, j, h => by cases h
  | x :: l, i, j, h => by
    simp only [spec_l16Find_L1] at h
    cases hx : spec_EqualNames x.name n_
    · rw [hx, cond_false] at h
      have := lt_l16L n_ l (i + 1) j h
      simp only [List.length_cons]; omega
    · rw [hx, cond_true] at h
      cases h
      simp only [List.length_cons]; omega
theorem lt_l16Find (l : List DataP) (n_ : Name) : spec_l16Find l n_ < ((l.length : Nat) : Int) := by
  unfold spec_l16Find
  cases h : spec_l16Find_L1 n_ l 0 with
  | none => show (-1 : Int) < _; omega
  | some j => have := lt_l16L n_ l 0 j h; show j < _; omega
end Go.Proofs.YtdimfabadjfkiaaGreat

namespace Go.Stp
set_option linter.unusedVariables false
set_option linter.unusedSimpArgs false
def slices_IndexFunc_CacheEntry_L1 (fq : CacheEntry → Bool) : List CacheEntry → Nat → Option (Int)
  | [], i => none
  | e1 :: rest_, i =>
    bif fq e1 then
      (some ((i : Nat) : Int))
    else
      slices_IndexFunc_CacheEntry_L1 fq rest_ (i + 1)
def slices_IndexFunc_CacheEntry (s : (List CacheEntry)) (fq : CacheEntry → Bool) : Int :=
  match slices_IndexFunc_CacheEntry_L1 fq s 0 with
    | some r_ => r_
    | none =>
      (-1)
def slices_ContainsFunc_CacheEntry (s : (List CacheEntry)) (fq : CacheEntry → Bool) : Bool :=
  (decide ((slices_IndexFunc_CacheEntry s fq) ≥ 0))
def slices_IndexFunc_PendingInterest_L1 (fq : PendingInterest → Bool) : List PendingInterest → Nat → Option (Int)
  | [], i => none
  | e1 :: rest_, i =>
    bif fq e1 then
      (some ((i : Nat) : Int))
    else
      slices_IndexFunc_PendingInterest_L1 fq rest_ (i + 1)
def slices_IndexFunc_PendingInterest (s : (List PendingInterest)) (fq : PendingInterest → Bool) : Int :=
  match slices_IndexFunc_PendingInterest_L1 fq s 0 with
    | some r_ => r_
    | none =>
      (-1)
def slices_IndexFunc_Route_L1 (fq : Route → Bool) : List Route → Nat → Option (Int)
  | [], i => none
  | e1 :: rest_, i =>
    bif fq e1 then
      (some ((i : Nat) : Int))
    else
      slices_IndexFunc_Route_L1 fq rest_ (i + 1)
def slices_IndexFunc_Route (s : (List Route)) (fq : Route → Bool) : Int :=
  match slices_IndexFunc_Route_L1 fq s 0 with
    | some r_ => r_
    | none =>
      (-1)
def slices_IndexFunc_Measurement_L1 (fq : Measurement → Bool) : List Measurement → Nat → Option (Int)
  | [], i => none
  | e1 :: rest_, i =>
    bif fq e1 then
      (some ((i : Nat) : Int))
    else
      slices_IndexFunc_Measurement_L1 fq rest_ (i + 1)
def slices_IndexFunc_Measurement (s : (List Measurement)) (fq : Measurement → Bool) : Int :=
  match slices_IndexFunc_Measurement_L1 fq s 0 with
    | some r_ => r_
    | none =>
      (-1)
def slices_IndexFunc_Node_L1 (fq : NodeP → Bool) : List NodeP → Nat → Option (Int)
  | [], i => none
  | e1 :: rest_, i =>
    bif fq e1 then
      (some ((i : Nat) : Int))
    else
      slices_IndexFunc_Node_L1 fq rest_ (i + 1)
def slices_IndexFunc_Node (s : (List NodeP)) (fq : NodeP → Bool) : Int :=
  match slices_IndexFunc_Node_L1 fq s 0 with
    | some r_ => r_
    | none =>
      (-1)
def slices_ContainsFunc_Node (s : (List NodeP)) (fq : NodeP → Bool) : Bool :=
  (decide ((slices_IndexFunc_Node s fq) ≥ 0))
def impl_localAt_c1 (n_ : Name) (x_ : DataP) : Bool :=
  (impl_EqualNames x_.name n_)
def impl_localAt (l : (List DataP)) (n_ : Name) : Int :=
  (slices_IndexFunc_Data l (fun e0_ => (impl_localAt_c1 n_ e0_)))
def impl_ValidContentStore_c1 (e : CacheEntry) (o : CacheEntry) : Bool :=
  (impl_EqualNames o.data.name e.data.name)
def impl_ValidContentStore_L1 (c_ : ContentStore) : List CacheEntry → Nat → Option (Bool)
  | [], i => none
  | e1 :: rest_, i =>
    bif (!(impl_ValidData e1.data)) then
      (some false)
    else
      bif (slices_ContainsFunc_CacheEntry (List.take i c_.entries) (fun e0_ => (impl_ValidContentStore_c1 e1 e0_))) then
        (some false)
      else
        impl_ValidContentStore_L1 c_ rest_ (i + 1)
def impl_ValidContentStore (c_ : ContentStore) : Bool :=
  bif (!(impl_InRange c_.capacity 0 8)) then
    false
  else
    bif decide ((((c_.entries).length : Nat) : Int) > c_.capacity) then
      false
    else
      match impl_ValidContentStore_L1 c_ c_.entries 0 with
        | some r_ => r_
        | none =>
          true
def spec_l12Find_L1 (n_ : Name) : List CacheEntry → Nat → Option (Int)
  | [], i => none
  | e1 :: rest_, i =>
    bif (spec_EqualNames e1.data.name n_) then
      (some ((i : Nat) : Int))
    else
      spec_l12Find_L1 n_ rest_ (i + 1)
def spec_l12Find (l : (List CacheEntry)) (n_ : Name) : Int :=
  match spec_l12Find_L1 n_ l 0 with
    | some r_ => r_
    | none =>
      (-1)
def spec_ValidContentStore_L1 (c_ : ContentStore) : List CacheEntry → Nat → Option (Bool)
  | [], i => none
  | e1 :: rest_, i =>
    bif (!(spec_ValidData e1.data)) then
      (some false)
    else
      bif decide ((spec_l12Find (List.take i c_.entries) e1.data.name) ≥ 0) then
        (some false)
      else
        spec_ValidContentStore_L1 c_ rest_ (i + 1)
def spec_ValidContentStore (c_ : ContentStore) : Bool :=
  match spec_ValidContentStore_L1 c_ c_.entries 0 with
    | some r_ => r_
    | none =>
      bif (spec_l1In c_.capacity 0 8) then
        (decide ((((c_.entries).length : Nat) : Int) ≤ c_.capacity))
      else
        false
def impl_pendingAt_c1 (n_ : Name) (p_ : PendingInterest) : Bool :=
  (impl_EqualNames p_.name n_)
def impl_pendingAt (l : (List PendingInterest)) (n_ : Name) : Int :=
  (slices_IndexFunc_PendingInterest l (fun e0_ => (impl_pendingAt_c1 n_ e0_)))
def impl_ValidPending_L2 (e1 : PendingInterest) : List Requester → Nat → Option (Bool)
  | [], i2 => none
  | e2 :: rest_, i2 =>
    bif (!(impl_InRange e2.face 0 6)) then
      (some false)
    else
      bif (!(impl_InRange e2.nonce 0 1000000)) then
        (some false)
      else
        bif decide (((i2 : Nat) : Int) > 0) then
          match (e1.requesters)[(((i2 : Nat) : Int) - 1).toNat]? with
            | none => default
            | some e3 =>
              bif decide (e3.face ≥ e2.face) then
                (some false)
              else
                impl_ValidPending_L2 e1 rest_ (i2 + 1)
        else
          impl_ValidPending_L2 e1 rest_ (i2 + 1)
def impl_ValidPending_L1 (l : (List PendingInterest)) : List PendingInterest → Nat → Option (Bool)
  | [], i => none
  | e1 :: rest_, i =>
    bif (!(impl_ValidName e1.name)) then
      (some false)
    else
      bif ((((e1.name.parts).length : Nat) : Int) == 0) then
        (some false)
      else
        bif ((((e1.requesters).length : Nat) : Int) == 0) then
          (some false)
        else
          bif (!(impl_InRange e1.lastSent 0 100000)) then
            (some false)
          else
            bif decide ((impl_pendingAt (List.take i l) e1.name) ≥ 0) then
              (some false)
            else
              match impl_ValidPending_L2 e1 e1.requesters 0 with
                | some r_ => (some r_)
                | none =>
                  impl_ValidPending_L1 l rest_ (i + 1)
def impl_ValidPending (l : (List PendingInterest)) : Bool :=
  match impl_ValidPending_L1 l l 0 with
    | some r_ => r_
    | none =>
      (decide ((((l).length : Nat) : Int) ≤ 12))
def spec_l13Askers_L1 (l : (List Requester)) : List Requester → Nat → Option (Bool)
  | [], i => none
  | e1 :: rest_, i =>
    bif (!(spec_l1In e1.face 0 6)) then
      (some false)
    else
      bif (!(spec_l1In e1.nonce 0 1000000)) then
        (some false)
      else
        bif decide (((i : Nat) : Int) > 0) then
          match (l)[(((i : Nat) : Int) - 1).toNat]? with
            | none => default
            | some e2 =>
              bif decide (e2.face ≥ e1.face) then
                (some false)
              else
                spec_l13Askers_L1 l rest_ (i + 1)
        else
          spec_l13Askers_L1 l rest_ (i + 1)
def spec_l13Askers (l : (List Requester)) : Bool :=
  match spec_l13Askers_L1 l l 0 with
    | some r_ => r_
    | none =>
      (decide ((((l).length : Nat) : Int) > 0))
def spec_l13Find_L1 (n_ : Name) : List PendingInterest → Nat → Option (Int)
  | [], i => none
  | e1 :: rest_, i =>
    bif (spec_EqualNames e1.name n_) then
      (some ((i : Nat) : Int))
    else
      spec_l13Find_L1 n_ rest_ (i + 1)
def spec_l13Find (l : (List PendingInterest)) (n_ : Name) : Int :=
  match spec_l13Find_L1 n_ l 0 with
    | some r_ => r_
    | none =>
      (-1)
def spec_ValidPending_L1 (l : (List PendingInterest)) : List PendingInterest → Nat → Option (Bool)
  | [], i => none
  | e1 :: rest_, i =>
    bif (!(spec_ValidName e1.name)) then
      (some false)
    else
      bif ((((e1.name.parts).length : Nat) : Int) == 0) then
        (some false)
      else
        bif (!(spec_l13Askers e1.requesters)) then
          (some false)
        else
          bif (!(spec_l1In e1.lastSent 0 100000)) then
            (some false)
          else
            bif decide ((spec_l13Find (List.take i l) e1.name) ≥ 0) then
              (some false)
            else
              spec_ValidPending_L1 l rest_ (i + 1)
def spec_ValidPending (l : (List PendingInterest)) : Bool :=
  match spec_ValidPending_L1 l l 0 with
    | some r_ => r_
    | none =>
      (decide ((((l).length : Nat) : Int) ≤ 12))
def impl_routeAt_c1 (face : Int) (prefix_ : Name) (r : Route) : Bool :=
  bif (r.face == face) then
    (impl_EqualNames r.pfx prefix_)
  else
    false
def impl_routeAt (l : (List Route)) (prefix_ : Name) (face : Int) : Int :=
  (slices_IndexFunc_Route l (fun e0_ => (impl_routeAt_c1 face prefix_ e0_)))
def impl_ValidRoutes_L1 (l : (List Route)) : List Route → Nat → Option (Bool)
  | [], i => none
  | e1 :: rest_, i =>
    bif (!(impl_ValidName e1.pfx)) then
      (some false)
    else
      bif (!(impl_InRange e1.face 1 6)) then
        (some false)
      else
        bif (!(impl_InRange e1.cost 0 1000)) then
          (some false)
        else
          bif decide ((impl_routeAt (List.take i l) e1.pfx e1.face) ≥ 0) then
            (some false)
          else
            impl_ValidRoutes_L1 l rest_ (i + 1)
def impl_ValidRoutes (l : (List Route)) : Bool :=
  match impl_ValidRoutes_L1 l l 0 with
    | some r_ => r_
    | none =>
      (decide ((((l).length : Nat) : Int) ≤ 24))
def spec_l14Find_L1 (n_ : Name) (side : Int) : List Route → Nat → Option (Int)
  | [], i => none
  | e1 :: rest_, i =>
    bif (e1.face == side) then
      bif (spec_EqualNames e1.pfx n_) then
        (some ((i : Nat) : Int))
      else
        spec_l14Find_L1 n_ side rest_ (i + 1)
    else
      spec_l14Find_L1 n_ side rest_ (i + 1)
def spec_l14Find (l : (List Route)) (n_ : Name) (side : Int) : Int :=
  match spec_l14Find_L1 n_ side l 0 with
    | some r_ => r_
    | none =>
      (-1)
def spec_ValidRoutes_L1 (l : (List Route)) : List Route → Nat → Option (Bool)
  | [], i => none
  | e1 :: rest_, i =>
    bif (!(spec_ValidName e1.pfx)) then
      (some false)
    else
      bif (!(spec_l1In e1.face 1 6)) then
        (some false)
      else
        bif (!(spec_l1In e1.cost 0 1000)) then
          (some false)
        else
          bif decide ((spec_l14Find (List.take i l) e1.pfx e1.face) ≥ 0) then
            (some false)
          else
            spec_ValidRoutes_L1 l rest_ (i + 1)
def spec_ValidRoutes (l : (List Route)) : Bool :=
  match spec_ValidRoutes_L1 l l 0 with
    | some r_ => r_
    | none =>
      (decide ((((l).length : Nat) : Int) ≤ 24))
def impl_measuredAt_c1 (face : Int) (n_ : Name) (m : Measurement) : Bool :=
  bif (m.face == face) then
    (impl_EqualNames m.pfx n_)
  else
    false
def impl_measuredAt (l : (List Measurement)) (n_ : Name) (face : Int) : Int :=
  (slices_IndexFunc_Measurement l (fun e0_ => (impl_measuredAt_c1 face n_ e0_)))
def impl_ValidMeasurements_L1 (l : (List Measurement)) : List Measurement → Nat → Option (Bool)
  | [], i => none
  | e1 :: rest_, i =>
    bif (!(impl_ValidName e1.pfx)) then
      (some false)
    else
      bif (!(impl_InRange e1.face 1 6)) then
        (some false)
      else
        bif (!(impl_InRange e1.failures 1 50)) then
          (some false)
        else
          bif decide ((impl_measuredAt (List.take i l) e1.pfx e1.face) ≥ 0) then
            (some false)
          else
            impl_ValidMeasurements_L1 l rest_ (i + 1)
def impl_ValidMeasurements (l : (List Measurement)) : Bool :=
  match impl_ValidMeasurements_L1 l l 0 with
    | some r_ => r_
    | none =>
      (decide ((((l).length : Nat) : Int) ≤ 24))
def spec_l15Find_L1 (n_ : Name) (side : Int) : List Measurement → Nat → Option (Int)
  | [], i => none
  | e1 :: rest_, i =>
    bif (e1.face == side) then
      bif (spec_EqualNames e1.pfx n_) then
        (some ((i : Nat) : Int))
      else
        spec_l15Find_L1 n_ side rest_ (i + 1)
    else
      spec_l15Find_L1 n_ side rest_ (i + 1)
def spec_l15Find (l : (List Measurement)) (n_ : Name) (side : Int) : Int :=
  match spec_l15Find_L1 n_ side l 0 with
    | some r_ => r_
    | none =>
      (-1)
def spec_ValidMeasurements_L1 (l : (List Measurement)) : List Measurement → Nat → Option (Bool)
  | [], i => none
  | e1 :: rest_, i =>
    bif (!(spec_ValidName e1.pfx)) then
      (some false)
    else
      bif (!(spec_l1In e1.face 1 6)) then
        (some false)
      else
        bif (!(spec_l1In e1.failures 1 50)) then
          (some false)
        else
          bif decide ((spec_l15Find (List.take i l) e1.pfx e1.face) ≥ 0) then
            (some false)
          else
            spec_ValidMeasurements_L1 l rest_ (i + 1)
def spec_ValidMeasurements (l : (List Measurement)) : Bool :=
  match spec_ValidMeasurements_L1 l l 0 with
    | some r_ => r_
    | none =>
      (decide ((((l).length : Nat) : Int) ≤ 24))
def impl_ValidNode_L1 (x_ : NodeP) : List DataP → Nat → Option (Bool)
  | [], i => none
  | e1 :: rest_, i =>
    bif (!(impl_ValidData e1)) then
      (some false)
    else
      bif decide ((impl_localAt (List.take i x_.locl) e1.name) ≥ 0) then
        (some false)
      else
        impl_ValidNode_L1 x_ rest_ (i + 1)
def impl_ValidNode (x_ : NodeP) : Bool :=
  match impl_ValidNode_L1 x_ x_.locl 0 with
    | some r_ => r_
    | none =>
      bif decide ((((x_.locl).length : Nat) : Int) ≤ 8) then
        bif (impl_ValidContentStore x_.cache) then
          bif (impl_ValidPending x_.pending) then
            bif (impl_ValidRoutes x_.routes) then
              bif (impl_ValidMeasurements x_.measurements) then
                bif decide ((((x_.seen).length : Nat) : Int) ≤ 24) then
                  (decide (x_.dropped ≥ 0))
                else
                  false
              else
                false
            else
              false
          else
            false
        else
          false
      else
        false
def spec_ValidNode_L1 (x_ : NodeP) : List DataP → Nat → Option (Bool)
  | [], i => none
  | e1 :: rest_, i =>
    bif (!(spec_ValidData e1)) then
      (some false)
    else
      bif decide ((spec_l16Find (List.take i x_.locl) e1.name) ≥ 0) then
        (some false)
      else
        spec_ValidNode_L1 x_ rest_ (i + 1)
def spec_ValidNode (x_ : NodeP) : Bool :=
  match spec_ValidNode_L1 x_ x_.locl 0 with
    | some r_ => r_
    | none =>
      bif decide ((((x_.locl).length : Nat) : Int) ≤ 8) then
        bif (spec_ValidContentStore x_.cache) then
          bif (spec_ValidPending x_.pending) then
            bif (spec_ValidRoutes x_.routes) then
              bif (spec_ValidMeasurements x_.measurements) then
                bif decide ((((x_.seen).length : Nat) : Int) ≤ 24) then
                  (decide (x_.dropped ≥ 0))
                else
                  false
              else
                false
            else
              false
          else
            false
        else
          false
      else
        false
end Go.Stp

