/-
  What the proof of one law needs: rules of the program logic, functions as Lean functions, contracts. No condition but what each says. Written by a program (pack.py) out of my own texts.
-/
import Derived.Test.YtolepebgdfdciaaGreatKAcceptData6
namespace Go.Proofs.YtolepebgdfdciaaGreat
open Go.Stp
set_option linter.unusedVariables false
set_option linter.unusedSimpArgs false
theorem f303 (w : World) (n : Nat) (hn : n + 0 ≤ 9) (s : (List Str)) (ps : Option Addr) (cs : Nat) (N0 : RdSl (hp w) ps cs s) (v : Str) (hoks : GoT.ok n s) (hokv : GoT.ok n v) :
  Does Tryz.prog 303 #[.slice ps ((s).length) cs, .string v] w emp (fun (rv : Value) (_ : World) => rv = .int .i64 ((slices_Index_string s v)) ∧ GoT.ok n ((slices_Index_string s v) : Int)) := by
 have hbP := bd_pos n
 have hbB := bd_big (n := n) (by omega)
 refine WX.enter (tt := tt) (Γ := [(0, MF.rs .stb ps cs s)]) Tryz.func303 rfl (by kernel_rfl) rfl (allS_cons rfl N0 allS_nil) ?_
 refine R0 ?_
 have r1 : (s).length ≤ bd n := (okl hoks).1
 refine WX.loop (ι := Nat) ⟨fun i => (i ≤ (s).length) ∧ (slices_Index_string_L1 v s 0 = slices_Index_string_L1 v ((s).drop i) i), fun i => (s).length - i, fun i => [(8, .v (.int .i64 (((i : Nat) : Int)))), (7, .v (.int .i64 ((((s).length : Nat) : Int)))), (0, .v (.slice ps ((s).length) cs)), (1, .v (.string v))], fun i => [], fun i => [], fun i => [(0, MF.rs .stb ps cs s)]⟩ 0 ⟨(Nat.zero_le _), rfl⟩
  (.cons rfl (.cons rfl (.cons rfl (.cons rfl (.nil))))) .nil .nil [0] rfl ?_
 rintro i hpre
 have hpre_ : (i ≤ (s).length) ∧ (slices_Index_string_L1 v s 0 = slices_Index_string_L1 v ((s).drop i) i) := hpre
 clear hpre
 obtain ⟨v1, v2⟩ := hpre_
 refine R0 ?_
 refine WX.cases 9 rfl (fun h1 => ?_) (fun h1 => ?_)
 ·skip
  have h1d := B.dt h1
  have e1i : i < (s).length := (by omega)
  obtain ⟨e1, e1h⟩ : ∃ e1, (s)[i]? = some e1 := ⟨_, List.getElem?_eq_getElem e1i⟩
  have ok1 : GoT.ok n e1 := (okl hoks).2 _ (List.mem_of_getElem? e1h)
  refine R0 ?_
  refine WX.idx 0 i ttOk rfl rfl rfl rfl rfl rfl rfl rfl rfl rfl e1i ?_
  rintro ad1 rfl
  refine WX.ldE 0 1 e1 ttOk rfl rfl rfl rfl rfl rfl rfl rfl e1h (fun _ => rfl) (fun _ => rfl) ?_
  rintro ⟨⟩
  refine R0 ?_
  refine WX.cases 16 rfl (fun h2 => ?_) (fun h2 => ?_)
  ·skip
   have h2d := B.et h2
   refine R0 ?_
   have hP1 : slices_Index_string_L1 v s 0 = (some ((i : Nat) : Int)) := by rw [v2, drop_get e1h]; simp only [slices_Index_string_L1, h2, ct, cf]
   have hP2 : slices_Index_string s v = ((i : Nat) : Int) := by simp only [slices_Index_string, hP1, ct, cf]
   refine R1 ?_
   intro w1 G bs hI hΓ
   rw [hP2]
   exact ⟨rfl, (show I64 ((i : Nat) : Int) from (by unfold I64; omega))⟩
  ·skip
   have h2d := B.ef h2
   refine R0 ?_
   refine WX.see rfl rfl rfl (fun _ hΓ => looks_arith rfl rfl rfl rfl (by unfold I64; first | omega | (simp only [List.length_take] at *; omega))) ?_
   refine R0 ?_
   exact WX.iter (i + 1) ⟨(by omega), (by rw [v2, drop_get e1h]; simp only [slices_Index_string_L1, h2, ct, cf])⟩ (by first | (dsimp only; omega) | omega) (.cons rfl (.cons rfl (.cons rfl (.cons rfl (.nil))))) .nil .nil [0] rfl
 ·skip
  have h1d := B.df h1
  refine R0 ?_
  have hX1 : slices_Index_string_L1 v s 0 = none := by rw [v2, List.drop_eq_nil_of_le (show (s).length ≤ i by omega)]; simp only [slices_Index_string_L1, ct, cf]
  have hP3 : slices_Index_string s v = (-1) := by simp only [slices_Index_string, hX1, ct, cf]
  refine R1 ?_
  intro w1 G bs hI hΓ
  rw [hP3]
  exact ⟨rfl, (show I64 (-1) from (by unfold I64; omega))⟩
theorem f302 (w : World) (n : Nat) (hn : n + 0 ≤ 9) (s : (List Str)) (ps : Option Addr) (cs : Nat) (N0 : RdSl (hp w) ps cs s) (v : Str) (hoks : GoT.ok n s) (hokv : GoT.ok n v) :
  Does Tryz.prog 302 #[.slice ps ((s).length) cs, .string v] w emp (fun (rv : Value) (_ : World) => rv = .bool (slices_Contains_string s v) ∧ True) := by
 have hbP := bd_pos n
 have hbB := bd_big (n := n) (by omega)
 refine WX.enter (tt := tt) (Γ := [(0, MF.rs .stb ps cs s)]) Tryz.func302 rfl (by kernel_rfl) rfl (allS_cons rfl N0 allS_nil) ?_
 refine R0 ?_
 refine WX.callV rfl rfl rfl rfl rfl (fun _ => rfl) rfl (fun w G bs hI hΓ => f303 w n (by omega) s ps cs (hΓ.get 0 rfl) v hoks hokv) ?_
 intro hq1
 refine R0 ?_
 have hP1 : slices_Contains_string s v = (decide ((slices_Index_string s v) ≥ 0)) := by simp only [slices_Contains_string, ct, cf]
 exact R3 hP1
theorem f270 (w : World) (n : Nat) (hn : n + 0 ≤ 9) (secret : Int) (hoksecret : GoT.ok n secret) :
  Does Tryz.prog 270 #[.int .i64 (secret)] w emp (fun (rv : Value) (_ : World) => rv = .bool (impl_ValidSecret secret) ∧ True) := by
 have hbP := bd_pos n
 have hbB := bd_big (n := n) (by omega)
 refine WX.enter (tt := tt) (Γ := []) Tryz.func270 rfl (by kernel_rfl) rfl allS_nil ?_
 refine R0 ?_
 refine WX.callV rfl rfl rfl rfl rfl (fun _ => rfl) rfl (fun w G bs hI hΓ => f132 w n (by omega) secret 1 2147483646 hoksecret (show I64 1 from (by unfold I64; omega)) (show I64 2147483646 from (by unfold I64; omega))) ?_
 intro hq1
 refine R0 ?_
 have hP1 : impl_ValidSecret secret = (impl_InRange secret 1 2147483646) := by simp only [impl_ValidSecret, ct, cf]
 exact R3 hP1
theorem f265 (w : World) (n : Nat) (hn : n + 0 ≤ 9) (secret : Int) (hoksecret : GoT.ok n secret) :
  Does Tryz.prog 265 #[.int .i64 (secret)] w emp (fun (rv : Value) (_ : World) => rv = .bool (spec_ValidSecret secret) ∧ True) := by
 have hbP := bd_pos n
 have hbB := bd_big (n := n) (by omega)
 refine WX.enter (tt := tt) (Γ := []) Tryz.func265 rfl (by kernel_rfl) rfl allS_nil ?_
 refine R0 ?_
 refine WX.callV rfl rfl rfl rfl rfl (fun _ => rfl) rfl (fun w G bs hI hΓ => f136 w n (by omega) secret 1 2147483646 hoksecret (show I64 1 from (by unfold I64; omega)) (show I64 2147483646 from (by unfold I64; omega))) ?_
 intro hq1
 refine R0 ?_
 have hP1 : spec_ValidSecret secret = (spec_l1In secret 1 2147483646) := by simp only [spec_ValidSecret, ct, cf]
 exact R3 hP1
theorem f301 (w : World) (n : Nat) (hn : n + 0 ≤ 9) (s : Str) (hoks : GoT.ok n s) :
  Does Tryz.prog 301 #[.string s] w emp (fun (rv : Value) (_ : World) => rv = .bool (impl_isVariable s) ∧ True) := by
 have hbP := bd_pos n
 have hbB := bd_big (n := n) (by omega)
 refine WX.enter (tt := tt) (Γ := []) Tryz.func301 rfl (by kernel_rfl) rfl allS_nil ?_
 refine R0 ?_
 refine WX.cases 6 rfl (fun h1 => ?_) (fun h1 => ?_)
 ·skip
  have h1d := B.et h1
  refine R0 ?_
  have e1i : 0 < ((s).data.toList).length := (by rw [show ((s).data.toList).length = (s).size from by simp]; omega)
  obtain ⟨e1, e1h⟩ : ∃ e1, ((s).data.toList)[0]? = some e1 := ⟨_, List.getElem?_eq_getElem e1i⟩
  refine WX.see rfl rfl rfl (fun _ hΓ => looks_strIdx ttOk rfl rfl rfl rfl rfl e1h) ?_
  refine R0 ?_
  refine WX.cases 11 rfl (fun h2 => ?_) (fun h2 => ?_)
  ·skip
   have h2d := B.et h2
   refine R0 ?_
   have e2i : 1 < ((s).data.toList).length := (by rw [show ((s).data.toList).length = (s).size from by simp]; omega)
   obtain ⟨e2, e2h⟩ : ∃ e2, ((s).data.toList)[1]? = some e2 := ⟨_, List.getElem?_eq_getElem e2i⟩
   refine WX.see rfl rfl rfl (fun _ hΓ => looks_strIdx ttOk rfl rfl rfl rfl rfl e2h) ?_
   refine R0 ?_
   refine WX.cases 16 rfl (fun h3 => ?_) (fun h3 => ?_)
   ·skip
    have h3d := B.dt h3
    refine R0 ?_
    refine WX.see rfl rfl rfl (fun _ hΓ => looks_strIdx ttOk rfl rfl rfl rfl rfl e2h) ?_
    refine R0 ?_
    have hP1 : impl_isVariable s = (decide (((e2).toNat : Int) ≤ 122)) := by simp only [impl_isVariable, h1, e1h, h2, e2h, h3, ct, cf]
    exact R3 hP1
   ·skip
    have h3d := B.df h3
    refine R0 ?_
    have hP2 : impl_isVariable s = false := by simp only [impl_isVariable, h1, e1h, h2, e2h, h3, ct, cf]
    exact R3 hP2
  ·skip
   have h2d := B.ef h2
   refine R0 ?_
   have hP3 : impl_isVariable s = false := by simp only [impl_isVariable, h1, e1h, h2, ct, cf]
   exact R3 hP3
 ·skip
  have h1d := B.ef h1
  refine R0 ?_
  have hP4 : impl_isVariable s = false := by simp only [impl_isVariable, h1, ct, cf]
  exact R3 hP4
theorem f292 (w : World) (n : Nat) (hn : n + 0 ≤ 9) (s : Str) (hoks : GoT.ok n s) :
  Does Tryz.prog 292 #[.string s] w emp (fun (rv : Value) (_ : World) => rv = .bool (spec_l5Letter s) ∧ True) := by
 have hbP := bd_pos n
 have hbB := bd_big (n := n) (by omega)
 refine WX.enter (tt := tt) (Γ := []) Tryz.func292 rfl (by kernel_rfl) rfl allS_nil ?_
 refine R0 ?_
 refine WX.cases 6 rfl (fun h1 => ?_) (fun h1 => ?_)
 ·skip
  have h1d := B.et h1
  refine R0 ?_
  have e1i : 0 < ((s).data.toList).length := (by rw [show ((s).data.toList).length = (s).size from by simp]; omega)
  obtain ⟨e1, e1h⟩ : ∃ e1, ((s).data.toList)[0]? = some e1 := ⟨_, List.getElem?_eq_getElem e1i⟩
  refine WX.see rfl rfl rfl (fun _ hΓ => looks_strIdx ttOk rfl rfl rfl rfl rfl e1h) ?_
  refine R0 ?_
  refine WX.cases 11 rfl (fun h2 => ?_) (fun h2 => ?_)
  ·skip
   have h2d := B.et h2
   refine R0 ?_
   have e2i : 1 < ((s).data.toList).length := (by rw [show ((s).data.toList).length = (s).size from by simp]; omega)
   obtain ⟨e2, e2h⟩ : ∃ e2, ((s).data.toList)[1]? = some e2 := ⟨_, List.getElem?_eq_getElem e2i⟩
   refine WX.see rfl rfl rfl (fun _ hΓ => looks_strIdx ttOk rfl rfl rfl rfl rfl e2h) ?_
   refine WX.see rfl rfl rfl (fun _ hΓ => looks_ofU8 ttOk rfl rfl rfl rfl rfl rfl) ?_
   have r1 : (e2).toNat < 256 := UInt8.toNat_lt _
   refine WX.callV rfl rfl rfl rfl rfl (fun _ => rfl) rfl (fun w G bs hI hΓ => f136 w n (by omega) ((e2).toNat : Int) 97 122 (show I64 ((e2).toNat : Int) from (by unfold I64; omega)) (show I64 97 from (by unfold I64; omega)) (show I64 122 from (by unfold I64; omega))) ?_
   intro hq1
   refine R0 ?_
   have hP1 : spec_l5Letter s = (spec_l1In ((e2).toNat : Int) 97 122) := by simp only [spec_l5Letter, h1, e1h, h2, e2h, ct, cf]
   exact R3 hP1
  ·skip
   have h2d := B.ef h2
   refine R0 ?_
   have hP2 : spec_l5Letter s = false := by simp only [spec_l5Letter, h1, e1h, h2, ct, cf]
   exact R3 hP2
 ·skip
  have h1d := B.ef h1
  refine R0 ?_
  have hP3 : spec_l5Letter s = false := by simp only [spec_l5Letter, h1, ct, cf]
  exact R3 hP3
theorem f298 (w : World) (n : Nat) (hn : n + 0 ≤ 9) (p_ : Pattern) (K0 : Option Addr) (M0 : Nat) (N0 : RdSl (hp w) K0 M0 p_.parts) (hokp_ : GoT.ok n p_) :
  Does Tryz.prog 298 #[.agg #[.slice K0 ((p_.parts).length) M0]] w emp (fun (rv : Value) (_ : World) => rv = .bool (impl_ValidPattern p_) ∧ True) := by
 have hbP := bd_pos n
 have hbB := bd_big (n := n) (by omega)
 refine WX.enter (tt := tt) (Γ := [(0, MF.rs .stb K0 M0 p_.parts)]) Tryz.func298 rfl (by kernel_rfl) rfl (allS_cons rfl N0 allS_nil) ?_
 refine R0 ?_
 have r1 : (p_.parts).length ≤ bd n := (okl (ok_Pattern hokp_)).1
 refine WX.loop (ι := Nat) ⟨fun i => (i ≤ (p_.parts).length) ∧ (impl_ValidPattern_L1 p_ p_.parts 0 = impl_ValidPattern_L1 p_ ((p_.parts).drop i) i), fun i => (p_.parts).length - i, fun i => [(8, .v (.int .i64 (((i : Nat) : Int)))), (7, .v (.int .i64 ((((p_.parts).length : Nat) : Int)))), (6, .v (.slice K0 ((p_.parts).length) M0)), (1, .p 1 0)], fun i => [(1, ⟨219, [.slice K0 ((p_.parts).length) M0]⟩)], fun i => [], fun i => [(0, MF.rs .stb K0 M0 p_.parts)]⟩ 0 ⟨(Nat.zero_le _), rfl⟩
  (.cons rfl (.cons rfl (.cons rfl (.cons rfl (.nil))))) (.cons rfl (.nil)) .nil [0] rfl ?_
 rintro i hpre
 have hpre_ : (i ≤ (p_.parts).length) ∧ (impl_ValidPattern_L1 p_ p_.parts 0 = impl_ValidPattern_L1 p_ ((p_.parts).drop i) i) := hpre
 clear hpre
 obtain ⟨v1, v2⟩ := hpre_
 refine R0 ?_
 refine WX.cases 9 rfl (fun h1 => ?_) (fun h1 => ?_)
 ·skip
  have h1d := B.dt h1
  have e1i : i < (p_.parts).length := (by omega)
  obtain ⟨e1, e1h⟩ : ∃ e1, (p_.parts)[i]? = some e1 := ⟨_, List.getElem?_eq_getElem e1i⟩
  have ok1 : GoT.ok n e1 := (okl (ok_Pattern hokp_)).2 _ (List.mem_of_getElem? e1h)
  refine R0 ?_
  refine WX.idx 0 i ttOk rfl rfl rfl rfl rfl rfl rfl rfl rfl rfl e1i ?_
  rintro ad1 rfl
  refine WX.ldE 0 1 e1 ttOk rfl rfl rfl rfl rfl rfl rfl rfl e1h (fun _ => rfl) (fun _ => rfl) ?_
  rintro ⟨⟩
  refine R0 ?_
  refine WX.callV rfl rfl rfl rfl rfl (fun _ => rfl) rfl (fun w G bs hI hΓ => f177 w n (by omega) e1 ok1) ?_
  intro hq1
  refine R0 ?_
  refine WX.cases 16 rfl (fun h2 => ?_) (fun h2 => ?_)
  ·skip
   have h2d := (B.nt h2)
   refine R0 ?_
   refine WX.cases 20 rfl (fun h3 => ?_) (fun h3 => ?_)
   ·skip
    have h3d := B.ef (B.nt h3)
    refine R0 ?_
    refine WX.callV rfl rfl rfl rfl rfl (fun _ => rfl) rfl (fun w G bs hI hΓ => f301 w n (by omega) e1 ok1) ?_
    intro hq2
    refine R0 ?_
    refine WX.cases 25 rfl (fun h4 => ?_) (fun h4 => ?_)
    ·skip
     have h4d := (B.nt h4)
     refine R0 ?_
     refine WX.cases 28 rfl (fun h5 => ?_) (fun h5 => ?_)
     ·skip
      have h5d := B.ef (B.nt h5)
      refine R0 ?_
      have hP1 : impl_ValidPattern_L1 p_ p_.parts 0 = (some false) := by rw [v2, drop_get e1h]; simp only [impl_ValidPattern_L1, h2, h3, h4, h5, ct, cf]
      have hP2 : impl_ValidPattern p_ = false := by simp only [impl_ValidPattern, hP1, ct, cf]
      exact R3 hP2
     ·skip
      have h5d := B.et (B.nf h5)
      refine R0 ?_
      refine WX.see rfl rfl rfl (fun _ hΓ => looks_wrap rfl rfl rfl rfl) ?_
      refine R0 ?_
      refine WX.cases 36 rfl (fun h6 => ?_) (fun h6 => ?_)
      ·skip
       have h6d := B.nt' h6
       refine R0 ?_
       have hP3 : impl_ValidPattern_L1 p_ p_.parts 0 = (some false) := by rw [v2, drop_get e1h]; simp only [impl_ValidPattern_L1, h2, h3, h4, h5, h6, ct, cf]
       have hP4 : impl_ValidPattern p_ = false := by simp only [impl_ValidPattern, hP3, ct, cf]
       exact R3 hP4
      ·skip
       have h6d := B.nf' h6
       refine R0 ?_
       refine WX.see rfl rfl rfl (fun _ hΓ => looks_arith rfl rfl rfl rfl (by unfold I64; first | omega | (simp only [List.length_take] at *; omega))) ?_
       refine R0 ?_
       exact WX.iter (i + 1) ⟨(by omega), (by rw [v2, drop_get e1h]; simp only [impl_ValidPattern_L1, h2, h3, h4, h5, h6, ct, cf])⟩ (by first | (dsimp only; omega) | omega) (.cons rfl (.cons rfl (.cons rfl (.cons rfl (.nil))))) (.cons rfl (.nil)) .nil [0] rfl
    ·skip
     have h4d := (B.nf h4)
     refine R0 ?_
     refine WX.see rfl rfl rfl (fun _ hΓ => looks_arith rfl rfl rfl rfl (by unfold I64; first | omega | (simp only [List.length_take] at *; omega))) ?_
     refine R0 ?_
     exact WX.iter (i + 1) ⟨(by omega), (by rw [v2, drop_get e1h]; simp only [impl_ValidPattern_L1, h2, h3, h4, ct, cf])⟩ (by first | (dsimp only; omega) | omega) (.cons rfl (.cons rfl (.cons rfl (.cons rfl (.nil))))) (.cons rfl (.nil)) .nil [0] rfl
   ·skip
    have h3d := B.et (B.nf h3)
    refine R0 ?_
    refine WX.see rfl rfl rfl (fun _ hΓ => looks_arith rfl rfl rfl rfl (by unfold I64; first | omega | (simp only [List.length_take] at *; omega))) ?_
    refine R0 ?_
    exact WX.iter (i + 1) ⟨(by omega), (by rw [v2, drop_get e1h]; simp only [impl_ValidPattern_L1, h2, h3, ct, cf])⟩ (by first | (dsimp only; omega) | omega) (.cons rfl (.cons rfl (.cons rfl (.cons rfl (.nil))))) (.cons rfl (.nil)) .nil [0] rfl
  ·skip
   have h2d := (B.nf h2)
   refine R0 ?_
   refine WX.see rfl rfl rfl (fun _ hΓ => looks_arith rfl rfl rfl rfl (by unfold I64; first | omega | (simp only [List.length_take] at *; omega))) ?_
   refine R0 ?_
   exact WX.iter (i + 1) ⟨(by omega), (by rw [v2, drop_get e1h]; simp only [impl_ValidPattern_L1, h2, ct, cf])⟩ (by first | (dsimp only; omega) | omega) (.cons rfl (.cons rfl (.cons rfl (.cons rfl (.nil))))) (.cons rfl (.nil)) .nil [0] rfl
 ·skip
  have h1d := B.df h1
  refine R0 ?_
  have hX1 : impl_ValidPattern_L1 p_ p_.parts 0 = none := by rw [v2, List.drop_eq_nil_of_le (show (p_.parts).length ≤ i by omega)]; simp only [impl_ValidPattern_L1, ct, cf]
  have hP5 : impl_ValidPattern p_ = (decide ((((p_.parts).length : Nat) : Int) ≤ 6)) := by simp only [impl_ValidPattern, hX1, ct, cf]
  exact R3 hP5
theorem f291 (w : World) (n : Nat) (hn : n + 0 ≤ 9) (p_ : Pattern) (K0 : Option Addr) (M0 : Nat) (N0 : RdSl (hp w) K0 M0 p_.parts) (hokp_ : GoT.ok n p_) :
  Does Tryz.prog 291 #[.agg #[.slice K0 ((p_.parts).length) M0]] w emp (fun (rv : Value) (_ : World) => rv = .bool (spec_ValidPattern p_) ∧ True) := by
 have hbP := bd_pos n
 have hbB := bd_big (n := n) (by omega)
 refine WX.enter (tt := tt) (Γ := [(0, MF.rs .stb K0 M0 p_.parts)]) Tryz.func291 rfl (by kernel_rfl) rfl (allS_cons rfl N0 allS_nil) ?_
 refine R0 ?_
 have r1 : (p_.parts).length ≤ bd n := (okl (ok_Pattern hokp_)).1
 refine WX.loop (ι := Nat) ⟨fun i => (i ≤ (p_.parts).length) ∧ (spec_ValidPattern_L1 p_ p_.parts 0 = spec_ValidPattern_L1 p_ ((p_.parts).drop i) i), fun i => (p_.parts).length - i, fun i => [(3, .v (.int .i64 (((i : Nat) : Int)))), (1, .p 1 0)], fun i => [(1, ⟨219, [.slice K0 ((p_.parts).length) M0]⟩)], fun i => [], fun i => [(0, MF.rs .stb K0 M0 p_.parts)]⟩ 0 ⟨(Nat.zero_le _), rfl⟩
  (.cons rfl (.cons rfl (.nil))) (.cons rfl (.nil)) .nil [0] rfl ?_
 rintro i hpre
 have hpre_ : (i ≤ (p_.parts).length) ∧ (spec_ValidPattern_L1 p_ p_.parts 0 = spec_ValidPattern_L1 p_ ((p_.parts).drop i) i) := hpre
 clear hpre
 obtain ⟨v1, v2⟩ := hpre_
 refine R0 ?_
 refine WX.cases 9 rfl (fun h1 => ?_) (fun h1 => ?_)
 ·skip
  have h1d := B.dt h1
  have e1i : i < (p_.parts).length := (by omega)
  obtain ⟨e1, e1h⟩ : ∃ e1, (p_.parts)[i]? = some e1 := ⟨_, List.getElem?_eq_getElem e1i⟩
  have ok1 : GoT.ok n e1 := (okl (ok_Pattern hokp_)).2 _ (List.mem_of_getElem? e1h)
  refine R0 ?_
  refine WX.idx 0 i ttOk rfl rfl rfl rfl rfl rfl rfl rfl rfl rfl e1i ?_
  rintro ad1 rfl
  refine WX.ldE 0 1 e1 ttOk rfl rfl rfl rfl rfl rfl rfl rfl e1h (fun _ => rfl) (fun _ => rfl) ?_
  rintro ⟨⟩
  refine R0 ?_
  refine WX.callV rfl rfl rfl rfl rfl (fun _ => rfl) rfl (fun w G bs hI hΓ => f179 w n (by omega) e1 ok1) ?_
  intro hq1
  refine R0 ?_
  refine WX.cases 20 rfl (fun h2 => ?_) (fun h2 => ?_)
  ·skip
   have h2d := (B.nt h2)
   refine R0 ?_
   refine WX.cases 24 rfl (fun h3 => ?_) (fun h3 => ?_)
   ·skip
    have h3d := B.ef (B.nt h3)
    refine R0 ?_
    refine WX.callV rfl rfl rfl rfl rfl (fun _ => rfl) rfl (fun w G bs hI hΓ => f292 w n (by omega) e1 ok1) ?_
    intro hq2
    refine R0 ?_
    refine WX.cases 29 rfl (fun h4 => ?_) (fun h4 => ?_)
    ·skip
     have h4d := (B.nt h4)
     refine R0 ?_
     refine WX.cases 32 rfl (fun h5 => ?_) (fun h5 => ?_)
     ·skip
      have h5d := B.ef (B.nt h5)
      refine R0 ?_
      have hP1 : spec_ValidPattern_L1 p_ p_.parts 0 = (some false) := by rw [v2, drop_get e1h]; simp only [spec_ValidPattern_L1, h2, h3, h4, h5, ct, cf]
      have hP2 : spec_ValidPattern p_ = false := by simp only [spec_ValidPattern, hP1, ct, cf]
      exact R3 hP2
     ·skip
      have h5d := B.et (B.nf h5)
      refine R0 ?_
      refine WX.see rfl rfl rfl (fun _ hΓ => looks_wrap rfl rfl rfl rfl) ?_
      refine R0 ?_
      refine WX.cases 40 rfl (fun h6 => ?_) (fun h6 => ?_)
      ·skip
       have h6d := B.dt h6
       refine R0 ?_
       have hP3 : spec_ValidPattern_L1 p_ p_.parts 0 = (some false) := by rw [v2, drop_get e1h]; simp only [spec_ValidPattern_L1, h2, h3, h4, h5, h6, ct, cf]
       have hP4 : spec_ValidPattern p_ = false := by simp only [spec_ValidPattern, hP3, ct, cf]
       exact R3 hP4
      ·skip
       have h6d := B.df h6
       refine R0 ?_
       refine WX.see rfl rfl rfl (fun _ hΓ => looks_arith rfl rfl rfl rfl (by unfold I64; first | omega | (simp only [List.length_take] at *; omega))) ?_
       refine R0 ?_
       exact WX.iter (i + 1) ⟨(by omega), (by rw [v2, drop_get e1h]; simp only [spec_ValidPattern_L1, h2, h3, h4, h5, h6, ct, cf])⟩ (by first | (dsimp only; omega) | omega) (.cons rfl (.cons rfl (.nil))) (.cons rfl (.nil)) .nil [0] rfl
    ·skip
     have h4d := (B.nf h4)
     refine R0 ?_
     refine WX.see rfl rfl rfl (fun _ hΓ => looks_arith rfl rfl rfl rfl (by unfold I64; first | omega | (simp only [List.length_take] at *; omega))) ?_
     refine R0 ?_
     exact WX.iter (i + 1) ⟨(by omega), (by rw [v2, drop_get e1h]; simp only [spec_ValidPattern_L1, h2, h3, h4, ct, cf])⟩ (by first | (dsimp only; omega) | omega) (.cons rfl (.cons rfl (.nil))) (.cons rfl (.nil)) .nil [0] rfl
   ·skip
    have h3d := B.et (B.nf h3)
    refine R0 ?_
    refine WX.see rfl rfl rfl (fun _ hΓ => looks_arith rfl rfl rfl rfl (by unfold I64; first | omega | (simp only [List.length_take] at *; omega))) ?_
    refine R0 ?_
    exact WX.iter (i + 1) ⟨(by omega), (by rw [v2, drop_get e1h]; simp only [spec_ValidPattern_L1, h2, h3, ct, cf])⟩ (by first | (dsimp only; omega) | omega) (.cons rfl (.cons rfl (.nil))) (.cons rfl (.nil)) .nil [0] rfl
  ·skip
   have h2d := (B.nf h2)
   refine R0 ?_
   refine WX.see rfl rfl rfl (fun _ hΓ => looks_arith rfl rfl rfl rfl (by unfold I64; first | omega | (simp only [List.length_take] at *; omega))) ?_
   refine R0 ?_
   exact WX.iter (i + 1) ⟨(by omega), (by rw [v2, drop_get e1h]; simp only [spec_ValidPattern_L1, h2, ct, cf])⟩ (by first | (dsimp only; omega) | omega) (.cons rfl (.cons rfl (.nil))) (.cons rfl (.nil)) .nil [0] rfl
 ·skip
  have h1d := B.df h1
  refine R0 ?_
  have hX1 : spec_ValidPattern_L1 p_ p_.parts 0 = none := by rw [v2, List.drop_eq_nil_of_le (show (p_.parts).length ≤ i by omega)]; simp only [spec_ValidPattern_L1, ct, cf]
  have hP5 : spec_ValidPattern p_ = (decide ((((p_.parts).length : Nat) : Int) ≤ 6)) := by simp only [spec_ValidPattern, hX1, ct, cf]
  exact R3 hP5
theorem f294 (w : World) (n : Nat) (hn : n + 0 ≤ 9) (p_ : Pattern) (K0 : Option Addr) (M0 : Nat) (N0 : RdSl (hp w) K0 M0 p_.parts) (s : Str) (hokp_ : GoT.ok n p_) (hoks : GoT.ok n s) :
  Does Tryz.prog 294 #[.agg #[.slice K0 ((p_.parts).length) M0], .string s] w emp (fun (rv : Value) (_ : World) => rv = .bool (spec_l10Has p_ s) ∧ True) := by
 have hbP := bd_pos n
 have hbB := bd_big (n := n) (by omega)
 refine WX.enter (tt := tt) (Γ := [(0, MF.rs .stb K0 M0 p_.parts)]) Tryz.func294 rfl (by kernel_rfl) rfl (allS_cons rfl N0 allS_nil) ?_
 refine R0 ?_
 have r1 : (p_.parts).length ≤ bd n := (okl (ok_Pattern hokp_)).1
 refine WX.loop (ι := Nat) ⟨fun i => (i ≤ (p_.parts).length) ∧ (spec_l10Has_L1 s p_.parts = spec_l10Has_L1 s ((p_.parts).drop i)), fun i => (p_.parts).length - i, fun i => [(5, .v (.int .i64 (((i : Nat) : Int)))), (2, .p 2 0), (1, .v (.string s))], fun i => [(2, ⟨219, [.slice K0 ((p_.parts).length) M0]⟩)], fun i => [], fun i => [(0, MF.rs .stb K0 M0 p_.parts)]⟩ 0 ⟨(Nat.zero_le _), rfl⟩
  (.cons rfl (.cons rfl (.cons rfl (.nil)))) (.cons rfl (.nil)) .nil [0] rfl ?_
 rintro i hpre
 have hpre_ : (i ≤ (p_.parts).length) ∧ (spec_l10Has_L1 s p_.parts = spec_l10Has_L1 s ((p_.parts).drop i)) := hpre
 clear hpre
 obtain ⟨v1, v2⟩ := hpre_
 refine R0 ?_
 refine WX.cases 10 rfl (fun h1 => ?_) (fun h1 => ?_)
 ·skip
  have h1d := B.dt h1
  have e1i : i < (p_.parts).length := (by omega)
  obtain ⟨e1, e1h⟩ : ∃ e1, (p_.parts)[i]? = some e1 := ⟨_, List.getElem?_eq_getElem e1i⟩
  have ok1 : GoT.ok n e1 := (okl (ok_Pattern hokp_)).2 _ (List.mem_of_getElem? e1h)
  refine R0 ?_
  refine WX.idx 0 i ttOk rfl rfl rfl rfl rfl rfl rfl rfl rfl rfl e1i ?_
  rintro ad1 rfl
  refine WX.ldE 0 1 e1 ttOk rfl rfl rfl rfl rfl rfl rfl rfl e1h (fun _ => rfl) (fun _ => rfl) ?_
  rintro ⟨⟩
  refine R0 ?_
  refine WX.cases 19 rfl (fun h2 => ?_) (fun h2 => ?_)
  ·skip
   have h2d := B.et h2
   refine R0 ?_
   have hP1 : spec_l10Has_L1 s p_.parts = (some true) := by rw [v2, drop_get e1h]; simp only [spec_l10Has_L1, h2, ct, cf]
   have hP2 : spec_l10Has p_ s = true := by simp only [spec_l10Has, hP1, ct, cf]
   exact R3 hP2
  ·skip
   have h2d := B.ef h2
   refine R0 ?_
   refine WX.see rfl rfl rfl (fun _ hΓ => looks_arith rfl rfl rfl rfl (by unfold I64; first | omega | (simp only [List.length_take] at *; omega))) ?_
   refine R0 ?_
   exact WX.iter (i + 1) ⟨(by omega), (by rw [v2, drop_get e1h]; simp only [spec_l10Has_L1, h2, ct, cf])⟩ (by first | (dsimp only; omega) | omega) (.cons rfl (.cons rfl (.cons rfl (.nil)))) (.cons rfl (.nil)) .nil [0] rfl
 ·skip
  have h1d := B.df h1
  refine R0 ?_
  have hX1 : spec_l10Has_L1 s p_.parts = none := by rw [v2, List.drop_eq_nil_of_le (show (p_.parts).length ≤ i by omega)]; simp only [spec_l10Has_L1, ct, cf]
  have hP3 : spec_l10Has p_ s = false := by simp only [spec_l10Has, hX1, ct, cf]
  exact R3 hP3
theorem f288 (w : World) (n : Nat) (hn : n + 0 ≤ 9) (r : Rule) (K0 : Option Addr) (M0 : Nat) (N0 : RdSl (hp w) K0 M0 r.dataPattern.parts) (K1 : Option Addr) (M1 : Nat) (N1 : RdSl (hp w) K1 M1 r.keyPattern.parts) (hokr : GoT.ok n r) :
  Does Tryz.prog 288 #[.agg #[.slice K0 ((r.dataPattern.parts).length) M0, .slice K1 ((r.keyPattern.parts).length) M1]] w emp (fun (rv : Value) (_ : World) => rv = .bool (impl_ValidRule r) ∧ True) := by
 have hbP := bd_pos n
 have hbB := bd_big (n := n) (by omega)
 refine WX.enter (tt := tt) (Γ := [(0, MF.rs .stb K0 M0 r.dataPattern.parts), (1, MF.rs .stb K1 M1 r.keyPattern.parts)]) Tryz.func288 rfl (by kernel_rfl) rfl (allS_cons rfl N0 (allS_cons rfl N1 allS_nil)) ?_
 refine R0 ?_
 refine WX.callV rfl rfl rfl rfl rfl (fun _ => rfl) rfl (fun w G bs hI hΓ => f298 w n (by omega) r.dataPattern K0 M0 (hΓ.get 0 rfl) ((ok_Rule hokr).1)) ?_
 intro hq1
 refine R0 ?_
 refine WX.cases 9 rfl (fun h1 => ?_) (fun h1 => ?_)
 ·skip
  have h1d := (B.nt h1)
  refine R0 ?_
  have hP1 : impl_ValidRule r = false := by simp only [impl_ValidRule, h1, ct, cf]
  exact R3 hP1
 ·skip
  have h1d := (B.nf h1)
  refine R0 ?_
  refine WX.callV rfl rfl rfl rfl rfl (fun _ => rfl) rfl (fun w G bs hI hΓ => f298 w n (by omega) r.keyPattern K1 M1 (hΓ.get 1 rfl) ((ok_Rule hokr).2)) ?_
  intro hq2
  refine R0 ?_
  refine WX.cases 14 rfl (fun h2 => ?_) (fun h2 => ?_)
  ·skip
   have h2d := (B.nt h2)
   refine R0 ?_
   have hP2 : impl_ValidRule r = false := by simp only [impl_ValidRule, h1, h2, ct, cf]
   exact R3 hP2
  ·skip
   have h2d := (B.nf h2)
   refine R0 ?_
   have r1 : (r.keyPattern.parts).length ≤ bd n := (okl (ok_Pattern (ok_Rule hokr).2)).1
   refine WX.loop (ι := Nat) ⟨fun i => (i ≤ (r.keyPattern.parts).length) ∧ (impl_ValidRule_L1 r r.keyPattern.parts = impl_ValidRule_L1 r ((r.keyPattern.parts).drop i)), fun i => (r.keyPattern.parts).length - i, fun i => [(19, .v (.int .i64 (((i : Nat) : Int)))), (18, .v (.int .i64 ((((r.keyPattern.parts).length : Nat) : Int)))), (17, .v (.slice K1 ((r.keyPattern.parts).length) M1)), (1, .p 1 0)], fun i => [(1, ⟨221, [.slice K0 ((r.dataPattern.parts).length) M0, .slice K1 ((r.keyPattern.parts).length) M1]⟩)], fun i => [], fun i => [(0, MF.rs .stb K0 M0 r.dataPattern.parts), (1, MF.rs .stb K1 M1 r.keyPattern.parts)]⟩ 0 ⟨(Nat.zero_le _), rfl⟩
    (.cons rfl (.cons rfl (.cons rfl (.cons rfl (.nil))))) (.cons rfl (.nil)) .nil [0, 1] rfl ?_
   rintro i hpre
   have hpre_ : (i ≤ (r.keyPattern.parts).length) ∧ (impl_ValidRule_L1 r r.keyPattern.parts = impl_ValidRule_L1 r ((r.keyPattern.parts).drop i)) := hpre
   clear hpre
   obtain ⟨v1, v2⟩ := hpre_
   refine R0 ?_
   refine WX.cases 20 rfl (fun h3 => ?_) (fun h3 => ?_)
   ·skip
    have h3d := B.dt h3
    have e1i : i < (r.keyPattern.parts).length := (by omega)
    obtain ⟨e1, e1h⟩ : ∃ e1, (r.keyPattern.parts)[i]? = some e1 := ⟨_, List.getElem?_eq_getElem e1i⟩
    have ok1 : GoT.ok n e1 := (okl (ok_Pattern (ok_Rule hokr).2)).2 _ (List.mem_of_getElem? e1h)
    refine R0 ?_
    refine WX.idx 1 i ttOk rfl rfl rfl rfl rfl rfl rfl rfl rfl rfl e1i ?_
    rintro ad1 rfl
    refine WX.ldE 1 2 e1 ttOk rfl rfl rfl rfl rfl rfl rfl rfl e1h (fun _ => rfl) (fun _ => rfl) ?_
    rintro ⟨⟩
    refine R0 ?_
    refine WX.callV rfl rfl rfl rfl rfl (fun _ => rfl) rfl (fun w G bs hI hΓ => f301 w n (by omega) e1 ok1) ?_
    intro hq3
    refine R0 ?_
    refine WX.cases 25 rfl (fun h4 => ?_) (fun h4 => ?_)
    ·skip
     refine R0 ?_
     refine WX.callV rfl rfl rfl rfl rfl (fun _ => rfl) rfl (fun w G bs hI hΓ => f302 w n (by omega) r.dataPattern.parts K0 M0 (hΓ.get 0 rfl) e1 (ok_Pattern (ok_Rule hokr).1) ok1) ?_
     intro hq4
     refine R0 ?_
     refine WX.cases 32 rfl (fun h5 => ?_) (fun h5 => ?_)
     ·skip
      have h5d := (B.nt h5)
      refine R0 ?_
      have hP3 : impl_ValidRule_L1 r r.keyPattern.parts = (some false) := by rw [v2, drop_get e1h]; simp only [impl_ValidRule_L1, h4, h5, ct, cf]
      have hP4 : impl_ValidRule r = false := by simp only [impl_ValidRule, h1, h2, hP3, ct, cf]
      exact R3 hP4
     ·skip
      have h5d := (B.nf h5)
      refine R0 ?_
      refine WX.see rfl rfl rfl (fun _ hΓ => looks_arith rfl rfl rfl rfl (by unfold I64; first | omega | (simp only [List.length_take] at *; omega))) ?_
      refine R0 ?_
      exact WX.iter (i + 1) ⟨(by omega), (by rw [v2, drop_get e1h]; simp only [impl_ValidRule_L1, h4, h5, ct, cf])⟩ (by first | (dsimp only; omega) | omega) (.cons rfl (.cons rfl (.cons rfl (.cons rfl (.nil))))) (.cons rfl (.nil)) .nil [0, 1] rfl
    ·skip
     refine R0 ?_
     refine WX.see rfl rfl rfl (fun _ hΓ => looks_arith rfl rfl rfl rfl (by unfold I64; first | omega | (simp only [List.length_take] at *; omega))) ?_
     refine R0 ?_
     exact WX.iter (i + 1) ⟨(by omega), (by rw [v2, drop_get e1h]; simp only [impl_ValidRule_L1, h4, ct, cf])⟩ (by first | (dsimp only; omega) | omega) (.cons rfl (.cons rfl (.cons rfl (.cons rfl (.nil))))) (.cons rfl (.nil)) .nil [0, 1] rfl
   ·skip
    have h3d := B.df h3
    refine R0 ?_
    have hX1 : impl_ValidRule_L1 r r.keyPattern.parts = none := by rw [v2, List.drop_eq_nil_of_le (show (r.keyPattern.parts).length ≤ i by omega)]; simp only [impl_ValidRule_L1, ct, cf]
    have hP5 : impl_ValidRule r = true := by simp only [impl_ValidRule, h1, h2, hX1, ct, cf]
    exact R3 hP5
theorem f282 (w : World) (n : Nat) (hn : n + 0 ≤ 9) (r : Rule) (K0 : Option Addr) (M0 : Nat) (N0 : RdSl (hp w) K0 M0 r.dataPattern.parts) (K1 : Option Addr) (M1 : Nat) (N1 : RdSl (hp w) K1 M1 r.keyPattern.parts) (hokr : GoT.ok n r) :
  Does Tryz.prog 282 #[.agg #[.slice K0 ((r.dataPattern.parts).length) M0, .slice K1 ((r.keyPattern.parts).length) M1]] w emp (fun (rv : Value) (_ : World) => rv = .bool (spec_ValidRule r) ∧ True) := by
 have hbP := bd_pos n
 have hbB := bd_big (n := n) (by omega)
 refine WX.enter (tt := tt) (Γ := [(0, MF.rs .stb K0 M0 r.dataPattern.parts), (1, MF.rs .stb K1 M1 r.keyPattern.parts)]) Tryz.func282 rfl (by kernel_rfl) rfl (allS_cons rfl N0 (allS_cons rfl N1 allS_nil)) ?_
 refine R0 ?_
 refine WX.callV rfl rfl rfl rfl rfl (fun _ => rfl) rfl (fun w G bs hI hΓ => f291 w n (by omega) r.dataPattern K0 M0 (hΓ.get 0 rfl) ((ok_Rule hokr).1)) ?_
 intro hq1
 refine R0 ?_
 refine WX.cases 8 rfl (fun h1 => ?_) (fun h1 => ?_)
 ·skip
  have h1d := (B.nt h1)
  refine R0 ?_
  have hP1 : spec_ValidRule r = false := by simp only [spec_ValidRule, h1, ct, cf]
  exact R3 hP1
 ·skip
  have h1d := (B.nf h1)
  refine R0 ?_
  refine WX.callV rfl rfl rfl rfl rfl (fun _ => rfl) rfl (fun w G bs hI hΓ => f291 w n (by omega) r.keyPattern K1 M1 (hΓ.get 1 rfl) ((ok_Rule hokr).2)) ?_
  intro hq2
  refine R0 ?_
  refine WX.cases 13 rfl (fun h2 => ?_) (fun h2 => ?_)
  ·skip
   have h2d := (B.nt h2)
   refine R0 ?_
   have hP2 : spec_ValidRule r = false := by simp only [spec_ValidRule, h1, h2, ct, cf]
   exact R3 hP2
  ·skip
   have h2d := (B.nf h2)
   refine R0 ?_
   have r1 : (r.keyPattern.parts).length ≤ bd n := (okl (ok_Pattern (ok_Rule hokr).2)).1
   refine WX.loop (ι := Nat) ⟨fun i => (i ≤ (r.keyPattern.parts).length) ∧ (spec_ValidRule_L1 r r.keyPattern.parts = spec_ValidRule_L1 r ((r.keyPattern.parts).drop i)), fun i => (r.keyPattern.parts).length - i, fun i => [(3, .v (.int .i64 (((i : Nat) : Int)))), (1, .p 1 0)], fun i => [(1, ⟨221, [.slice K0 ((r.dataPattern.parts).length) M0, .slice K1 ((r.keyPattern.parts).length) M1]⟩)], fun i => [], fun i => [(0, MF.rs .stb K0 M0 r.dataPattern.parts), (1, MF.rs .stb K1 M1 r.keyPattern.parts)]⟩ 0 ⟨(Nat.zero_le _), rfl⟩
    (.cons rfl (.cons rfl (.nil))) (.cons rfl (.nil)) .nil [0, 1] rfl ?_
   rintro i hpre
   have hpre_ : (i ≤ (r.keyPattern.parts).length) ∧ (spec_ValidRule_L1 r r.keyPattern.parts = spec_ValidRule_L1 r ((r.keyPattern.parts).drop i)) := hpre
   clear hpre
   obtain ⟨v1, v2⟩ := hpre_
   refine R0 ?_
   refine WX.cases 19 rfl (fun h3 => ?_) (fun h3 => ?_)
   ·skip
    have h3d := B.dt h3
    have e1i : i < (r.keyPattern.parts).length := (by omega)
    obtain ⟨e1, e1h⟩ : ∃ e1, (r.keyPattern.parts)[i]? = some e1 := ⟨_, List.getElem?_eq_getElem e1i⟩
    have ok1 : GoT.ok n e1 := (okl (ok_Pattern (ok_Rule hokr).2)).2 _ (List.mem_of_getElem? e1h)
    refine R0 ?_
    refine WX.draw [] mixed ?_
    intro bs G0 hΓ0
    refine DX.takes (fuel := 15) ttOk [(0, true), (1, true), (2, false), (3, true)] (by kernel_rfl) rfl ?_
    refine DX.idx 4 1 i ttOk hΓ0 (by kernel_rfl) rfl rfl rfl rfl rfl rfl rfl rfl rfl rfl rfl e1i ?_
    rintro ad1 rfl
    refine DX.ldE 5 1 2 e1 ttOk hΓ0 (by kernel_rfl) rfl rfl rfl rfl rfl rfl rfl rfl e1h (fun _ => rfl) (fun _ => rfl) ?_
    rintro ⟨⟩
    refine DX.callV 6 rfl (by kernel_rfl) rfl rfl rfl rfl rfl rfl (fun _ => rfl) rfl (fun w G bs hI hΓ => f292 w n (by omega) e1 ok1) ?_
    intro hq3
    refine DX.takes (fuel := 11) ttOk [(7, true)] (by kernel_rfl) rfl ?_
    refine DX.cases 29 rfl (fun h4 => ?_) (fun h4 => ?_)
    ·skip
     refine DX.takes (fuel := 5) ttOk [(8, true), (9, false), (10, true), (11, true), (12, false), (13, true)] (by kernel_rfl) rfl ?_
     refine DX.idx 14 1 i ttOk hΓ0 (by kernel_rfl) rfl rfl rfl rfl rfl rfl rfl rfl rfl rfl rfl e1i ?_
     rintro ad2 ⟨⟩
     refine DX.ldE 15 1 2 e1 ttOk hΓ0 (by kernel_rfl) rfl rfl rfl rfl rfl rfl rfl rfl e1h (fun _ => rfl) (fun _ => rfl) ?_
     rintro ⟨⟩
     refine DX.callV 16 rfl (by kernel_rfl) rfl rfl rfl rfl rfl rfl (fun _ => rfl) rfl (fun w G bs hI hΓ => f294 w n (by omega) r.dataPattern K0 M0 (hΓ.get 0 rfl) e1 ((ok_Rule hokr).1) ok1) ?_
     intro hq4
     refine DX.takes (fuel := 0) ttOk [(17, true), (18, true)] (by kernel_rfl) rfl ?_
     refine DX.tail2 [] rfl rfl (by kernel_rfl) ?_
     refine R0 ?_
     refine WX.cases 40 rfl (fun h5 => ?_) (fun h5 => ?_)
     ·skip
      have h5d := (B.nt h5)
      refine R0 ?_
      have hP3 : spec_ValidRule_L1 r r.keyPattern.parts = (some false) := by rw [v2, drop_get e1h]; simp only [spec_ValidRule_L1, h4, h5, ct, cf]
      have hP4 : spec_ValidRule r = false := by simp only [spec_ValidRule, h1, h2, hP3, ct, cf]
      exact R3 hP4
     ·skip
      have h5d := (B.nf h5)
      refine R0 ?_
      refine WX.see rfl rfl rfl (fun _ hΓ => looks_arith rfl rfl rfl rfl (by unfold I64; first | omega | (simp only [List.length_take] at *; omega))) ?_
      refine R0 ?_
      exact WX.iter (i + 1) ⟨(by omega), (by rw [v2, drop_get e1h]; simp only [spec_ValidRule_L1, h4, h5, ct, cf])⟩ (by first | (dsimp only; omega) | omega) (.cons rfl (.cons rfl (.nil))) (.cons rfl (.nil)) .nil [0, 1] rfl
    ·skip
     refine DX.takes (fuel := 0) ttOk [(8, true), (9, true), (10, true), (11, true), (12, true), (13, true), (14, true), (15, true), (16, true), (17, true), (18, true)] (by kernel_rfl) rfl ?_
     refine DX.tail2 [] rfl rfl (by kernel_rfl) ?_
     refine R0 ?_
     refine WX.see rfl rfl rfl (fun _ hΓ => looks_arith rfl rfl rfl rfl (by unfold I64; first | omega | (simp only [List.length_take] at *; omega))) ?_
     refine R0 ?_
     exact WX.iter (i + 1) ⟨(by omega), (by rw [v2, drop_get e1h]; simp only [spec_ValidRule_L1, h4, ct, cf])⟩ (by first | (dsimp only; omega) | omega) (.cons rfl (.cons rfl (.nil))) (.cons rfl (.nil)) .nil [0, 1] rfl
   ·skip
    have h3d := B.df h3
    refine R0 ?_
    have hX1 : spec_ValidRule_L1 r r.keyPattern.parts = none := by rw [v2, List.drop_eq_nil_of_le (show (r.keyPattern.parts).length ≤ i by omega)]; simp only [spec_ValidRule_L1, ct, cf]
    have hP5 : spec_ValidRule r = true := by simp only [spec_ValidRule, h1, h2, hX1, ct, cf]
    exact R3 hP5
theorem f273 (w : World) (n : Nat) (hn : n + 0 ≤ 9) (s : (List Rule)) (ps : Option Addr) (cs : Nat) (N0 : RdSl (hp w) ps cs s) (fg : FuncId) (fc : List Value) (fq : Rule → Bool) (ff : ∀ w1, Kp emp w w1 → ∀ (e0 : Rule) (x0 : GoT.X Rule), GoT.ok n e0 → All (hp w1) (GoT.fa .der e0 x0) → Does Tryz.prog fg ([Value.agg ⟨GoT.sh e0 x0⟩] ++ fc).toArray w1 emp (fun rv _ => rv = .bool (fq e0) ∧ True)) (hoks : GoT.ok n s) :
  Does Tryz.prog 273 #[.slice ps ((s).length) cs, .func (.func fg) #[] fc.toArray] w emp (fun (rv : Value) (_ : World) => rv = .int .i64 ((slices_IndexFunc_Rule s fq)) ∧ GoT.ok n ((slices_IndexFunc_Rule s fq) : Int)) := by
 have hbP := bd_pos n
 have hbB := bd_big (n := n) (by omega)
 refine WX.enter (tt := tt) (Γ := [(0, MF.rs .stb ps cs s)]) Tryz.func273 rfl (by kernel_rfl) rfl (allS_cons rfl N0 allS_nil) ?_
 refine R0 ?_
 have r1 : (s).length ≤ bd n := (okl hoks).1
 refine WX.loop (ι := Nat) ⟨fun i => (i ≤ (s).length) ∧ (slices_IndexFunc_Rule_L1 fq s 0 = slices_IndexFunc_Rule_L1 fq ((s).drop i) i), fun i => (s).length - i, fun i => [(8, .v (.int .i64 (((i : Nat) : Int)))), (7, .v (.int .i64 ((((s).length : Nat) : Int)))), (0, .v (.slice ps ((s).length) cs)), (1, .v (.func (.func fg) #[] fc.toArray))], fun i => [], fun i => [], fun i => [(0, MF.rs .stb ps cs s)]⟩ 0 ⟨(Nat.zero_le _), rfl⟩
  (.cons rfl (.cons rfl (.cons rfl (.cons rfl (.nil))))) .nil .nil [0] rfl ?_
 rintro i hpre
 have hpre_ : (i ≤ (s).length) ∧ (slices_IndexFunc_Rule_L1 fq s 0 = slices_IndexFunc_Rule_L1 fq ((s).drop i) i) := hpre
 clear hpre
 obtain ⟨v1, v2⟩ := hpre_
 refine R0 ?_
 refine WX.cases 9 rfl (fun h1 => ?_) (fun h1 => ?_)
 ·skip
  have h1d := B.dt h1
  have e1i : i < (s).length := (by omega)
  obtain ⟨e1, e1h⟩ : ∃ e1, (s)[i]? = some e1 := ⟨_, List.getElem?_eq_getElem e1i⟩
  have ok1 : GoT.ok n e1 := (okl hoks).2 _ (List.mem_of_getElem? e1h)
  refine R0 ?_
  refine WX.idx 0 i ttOk rfl rfl rfl rfl rfl rfl rfl rfl rfl rfl e1i ?_
  rintro ad1 rfl
  refine WX.ldE 0 1 e1 ttOk rfl rfl rfl rfl rfl rfl rfl rfl e1h (fun _ => rfl) (fun _ => rfl) ?_
  rintro ⟨⟨p1, c1⟩, ⟨p2, c2⟩⟩
  refine WX.callV rfl rfl rfl rfl rfl (fun _ => rfl) rfl (fun w G bs hI hΓ => ff w hI.keep e1 ((p1, c1), (p2, c2)) ok1 (All.cons (hΓ.get 1 rfl : RdSl _ _ _ _) (All.cons (hΓ.get 2 rfl : RdSl _ _ _ _) All.nil))) ?_
  intro hq1
  refine R0 ?_
  refine WX.cases 16 rfl (fun h2 => ?_) (fun h2 => ?_)
  ·skip
   refine R0 ?_
   have hP1 : slices_IndexFunc_Rule_L1 fq s 0 = (some ((i : Nat) : Int)) := by rw [v2, drop_get e1h]; simp only [slices_IndexFunc_Rule_L1, h2, ct, cf]
   have hP2 : slices_IndexFunc_Rule s fq = ((i : Nat) : Int) := by simp only [slices_IndexFunc_Rule, hP1, ct, cf]
   refine R1 ?_
   intro w1 G bs hI hΓ
   rw [hP2]
   exact ⟨rfl, (show I64 ((i : Nat) : Int) from (by unfold I64; omega))⟩
  ·skip
   refine R0 ?_
   refine WX.see rfl rfl rfl (fun _ hΓ => looks_arith rfl rfl rfl rfl (by unfold I64; first | omega | (simp only [List.length_take] at *; omega))) ?_
   refine R0 ?_
   exact WX.iter (i + 1) ⟨(by omega), (by rw [v2, drop_get e1h]; simp only [slices_IndexFunc_Rule_L1, h2, ct, cf])⟩ (by first | (dsimp only; omega) | omega) (.cons rfl (.cons rfl (.cons rfl (.cons rfl (.nil))))) .nil .nil [0] rfl
 ·skip
  have h1d := B.df h1
  refine R0 ?_
  have hX1 : slices_IndexFunc_Rule_L1 fq s 0 = none := by rw [v2, List.drop_eq_nil_of_le (show (s).length ≤ i by omega)]; simp only [slices_IndexFunc_Rule_L1, ct, cf]
  have hP3 : slices_IndexFunc_Rule s fq = (-1) := by simp only [slices_IndexFunc_Rule, hX1, ct, cf]
  refine R1 ?_
  intro w1 G bs hI hΓ
  rw [hP3]
  exact ⟨rfl, (show I64 (-1) from (by unfold I64; omega))⟩
theorem ltL_slices_IndexFunc_Rule : ∀ (f : Rule → Bool) (l : List Rule) (i : Nat) (j : Int), slices_IndexFunc_Rule_L1 f l i = some j → j < ((i + l.length : Nat) : Int)
  | f, [], i, j, h => by cases h
  | f, x :: l, i, j, h => by
    simp only [slices_IndexFunc_Rule_L1] at h
    cases hx : f x
    · rw [hx, cond_false] at h
      have := ltL_slices_IndexFunc_Rule f l (i + 1) j h
      simp only [List.length_cons]; omega
    · rw [hx, cond_true] at h
      cases h
      simp only [List.length_cons]; omega
theorem ltI_slices_IndexFunc_Rule (l : List Rule) (f : Rule → Bool) : slices_IndexFunc_Rule l f < ((l.length : Nat) : Int) := by
  unfold slices_IndexFunc_Rule
  cases h : slices_IndexFunc_Rule_L1 f l 0 with
  | none => show (-1 : Int) < _; omega
  | some j => have := ltL_slices_IndexFunc_Rule f l 0 j h; show j < _; omega
theorem f266 (w : World) (n : Nat) (hn : n + 0 ≤ 9) (l : (List Key)) (pl : Option Addr) (cl : Nat) (N0 : RdSl (hp w) pl cl l) (n_ : Name) (K1 : Option Addr) (M1 : Nat) (N1 : RdSl (hp w) K1 M1 n_.parts) (hokl : GoT.ok n l) (hokn_ : GoT.ok n n_) :
  Does Tryz.prog 266 #[.slice pl ((l).length) cl, .agg #[.slice K1 ((n_.parts).length) M1]] w emp (fun (rv : Value) (_ : World) => rv = .int .i64 ((spec_l9Find l n_)) ∧ GoT.ok n ((spec_l9Find l n_) : Int)) := by
 have hbP := bd_pos n
 have hbB := bd_big (n := n) (by omega)
 refine WX.enter (tt := tt) (Γ := [(0, MF.rs .stb pl cl l), (1, MF.rs .stb K1 M1 n_.parts)]) Tryz.func266 rfl (by kernel_rfl) rfl (allS_cons rfl N0 (allS_cons rfl N1 allS_nil)) ?_
 refine R0 ?_
 have r1 : (l).length ≤ bd n := (okl hokl).1
 refine WX.loop (ι := Nat) ⟨fun i => (i ≤ (l).length) ∧ (spec_l9Find_L1 n_ l 0 = spec_l9Find_L1 n_ ((l).drop i) i), fun i => (l).length - i, fun i => [(5, .v (.int .i64 (((i : Nat) : Int)))), (3, .p 3 0), (0, .v (.slice pl ((l).length) cl))], fun i => [(3, ⟨30, [.slice K1 ((n_.parts).length) M1]⟩)], fun i => [], fun i => [(0, MF.rs .stb pl cl l), (1, MF.rs .stb K1 M1 n_.parts)]⟩ 0 ⟨(Nat.zero_le _), rfl⟩
  (.cons rfl (.cons rfl (.cons rfl (.nil)))) (.cons rfl (.nil)) .nil [0, 1] rfl ?_
 rintro i hpre
 have hpre_ : (i ≤ (l).length) ∧ (spec_l9Find_L1 n_ l 0 = spec_l9Find_L1 n_ ((l).drop i) i) := hpre
 clear hpre
 obtain ⟨v1, v2⟩ := hpre_
 refine R0 ?_
 refine WX.cases 9 rfl (fun h1 => ?_) (fun h1 => ?_)
 ·skip
  have h1d := B.dt h1
  have e1i : i < (l).length := (by omega)
  obtain ⟨e1, e1h⟩ : ∃ e1, (l)[i]? = some e1 := ⟨_, List.getElem?_eq_getElem e1i⟩
  have ok1 : GoT.ok n e1 := (okl hokl).2 _ (List.mem_of_getElem? e1h)
  refine R0 ?_
  refine WX.draw [] mixed ?_
  intro bs G0 hΓ0
  refine DX.takes (fuel := 5) ttOk [(0, true), (1, true)] (by kernel_rfl) rfl ?_
  refine DX.idx 2 0 i ttOk hΓ0 (by kernel_rfl) rfl rfl rfl rfl rfl rfl rfl rfl rfl rfl rfl e1i ?_
  rintro ad1 rfl
  refine DX.takes (fuel := 3) ttOk [(3, true)] (by kernel_rfl) rfl ?_
  refine DX.ldE 4 0 2 e1 ttOk hΓ0 (by kernel_rfl) rfl rfl rfl rfl rfl rfl rfl rfl e1h (fun _ => rfl) (fun _ => rfl) ?_
  rintro ⟨⟨p1, c1⟩, ⟨⟩⟩
  refine DX.takes (fuel := 1) ttOk [(5, false)] (by kernel_rfl) rfl ?_
  refine DX.callV 6 rfl (by kernel_rfl) rfl rfl rfl rfl rfl rfl (fun _ => rfl) rfl (fun w G bs hI hΓ => f146 w n (by omega) e1.name p1 c1 (hΓ.get 2 rfl) n_ K1 M1 (hΓ.get 1 rfl) ((ok_Key ok1).1) hokn_) ?_
  intro hq1
  refine DX.tail2 [] rfl rfl (by kernel_rfl) ?_
  refine R0 ?_
  refine WX.cases 18 rfl (fun h2 => ?_) (fun h2 => ?_)
  ·skip
   refine R0 ?_
   have hP1 : spec_l9Find_L1 n_ l 0 = (some ((i : Nat) : Int)) := by rw [v2, drop_get e1h]; simp only [spec_l9Find_L1, h2, ct, cf]
   have hP2 : spec_l9Find l n_ = ((i : Nat) : Int) := by simp only [spec_l9Find, hP1, ct, cf]
   refine R1 ?_
   intro w1 G bs hI hΓ
   rw [hP2]
   exact ⟨rfl, (show I64 ((i : Nat) : Int) from (by unfold I64; omega))⟩
  ·skip
   refine R0 ?_
   refine WX.see rfl rfl rfl (fun _ hΓ => looks_arith rfl rfl rfl rfl (by unfold I64; first | omega | (simp only [List.length_take] at *; omega))) ?_
   refine R0 ?_
   exact WX.iter (i + 1) ⟨(by omega), (by rw [v2, drop_get e1h]; simp only [spec_l9Find_L1, h2, ct, cf])⟩ (by first | (dsimp only; omega) | omega) (.cons rfl (.cons rfl (.cons rfl (.nil)))) (.cons rfl (.nil)) .nil [0, 1] rfl
 ·skip
  have h1d := B.df h1
  refine R0 ?_
  have hX1 : spec_l9Find_L1 n_ l 0 = none := by rw [v2, List.drop_eq_nil_of_le (show (l).length ≤ i by omega)]; simp only [spec_l9Find_L1, ct, cf]
  have hP3 : spec_l9Find l n_ = (-1) := by simp only [spec_l9Find, hX1, ct, cf]
  refine R1 ?_
  intro w1 G bs hI hΓ
  rw [hP3]
  exact ⟨rfl, (show I64 (-1) from (by unfold I64; omega))⟩
end Go.Proofs.YtolepebgdfdciaaGreat

namespace Go.Stp
set_option linter.unusedVariables false
set_option linter.unusedSimpArgs false
theorem l9F_L (n_ : Name) : ∀ (l : List Key) (i : Nat) (r : Int), spec_l9Find_L1 n_ l i = some r → r < ((i + l.length : Nat) : Int)
  | [], _, _, h => by cases h
  | x :: l, i, r, h => by
    rw [List.length_cons]
    simp only [spec_l9Find_L1] at h
    cases hA : spec_EqualNames x.name n_ <;> simp only [hA, cond_true, cond_false] at h
    · have := l9F_L n_ l (i + 1) r h; omega
    · injection h with h; omega
theorem l9F_lt (l : List Key) (n_ : Name) : spec_l9Find l n_ < ((l.length : Nat) : Int) := by
  unfold spec_l9Find
  cases h : spec_l9Find_L1 n_ l 0 with
  | none => show (-1 : Int) < _; omega
  | some r => have := l9F_L n_ l 0 r h; show r < _; omega
def spec_SecretOf (l : (List Key)) (n_ : Name) : Int :=
  bif decide ((spec_l9Find l n_) < 0) then
    0
  else
    match (l)[((spec_l9Find l n_)).toNat]? with
      | none => default
      | some e1 =>
        e1.secret
def spec_VerifyData (secret : Int) (x_ : DataP) : Bool :=
  bif (spec_ValidSecret secret) then
    (x_.signature == (spec_ComputeMAC secret (spec_SignedPortion x_)))
  else
    false
def spec_VerifySignature (l : (List Key)) (x_ : DataP) : Bool :=
  (spec_VerifyData (spec_SecretOf l x_.keyName) x_)
def impl_SecretOf_L1 (n_ : Name) : List Key → Option (Int)
  | [] => none
  | e1 :: rest_ =>
    bif (impl_EqualNames e1.name n_) then
      (some e1.secret)
    else
      impl_SecretOf_L1 n_ rest_
def impl_SecretOf (l : (List Key)) (n_ : Name) : Int :=
  match impl_SecretOf_L1 n_ l with
    | some r_ => r_
    | none =>
      0
def impl_VerifyData (secret : Int) (x_ : DataP) : Bool :=
  bif (impl_ValidSecret secret) then
    (x_.signature == (impl_ComputeMAC secret (impl_SignedPortion x_)))
  else
    false
def impl_VerifySignature (l : (List Key)) (x_ : DataP) : Bool :=
  (impl_VerifyData (impl_SecretOf l x_.keyName) x_)
def spec_l5Find_L1 (k : Str) : List Binding → Nat → Option (Int)
  | [], i => none
  | e1 :: rest_, i =>
    bif ((e1.letter).toList == (k).toList) then
      (some ((i : Nat) : Int))
    else
      spec_l5Find_L1 k rest_ (i + 1)
def spec_l5Find (l : (List Binding)) (k : Str) : Int :=
  match spec_l5Find_L1 k l 0 with
    | some r_ => r_
    | none =>
      (-1)
theorem l5F_L (k : Str) : ∀ (l : List Binding) (i : Nat) (r : Int), spec_l5Find_L1 k l i = some r → r < ((i + l.length : Nat) : Int)
  | [], _, _, h => by cases h
  | x :: l, i, r, h => by
    rw [List.length_cons]
    simp only [spec_l5Find_L1] at h
    cases hA : ((x.letter).toList == (k).toList) <;> simp only [hA, cond_true, cond_false] at h
    · have := l5F_L k l (i + 1) r h; omega
    · injection h with h; omega
theorem l5F_lt (l : List Binding) (k : Str) : spec_l5Find l k < ((l.length : Nat) : Int) := by
  unfold spec_l5Find
  cases h : spec_l5Find_L1 k l 0 with
  | none => show (-1 : Int) < _; omega
  | some r => have := l5F_L k l 0 r h; show r < _; omega
def spec_Match_L1 (n_ : Name) (l : (List Binding)) : List Str → Nat → (List Binding) → Ctl ((List Binding) × Bool) ((List Binding))
  | [], i, out => (Ctl.nxt ((out) : List Binding))
  | e1 :: rest_, i, out =>
    bif ((e1).toList == ((⟨#[42, 42]⟩ : Str)).toList) then
      (Ctl.ret (out, true))
    else
      bif decide (((i : Nat) : Int) ≥ (((n_.parts).length : Nat) : Int)) then
        (Ctl.ret (l, false))
      else
        bif ((e1).toList == ((⟨#[42]⟩ : Str)).toList) then
          spec_Match_L1 n_ l rest_ (i + 1) ((out) : List Binding)
        else
          bif (spec_l5Letter e1) then
            bif decide ((spec_l5Find out e1) < 0) then
              match (n_.parts)[i]? with
                | none => default
                | some e2 =>
                  spec_Match_L1 n_ l rest_ (i + 1) (((out ++ [(Binding.mk e1 e2)])) : List Binding)
            else
              match (out)[((spec_l5Find out e1)).toNat]? with
                | none => default
                | some e3 =>
                  match (n_.parts)[i]? with
                    | none => default
                    | some e4 =>
                      bif (!((e3.value).toList == (e4).toList)) then
                        (Ctl.ret (l, false))
                      else
                        spec_Match_L1 n_ l rest_ (i + 1) ((out) : List Binding)
          else
            match (n_.parts)[i]? with
              | none => default
              | some e5 =>
                bif (!((e1).toList == (e5).toList)) then
                  (Ctl.ret (l, false))
                else
                  spec_Match_L1 n_ l rest_ (i + 1) ((out) : List Binding)
def spec_Match (p_ : Pattern) (n_ : Name) (l : (List Binding)) : (List Binding) × Bool :=
  bif (!(spec_ValidPattern p_)) then
    (l, false)
  else
    bif (!(spec_ValidName n_)) then
      (l, false)
    else
      match spec_Match_L1 n_ l p_.parts 0 (l : List Binding) with
        | .ret r_ => r_
        | .nxt out =>
          bif ((((n_.parts).length : Nat) : Int) != (((p_.parts).length : Nat) : Int)) then
            (l, false)
          else
            (out, true)
def slices_IndexFunc_Binding_L1 (fq : Binding → Bool) : List Binding → Nat → Option (Int)
  | [], i => none
  | e1 :: rest_, i =>
    bif fq e1 then
      (some ((i : Nat) : Int))
    else
      slices_IndexFunc_Binding_L1 fq rest_ (i + 1)
def slices_IndexFunc_Binding (s : (List Binding)) (fq : Binding → Bool) : Int :=
  match slices_IndexFunc_Binding_L1 fq s 0 with
    | some r_ => r_
    | none =>
      (-1)
def impl_Match_c1 (part : Str) (b : Binding) : Bool :=
  ((b.letter).toList == (part).toList)
def impl_Match_L1 (n_ : Name) (l : (List Binding)) : List Str → Nat → (List Binding) → Ctl ((List Binding) × Bool) ((List Binding))
  | [], i, out => (Ctl.nxt ((out) : List Binding))
  | e1 :: rest_, i, out =>
    bif ((e1).toList == ((⟨#[42, 42]⟩ : Str)).toList) then
      (Ctl.ret (out, true))
    else
      bif decide (((i : Nat) : Int) ≥ (((n_.parts).length : Nat) : Int)) then
        (Ctl.ret (l, false))
      else
        match (n_.parts)[i]? with
          | none => default
          | some e2 =>
            bif ((e1).toList == ((⟨#[42]⟩ : Str)).toList) then
              impl_Match_L1 n_ l rest_ (i + 1) ((out) : List Binding)
            else
              bif (!(impl_isVariable e1)) then
                bif (!((e1).toList == (e2).toList)) then
                  (Ctl.ret (l, false))
                else
                  impl_Match_L1 n_ l rest_ (i + 1) ((out) : List Binding)
              else
                bif decide ((slices_IndexFunc_Binding out (fun e0_ => (impl_Match_c1 e1 e0_))) < 0) then
                  impl_Match_L1 n_ l rest_ (i + 1) (((out ++ [(Binding.mk e1 e2)])) : List Binding)
                else
                  match (out)[((slices_IndexFunc_Binding out (fun e0_ => (impl_Match_c1 e1 e0_)))).toNat]? with
                    | none => default
                    | some e3 =>
                      bif (!((e3.value).toList == (e2).toList)) then
                        (Ctl.ret (l, false))
                      else
                        impl_Match_L1 n_ l rest_ (i + 1) ((out) : List Binding)
def impl_Match (p_ : Pattern) (n_ : Name) (l : (List Binding)) : (List Binding) × Bool :=
  bif (!(impl_ValidPattern p_)) then
    (l, false)
  else
    bif (!(impl_ValidName n_)) then
      (l, false)
    else
      match impl_Match_L1 n_ l p_.parts 0 (l : List Binding) with
        | .ret r_ => r_
        | .nxt out =>
          bif decide ((((n_.parts).length : Nat) : Int) > (((p_.parts).length : Nat) : Int)) then
            (l, false)
          else
            (out, true)
def spec_RuleAllows (r : Rule) (n_ : Name) (by_ : Name) : Bool :=
  bif (spec_ValidRule r) then
    bif (spec_Match r.dataPattern n_ ([])).2 then
      ((spec_Match r.keyPattern by_ ((spec_Match r.dataPattern n_ ([])).1)).2)
    else
      false
  else
    false
def impl_RuleAllows (r : Rule) (n_ : Name) (key : Name) : Bool :=
  bif (impl_ValidRule r) then
    bif (impl_Match r.dataPattern n_ ([] : List Binding)).2 then
      ((impl_Match r.keyPattern key ((impl_Match r.dataPattern n_ ([] : List Binding)).1)).2)
    else
      false
  else
    false
def spec_FirstAllowingRule_L1 (n_ : Name) (by_ : Name) : List Rule → Nat → Option (Int)
  | [], i => none
  | e1 :: rest_, i =>
    bif (spec_RuleAllows e1 n_ by_) then
      (some ((i : Nat) : Int))
    else
      spec_FirstAllowingRule_L1 n_ by_ rest_ (i + 1)
def spec_FirstAllowingRule (l : (List Rule)) (n_ : Name) (by_ : Name) : Int :=
  match spec_FirstAllowingRule_L1 n_ by_ l 0 with
    | some r_ => r_
    | none =>
      (-1)
def impl_FirstAllowingRule_c1 (key : Name) (n_ : Name) (r : Rule) : Bool :=
  (impl_RuleAllows r key n_)
def impl_FirstAllowingRule (l : (List Rule)) (n_ : Name) (key : Name) : Int :=
  (slices_IndexFunc_Rule l (fun e0_ => (impl_FirstAllowingRule_c1 n_ key e0_)))
def spec_Allowed (l : (List Rule)) (n_ : Name) (by_ : Name) : Bool :=
  (decide ((spec_FirstAllowingRule l n_ by_) ≥ 0))
def impl_Allowed (l : (List Rule)) (n_ : Name) (key : Name) : Bool :=
  (decide ((impl_FirstAllowingRule l n_ key) ≥ 0))
def spec_IsAnchor_L1 (n_ : Name) : List Name → Option (Bool)
  | [] => none
  | e1 :: rest_ =>
    bif (spec_EqualNames e1 n_) then
      (some true)
    else
      spec_IsAnchor_L1 n_ rest_
def spec_IsAnchor (t : TrustPolicy) (n_ : Name) : Bool :=
  match spec_IsAnchor_L1 n_ t.anchors with
    | some r_ => r_
    | none =>
      false
def slices_IndexFunc_Name_L1 (fq : Name → Bool) : List Name → Nat → Option (Int)
  | [], i => none
  | e1 :: rest_, i =>
    bif fq e1 then
      (some ((i : Nat) : Int))
    else
      slices_IndexFunc_Name_L1 fq rest_ (i + 1)
def slices_IndexFunc_Name (s : (List Name)) (fq : Name → Bool) : Int :=
  match slices_IndexFunc_Name_L1 fq s 0 with
    | some r_ => r_
    | none =>
      (-1)
def slices_ContainsFunc_Name (s : (List Name)) (fq : Name → Bool) : Bool :=
  (decide ((slices_IndexFunc_Name s fq) ≥ 0))
def impl_IsAnchor_c1 (n_ : Name) (a : Name) : Bool :=
  (impl_EqualNames a n_)
def impl_IsAnchor (t : TrustPolicy) (n_ : Name) : Bool :=
  (slices_ContainsFunc_Name t.anchors (fun e0_ => (impl_IsAnchor_c1 n_ e0_)))
def spec_FreshAt (x_ : DataP) (now : Int) : Bool :=
  (decide (now ≤ x_.freshUntil))
def impl_FreshAt (x_ : DataP) (now : Int) : Bool :=
  (decide (now ≤ x_.freshUntil))
def spec_KeyDigest (l : (List Key)) (n_ : Name) : (List UInt8) :=
  bif ((spec_SecretOf l n_) == 0) then
    ([])
  else
    (spec_AppendVarint ([]) (spec_Digest ([(spec_SecretOf l n_)])))
def impl_KeyDigest (l : (List Key)) (n_ : Name) : (List UInt8) :=
  bif ((impl_SecretOf l n_) == 0) then
    ([] : List UInt8)
  else
    (impl_AppendVarint ([] : List UInt8) (impl_Digest ([(impl_SecretOf l n_)])))
def spec_FindCertificate_L1 (t : TrustPolicy) (n_ : Name) (now : Int) : List DataP → Nat → Option (Int)
  | [], i => none
  | e1 :: rest_, i =>
    bif (spec_EqualNames e1.name n_) then
      bif (spec_FreshAt e1 now) then
        bif (spec_VerifySignature t.keys e1) then
          bif (spec_EqualBytes e1.content (spec_KeyDigest t.keys n_)) then
            (some ((i : Nat) : Int))
          else
            spec_FindCertificate_L1 t n_ now rest_ (i + 1)
        else
          spec_FindCertificate_L1 t n_ now rest_ (i + 1)
      else
        spec_FindCertificate_L1 t n_ now rest_ (i + 1)
    else
      spec_FindCertificate_L1 t n_ now rest_ (i + 1)
def spec_FindCertificate (t : TrustPolicy) (n_ : Name) (now : Int) : Int :=
  bif ((spec_SecretOf t.keys n_) == 0) then
    (-1)
  else
    match spec_FindCertificate_L1 t n_ now t.certificates 0 with
      | some r_ => r_
      | none =>
        (-1)
theorem fcS_L (t : TrustPolicy) (n_ : Name) (now : Int) : ∀ (l : List DataP) (i : Nat) (r : Int), spec_FindCertificate_L1 t n_ now l i = some r → r < ((i + l.length : Nat) : Int)
  | [], _, _, h => by cases h
  | x :: l, i, r, h => by
    have go : spec_FindCertificate_L1 t n_ now l (i + 1) = some r → r < ((i + (x :: l).length : Nat) : Int) := fun h' => by
      have := fcS_L t n_ now l (i + 1) r h'; rw [List.length_cons]; omega
    simp only [spec_FindCertificate_L1] at h
    cases hA : spec_EqualNames x.name n_ <;> simp only [hA, cond_true, cond_false] at h
    · exact go h
    · cases hB : spec_FreshAt x now <;> simp only [hB, cond_true, cond_false] at h
      · exact go h
      · cases hC : spec_VerifySignature t.keys x <;> simp only [hC, cond_true, cond_false] at h
        · exact go h
        · cases hD : spec_EqualBytes x.content (spec_KeyDigest t.keys n_) <;> simp only [hD, cond_true, cond_false] at h
          · exact go h
          · injection h with h; rw [List.length_cons]; omega
theorem fcS_lt (t : TrustPolicy) (n_ : Name) (now : Int) : spec_FindCertificate t n_ now < ((t.certificates.length : Nat) : Int) := by
  unfold spec_FindCertificate
  cases (spec_SecretOf t.keys n_ == 0)
  · simp only [cond_false]
    cases h : spec_FindCertificate_L1 t n_ now t.certificates 0 with
    | none => show (-1 : Int) < _; omega
    | some r => have := fcS_L t n_ now t.certificates 0 r h; show r < _; omega
  · simp only [cond_true]; omega
def impl_FindCertificate_c1 (n_ : Name) (now : Int) (t : TrustPolicy) (x_ : DataP) : Bool :=
  bif (impl_EqualNames x_.name n_) then
    bif (impl_FreshAt x_ now) then
      bif (impl_VerifySignature t.keys x_) then
        (slices_Equal_byte x_.content (impl_KeyDigest t.keys n_))
      else
        false
    else
      false
  else
    false
def impl_FindCertificate (t : TrustPolicy) (n_ : Name) (now : Int) : Int :=
  bif ((impl_SecretOf t.keys n_) == 0) then
    (-1)
  else
    (slices_IndexFunc_Data t.certificates (fun e0_ => (impl_FindCertificate_c1 n_ now t e0_)))
theorem fcI_L (f : DataP → Bool) : ∀ (l : List DataP) (i : Nat) (r : Int), slices_IndexFunc_Data_L1 f l i = some r → r < ((i + l.length : Nat) : Int)
  | [], _, _, h => by cases h
  | x :: l, i, r, h => by
    rw [List.length_cons]
    simp only [slices_IndexFunc_Data_L1] at h
    cases hA : f x <;> simp only [hA, cond_true, cond_false] at h
    · have := fcI_L f l (i + 1) r h; omega
    · injection h with h; omega
theorem fcI_lt (t : TrustPolicy) (n_ : Name) (now : Int) : impl_FindCertificate t n_ now < ((t.certificates.length : Nat) : Int) := by
  unfold impl_FindCertificate slices_IndexFunc_Data
  cases (impl_SecretOf t.keys n_ == 0)
  · simp only [cond_false]
    cases h : slices_IndexFunc_Data_L1 (fun e0_ => (impl_FindCertificate_c1 n_ now t e0_)) t.certificates 0 with
    | none => show (-1 : Int) < _; omega
    | some r => have := fcI_L _ t.certificates 0 r h; show r < _; omega
  · simp only [cond_true]; omega
def spec_TrustChain_L1 (t : TrustPolicy) (now : Int) (out : List Name) (xName : List Str) (xContent : List UInt8) (xKeyName : List Str) (xFreshUntil : Int) (xSignature : Int) : Ctl ((List Name) × Bool) ((List Name) × (List Str) × (List UInt8) × (List Str) × Int × Int) :=
  if (((out).length : Nat) : Int) < 4 then
    if (!(spec_VerifySignature t.keys (DataP.mk (Name.mk xName) xContent (Name.mk xKeyName) xFreshUntil xSignature))) = true then
      (Ctl.ret (([]), false))
    else
      if (!(spec_Allowed t.rules (Name.mk xName) (Name.mk xKeyName))) = true then
        (Ctl.ret (([]), false))
      else
        if (spec_IsAnchor t (spec_l4Copy (Name.mk xKeyName))) = true then
          (Ctl.ret ((out ++ [(spec_l4Copy (Name.mk xKeyName))]), true))
        else
          if (spec_FindCertificate t (spec_l4Copy (Name.mk xKeyName)) now) < 0 then
            (Ctl.ret (([]), false))
          else
            match (t.certificates)[((spec_FindCertificate t (spec_l4Copy (Name.mk xKeyName)) now)).toNat]? with
              | none => default
              | some e1 =>
                spec_TrustChain_L1 t now (((out ++ [(spec_l4Copy (Name.mk xKeyName))])) : List Name) ((e1.name.parts) : List Str) ((e1.content) : List UInt8) ((e1.keyName.parts) : List Str) e1.freshUntil e1.signature
  else
    (Ctl.nxt (((out) : List Name), ((xName) : List Str), ((xContent) : List UInt8), ((xKeyName) : List Str), xFreshUntil, xSignature))
termination_by 4 - out.length
decreasing_by all_goals (simp_wf; omega)
def spec_TrustChain (t : TrustPolicy) (x_ : DataP) (now : Int) : (List Name) × Bool :=
  match spec_TrustChain_L1 t now ([] : List Name) (x_.name.parts : List Str) (x_.content : List UInt8) (x_.keyName.parts : List Str) x_.freshUntil x_.signature with
    | .ret r_ => r_
    | .nxt (out, xName, xContent, xKeyName, xFreshUntil, xSignature) =>
      (([]), false)
def impl_TrustChain_L1 (t : TrustPolicy) (now : Int) (chain : List Name) (xName : List Str) (xContent : List UInt8) (xKeyName : List Str) (xFreshUntil : Int) (xSignature : Int) : Ctl ((List Name) × Bool) ((List Name) × (List Str) × (List UInt8) × (List Str) × Int × Int) :=
  if chain.length ≤ 4 then
  if (!(impl_VerifySignature t.keys (DataP.mk (Name.mk xName) xContent (Name.mk xKeyName) xFreshUntil xSignature))) = true then
    (Ctl.ret (([] : List Name), false))
  else
    if (!(impl_Allowed t.rules (Name.mk xName) (Name.mk xKeyName))) = true then
      (Ctl.ret (([] : List Name), false))
    else
      if ((((chain).length : Nat) : Int) == 4) = true then
        (Ctl.ret (([] : List Name), false))
      else
        if (impl_IsAnchor t (Name.mk xKeyName)) = true then
          (Ctl.ret ((chain ++ [(impl_copyName (Name.mk xKeyName))]), true))
        else
          if (impl_FindCertificate t (Name.mk xKeyName) now) < 0 then
            (Ctl.ret (([] : List Name), false))
          else
            match (t.certificates)[((impl_FindCertificate t (Name.mk xKeyName) now)).toNat]? with
              | none => default
              | some e1 =>
                impl_TrustChain_L1 t now (((chain ++ [(impl_copyName (Name.mk xKeyName))])) : List Name) ((e1.name.parts) : List Str) ((e1.content) : List UInt8) ((e1.keyName.parts) : List Str) e1.freshUntil e1.signature
  else default
termination_by 4 - chain.length
decreasing_by all_goals (simp_wf; simp only [beq_iff_eq] at *; omega)
def impl_TrustChain (t : TrustPolicy) (x_ : DataP) (now : Int) : (List Name) × Bool :=
  match impl_TrustChain_L1 t now ([] : List Name) (x_.name.parts : List Str) (x_.content : List UInt8) (x_.keyName.parts : List Str) x_.freshUntil x_.signature with
    | .ret r_ => r_
    | .nxt (chain, xName, xContent, xKeyName, xFreshUntil, xSignature) =>
      default
def spec_IsTrusted (t : TrustPolicy) (x_ : DataP) (now : Int) : Bool :=
  bif (spec_ValidData x_) then
    ((spec_TrustChain t x_ now).2)
  else
    false
def impl_IsTrusted (t : TrustPolicy) (x_ : DataP) (now : Int) : Bool :=
  bif (impl_TrustChain t x_ now).2 then
    (impl_ValidData x_)
  else
    false
def spec_AcceptData (a : Consumer) (t : TrustPolicy) (x_ : DataP) (now : Int) : Consumer :=
  bif (!a.satisfied) then
    bif (spec_EqualNames x_.name a.name) then
      bif (spec_IsTrusted t x_ now) then
        (Consumer.mk ((spec_l31Copy a).node) ((spec_l31Copy a).index) ((spec_l31Copy a).name) ((spec_l31Copy a).attempts) ((spec_l31Copy a).wait) true (spec_l8Copy x_))
      else
        (spec_l31Copy a)
    else
      (spec_l31Copy a)
  else
    (spec_l31Copy a)
def impl_AcceptData (a : Consumer) (t : TrustPolicy) (x_ : DataP) (now : Int) : Consumer :=
  bif (!a.satisfied) then
    bif (impl_EqualNames x_.name a.name) then
      bif (impl_IsTrusted t x_ now) then
        (Consumer.mk ((impl_copyConsumer a).node) ((impl_copyConsumer a).index) ((impl_copyConsumer a).name) ((impl_copyConsumer a).attempts) ((impl_copyConsumer a).wait) true (impl_copyData x_))
      else
        (impl_copyConsumer a)
    else
      (impl_copyConsumer a)
  else
    (impl_copyConsumer a)
end Go.Stp

