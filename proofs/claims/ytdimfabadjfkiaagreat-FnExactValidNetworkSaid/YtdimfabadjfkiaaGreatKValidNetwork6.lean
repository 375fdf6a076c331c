/-
  What the proof of one law needs: rules of the program logic, functions as Lean functions, contracts. No condition but what each says. Written by a program (pack.py) out of my own texts.
-/
import Derived.Test.YtdimfabadjfkiaaGreatKValidNetwork5
namespace Go.Proofs.YtdimfabadjfkiaaGreat
open Go.Stp
set_option linter.unusedVariables false
set_option linter.unusedSimpArgs false
theorem f216 (w : World) (n : Nat) (hn : n + 0 ≤ 9) (s : Str) (hoks : GoT.ok n s) :
  Does Tryz.prog 216 #[.string s] w emp (fun (rv : Value) (_ : World) => rv = .bool (impl_ValidPart s) ∧ True) := by
 have hbP := bd_pos n
 have hbB := bd_big (n := n) (by omega)
 refine WX.enter (tt := tt) (Γ := []) Tryz.func216 rfl (by kernel_rfl) rfl allS_nil ?_
 refine R0 ?_
 have r1 : (s).size ≤ bd n := hoks
 refine WX.loop (ι := Nat) ⟨fun i => (i ≤ ((s).data.toList).length) ∧ (impl_ValidPart_L1 ((s).data.toList) = impl_ValidPart_L1 (((s).data.toList).drop i)), fun i => ((s).data.toList).length - i, fun i => [(7, .v (.int .i64 (((i : Nat) : Int)))), (6, .v (.int .i64 ((((s).size : Nat) : Int)))), (0, .v (.string s))], fun i => [], fun i => [], fun i => []⟩ 0 ⟨(Nat.zero_le _), rfl⟩
  (.cons rfl (.cons rfl (.cons rfl (.nil)))) .nil .nil [] rfl ?_
 rintro i hpre
 have hpre_ : (i ≤ ((s).data.toList).length) ∧ (impl_ValidPart_L1 ((s).data.toList) = impl_ValidPart_L1 (((s).data.toList).drop i)) := hpre
 clear hpre
 obtain ⟨v1, v2⟩ := hpre_
 refine R0 ?_
 refine WX.cases 8 rfl (fun h1 => ?_) (fun h1 => ?_)
 ·skip
  have h1d := B.dt h1
  have e1i : i < ((s).data.toList).length := (by (have hz_ : ((s).data.toList).length = (s).size := by simp); omega)
  obtain ⟨e1, e1h⟩ : ∃ e1, ((s).data.toList)[i]? = some e1 := ⟨_, List.getElem?_eq_getElem e1i⟩
  refine R0 ?_
  refine WX.see rfl rfl rfl (fun _ hΓ => looks_strIdx ttOk rfl rfl rfl rfl rfl e1h) ?_
  refine R0 ?_
  refine WX.cases 15 rfl (fun h2 => ?_) (fun h2 => ?_)
  ·skip
   have h2d := B.dt h2
   refine R0 ?_
   refine WX.cases 19 rfl (fun h3 => ?_) (fun h3 => ?_)
   ·skip
    have h3d := B.dt h3
    refine R0 ?_
    refine WX.see rfl rfl rfl (fun _ hΓ => looks_arith rfl rfl rfl rfl (by unfold I64; first | omega | (simp only [List.length_take] at *; omega))) ?_
    refine R0 ?_
    exact WX.iter (i + 1) ⟨(by omega), (by rw [v2, drop_get e1h]; simp only [impl_ValidPart_L1, h2, h3, ct, cf])⟩ (by first | (dsimp only; omega) | omega) (.cons rfl (.cons rfl (.cons rfl (.nil)))) .nil .nil [] rfl
   ·skip
    have h3d := B.df h3
    refine R0 ?_
    refine WX.cases 22 rfl (fun h4 => ?_) (fun h4 => ?_)
    ·skip
     have h4d := B.dt h4
     refine R0 ?_
     refine WX.cases 27 rfl (fun h5 => ?_) (fun h5 => ?_)
     ·skip
      have h5d := B.dt h5
      refine R0 ?_
      refine WX.see rfl rfl rfl (fun _ hΓ => looks_arith rfl rfl rfl rfl (by unfold I64; first | omega | (simp only [List.length_take] at *; omega))) ?_
      refine R0 ?_
      exact WX.iter (i + 1) ⟨(by omega), (by rw [v2, drop_get e1h]; simp only [impl_ValidPart_L1, h2, h3, h4, h5, ct, cf])⟩ (by first | (dsimp only; omega) | omega) (.cons rfl (.cons rfl (.cons rfl (.nil)))) .nil .nil [] rfl
     ·skip
      have h5d := B.df h5
      refine R0 ?_
      refine WX.cases 31 rfl (fun h6 => ?_) (fun h6 => ?_)
      ·skip
       have h6d := B.ef (B.nt h6)
       refine R0 ?_
       have hP1 : impl_ValidPart_L1 ((s).data.toList) = (some false) := by rw [v2, drop_get e1h]; simp only [impl_ValidPart_L1, h2, h3, h4, h5, h6, ct, cf]
       have hP2 : impl_ValidPart s = false := by simp only [impl_ValidPart, hP1, ct, cf]
       exact R3 hP2
      ·skip
       have h6d := B.et (B.nf h6)
       refine R0 ?_
       refine WX.see rfl rfl rfl (fun _ hΓ => looks_arith rfl rfl rfl rfl (by unfold I64; first | omega | (simp only [List.length_take] at *; omega))) ?_
       refine R0 ?_
       exact WX.iter (i + 1) ⟨(by omega), (by rw [v2, drop_get e1h]; simp only [impl_ValidPart_L1, h2, h3, h4, h5, h6, ct, cf])⟩ (by first | (dsimp only; omega) | omega) (.cons rfl (.cons rfl (.cons rfl (.nil)))) .nil .nil [] rfl
    ·skip
     have h4d := B.df h4
     refine R0 ?_
     refine WX.cases 31 rfl (fun h7 => ?_) (fun h7 => ?_)
     ·skip
      have h7d := B.ef (B.nt h7)
      refine R0 ?_
      have hP3 : impl_ValidPart_L1 ((s).data.toList) = (some false) := by rw [v2, drop_get e1h]; simp only [impl_ValidPart_L1, h2, h3, h4, h7, ct, cf]
      have hP4 : impl_ValidPart s = false := by simp only [impl_ValidPart, hP3, ct, cf]
      exact R3 hP4
     ·skip
      have h7d := B.et (B.nf h7)
      refine R0 ?_
      refine WX.see rfl rfl rfl (fun _ hΓ => looks_arith rfl rfl rfl rfl (by unfold I64; first | omega | (simp only [List.length_take] at *; omega))) ?_
      refine R0 ?_
      exact WX.iter (i + 1) ⟨(by omega), (by rw [v2, drop_get e1h]; simp only [impl_ValidPart_L1, h2, h3, h4, h7, ct, cf])⟩ (by first | (dsimp only; omega) | omega) (.cons rfl (.cons rfl (.cons rfl (.nil)))) .nil .nil [] rfl
  ·skip
   have h2d := B.df h2
   refine R0 ?_
   refine WX.cases 22 rfl (fun h8 => ?_) (fun h8 => ?_)
   ·skip
    have h8d := B.dt h8
    refine R0 ?_
    refine WX.cases 27 rfl (fun h9 => ?_) (fun h9 => ?_)
    ·skip
     have h9d := B.dt h9
     refine R0 ?_
     refine WX.see rfl rfl rfl (fun _ hΓ => looks_arith rfl rfl rfl rfl (by unfold I64; first | omega | (simp only [List.length_take] at *; omega))) ?_
     refine R0 ?_
     exact WX.iter (i + 1) ⟨(by omega), (by rw [v2, drop_get e1h]; simp only [impl_ValidPart_L1, h2, h8, h9, ct, cf])⟩ (by first | (dsimp only; omega) | omega) (.cons rfl (.cons rfl (.cons rfl (.nil)))) .nil .nil [] rfl
    ·skip
     have h9d := B.df h9
     refine R0 ?_
     refine WX.cases 31 rfl (fun h10 => ?_) (fun h10 => ?_)
     ·skip
      have h10d := B.ef (B.nt h10)
      refine R0 ?_
      have hP5 : impl_ValidPart_L1 ((s).data.toList) = (some false) := by rw [v2, drop_get e1h]; simp only [impl_ValidPart_L1, h2, h8, h9, h10, ct, cf]
      have hP6 : impl_ValidPart s = false := by simp only [impl_ValidPart, hP5, ct, cf]
      exact R3 hP6
     ·skip
      have h10d := B.et (B.nf h10)
      refine R0 ?_
      refine WX.see rfl rfl rfl (fun _ hΓ => looks_arith rfl rfl rfl rfl (by unfold I64; first | omega | (simp only [List.length_take] at *; omega))) ?_
      refine R0 ?_
      exact WX.iter (i + 1) ⟨(by omega), (by rw [v2, drop_get e1h]; simp only [impl_ValidPart_L1, h2, h8, h9, h10, ct, cf])⟩ (by first | (dsimp only; omega) | omega) (.cons rfl (.cons rfl (.cons rfl (.nil)))) .nil .nil [] rfl
   ·skip
    have h8d := B.df h8
    refine R0 ?_
    refine WX.cases 31 rfl (fun h11 => ?_) (fun h11 => ?_)
    ·skip
     have h11d := B.ef (B.nt h11)
     refine R0 ?_
     have hP7 : impl_ValidPart_L1 ((s).data.toList) = (some false) := by rw [v2, drop_get e1h]; simp only [impl_ValidPart_L1, h2, h8, h11, ct, cf]
     have hP8 : impl_ValidPart s = false := by simp only [impl_ValidPart, hP7, ct, cf]
     exact R3 hP8
    ·skip
     have h11d := B.et (B.nf h11)
     refine R0 ?_
     refine WX.see rfl rfl rfl (fun _ hΓ => looks_arith rfl rfl rfl rfl (by unfold I64; first | omega | (simp only [List.length_take] at *; omega))) ?_
     refine R0 ?_
     exact WX.iter (i + 1) ⟨(by omega), (by rw [v2, drop_get e1h]; simp only [impl_ValidPart_L1, h2, h8, h11, ct, cf])⟩ (by first | (dsimp only; omega) | omega) (.cons rfl (.cons rfl (.cons rfl (.nil)))) .nil .nil [] rfl
 ·skip
  have h1d := B.df h1
  refine R0 ?_
  have hX1 : impl_ValidPart_L1 ((s).data.toList) = none := by rw [v2, List.drop_eq_nil_of_le (show ((s).data.toList).length ≤ i by (have hz_ : ((s).data.toList).length = (s).size := by simp); omega)]; simp only [impl_ValidPart_L1, ct, cf]
  refine WX.callV rfl rfl rfl rfl rfl (fun _ => rfl) rfl (fun w G bs hI hΓ => f138 w n (by omega) (((s).size : Nat) : Int) 1 8 (show I64 (((s).size : Nat) : Int) from (by unfold I64; omega)) (show I64 1 from (by unfold I64; omega)) (show I64 8 from (by unfold I64; omega))) ?_
  intro hq1
  refine R0 ?_
  have hP9 : impl_ValidPart s = (impl_InRange (((s).size : Nat) : Int) 1 8) := by simp only [impl_ValidPart, hX1, ct, cf]
  exact R3 hP9
theorem f218 (w : World) (n : Nat) (hn : n + 0 ≤ 9) (s : Str) (hoks : GoT.ok n s) :
  Does Tryz.prog 218 #[.string s] w emp (fun (rv : Value) (_ : World) => rv = .bool (spec_ValidPart s) ∧ True) := by
 have hbP := bd_pos n
 have hbB := bd_big (n := n) (by omega)
 refine WX.enter (tt := tt) (Γ := []) Tryz.func218 rfl (by kernel_rfl) rfl allS_nil ?_
 refine R0 ?_
 have r1 : (s).size ≤ bd n := hoks
 refine WX.callV rfl rfl rfl rfl rfl (fun _ => rfl) rfl (fun w G bs hI hΓ => f142 w n (by omega) (((s).size : Nat) : Int) 1 8 (show I64 (((s).size : Nat) : Int) from (by unfold I64; omega)) (show I64 1 from (by unfold I64; omega)) (show I64 8 from (by unfold I64; omega))) ?_
 intro hq1
 refine R0 ?_
 refine WX.cases 8 rfl (fun h1 => ?_) (fun h1 => ?_)
 ·skip
  have h1d := (B.nt h1)
  refine R0 ?_
  have hP1 : spec_ValidPart s = false := by simp only [spec_ValidPart, h1, ct, cf]
  exact R3 hP1
 ·skip
  have h1d := (B.nf h1)
  have h1r := inR_spec (B.nf h1)
  refine R0 ?_
  refine WX.loop (ι := Nat) ⟨fun i => (i ≤ ((s).data.toList).length) ∧ (spec_ValidPart_L1 ((s).data.toList) = spec_ValidPart_L1 (((s).data.toList).drop i)), fun i => ((s).data.toList).length - i, fun i => [(3, .v (.int .i64 (((i : Nat) : Int)))), (0, .v (.string s))], fun i => [], fun i => [], fun i => []⟩ 0 ⟨(Nat.zero_le _), rfl⟩
   (.cons rfl (.cons rfl (.nil))) .nil .nil [] rfl ?_
  rintro i hpre
  have hpre_ : (i ≤ ((s).data.toList).length) ∧ (spec_ValidPart_L1 ((s).data.toList) = spec_ValidPart_L1 (((s).data.toList).drop i)) := hpre
  clear hpre
  obtain ⟨v1, v2⟩ := hpre_
  refine R0 ?_
  refine WX.cases 12 rfl (fun h2 => ?_) (fun h2 => ?_)
  ·skip
   have h2d := B.dt h2
   have e1i : i < ((s).data.toList).length := (by (have hz_ : ((s).data.toList).length = (s).size := by simp); omega)
   obtain ⟨e1, e1h⟩ : ∃ e1, ((s).data.toList)[i]? = some e1 := ⟨_, List.getElem?_eq_getElem e1i⟩
   refine R0 ?_
   refine WX.see rfl rfl rfl (fun _ hΓ => looks_strIdx ttOk rfl rfl rfl rfl rfl e1h) ?_
   refine WX.see rfl rfl rfl (fun _ hΓ => looks_ofU8 ttOk rfl rfl rfl rfl rfl rfl) ?_
   refine R0 ?_
   have r2 : (e1).toNat < 256 := UInt8.toNat_lt _
   refine WX.callV rfl rfl rfl rfl rfl (fun _ => rfl) rfl (fun w G bs hI hΓ => f142 w n (by omega) ((e1).toNat : Int) 97 122 (show I64 ((e1).toNat : Int) from (by unfold I64; omega)) (show I64 97 from (by unfold I64; omega)) (show I64 122 from (by unfold I64; omega))) ?_
   intro hq2
   refine R0 ?_
   refine WX.cases 22 rfl (fun h3 => ?_) (fun h3 => ?_)
   ·skip
    have h3d := (B.nt h3)
    refine R0 ?_
    refine WX.callV rfl rfl rfl rfl rfl (fun _ => rfl) rfl (fun w G bs hI hΓ => f142 w n (by omega) ((e1).toNat : Int) 48 57 (show I64 ((e1).toNat : Int) from (by unfold I64; omega)) (show I64 48 from (by unfold I64; omega)) (show I64 57 from (by unfold I64; omega))) ?_
    intro hq3
    refine R0 ?_
    refine WX.cases 27 rfl (fun h4 => ?_) (fun h4 => ?_)
    ·skip
     have h4d := (B.nt h4)
     refine R0 ?_
     refine WX.cases 30 rfl (fun h5 => ?_) (fun h5 => ?_)
     ·skip
      have h5d := B.nt' h5
      refine R0 ?_
      have hP2 : spec_ValidPart_L1 ((s).data.toList) = (some false) := by rw [v2, drop_get e1h]; simp only [spec_ValidPart_L1, h3, h4, h5, ct, cf]
      have hP3 : spec_ValidPart s = false := by simp only [spec_ValidPart, h1, hP2, ct, cf]
      exact R3 hP3
     ·skip
      have h5d := B.nf' h5
      refine R0 ?_
      refine WX.see rfl rfl rfl (fun _ hΓ => looks_arith rfl rfl rfl rfl (by unfold I64; first | omega | (simp only [List.length_take] at *; omega))) ?_
      refine R0 ?_
      exact WX.iter (i + 1) ⟨(by omega), (by rw [v2, drop_get e1h]; simp only [spec_ValidPart_L1, h3, h4, h5, ct, cf])⟩ (by first | (dsimp only; omega) | omega) (.cons rfl (.cons rfl (.nil))) .nil .nil [] rfl
    ·skip
     have h4d := (B.nf h4)
     have h4r := inR_spec (B.nf h4)
     refine R0 ?_
     refine WX.see rfl rfl rfl (fun _ hΓ => looks_arith rfl rfl rfl rfl (by unfold I64; first | omega | (simp only [List.length_take] at *; omega))) ?_
     refine R0 ?_
     exact WX.iter (i + 1) ⟨(by omega), (by rw [v2, drop_get e1h]; simp only [spec_ValidPart_L1, h3, h4, ct, cf])⟩ (by first | (dsimp only; omega) | omega) (.cons rfl (.cons rfl (.nil))) .nil .nil [] rfl
   ·skip
    have h3d := (B.nf h3)
    have h3r := inR_spec (B.nf h3)
    refine R0 ?_
    refine WX.see rfl rfl rfl (fun _ hΓ => looks_arith rfl rfl rfl rfl (by unfold I64; first | omega | (simp only [List.length_take] at *; omega))) ?_
    refine R0 ?_
    exact WX.iter (i + 1) ⟨(by omega), (by rw [v2, drop_get e1h]; simp only [spec_ValidPart_L1, h3, ct, cf])⟩ (by first | (dsimp only; omega) | omega) (.cons rfl (.cons rfl (.nil))) .nil .nil [] rfl
  ·skip
   have h2d := B.df h2
   refine R0 ?_
   have hX1 : spec_ValidPart_L1 ((s).data.toList) = none := by rw [v2, List.drop_eq_nil_of_le (show ((s).data.toList).length ≤ i by (have hz_ : ((s).data.toList).length = (s).size := by simp); omega)]; simp only [spec_ValidPart_L1, ct, cf]
   have hP4 : spec_ValidPart s = true := by simp only [spec_ValidPart, h1, hX1, ct, cf]
   exact R3 hP4
theorem f299 (w : World) (n : Nat) (hn : n + 0 ≤ 9) (s : (List Str)) (ps : Option Addr) (cs : Nat) (N0 : RdSl (hp w) ps cs s) (fg : FuncId) (fc : List Value) (fq : Str → Bool) (ff : ∀ w1, Kp emp w w1 → ∀ (e0 : Str) (x0 : GoT.X Str), GoT.ok n e0 → All (hp w1) (GoT.fa .der e0 x0) → Does Tryz.prog fg ([(GoT.sh e0 x0).headD undef] ++ fc).toArray w1 emp (fun rv _ => rv = .bool (fq e0) ∧ True)) (hoks : GoT.ok n s) :
  Does Tryz.prog 299 #[.slice ps ((s).length) cs, .func (.func fg) #[] fc.toArray] w emp (fun (rv : Value) (_ : World) => rv = .int .i64 ((slices_IndexFunc_string s fq)) ∧ GoT.ok n ((slices_IndexFunc_string s fq) : Int)) := by
 have hbP := bd_pos n
 have hbB := bd_big (n := n) (by omega)
 refine WX.enter (tt := tt) (Γ := [(0, MF.rs .stb ps cs s)]) Tryz.func299 rfl (by kernel_rfl) rfl (allS_cons rfl N0 allS_nil) ?_
 refine R0 ?_
 have r1 : (s).length ≤ bd n := (okl hoks).1
 refine WX.loop (ι := Nat) ⟨fun i => (i ≤ (s).length) ∧ (slices_IndexFunc_string_L1 fq s 0 = slices_IndexFunc_string_L1 fq ((s).drop i) i), fun i => (s).length - i, fun i => [(8, .v (.int .i64 (((i : Nat) : Int)))), (7, .v (.int .i64 ((((s).length : Nat) : Int)))), (0, .v (.slice ps ((s).length) cs)), (1, .v (.func (.func fg) #[] fc.toArray))], fun i => [], fun i => [], fun i => [(0, MF.rs .stb ps cs s)]⟩ 0 ⟨(Nat.zero_le _), rfl⟩
  (.cons rfl (.cons rfl (.cons rfl (.cons rfl (.nil))))) .nil .nil [0] rfl ?_
 rintro i hpre
 have hpre_ : (i ≤ (s).length) ∧ (slices_IndexFunc_string_L1 fq s 0 = slices_IndexFunc_string_L1 fq ((s).drop i) i) := hpre
 clear hpre
 obtain ⟨v1, v2⟩ := hpre_
 refine R0 ?_
 refine WX.cases 9 rfl (fun h1 => ?_) (fun h1 => ?_)
 ·skip
  have h1d := B.dt h1
  have e1i : i < (s).length := (by omega)
  obtain ⟨e1, e1h⟩ : ∃ e1, (s)[i]? = some e1 := ⟨_, List.getElem?_eq_getElem e1i⟩
  have ok1 : GoT.ok n e1 := (okl hoks).2 _ (List.mem_of_getElem? e1h)
  refine R0 ?_
  refine WX.idx 0 i ttOk rfl rfl rfl rfl rfl rfl rfl rfl rfl rfl e1i ?_
  rintro ad1 rfl
  refine WX.ldE 0 1 e1 ttOk rfl rfl rfl rfl rfl rfl rfl rfl e1h (fun _ => rfl) (fun _ => rfl) ?_
  rintro ⟨⟩
  refine WX.callV rfl rfl rfl rfl rfl (fun _ => rfl) rfl (fun w G bs hI hΓ => ff w hI.keep e1 () ok1 All.nil) ?_
  intro hq1
  refine R0 ?_
  refine WX.cases 16 rfl (fun h2 => ?_) (fun h2 => ?_)
  ·skip
   refine R0 ?_
   have hP1 : slices_IndexFunc_string_L1 fq s 0 = (some ((i : Nat) : Int)) := by rw [v2, drop_get e1h]; simp only [slices_IndexFunc_string_L1, h2, ct, cf]
   have hP2 : slices_IndexFunc_string s fq = ((i : Nat) : Int) := by simp only [slices_IndexFunc_string, hP1, ct, cf]
   refine R1 ?_
   intro w1 G bs hI hΓ
   rw [hP2]
   exact ⟨rfl, (show I64 ((i : Nat) : Int) from (by unfold I64; omega))⟩
  ·skip
   refine R0 ?_
   refine WX.see rfl rfl rfl (fun _ hΓ => looks_arith rfl rfl rfl rfl (by unfold I64; first | omega | (simp only [List.length_take] at *; omega))) ?_
   refine R0 ?_
   exact WX.iter (i + 1) ⟨(by omega), (by rw [v2, drop_get e1h]; simp only [slices_IndexFunc_string_L1, h2, ct, cf])⟩ (by first | (dsimp only; omega) | omega) (.cons rfl (.cons rfl (.cons rfl (.cons rfl (.nil))))) .nil .nil [0] rfl
 ·skip
  have h1d := B.df h1
  refine R0 ?_
  have hX1 : slices_IndexFunc_string_L1 fq s 0 = none := by rw [v2, List.drop_eq_nil_of_le (show (s).length ≤ i by omega)]; simp only [slices_IndexFunc_string_L1, ct, cf]
  have hP3 : slices_IndexFunc_string s fq = (-1) := by simp only [slices_IndexFunc_string, hX1, ct, cf]
  refine R1 ?_
  intro w1 G bs hI hΓ
  rw [hP3]
  exact ⟨rfl, (show I64 (-1) from (by unfold I64; omega))⟩
theorem ltL_slices_IndexFunc_string : ∀ (f : Str → Bool) (l : List Str) (i : Nat) (j : Int), slices_IndexFunc_string_L1 f l i = some j → j < ((i + l.length : Nat) : Int)
  | f, [], i, j, h => by cases h
  | f, x :: l, i, j, h => by
    simp only [slices_IndexFunc_string_L1] at h
    cases hx : f x
    · rw [hx, cond_false] at h
      have := ltL_slices_IndexFunc_string f l (i + 1) j h
      simp only [List.length_cons]; omega
    · rw [hx, cond_true] at h
      cases h
      simp only [List.length_cons]; omega
theorem ltI_slices_IndexFunc_string (l : List Str) (f : Str → Bool) : slices_IndexFunc_string l f < ((l.length : Nat) : Int) := by
  unfold slices_IndexFunc_string
  cases h : slices_IndexFunc_string_L1 f l 0 with
  | none => show (-1 : Int) < _; omega
  | some j => have := ltL_slices_IndexFunc_string f l 0 j h; show j < _; omega
theorem f214 (w : World) (n : Nat) (hn : n + 0 ≤ 9) (s : (List Str)) (ps : Option Addr) (cs : Nat) (N0 : RdSl (hp w) ps cs s) (fg : FuncId) (fc : List Value) (fq : Str → Bool) (ff : ∀ w1, Kp emp w w1 → ∀ (e0 : Str) (x0 : GoT.X Str), GoT.ok n e0 → All (hp w1) (GoT.fa .der e0 x0) → Does Tryz.prog fg ([(GoT.sh e0 x0).headD undef] ++ fc).toArray w1 emp (fun rv _ => rv = .bool (fq e0) ∧ True)) (hoks : GoT.ok n s) :
  Does Tryz.prog 214 #[.slice ps ((s).length) cs, .func (.func fg) #[] fc.toArray] w emp (fun (rv : Value) (_ : World) => rv = .bool (slices_ContainsFunc_string s fq) ∧ True) := by
 have hbP := bd_pos n
 have hbB := bd_big (n := n) (by omega)
 refine WX.enter (tt := tt) (Γ := [(0, MF.rs .stb ps cs s)]) Tryz.func214 rfl (by kernel_rfl) rfl (allS_cons rfl N0 allS_nil) ?_
 refine R0 ?_
 refine WX.callV rfl rfl rfl rfl rfl (fun _ => rfl) rfl (fun w G bs hI hΓ => f299 w n (by omega) s ps cs (hΓ.get 0 rfl) fg fc fq (fun w1_ hb_ => ff w1_ (hI.keep.trans hb_)) hoks) ?_
 intro hq1
 have q1 := ltI_slices_IndexFunc_string s fq
 refine R0 ?_
 have hP1 : slices_ContainsFunc_string s fq = (decide ((slices_IndexFunc_string s fq) ≥ 0)) := by simp only [slices_ContainsFunc_string, ct, cf]
 exact R3 hP1
theorem f215 (w : World) (n : Nat) (hn : n + 0 ≤ 9) (p_ : Str) (hokp_ : GoT.ok n p_) :
  Does Tryz.prog 215 #[.string p_] w emp (fun (rv : Value) (_ : World) => rv = .bool (impl_ValidName_c1 p_) ∧ True) := by
 have hbP := bd_pos n
 have hbB := bd_big (n := n) (by omega)
 refine WX.enter (tt := tt) (Γ := []) Tryz.func215 rfl (by kernel_rfl) rfl allS_nil ?_
 refine R0 ?_
 refine WX.callV rfl rfl rfl rfl rfl (fun _ => rfl) rfl (fun w G bs hI hΓ => f216 w n (by omega) p_ hokp_) ?_
 intro hq1
 refine R0 ?_
 have hP1 : impl_ValidName_c1 p_ = (!(impl_ValidPart p_)) := by simp only [impl_ValidName_c1, ct, cf]
 exact R3 hP1
theorem f103 (w : World) (n : Nat) (hn : n + 0 ≤ 9) (n_ : Name) (K0 : Option Addr) (M0 : Nat) (N0 : RdSl (hp w) K0 M0 n_.parts) (hokn_ : GoT.ok n n_) :
  Does Tryz.prog 103 #[.agg #[.slice K0 ((n_.parts).length) M0]] w emp (fun (rv : Value) (_ : World) => rv = .bool (impl_ValidName n_) ∧ True) := by
 have hbP := bd_pos n
 have hbB := bd_big (n := n) (by omega)
 refine WX.enter (tt := tt) (Γ := [(0, MF.rs .stb K0 M0 n_.parts)]) Tryz.func103 rfl (by kernel_rfl) rfl (allS_cons rfl N0 allS_nil) ?_
 refine R0 ?_
 refine WX.cases 7 rfl (fun h1 => ?_) (fun h1 => ?_)
 ·skip
  have h1d := B.dt h1
  refine R0 ?_
  refine WX.callV rfl rfl rfl rfl rfl (fun _ => rfl) rfl (fun w G bs hI hΓ => f214 w n (by omega) n_.parts K0 M0 (hΓ.get 0 rfl) 215 [] (fun e0_ => (impl_ValidName_c1 e0_)) (fun w1_ hb_ e0_ x0_ hk0_ hx0_ => f215 w1_ n (by omega) e0_ hk0_) (ok_Name hokn_)) ?_
  intro hq1
  refine R0 ?_
  have hP1 : impl_ValidName n_ = (!(slices_ContainsFunc_string n_.parts (fun e0_ => (impl_ValidName_c1 e0_)))) := by simp only [impl_ValidName, h1, ct, cf]
  exact R3 hP1
 ·skip
  have h1d := B.df h1
  refine R0 ?_
  have hP2 : impl_ValidName n_ = false := by simp only [impl_ValidName, h1, ct, cf]
  exact R3 hP2
theorem f106 (w : World) (n : Nat) (hn : n + 0 ≤ 9) (n_ : Name) (K0 : Option Addr) (M0 : Nat) (N0 : RdSl (hp w) K0 M0 n_.parts) (hokn_ : GoT.ok n n_) :
  Does Tryz.prog 106 #[.agg #[.slice K0 ((n_.parts).length) M0]] w emp (fun (rv : Value) (_ : World) => rv = .bool (spec_ValidName n_) ∧ True) := by
 have hbP := bd_pos n
 have hbB := bd_big (n := n) (by omega)
 refine WX.enter (tt := tt) (Γ := [(0, MF.rs .stb K0 M0 n_.parts)]) Tryz.func106 rfl (by kernel_rfl) rfl (allS_cons rfl N0 allS_nil) ?_
 refine R0 ?_
 have r1 : (n_.parts).length ≤ bd n := (okl (ok_Name hokn_)).1
 refine WX.loop (ι := Nat) ⟨fun i => (i ≤ (n_.parts).length) ∧ (spec_ValidName_L1 n_.parts = spec_ValidName_L1 ((n_.parts).drop i)), fun i => (n_.parts).length - i, fun i => [(3, .v (.int .i64 (((i : Nat) : Int)))), (1, .p 1 0)], fun i => [(1, ⟨30, [.slice K0 ((n_.parts).length) M0]⟩)], fun i => [], fun i => [(0, MF.rs .stb K0 M0 n_.parts)]⟩ 0 ⟨(Nat.zero_le _), rfl⟩
  (.cons rfl (.cons rfl (.nil))) (.cons rfl (.nil)) .nil [0] rfl ?_
 rintro i hpre
 have hpre_ : (i ≤ (n_.parts).length) ∧ (spec_ValidName_L1 n_.parts = spec_ValidName_L1 ((n_.parts).drop i)) := hpre
 clear hpre
 obtain ⟨v1, v2⟩ := hpre_
 refine R0 ?_
 refine WX.cases 8 rfl (fun h1 => ?_) (fun h1 => ?_)
 ·skip
  have h1d := B.dt h1
  have e1i : i < (n_.parts).length := (by omega)
  obtain ⟨e1, e1h⟩ : ∃ e1, (n_.parts)[i]? = some e1 := ⟨_, List.getElem?_eq_getElem e1i⟩
  have ok1 : GoT.ok n e1 := (okl (ok_Name hokn_)).2 _ (List.mem_of_getElem? e1h)
  refine R0 ?_
  refine WX.idx 0 i ttOk rfl rfl rfl rfl rfl rfl rfl rfl rfl rfl e1i ?_
  rintro ad1 rfl
  refine WX.ldE 0 1 e1 ttOk rfl rfl rfl rfl rfl rfl rfl rfl e1h (fun _ => rfl) (fun _ => rfl) ?_
  rintro ⟨⟩
  refine WX.callV rfl rfl rfl rfl rfl (fun _ => rfl) rfl (fun w G bs hI hΓ => f218 w n (by omega) e1 ok1) ?_
  intro hq1
  refine R0 ?_
  refine WX.cases 17 rfl (fun h2 => ?_) (fun h2 => ?_)
  ·skip
   have h2d := (B.nt h2)
   refine R0 ?_
   have hP1 : spec_ValidName_L1 n_.parts = (some false) := by rw [v2, drop_get e1h]; simp only [spec_ValidName_L1, h2, ct, cf]
   have hP2 : spec_ValidName n_ = false := by simp only [spec_ValidName, hP1, ct, cf]
   exact R3 hP2
  ·skip
   have h2d := (B.nf h2)
   refine R0 ?_
   refine WX.see rfl rfl rfl (fun _ hΓ => looks_arith rfl rfl rfl rfl (by unfold I64; first | omega | (simp only [List.length_take] at *; omega))) ?_
   refine R0 ?_
   exact WX.iter (i + 1) ⟨(by omega), (by rw [v2, drop_get e1h]; simp only [spec_ValidName_L1, h2, ct, cf])⟩ (by first | (dsimp only; omega) | omega) (.cons rfl (.cons rfl (.nil))) (.cons rfl (.nil)) .nil [0] rfl
 ·skip
  have h1d := B.df h1
  refine R0 ?_
  have hX1 : spec_ValidName_L1 n_.parts = none := by rw [v2, List.drop_eq_nil_of_le (show (n_.parts).length ≤ i by omega)]; simp only [spec_ValidName_L1, ct, cf]
  have hP3 : spec_ValidName n_ = (decide ((((n_.parts).length : Nat) : Int) ≤ 6)) := by simp only [spec_ValidName, hX1, ct, cf]
  exact R3 hP3
theorem f102 (w : World) (n : Nat) (hn : n + 0 ≤ 9) (x_ : DataP) (K0 : Option Addr) (M0 : Nat) (N0 : RdSl (hp w) K0 M0 x_.name.parts) (K1 : Option Addr) (M1 : Nat) (N1 : RdSl (hp w) K1 M1 x_.content) (K2 : Option Addr) (M2 : Nat) (N2 : RdSl (hp w) K2 M2 x_.keyName.parts) (hokx_ : GoT.ok n x_) :
  Does Tryz.prog 102 #[.agg #[.slice K0 ((x_.name.parts).length) M0, .slice K1 ((x_.content).length) M1, .slice K2 ((x_.keyName.parts).length) M2, .int .i64 (x_.freshUntil), .int .i64 (x_.signature)]] w emp (fun (rv : Value) (_ : World) => rv = .bool (impl_ValidData x_) ∧ True) := by
 have hbP := bd_pos n
 have hbB := bd_big (n := n) (by omega)
 refine WX.enter (tt := tt) (Γ := [(0, MF.rs .stb K0 M0 x_.name.parts), (1, MF.rs .stb K1 M1 x_.content), (2, MF.rs .stb K2 M2 x_.keyName.parts)]) Tryz.func102 rfl (by kernel_rfl) rfl (allS_cons rfl N0 (allS_cons rfl N1 (allS_cons rfl N2 allS_nil))) ?_
 refine R0 ?_
 refine WX.callV rfl rfl rfl rfl rfl (fun _ => rfl) rfl (fun w G bs hI hΓ => f103 w n (by omega) x_.name K0 M0 (hΓ.get 0 rfl) ((ok_DataP hokx_).1)) ?_
 intro hq1
 refine R0 ?_
 refine WX.cases 6 rfl (fun h1 => ?_) (fun h1 => ?_)
 ·skip
  refine R0 ?_
  refine WX.cases 13 rfl (fun h2 => ?_) (fun h2 => ?_)
  ·skip
   have h2d := B.dt h2
   refine R0 ?_
   refine WX.cases 19 rfl (fun h3 => ?_) (fun h3 => ?_)
   ·skip
    have h3d := B.dt h3
    refine R0 ?_
    refine WX.callV rfl rfl rfl rfl rfl (fun _ => rfl) rfl (fun w G bs hI hΓ => f103 w n (by omega) x_.keyName K2 M2 (hΓ.get 2 rfl) ((ok_DataP hokx_).2.2.1)) ?_
    intro hq2
    refine R0 ?_
    refine WX.cases 24 rfl (fun h4 => ?_) (fun h4 => ?_)
    ·skip
     refine R0 ?_
     refine WX.callV rfl rfl rfl rfl rfl (fun _ => rfl) rfl (fun w G bs hI hΓ => f138 w n (by omega) x_.freshUntil 0 100000 ((ok_DataP hokx_).2.2.2.1) (show I64 0 from (by unfold I64; omega)) (show I64 100000 from (by unfold I64; omega))) ?_
     intro hq3
     refine R0 ?_
     refine WX.cases 29 rfl (fun h5 => ?_) (fun h5 => ?_)
     ·skip
      have h5r := inR_impl h5
      refine R0 ?_
      refine WX.callV rfl rfl rfl rfl rfl (fun _ => rfl) rfl (fun w G bs hI hΓ => f138 w n (by omega) x_.signature 0 2147483646 ((ok_DataP hokx_).2.2.2.2) (show I64 0 from (by unfold I64; omega)) (show I64 2147483646 from (by unfold I64; omega))) ?_
      intro hq4
      refine R0 ?_
      have hP1 : impl_ValidData x_ = (impl_InRange x_.signature 0 2147483646) := by simp only [impl_ValidData, h1, h2, h3, h4, h5, ct, cf]
      exact R3 hP1
     ·skip
      refine R0 ?_
      have hP2 : impl_ValidData x_ = false := by simp only [impl_ValidData, h1, h2, h3, h4, h5, ct, cf]
      exact R3 hP2
    ·skip
     refine R0 ?_
     have hP3 : impl_ValidData x_ = false := by simp only [impl_ValidData, h1, h2, h3, h4, ct, cf]
     exact R3 hP3
   ·skip
    have h3d := B.df h3
    refine R0 ?_
    have hP4 : impl_ValidData x_ = false := by simp only [impl_ValidData, h1, h2, h3, ct, cf]
    exact R3 hP4
  ·skip
   have h2d := B.df h2
   refine R0 ?_
   have hP5 : impl_ValidData x_ = false := by simp only [impl_ValidData, h1, h2, ct, cf]
   exact R3 hP5
 ·skip
  refine R0 ?_
  have hP6 : impl_ValidData x_ = false := by simp only [impl_ValidData, h1, ct, cf]
  exact R3 hP6
theorem f105 (w : World) (n : Nat) (hn : n + 0 ≤ 9) (x_ : DataP) (K0 : Option Addr) (M0 : Nat) (N0 : RdSl (hp w) K0 M0 x_.name.parts) (K1 : Option Addr) (M1 : Nat) (N1 : RdSl (hp w) K1 M1 x_.content) (K2 : Option Addr) (M2 : Nat) (N2 : RdSl (hp w) K2 M2 x_.keyName.parts) (hokx_ : GoT.ok n x_) :
  Does Tryz.prog 105 #[.agg #[.slice K0 ((x_.name.parts).length) M0, .slice K1 ((x_.content).length) M1, .slice K2 ((x_.keyName.parts).length) M2, .int .i64 (x_.freshUntil), .int .i64 (x_.signature)]] w emp (fun (rv : Value) (_ : World) => rv = .bool (spec_ValidData x_) ∧ True) := by
 have hbP := bd_pos n
 have hbB := bd_big (n := n) (by omega)
 refine WX.enter (tt := tt) (Γ := [(0, MF.rs .stb K0 M0 x_.name.parts), (1, MF.rs .stb K1 M1 x_.content), (2, MF.rs .stb K2 M2 x_.keyName.parts)]) Tryz.func105 rfl (by kernel_rfl) rfl (allS_cons rfl N0 (allS_cons rfl N1 (allS_cons rfl N2 allS_nil))) ?_
 refine R0 ?_
 refine WX.callV rfl rfl rfl rfl rfl (fun _ => rfl) rfl (fun w G bs hI hΓ => f106 w n (by omega) x_.name K0 M0 (hΓ.get 0 rfl) ((ok_DataP hokx_).1)) ?_
 intro hq1
 refine R0 ?_
 refine WX.cases 6 rfl (fun h1 => ?_) (fun h1 => ?_)
 ·skip
  refine R0 ?_
  refine WX.cases 13 rfl (fun h2 => ?_) (fun h2 => ?_)
  ·skip
   have h2d := B.dt h2
   refine R0 ?_
   refine WX.cases 19 rfl (fun h3 => ?_) (fun h3 => ?_)
   ·skip
    have h3d := B.dt h3
    refine R0 ?_
    refine WX.callV rfl rfl rfl rfl rfl (fun _ => rfl) rfl (fun w G bs hI hΓ => f106 w n (by omega) x_.keyName K2 M2 (hΓ.get 2 rfl) ((ok_DataP hokx_).2.2.1)) ?_
    intro hq2
    refine R0 ?_
    refine WX.cases 24 rfl (fun h4 => ?_) (fun h4 => ?_)
    ·skip
     refine R0 ?_
     refine WX.callV rfl rfl rfl rfl rfl (fun _ => rfl) rfl (fun w G bs hI hΓ => f142 w n (by omega) x_.freshUntil 0 100000 ((ok_DataP hokx_).2.2.2.1) (show I64 0 from (by unfold I64; omega)) (show I64 100000 from (by unfold I64; omega))) ?_
     intro hq3
     refine R0 ?_
     refine WX.cases 29 rfl (fun h5 => ?_) (fun h5 => ?_)
     ·skip
      have h5r := inR_spec h5
      refine R0 ?_
      refine WX.callV rfl rfl rfl rfl rfl (fun _ => rfl) rfl (fun w G bs hI hΓ => f142 w n (by omega) x_.signature 0 2147483646 ((ok_DataP hokx_).2.2.2.2) (show I64 0 from (by unfold I64; omega)) (show I64 2147483646 from (by unfold I64; omega))) ?_
      intro hq4
      refine R0 ?_
      have hP1 : spec_ValidData x_ = (spec_l1In x_.signature 0 2147483646) := by simp only [spec_ValidData, h1, h2, h3, h4, h5, ct, cf]
      exact R3 hP1
     ·skip
      refine R0 ?_
      have hP2 : spec_ValidData x_ = false := by simp only [spec_ValidData, h1, h2, h3, h4, h5, ct, cf]
      exact R3 hP2
    ·skip
     refine R0 ?_
     have hP3 : spec_ValidData x_ = false := by simp only [spec_ValidData, h1, h2, h3, h4, ct, cf]
     exact R3 hP3
   ·skip
    have h3d := B.df h3
    refine R0 ?_
    have hP4 : spec_ValidData x_ = false := by simp only [spec_ValidData, h1, h2, h3, ct, cf]
    exact R3 hP4
  ·skip
   have h2d := B.df h2
   refine R0 ?_
   have hP5 : spec_ValidData x_ = false := by simp only [spec_ValidData, h1, h2, ct, cf]
   exact R3 hP5
 ·skip
  refine R0 ?_
  have hP6 : spec_ValidData x_ = false := by simp only [spec_ValidData, h1, ct, cf]
  exact R3 hP6
theorem f199 (w : World) (n : Nat) (hn : n + 0 ≤ 9) (a : Consumer) (K0 : Option Addr) (M0 : Nat) (N0 : RdSl (hp w) K0 M0 a.name.parts) (K1 : Option Addr) (M1 : Nat) (N1 : RdSl (hp w) K1 M1 a.data.name.parts) (K2 : Option Addr) (M2 : Nat) (N2 : RdSl (hp w) K2 M2 a.data.content) (K3 : Option Addr) (M3 : Nat) (N3 : RdSl (hp w) K3 M3 a.data.keyName.parts) (hoka : GoT.ok n a) :
  Does Tryz.prog 199 #[.agg #[.int .i64 (a.node), .int .i64 (a.index), .slice K0 ((a.name.parts).length) M0, .int .i64 (a.attempts), .int .i64 (a.wait), .bool a.satisfied, .slice K1 ((a.data.name.parts).length) M1, .slice K2 ((a.data.content).length) M2, .slice K3 ((a.data.keyName.parts).length) M3, .int .i64 (a.data.freshUntil), .int .i64 (a.data.signature)]] w emp (fun (rv : Value) (_ : World) => rv = .bool (impl_ValidConsumer a) ∧ True) := by
 have hbP := bd_pos n
 have hbB := bd_big (n := n) (by omega)
 refine WX.enter (tt := tt) (Γ := [(0, MF.rs .stb K0 M0 a.name.parts), (1, MF.rs .stb K1 M1 a.data.name.parts), (2, MF.rs .stb K2 M2 a.data.content), (3, MF.rs .stb K3 M3 a.data.keyName.parts)]) Tryz.func199 rfl (by kernel_rfl) rfl (allS_cons rfl N0 (allS_cons rfl N1 (allS_cons rfl N2 (allS_cons rfl N3 allS_nil)))) ?_
 refine R0 ?_
 refine WX.callV rfl rfl rfl rfl rfl (fun _ => rfl) rfl (fun w G bs hI hΓ => f138 w n (by omega) a.node 0 5 ((ok_Consumer hoka).1) (show I64 0 from (by unfold I64; omega)) (show I64 5 from (by unfold I64; omega))) ?_
 intro hq1
 refine R0 ?_
 refine WX.cases 7 rfl (fun h1 => ?_) (fun h1 => ?_)
 ·skip
  have h1d := (B.nt h1)
  refine R0 ?_
  have hP1 : impl_ValidConsumer a = false := by simp only [impl_ValidConsumer, h1, ct, cf]
  exact R3 hP1
 ·skip
  have h1d := (B.nf h1)
  have h1r := inR_impl (B.nf h1)
  refine R0 ?_
  refine WX.callV rfl rfl rfl rfl rfl (fun _ => rfl) rfl (fun w G bs hI hΓ => f138 w n (by omega) a.index 0 7 ((ok_Consumer hoka).2.1) (show I64 0 from (by unfold I64; omega)) (show I64 7 from (by unfold I64; omega))) ?_
  intro hq2
  refine R0 ?_
  refine WX.cases 13 rfl (fun h2 => ?_) (fun h2 => ?_)
  ·skip
   have h2d := (B.nt h2)
   refine R0 ?_
   have hP2 : impl_ValidConsumer a = false := by simp only [impl_ValidConsumer, h1, h2, ct, cf]
   exact R3 hP2
  ·skip
   have h2d := (B.nf h2)
   have h2r := inR_impl (B.nf h2)
   refine R0 ?_
   refine WX.callV rfl rfl rfl rfl rfl (fun _ => rfl) rfl (fun w G bs hI hΓ => f103 w n (by omega) a.name K0 M0 (hΓ.get 0 rfl) ((ok_Consumer hoka).2.2.1)) ?_
   intro hq3
   refine R0 ?_
   refine WX.cases 19 rfl (fun h3 => ?_) (fun h3 => ?_)
   ·skip
    have h3d := (B.nt h3)
    refine R0 ?_
    have hP3 : impl_ValidConsumer a = false := by simp only [impl_ValidConsumer, h1, h2, h3, ct, cf]
    exact R3 hP3
   ·skip
    have h3d := (B.nf h3)
    refine R0 ?_
    refine WX.cases 26 rfl (fun h4 => ?_) (fun h4 => ?_)
    ·skip
     have h4d := B.et h4
     refine R0 ?_
     have hP4 : impl_ValidConsumer a = false := by simp only [impl_ValidConsumer, h1, h2, h3, h4, ct, cf]
     exact R3 hP4
    ·skip
     have h4d := B.ef h4
     refine R0 ?_
     refine WX.callV rfl rfl rfl rfl rfl (fun _ => rfl) rfl (fun w G bs hI hΓ => f138 w n (by omega) a.attempts 0 900 ((ok_Consumer hoka).2.2.2.1) (show I64 0 from (by unfold I64; omega)) (show I64 900 from (by unfold I64; omega))) ?_
     intro hq4
     refine R0 ?_
     refine WX.cases 32 rfl (fun h5 => ?_) (fun h5 => ?_)
     ·skip
      have h5d := (B.nt h5)
      refine R0 ?_
      have hP5 : impl_ValidConsumer a = false := by simp only [impl_ValidConsumer, h1, h2, h3, h4, h5, ct, cf]
      exact R3 hP5
     ·skip
      have h5d := (B.nf h5)
      have h5r := inR_impl (B.nf h5)
      refine R0 ?_
      refine WX.callV rfl rfl rfl rfl rfl (fun _ => rfl) rfl (fun w G bs hI hΓ => f138 w n (by omega) a.wait 0 5 ((ok_Consumer hoka).2.2.2.2.1) (show I64 0 from (by unfold I64; omega)) (show I64 5 from (by unfold I64; omega))) ?_
      intro hq5
      refine R0 ?_
      refine WX.cases 37 rfl (fun h6 => ?_) (fun h6 => ?_)
      ·skip
       have h6d := (B.nt h6)
       refine R0 ?_
       have hP6 : impl_ValidConsumer a = false := by simp only [impl_ValidConsumer, h1, h2, h3, h4, h5, h6, ct, cf]
       exact R3 hP6
      ·skip
       have h6d := (B.nf h6)
       have h6r := inR_impl (B.nf h6)
       refine R0 ?_
       refine WX.cases 39 rfl (fun h7 => ?_) (fun h7 => ?_)
       ·skip
        replace h7 : a.satisfied = true := h7
        refine R0 ?_
        refine WX.callV rfl rfl rfl rfl rfl (fun _ => rfl) rfl (fun w G bs hI hΓ => f102 w n (by omega) a.data K1 M1 (hΓ.get 1 rfl) K2 M2 (hΓ.get 2 rfl) K3 M3 (hΓ.get 3 rfl) ((ok_Consumer hoka).2.2.2.2.2.2)) ?_
        intro hq6
        refine R0 ?_
        refine WX.cases 43 rfl (fun h8 => ?_) (fun h8 => ?_)
        ·skip
         refine R0 ?_
         refine WX.callV rfl rfl rfl rfl rfl (fun _ => rfl) rfl (fun w G bs hI hΓ => f100 w n (by omega) a.data.name K1 M1 (hΓ.get 1 rfl) a.name K0 M0 (hΓ.get 0 rfl) ((ok_DataP (ok_Consumer hoka).2.2.2.2.2.2).1) ((ok_Consumer hoka).2.2.1)) ?_
         intro hq7
         refine R0 ?_
         have hP7 : impl_ValidConsumer a = (impl_EqualNames a.data.name a.name) := by simp only [impl_ValidConsumer, h1, h2, h3, h4, h5, h6, h7, h8, ct, cf]
         exact R3 hP7
        ·skip
         refine R0 ?_
         have hP8 : impl_ValidConsumer a = false := by simp only [impl_ValidConsumer, h1, h2, h3, h4, h5, h6, h7, h8, ct, cf]
         exact R3 hP8
       ·skip
        replace h7 : a.satisfied = false := h7
        refine R0 ?_
        refine WX.callV rfl rfl rfl rfl rfl (fun _ => rfl) rfl (fun w G bs hI hΓ => f104 w n (by omega) a.data K1 M1 (hΓ.get 1 rfl) K2 M2 (hΓ.get 2 rfl) K3 M3 (hΓ.get 3 rfl) (DataP.mk (Name.mk ([])) ([]) (Name.mk ([])) 0 0) none 0 (rdSl_nil _ _ _) none 0 (rdSl_nil _ _ _) none 0 (rdSl_nil _ _ _) ((ok_Consumer hoka).2.2.2.2.2.2) (And.intro (ok_nil (α := Str)) (And.intro (ok_nil (α := UInt8)) (And.intro (ok_nil (α := Str)) (And.intro (show I64 0 from (by unfold I64; omega)) (show I64 0 from (by unfold I64; omega))))))) ?_
        intro hq8
        refine R0 ?_
        have hP9 : impl_ValidConsumer a = (impl_EqualData a.data (DataP.mk (Name.mk ([])) ([]) (Name.mk ([])) 0 0)) := by simp only [impl_ValidConsumer, h1, h2, h3, h4, h5, h6, h7, ct, cf]
        exact R3 hP9
theorem f188 (w : World) (n : Nat) (hn : n + 0 ≤ 9) (a : Consumer) (K0 : Option Addr) (M0 : Nat) (N0 : RdSl (hp w) K0 M0 a.name.parts) (K1 : Option Addr) (M1 : Nat) (N1 : RdSl (hp w) K1 M1 a.data.name.parts) (K2 : Option Addr) (M2 : Nat) (N2 : RdSl (hp w) K2 M2 a.data.content) (K3 : Option Addr) (M3 : Nat) (N3 : RdSl (hp w) K3 M3 a.data.keyName.parts) (hoka : GoT.ok n a) :
  Does Tryz.prog 188 #[.agg #[.int .i64 (a.node), .int .i64 (a.index), .slice K0 ((a.name.parts).length) M0, .int .i64 (a.attempts), .int .i64 (a.wait), .bool a.satisfied, .slice K1 ((a.data.name.parts).length) M1, .slice K2 ((a.data.content).length) M2, .slice K3 ((a.data.keyName.parts).length) M3, .int .i64 (a.data.freshUntil), .int .i64 (a.data.signature)]] w emp (fun (rv : Value) (_ : World) => rv = .bool (spec_ValidConsumer a) ∧ True) := by
 have hbP := bd_pos n
 have hbB := bd_big (n := n) (by omega)
 refine WX.enter (tt := tt) (Γ := [(0, MF.rs .stb K0 M0 a.name.parts), (1, MF.rs .stb K1 M1 a.data.name.parts), (2, MF.rs .stb K2 M2 a.data.content), (3, MF.rs .stb K3 M3 a.data.keyName.parts)]) Tryz.func188 rfl (by kernel_rfl) rfl (allS_cons rfl N0 (allS_cons rfl N1 (allS_cons rfl N2 (allS_cons rfl N3 allS_nil)))) ?_
 refine R0 ?_
 refine WX.callV rfl rfl rfl rfl rfl (fun _ => rfl) rfl (fun w G bs hI hΓ => f142 w n (by omega) a.node 0 5 ((ok_Consumer hoka).1) (show I64 0 from (by unfold I64; omega)) (show I64 5 from (by unfold I64; omega))) ?_
 intro hq1
 refine R0 ?_
 refine WX.cases 7 rfl (fun h1 => ?_) (fun h1 => ?_)
 ·skip
  have h1d := (B.nt h1)
  refine R0 ?_
  have hP1 : spec_ValidConsumer a = false := by simp only [spec_ValidConsumer, h1, ct, cf]
  exact R3 hP1
 ·skip
  have h1d := (B.nf h1)
  have h1r := inR_spec (B.nf h1)
  refine R0 ?_
  refine WX.callV rfl rfl rfl rfl rfl (fun _ => rfl) rfl (fun w G bs hI hΓ => f142 w n (by omega) a.index 0 7 ((ok_Consumer hoka).2.1) (show I64 0 from (by unfold I64; omega)) (show I64 7 from (by unfold I64; omega))) ?_
  intro hq2
  refine R0 ?_
  refine WX.cases 13 rfl (fun h2 => ?_) (fun h2 => ?_)
  ·skip
   have h2d := (B.nt h2)
   refine R0 ?_
   have hP2 : spec_ValidConsumer a = false := by simp only [spec_ValidConsumer, h1, h2, ct, cf]
   exact R3 hP2
  ·skip
   have h2d := (B.nf h2)
   have h2r := inR_spec (B.nf h2)
   refine R0 ?_
   refine WX.callV rfl rfl rfl rfl rfl (fun _ => rfl) rfl (fun w G bs hI hΓ => f106 w n (by omega) a.name K0 M0 (hΓ.get 0 rfl) ((ok_Consumer hoka).2.2.1)) ?_
   intro hq3
   refine R0 ?_
   refine WX.cases 19 rfl (fun h3 => ?_) (fun h3 => ?_)
   ·skip
    have h3d := (B.nt h3)
    refine R0 ?_
    have hP3 : spec_ValidConsumer a = false := by simp only [spec_ValidConsumer, h1, h2, h3, ct, cf]
    exact R3 hP3
   ·skip
    have h3d := (B.nf h3)
    refine R0 ?_
    refine WX.cases 26 rfl (fun h4 => ?_) (fun h4 => ?_)
    ·skip
     have h4d := B.et h4
     refine R0 ?_
     have hP4 : spec_ValidConsumer a = false := by simp only [spec_ValidConsumer, h1, h2, h3, h4, ct, cf]
     exact R3 hP4
    ·skip
     have h4d := B.ef h4
     refine R0 ?_
     refine WX.callV rfl rfl rfl rfl rfl (fun _ => rfl) rfl (fun w G bs hI hΓ => f142 w n (by omega) a.attempts 0 900 ((ok_Consumer hoka).2.2.2.1) (show I64 0 from (by unfold I64; omega)) (show I64 900 from (by unfold I64; omega))) ?_
     intro hq4
     refine R0 ?_
     refine WX.cases 32 rfl (fun h5 => ?_) (fun h5 => ?_)
     ·skip
      have h5d := (B.nt h5)
      refine R0 ?_
      have hP5 : spec_ValidConsumer a = false := by simp only [spec_ValidConsumer, h1, h2, h3, h4, h5, ct, cf]
      exact R3 hP5
     ·skip
      have h5d := (B.nf h5)
      have h5r := inR_spec (B.nf h5)
      refine R0 ?_
      refine WX.callV rfl rfl rfl rfl rfl (fun _ => rfl) rfl (fun w G bs hI hΓ => f142 w n (by omega) a.wait 0 5 ((ok_Consumer hoka).2.2.2.2.1) (show I64 0 from (by unfold I64; omega)) (show I64 5 from (by unfold I64; omega))) ?_
      intro hq5
      refine R0 ?_
      refine WX.cases 37 rfl (fun h6 => ?_) (fun h6 => ?_)
      ·skip
       have h6d := (B.nt h6)
       refine R0 ?_
       have hP6 : spec_ValidConsumer a = false := by simp only [spec_ValidConsumer, h1, h2, h3, h4, h5, h6, ct, cf]
       exact R3 hP6
      ·skip
       have h6d := (B.nf h6)
       have h6r := inR_spec (B.nf h6)
       refine R0 ?_
       refine WX.cases 39 rfl (fun h7 => ?_) (fun h7 => ?_)
       ·skip
        replace h7 : a.satisfied = true := h7
        refine R0 ?_
        refine WX.callV rfl rfl rfl rfl rfl (fun _ => rfl) rfl (fun w G bs hI hΓ => f105 w n (by omega) a.data K1 M1 (hΓ.get 1 rfl) K2 M2 (hΓ.get 2 rfl) K3 M3 (hΓ.get 3 rfl) ((ok_Consumer hoka).2.2.2.2.2.2)) ?_
        intro hq6
        refine R0 ?_
        refine WX.cases 43 rfl (fun h8 => ?_) (fun h8 => ?_)
        ·skip
         refine R0 ?_
         refine WX.callV rfl rfl rfl rfl rfl (fun _ => rfl) rfl (fun w G bs hI hΓ => f152 w n (by omega) a.data.name K1 M1 (hΓ.get 1 rfl) a.name K0 M0 (hΓ.get 0 rfl) ((ok_DataP (ok_Consumer hoka).2.2.2.2.2.2).1) ((ok_Consumer hoka).2.2.1)) ?_
         intro hq7
         refine R0 ?_
         have hP7 : spec_ValidConsumer a = (spec_EqualNames a.data.name a.name) := by simp only [spec_ValidConsumer, h1, h2, h3, h4, h5, h6, h7, h8, ct, cf]
         exact R3 hP7
        ·skip
         refine R0 ?_
         have hP8 : spec_ValidConsumer a = false := by simp only [spec_ValidConsumer, h1, h2, h3, h4, h5, h6, h7, h8, ct, cf]
         exact R3 hP8
       ·skip
        replace h7 : a.satisfied = false := h7
        refine R0 ?_
        refine WX.callV rfl rfl rfl rfl rfl (fun _ => rfl) rfl (fun w G bs hI hΓ => f107 w n (by omega) a.data K1 M1 (hΓ.get 1 rfl) K2 M2 (hΓ.get 2 rfl) K3 M3 (hΓ.get 3 rfl) (DataP.mk (Name.mk ([])) ([]) (Name.mk ([])) 0 0) none 0 (rdSl_nil _ _ _) none 0 (rdSl_nil _ _ _) none 0 (rdSl_nil _ _ _) ((ok_Consumer hoka).2.2.2.2.2.2) (And.intro (ok_nil (α := Str)) (And.intro (ok_nil (α := UInt8)) (And.intro (ok_nil (α := Str)) (And.intro (show I64 0 from (by unfold I64; omega)) (show I64 0 from (by unfold I64; omega))))))) ?_
        intro hq8
        refine R0 ?_
        have hP9 : spec_ValidConsumer a = (spec_EqualData a.data (DataP.mk (Name.mk ([])) ([]) (Name.mk ([])) 0 0)) := by simp only [spec_ValidConsumer, h1, h2, h3, h4, h5, h6, h7, ct, cf]
        exact R3 hP9
end Go.Proofs.YtdimfabadjfkiaaGreat

namespace Go.Stp
set_option linter.unusedVariables false
set_option linter.unusedSimpArgs false
def cmp_isNaN_string (x_ : Str) : Bool :=
  (!((x_).toList == (x_).toList))
def cmp_Compare_string (x_ : Str) (y : Str) : Int :=
  bif (cmp_isNaN_string x_) then
    bif (cmp_isNaN_string y) then
      0
    else
      (-1)
  else
    bif (cmp_isNaN_string y) then
      1
    else
      bif (Op.bytesLess (x_).toList (y).toList) then
        (-1)
      else
        bif (!(Op.bytesLess (x_).toList (y).toList || (x_).toList == (y).toList)) then
          1
        else
          0
def slices_Compare_string_L1 (s2 : (List Str)) : List Str → Nat → Option (Int)
  | [], i => none
  | e1 :: rest_, i =>
    bif decide (((i : Nat) : Int) ≥ (((s2).length : Nat) : Int)) then
      (some 1)
    else
      match (s2)[i]? with
        | none => default
        | some e2 =>
          bif ((cmp_Compare_string e1 e2) != 0) then
            (some (cmp_Compare_string e1 e2))
          else
            slices_Compare_string_L1 s2 rest_ (i + 1)
def slices_Compare_string (s1 : (List Str)) (s2 : (List Str)) : Int :=
  match slices_Compare_string_L1 s2 s1 0 with
    | some r_ => r_
    | none =>
      bif decide ((((s1).length : Nat) : Int) < (((s2).length : Nat) : Int)) then
        (-1)
      else
        0
def impl_CompareNames (a : Name) (b : Name) : Int :=
  (slices_Compare_string a.parts b.parts)
def impl_ValidTable_L1 (l : (List TableEntry)) : List TableEntry → Nat → Option (Bool)
  | [], i => none
  | e1 :: rest_, i =>
    bif (!(impl_ValidName e1.name)) then
      (some false)
    else
      bif decide (((i : Nat) : Int) > 0) then
        match (l)[(((i : Nat) : Int) - 1).toNat]? with
          | none => default
          | some e2 =>
            bif decide ((impl_CompareNames e2.name e1.name) ≥ 0) then
              (some false)
            else
              impl_ValidTable_L1 l rest_ (i + 1)
      else
        impl_ValidTable_L1 l rest_ (i + 1)
def impl_ValidTable (l : (List TableEntry)) : Bool :=
  match impl_ValidTable_L1 l l 0 with
    | some r_ => r_
    | none =>
      (decide ((((l).length : Nat) : Int) ≤ 20))
def spec_ValidTable_L1 (l : (List TableEntry)) : List TableEntry → Nat → Option (Bool)
  | [], i => none
  | e1 :: rest_, i =>
    bif (!(spec_ValidName e1.name)) then
      (some false)
    else
      bif decide (((i : Nat) : Int) > 0) then
        match (l)[(((i : Nat) : Int) - 1).toNat]? with
          | none => default
          | some e2 =>
            bif decide ((spec_CompareNames e2.name e1.name) ≥ 0) then
              (some false)
            else
              spec_ValidTable_L1 l rest_ (i + 1)
      else
        spec_ValidTable_L1 l rest_ (i + 1)
def spec_ValidTable (l : (List TableEntry)) : Bool :=
  match spec_ValidTable_L1 l l 0 with
    | some r_ => r_
    | none =>
      (decide ((((l).length : Nat) : Int) ≤ 20))
def slices_IndexFunc_TableEntry_L1 (fq : TableEntry → Bool) : List TableEntry → Nat → Option (Int)
  | [], i => none
  | e1 :: rest_, i =>
    bif fq e1 then
      (some ((i : Nat) : Int))
    else
      slices_IndexFunc_TableEntry_L1 fq rest_ (i + 1)
def slices_IndexFunc_TableEntry (s : (List TableEntry)) (fq : TableEntry → Bool) : Int :=
  match slices_IndexFunc_TableEntry_L1 fq s 0 with
    | some r_ => r_
    | none =>
      (-1)
def slices_ContainsFunc_TableEntry (s : (List TableEntry)) (fq : TableEntry → Bool) : Bool :=
  (decide ((slices_IndexFunc_TableEntry s fq) ≥ 0))
end Go.Stp

namespace Go.Proofs.YtdimfabadjfkiaaGreat
open Go.Stp
set_option linter.unusedVariables false
set_option linter.unusedSimpArgs false
theorem f410 (w : World) (n : Nat) (hn : n + 0 ≤ 9) (x_ : Str) (hokx_ : GoT.ok n x_) :
  Does Tryz.prog 410 #[.string x_] w emp (fun (rv : Value) (_ : World) => rv = .bool (cmp_isNaN_string x_) ∧ True) := by
 refine WX.enter (tt := tt) (Γ := []) Tryz.func410 rfl (by kernel_rfl) rfl allS_nil ?_
 refine R0 ?_
 have hP1 : cmp_isNaN_string x_ = (!((x_).toList == (x_).toList)) := by simp only [cmp_isNaN_string, ct, cf]
 exact R3 hP1
theorem f363 (w : World) (n : Nat) (hn : n + 0 ≤ 9) (x_ : Str) (y : Str) (hokx_ : GoT.ok n x_) (hoky : GoT.ok n y) :
  Does Tryz.prog 363 #[.string x_, .string y] w emp (fun (rv : Value) (_ : World) => rv = .int .i64 ((cmp_Compare_string x_ y)) ∧ GoT.ok n ((cmp_Compare_string x_ y) : Int)) := by
 have hbP := bd_pos n
 have hbB := bd_big (n := n) (by omega)
 refine WX.enter (tt := tt) (Γ := []) Tryz.func363 rfl (by kernel_rfl) rfl allS_nil ?_
 refine R0 ?_
 refine WX.callV rfl rfl rfl rfl rfl (fun _ => rfl) rfl (fun w G bs hI hΓ => f410 w n (by omega) x_ hokx_) ?_
 intro hq1
 refine R0 ?_
 refine WX.callV rfl rfl rfl rfl rfl (fun _ => rfl) rfl (fun w G bs hI hΓ => f410 w n (by omega) y hoky) ?_
 intro hq2
 refine R0 ?_
 refine WX.cases 11 rfl (fun h1 => ?_) (fun h1 => ?_)
 ·skip
  refine R0 ?_
  refine WX.cases 12 rfl (fun h2 => ?_) (fun h2 => ?_)
  ·skip
   refine R0 ?_
   have hP1 : cmp_Compare_string x_ y = 0 := by simp only [cmp_Compare_string, h1, h2, ct, cf]
   refine R1 ?_
   intro w1 G bs hI hΓ
   rw [hP1]
   exact ⟨rfl, (show I64 0 from (by unfold I64; omega))⟩
  ·skip
   refine R0 ?_
   have hP2 : cmp_Compare_string x_ y = (-1) := by simp only [cmp_Compare_string, h1, h2, ct, cf]
   refine R1 ?_
   intro w1 G bs hI hΓ
   rw [hP2]
   exact ⟨rfl, (show I64 (-1) from (by unfold I64; omega))⟩
 ·skip
  refine R0 ?_
  refine WX.cases 13 rfl (fun h3 => ?_) (fun h3 => ?_)
  ·skip
   refine R0 ?_
   have hP3 : cmp_Compare_string x_ y = 1 := by simp only [cmp_Compare_string, h1, h3, ct, cf]
   refine R1 ?_
   intro w1 G bs hI hΓ
   rw [hP3]
   exact ⟨rfl, (show I64 1 from (by unfold I64; omega))⟩
  ·skip
   refine R0 ?_
   refine WX.cases 16 rfl (fun h4 => ?_) (fun h4 => ?_)
   ·skip
    refine R0 ?_
    have hP4 : cmp_Compare_string x_ y = (-1) := by simp only [cmp_Compare_string, h1, h3, h4, ct, cf]
    refine R1 ?_
    intro w1 G bs hI hΓ
    rw [hP4]
    exact ⟨rfl, (show I64 (-1) from (by unfold I64; omega))⟩
   ·skip
    refine R0 ?_
    refine WX.cases 19 rfl (fun h5 => ?_) (fun h5 => ?_)
    ·skip
     refine R0 ?_
     have hP5 : cmp_Compare_string x_ y = 1 := by first | (simp only [cmp_Compare_string, h1, h3, h4, h5, ct, cf]; done) | (unfold cmp_Compare_string; rw [h5, h4, h3, h1]; simp only [ct, cf])
     refine R1 ?_
     intro w1 G bs hI hΓ
     rw [hP5]
     exact ⟨rfl, (show I64 1 from (by unfold I64; omega))⟩
    ·skip
     refine R0 ?_
     have hP6 : cmp_Compare_string x_ y = 0 := by first | (simp only [cmp_Compare_string, h1, h3, h4, h5, ct, cf]; done) | (unfold cmp_Compare_string; rw [h5, h4, h3, h1]; simp only [ct, cf])
     refine R1 ?_
     intro w1 G bs hI hΓ
     rw [hP6]
     exact ⟨rfl, (show I64 0 from (by unfold I64; omega))⟩
theorem f302 (w : World) (n : Nat) (hn : n + 0 ≤ 9) (s1 : (List Str)) (K0 : Option Addr) (M0 : Nat) (N0 : RdSl (hp w) K0 M0 s1) (s2 : (List Str)) (K1 : Option Addr) (M1 : Nat) (N1 : RdSl (hp w) K1 M1 s2) (hoks1 : GoT.ok n s1) (hoks2 : GoT.ok n s2) :
  Does Tryz.prog 302 #[.slice K0 ((s1).length) M0, .slice K1 ((s2).length) M1] w emp (fun (rv : Value) (_ : World) => rv = .int .i64 ((slices_Compare_string s1 s2)) ∧ GoT.ok n ((slices_Compare_string s1 s2) : Int)) := by
 have hbP := bd_pos n
 have hbB := bd_big (n := n) (by omega)
 refine WX.enter (tt := tt) (Γ := [(0, MF.rs .stb K0 M0 s1), (1, MF.rs .stb K1 M1 s2)]) Tryz.func302 rfl (by kernel_rfl) rfl (allS_cons rfl N0 (allS_cons rfl N1 allS_nil)) ?_
 refine R0 ?_
 have r1 : (s1).length ≤ bd n := (okl hoks1).1
 refine WX.loop (ι := Nat) ⟨fun i => (i ≤ (s1).length) ∧ (slices_Compare_string_L1 s2 s1 0 = slices_Compare_string_L1 s2 ((s1).drop i) i), fun i => (s1).length - i, fun i => [(11, .v (.int .i64 (((i : Nat) : Int)))), (10, .v (.int .i64 ((((s1).length : Nat) : Int)))), (9, .v (.slice K0 ((s1).length) M0)), (0, .v (.slice K0 ((s1).length) M0)), (1, .v (.slice K1 ((s2).length) M1))], fun i => [], fun i => [], fun i => [(0, MF.rs .stb K0 M0 s1), (1, MF.rs .stb K1 M1 s2)]⟩ 0 ⟨(Nat.zero_le _), rfl⟩
  (.cons rfl (.cons rfl (.cons rfl (.cons rfl (.cons rfl (.nil)))))) .nil .nil [0, 1] rfl ?_
 rintro i hpre
 have hpre_ : (i ≤ (s1).length) ∧ (slices_Compare_string_L1 s2 s1 0 = slices_Compare_string_L1 s2 ((s1).drop i) i) := hpre
 clear hpre
 obtain ⟨v1, v2⟩ := hpre_
 refine R0 ?_
 refine WX.cases 12 rfl (fun h1 => ?_) (fun h1 => ?_)
 ·skip
  have h1d := B.dt h1
  have e1i : i < (s1).length := (by omega)
  obtain ⟨e1, e1h⟩ : ∃ e1, (s1)[i]? = some e1 := ⟨_, List.getElem?_eq_getElem e1i⟩
  have ok1 : GoT.ok n e1 := (okl hoks1).2 _ (List.mem_of_getElem? e1h)
  refine R0 ?_
  refine WX.idx 0 i ttOk rfl rfl rfl rfl rfl rfl rfl rfl rfl rfl e1i ?_
  rintro ad1 rfl
  refine WX.ldE 0 2 e1 ttOk rfl rfl rfl rfl rfl rfl rfl rfl e1h (fun _ => rfl) (fun _ => rfl) ?_
  rintro ⟨⟩
  refine R0 ?_
  refine WX.cases 19 rfl (fun h2 => ?_) (fun h2 => ?_)
  ·skip
   have h2d := B.dt h2
   refine R0 ?_
   have hP1 : slices_Compare_string_L1 s2 s1 0 = (some 1) := by rw [v2, drop_get e1h]; simp only [slices_Compare_string_L1, h2, ct, cf]
   have hP2 : slices_Compare_string s1 s2 = 1 := by simp only [slices_Compare_string, hP1, ct, cf]
   refine R1 ?_
   intro w1 G bs hI hΓ
   rw [hP2]
   exact ⟨rfl, (show I64 1 from (by unfold I64; omega))⟩
  ·skip
   have h2d := B.df h2
   refine R0 ?_
   have e2i : i < (s2).length := (by first | assumption | omega)
   obtain ⟨e2, e2h⟩ : ∃ e2, (s2)[i]? = some e2 := ⟨_, List.getElem?_eq_getElem e2i⟩
   have ok2 : GoT.ok n e2 := (okl hoks2).2 _ (List.mem_of_getElem? e2h)
   refine WX.idx 1 i ttOk rfl rfl rfl rfl rfl rfl rfl rfl rfl rfl e2i ?_
   rintro ad2 rfl
   refine WX.ldE 1 2 e2 ttOk rfl rfl rfl rfl rfl rfl rfl rfl e2h (fun _ => rfl) (fun _ => rfl) ?_
   rintro ⟨⟩
   refine R0 ?_
   refine WX.callV rfl rfl rfl rfl rfl (fun _ => rfl) rfl (fun w G bs hI hΓ => f363 w n (by omega) e1 e2 ok1 ok2) ?_
   intro hq1
   refine R0 ?_
   refine WX.cases 28 rfl (fun h3 => ?_) (fun h3 => ?_)
   ·skip
    have h3d := B.nt' h3
    refine R0 ?_
    have hP3 : slices_Compare_string_L1 s2 s1 0 = (some (cmp_Compare_string e1 e2)) := by rw [v2, drop_get e1h]; simp only [slices_Compare_string_L1, h2, e2h, h3, ct, cf]
    have hP4 : slices_Compare_string s1 s2 = (cmp_Compare_string e1 e2) := by simp only [slices_Compare_string, hP3, ct, cf]
    refine R1 ?_
    intro w1 G bs hI hΓ
    rw [hP4]
    exact ⟨rfl, hq1⟩
   ·skip
    have h3d := B.nf' h3
    refine R0 ?_
    refine WX.see rfl rfl rfl (fun _ hΓ => looks_arith rfl rfl rfl rfl (by unfold I64; first | omega | (simp only [List.length_take] at *; omega))) ?_
    refine R0 ?_
    exact WX.iter (i + 1) ⟨(by omega), (by rw [v2, drop_get e1h]; simp only [slices_Compare_string_L1, h2, e2h, h3, ct, cf])⟩ (by first | (dsimp only; omega) | omega) (.cons rfl (.cons rfl (.cons rfl (.cons rfl (.cons rfl (.nil)))))) .nil .nil [0, 1] rfl
 ·skip
  have h1d := B.df h1
  refine R0 ?_
  have hX1 : slices_Compare_string_L1 s2 s1 0 = none := by rw [v2, List.drop_eq_nil_of_le (show (s1).length ≤ i by omega)]; simp only [slices_Compare_string_L1, ct, cf]
  refine WX.cases 35 rfl (fun h4 => ?_) (fun h4 => ?_)
  ·skip
   have h4d := B.dt h4
   refine R0 ?_
   have hP5 : slices_Compare_string s1 s2 = (-1) := by simp only [slices_Compare_string, hX1, h4, ct, cf]
   refine R1 ?_
   intro w1 G bs hI hΓ
   rw [hP5]
   exact ⟨rfl, (show I64 (-1) from (by unfold I64; omega))⟩
  ·skip
   have h4d := B.df h4
   refine R0 ?_
   have hP6 : slices_Compare_string s1 s2 = 0 := by simp only [slices_Compare_string, hX1, h4, ct, cf]
   refine R1 ?_
   intro w1 G bs hI hΓ
   rw [hP6]
   exact ⟨rfl, (show I64 0 from (by unfold I64; omega))⟩
theorem f227 (w : World) (n : Nat) (hn : n + 0 ≤ 9) (a : Name) (pa : Option Addr) (ca : Nat) (N0 : RdSl (hp w) pa ca a.parts) (b : Name) (pb : Option Addr) (cb : Nat) (N1 : RdSl (hp w) pb cb b.parts) (hoka : GoT.ok n a) (hokb : GoT.ok n b) :
  Does Tryz.prog 227 #[.agg #[.slice pa ((a.parts).length) ca], .agg #[.slice pb ((b.parts).length) cb]] w emp (fun (rv : Value) (_ : World) => rv = .int .i64 ((impl_CompareNames a b)) ∧ GoT.ok n ((impl_CompareNames a b) : Int)) := by
 have hbP := bd_pos n
 have hbB := bd_big (n := n) (by omega)
 refine WX.enter (tt := tt) (Γ := [(0, MF.rs .stb pa ca a.parts), (1, MF.rs .stb pb cb b.parts)]) Tryz.func227 rfl (by kernel_rfl) rfl (allS_cons rfl N0 (allS_cons rfl N1 allS_nil)) ?_
 refine R0 ?_
 refine WX.callV rfl rfl rfl rfl rfl (fun _ => rfl) rfl (fun w G bs hI hΓ => f302 w n (by omega) a.parts pa ca (hΓ.get 0 rfl) b.parts pb cb (hΓ.get 1 rfl) (ok_Name hoka) (ok_Name hokb)) ?_
 intro hq1
 refine R0 ?_
 have hP1 : impl_CompareNames a b = (slices_Compare_string a.parts b.parts) := by simp only [impl_CompareNames, ct, cf]
 refine R1 ?_
 intro w1 G bs hI hΓ
 rw [hP1]
 exact ⟨rfl, hq1⟩
theorem f229 (w : World) (n : Nat) (hn : n + 0 ≤ 9) (l : (List TableEntry)) (pl : Option Addr) (cl : Nat) (N0 : RdSl (hp w) pl cl l) (hokl : GoT.ok n l) :
  Does Tryz.prog 229 #[.slice pl ((l).length) cl] w emp (fun (rv : Value) (_ : World) => rv = .bool (impl_ValidTable l) ∧ True) := by
 have hbP := bd_pos n
 have hbB := bd_big (n := n) (by omega)
 refine WX.enter (tt := tt) (Γ := [(0, MF.rs .stb pl cl l)]) Tryz.func229 rfl (by kernel_rfl) rfl (allS_cons rfl N0 allS_nil) ?_
 refine R0 ?_
 have r1 : (l).length ≤ bd n := (okl hokl).1
 refine WX.loop (ι := Nat) ⟨fun i => (i ≤ (l).length) ∧ (impl_ValidTable_L1 l l 0 = impl_ValidTable_L1 l ((l).drop i) i), fun i => (l).length - i, fun i => [(7, .v (.int .i64 (((i : Nat) : Int)))), (6, .v (.int .i64 ((((l).length : Nat) : Int)))), (5, .v (.slice pl ((l).length) cl)), (0, .v (.slice pl ((l).length) cl))], fun i => [], fun i => [], fun i => [(0, MF.rs .stb pl cl l)]⟩ 0 ⟨(Nat.zero_le _), rfl⟩
  (.cons rfl (.cons rfl (.cons rfl (.cons rfl (.nil))))) .nil .nil [0] rfl ?_
 rintro i hpre
 have hpre_ : (i ≤ (l).length) ∧ (impl_ValidTable_L1 l l 0 = impl_ValidTable_L1 l ((l).drop i) i) := hpre
 clear hpre
 obtain ⟨v1, v2⟩ := hpre_
 refine R0 ?_
 refine WX.cases 8 rfl (fun h1 => ?_) (fun h1 => ?_)
 ·skip
  have h1d := B.dt h1
  have e1i : i < (l).length := (by omega)
  obtain ⟨e1, e1h⟩ : ∃ e1, (l)[i]? = some e1 := ⟨_, List.getElem?_eq_getElem e1i⟩
  have ok1 : GoT.ok n e1 := (okl hokl).2 _ (List.mem_of_getElem? e1h)
  refine R0 ?_
  refine WX.idx 0 i ttOk rfl rfl rfl rfl rfl rfl rfl rfl rfl rfl e1i ?_
  rintro ad1 rfl
  refine WX.ldE 0 1 e1 ttOk rfl rfl rfl rfl rfl rfl rfl rfl e1h (fun _ => rfl) (fun _ => rfl) ?_
  rintro ⟨⟨p1, c1⟩, ⟨⟩⟩
  refine R0 ?_
  refine WX.draw [] mixed ?_
  intro bs G0 hΓ0
  refine DX.takes (fuel := 18) ttOk [(0, true), (1, false)] (by kernel_rfl) rfl ?_
  refine DX.callV 2 rfl (by kernel_rfl) rfl rfl rfl rfl rfl rfl (fun _ => rfl) rfl (fun w G bs hI hΓ => f103 w n (by omega) e1.name p1 c1 (hΓ.get 1 rfl) ((ok_TableEntry ok1).1)) ?_
  intro hq1
  refine DX.takes (fuel := 15) ttOk [(3, true), (4, true)] (by kernel_rfl) rfl ?_
  refine DX.cases 16 rfl (fun h2 => ?_) (fun h2 => ?_)
  ·skip
   have h2d := (B.nt h2)
   refine DX.takes (fuel := 0) ttOk [(5, true), (6, true), (7, true), (8, true), (9, true), (10, true), (11, true), (12, true), (13, true), (14, true), (15, true), (16, true), (17, true), (18, true), (19, true)] (by kernel_rfl) rfl ?_
   refine DX.tail2 [] rfl rfl (by kernel_rfl) ?_
   refine R0 ?_
   have hP1 : impl_ValidTable_L1 l l 0 = (some false) := by rw [v2, drop_get e1h]; simp only [impl_ValidTable_L1, h2, ct, cf]
   have hP2 : impl_ValidTable l = false := by simp only [impl_ValidTable, hP1, ct, cf]
   exact R3 hP2
  ·skip
   have h2d := (B.nf h2)
   refine DX.takes (fuel := 12) ttOk [(5, true), (6, true), (7, true)] (by kernel_rfl) rfl ?_
   refine DX.cases 19 rfl (fun h3 => ?_) (fun h3 => ?_)
   ·skip
    have h3d := B.dt h3
    refine DX.takes (fuel := 10) ttOk [(8, true), (9, true)] (by kernel_rfl) rfl ?_
    refine DX.seeP 10 (by kernel_rfl) rfl rfl rfl rfl (looksP_arith rfl rfl rfl rfl (by unfold I64; first | omega | (simp only [List.length_take] at *; omega))) ?_
    refine DX.slot 22 (y := .v (.int .i64 (((((i : Nat) : Int) - 1).toNat : Nat) : Int))) rfl (fun _ => congrArg (Value.int .i64) (show ((i : Nat) : Int) - 1 = (((((i : Nat) : Int) - 1).toNat : Nat) : Int) from by omega)) ?_
    have e2i : (((i : Nat) : Int) - 1).toNat < (l).length := (by first | assumption | omega)
    obtain ⟨e2, e2h⟩ : ∃ e2, (l)[(((i : Nat) : Int) - 1).toNat]? = some e2 := ⟨_, List.getElem?_eq_getElem e2i⟩
    have ok2 : GoT.ok n e2 := (okl hokl).2 _ (List.mem_of_getElem? e2h)
    refine DX.idx 11 0 ((((i : Nat) : Int) - 1).toNat) ttOk hΓ0 (by kernel_rfl) rfl rfl rfl rfl rfl rfl rfl rfl rfl rfl rfl e2i ?_
    rintro ad2 ⟨⟩
    refine DX.takes (fuel := 7) ttOk [(12, true)] (by kernel_rfl) rfl ?_
    refine DX.ldE 13 0 2 e2 ttOk hΓ0 (by kernel_rfl) rfl rfl rfl rfl rfl rfl rfl rfl e2h (fun _ => rfl) (fun _ => rfl) ?_
    rintro ⟨⟨p2, c2⟩, ⟨⟩⟩
    refine DX.takes (fuel := 4) ttOk [(14, true), (15, false)] (by kernel_rfl) rfl ?_
    refine DX.callV 16 rfl (by kernel_rfl) rfl rfl rfl rfl rfl rfl (fun _ => rfl) rfl (fun w G bs hI hΓ => f227 w n (by omega) e2.name p2 c2 (hΓ.get 2 rfl) e1.name p1 c1 (hΓ.get 1 rfl) ((ok_TableEntry ok2).1) ((ok_TableEntry ok1).1)) ?_
    intro hq2
    refine DX.takes (fuel := 0) ttOk [(17, true), (18, true), (19, true)] (by kernel_rfl) rfl ?_
    refine DX.tail2 [] rfl rfl (by kernel_rfl) ?_
    refine R0 ?_
    refine WX.cases 31 rfl (fun h4 => ?_) (fun h4 => ?_)
    ·skip
     have h4d := B.dt h4
     refine R0 ?_
     have hP3 : impl_ValidTable_L1 l l 0 = (some false) := by rw [v2, drop_get e1h]; simp only [impl_ValidTable_L1, h2, h3, e2h, h4, ct, cf]
     have hP4 : impl_ValidTable l = false := by simp only [impl_ValidTable, hP3, ct, cf]
     exact R3 hP4
    ·skip
     have h4d := B.df h4
     refine R0 ?_
     refine WX.see rfl rfl rfl (fun _ hΓ => looks_arith rfl rfl rfl rfl (by unfold I64; first | omega | (simp only [List.length_take] at *; omega))) ?_
     refine R0 ?_
     exact WX.iter (i + 1) ⟨(by omega), (by rw [v2, drop_get e1h]; simp only [impl_ValidTable_L1, h2, h3, e2h, h4, ct, cf])⟩ (by first | (dsimp only; omega) | omega) (.cons rfl (.cons rfl (.cons rfl (.cons rfl (.nil))))) .nil .nil [0] rfl
   ·skip
    have h3d := B.df h3
    refine DX.takes (fuel := 0) ttOk [(8, true), (9, true), (10, true), (11, true), (12, true), (13, true), (14, true), (15, true), (16, true), (17, true), (18, true), (19, true)] (by kernel_rfl) rfl ?_
    refine DX.tail2 [] rfl rfl (by kernel_rfl) ?_
    refine R0 ?_
    refine WX.see rfl rfl rfl (fun _ hΓ => looks_arith rfl rfl rfl rfl (by unfold I64; first | omega | (simp only [List.length_take] at *; omega))) ?_
    refine R0 ?_
    exact WX.iter (i + 1) ⟨(by omega), (by rw [v2, drop_get e1h]; simp only [impl_ValidTable_L1, h2, h3, ct, cf])⟩ (by first | (dsimp only; omega) | omega) (.cons rfl (.cons rfl (.cons rfl (.cons rfl (.nil))))) .nil .nil [0] rfl
 ·skip
  have h1d := B.df h1
  refine R0 ?_
  have hX1 : impl_ValidTable_L1 l l 0 = none := by rw [v2, List.drop_eq_nil_of_le (show (l).length ≤ i by omega)]; simp only [impl_ValidTable_L1, ct, cf]
  have hP5 : impl_ValidTable l = (decide ((((l).length : Nat) : Int) ≤ 20)) := by simp only [impl_ValidTable, hX1, ct, cf]
  exact R3 hP5
theorem f233 (w : World) (n : Nat) (hn : n + 0 ≤ 9) (l : (List TableEntry)) (pl : Option Addr) (cl : Nat) (N0 : RdSl (hp w) pl cl l) (hokl : GoT.ok n l) :
  Does Tryz.prog 233 #[.slice pl ((l).length) cl] w emp (fun (rv : Value) (_ : World) => rv = .bool (spec_ValidTable l) ∧ True) := by
 have hbP := bd_pos n
 have hbB := bd_big (n := n) (by omega)
 refine WX.enter (tt := tt) (Γ := [(0, MF.rs .stb pl cl l)]) Tryz.func233 rfl (by kernel_rfl) rfl (allS_cons rfl N0 allS_nil) ?_
 refine R0 ?_
 have r1 : (l).length ≤ bd n := (okl hokl).1
 refine WX.loop (ι := Nat) ⟨fun i => (i ≤ (l).length) ∧ (spec_ValidTable_L1 l l 0 = spec_ValidTable_L1 l ((l).drop i) i), fun i => (l).length - i, fun i => [(3, .v (.int .i64 (((i : Nat) : Int)))), (0, .v (.slice pl ((l).length) cl))], fun i => [], fun i => [], fun i => [(0, MF.rs .stb pl cl l)]⟩ 0 ⟨(Nat.zero_le _), rfl⟩
  (.cons rfl (.cons rfl (.nil))) .nil .nil [0] rfl ?_
 rintro i hpre
 have hpre_ : (i ≤ (l).length) ∧ (spec_ValidTable_L1 l l 0 = spec_ValidTable_L1 l ((l).drop i) i) := hpre
 clear hpre
 obtain ⟨v1, v2⟩ := hpre_
 refine R0 ?_
 refine WX.cases 7 rfl (fun h1 => ?_) (fun h1 => ?_)
 ·skip
  have h1d := B.dt h1
  have e1i : i < (l).length := (by omega)
  obtain ⟨e1, e1h⟩ : ∃ e1, (l)[i]? = some e1 := ⟨_, List.getElem?_eq_getElem e1i⟩
  have ok1 : GoT.ok n e1 := (okl hokl).2 _ (List.mem_of_getElem? e1h)
  refine R0 ?_
  refine WX.draw [] mixed ?_
  intro bs G0 hΓ0
  refine DX.takes (fuel := 24) ttOk [(0, true), (1, true)] (by kernel_rfl) rfl ?_
  refine DX.idx 2 0 i ttOk hΓ0 (by kernel_rfl) rfl rfl rfl rfl rfl rfl rfl rfl rfl rfl rfl e1i ?_
  rintro ad1 rfl
  refine DX.takes (fuel := 22) ttOk [(3, true)] (by kernel_rfl) rfl ?_
  refine DX.ldE 4 0 1 e1 ttOk hΓ0 (by kernel_rfl) rfl rfl rfl rfl rfl rfl rfl rfl e1h (fun _ => rfl) (fun _ => rfl) ?_
  rintro ⟨⟨p1, c1⟩, ⟨⟩⟩
  refine DX.callV 5 rfl (by kernel_rfl) rfl rfl rfl rfl rfl rfl (fun _ => rfl) rfl (fun w G bs hI hΓ => f106 w n (by omega) e1.name p1 c1 (hΓ.get 1 rfl) ((ok_TableEntry ok1).1)) ?_
  intro hq1
  refine DX.takes (fuel := 18) ttOk [(6, true), (7, true)] (by kernel_rfl) rfl ?_
  refine DX.cases 17 rfl (fun h2 => ?_) (fun h2 => ?_)
  ·skip
   have h2d := (B.nt h2)
   refine DX.takes (fuel := 0) ttOk [(8, true), (9, true), (10, true), (11, true), (12, true), (13, true), (14, true), (15, true), (16, true), (17, true), (18, true), (19, true), (20, true), (21, true), (22, true), (23, true), (24, true), (25, true)] (by kernel_rfl) rfl ?_
   refine DX.tail2 [] rfl rfl (by kernel_rfl) ?_
   refine R0 ?_
   have hP1 : spec_ValidTable_L1 l l 0 = (some false) := by rw [v2, drop_get e1h]; simp only [spec_ValidTable_L1, h2, ct, cf]
   have hP2 : spec_ValidTable l = false := by simp only [spec_ValidTable, hP1, ct, cf]
   exact R3 hP2
  ·skip
   have h2d := (B.nf h2)
   refine DX.takes (fuel := 15) ttOk [(8, true), (9, true), (10, true)] (by kernel_rfl) rfl ?_
   refine DX.cases 20 rfl (fun h3 => ?_) (fun h3 => ?_)
   ·skip
    have h3d := B.dt h3
    refine DX.takes (fuel := 13) ttOk [(11, true), (12, true)] (by kernel_rfl) rfl ?_
    refine DX.seeP 13 (by kernel_rfl) rfl rfl rfl rfl (looksP_arith rfl rfl rfl rfl (by unfold I64; first | omega | (simp only [List.length_take] at *; omega))) ?_
    refine DX.slot 23 (y := .v (.int .i64 (((((i : Nat) : Int) - 1).toNat : Nat) : Int))) rfl (fun _ => congrArg (Value.int .i64) (show ((i : Nat) : Int) - 1 = (((((i : Nat) : Int) - 1).toNat : Nat) : Int) from by omega)) ?_
    have e2i : (((i : Nat) : Int) - 1).toNat < (l).length := (by first | assumption | omega)
    obtain ⟨e2, e2h⟩ : ∃ e2, (l)[(((i : Nat) : Int) - 1).toNat]? = some e2 := ⟨_, List.getElem?_eq_getElem e2i⟩
    have ok2 : GoT.ok n e2 := (okl hokl).2 _ (List.mem_of_getElem? e2h)
    refine DX.idx 14 0 ((((i : Nat) : Int) - 1).toNat) ttOk hΓ0 (by kernel_rfl) rfl rfl rfl rfl rfl rfl rfl rfl rfl rfl rfl e2i ?_
    rintro ad2 ⟨⟩
    refine DX.takes (fuel := 10) ttOk [(15, true)] (by kernel_rfl) rfl ?_
    refine DX.ldE 16 0 2 e2 ttOk hΓ0 (by kernel_rfl) rfl rfl rfl rfl rfl rfl rfl rfl e2h (fun _ => rfl) (fun _ => rfl) ?_
    rintro ⟨⟨p2, c2⟩, ⟨⟩⟩
    refine DX.takes (fuel := 7) ttOk [(17, true), (18, true)] (by kernel_rfl) rfl ?_
    refine DX.idx 19 0 i ttOk hΓ0 (by kernel_rfl) rfl rfl rfl rfl rfl rfl rfl rfl rfl rfl rfl e1i ?_
    rintro ad3 ⟨⟩
    refine DX.takes (fuel := 5) ttOk [(20, true)] (by kernel_rfl) rfl ?_
    refine DX.ldE 21 0 3 e1 ttOk hΓ0 (by kernel_rfl) rfl rfl rfl rfl rfl rfl rfl rfl e1h (fun _ => rfl) (fun _ => rfl) ?_
    rintro ⟨⟨p3, c3⟩, ⟨⟩⟩
    refine DX.callV 22 rfl (by kernel_rfl) rfl rfl rfl rfl rfl rfl (fun _ => rfl) rfl (fun w G bs hI hΓ => f232 w n (by omega) e2.name p2 c2 (hΓ.get 2 rfl) e1.name p3 c3 (hΓ.get 3 rfl) ((ok_TableEntry ok2).1) ((ok_TableEntry ok1).1)) ?_
    intro hq2
    refine DX.takes (fuel := 0) ttOk [(23, true), (24, true), (25, true)] (by kernel_rfl) rfl ?_
    refine DX.tail2 [] rfl rfl (by kernel_rfl) ?_
    refine R0 ?_
    refine WX.cases 35 rfl (fun h4 => ?_) (fun h4 => ?_)
    ·skip
     have h4d := B.dt h4
     refine R0 ?_
     have hP3 : spec_ValidTable_L1 l l 0 = (some false) := by rw [v2, drop_get e1h]; simp only [spec_ValidTable_L1, h2, h3, e2h, h4, ct, cf]
     have hP4 : spec_ValidTable l = false := by simp only [spec_ValidTable, hP3, ct, cf]
     exact R3 hP4
    ·skip
     have h4d := B.df h4
     refine R0 ?_
     refine WX.see rfl rfl rfl (fun _ hΓ => looks_arith rfl rfl rfl rfl (by unfold I64; first | omega | (simp only [List.length_take] at *; omega))) ?_
     refine R0 ?_
     exact WX.iter (i + 1) ⟨(by omega), (by rw [v2, drop_get e1h]; simp only [spec_ValidTable_L1, h2, h3, e2h, h4, ct, cf])⟩ (by first | (dsimp only; omega) | omega) (.cons rfl (.cons rfl (.nil))) .nil .nil [0] rfl
   ·skip
    have h3d := B.df h3
    refine DX.takes (fuel := 0) ttOk [(11, true), (12, true), (13, true), (14, true), (15, true), (16, true), (17, true), (18, true), (19, true), (20, true), (21, true), (22, true), (23, true), (24, true), (25, true)] (by kernel_rfl) rfl ?_
    refine DX.tail2 [] rfl rfl (by kernel_rfl) ?_
    refine R0 ?_
    refine WX.see rfl rfl rfl (fun _ hΓ => looks_arith rfl rfl rfl rfl (by unfold I64; first | omega | (simp only [List.length_take] at *; omega))) ?_
    refine R0 ?_
    exact WX.iter (i + 1) ⟨(by omega), (by rw [v2, drop_get e1h]; simp only [spec_ValidTable_L1, h2, h3, ct, cf])⟩ (by first | (dsimp only; omega) | omega) (.cons rfl (.cons rfl (.nil))) .nil .nil [0] rfl
 ·skip
  have h1d := B.df h1
  refine R0 ?_
  have hX1 : spec_ValidTable_L1 l l 0 = none := by rw [v2, List.drop_eq_nil_of_le (show (l).length ≤ i by omega)]; simp only [spec_ValidTable_L1, ct, cf]
  have hP5 : spec_ValidTable l = (decide ((((l).length : Nat) : Int) ≤ 20)) := by simp only [spec_ValidTable, hX1, ct, cf]
  exact R3 hP5
theorem f225 (w : World) (n : Nat) (hn : n + 0 ≤ 9) (s : (List TableEntry)) (ps : Option Addr) (cs : Nat) (N0 : RdSl (hp w) ps cs s) (fg : FuncId) (fc : List Value) (fq : TableEntry → Bool) (ff : ∀ w1, Kp emp w w1 → ∀ (e0 : TableEntry) (x0 : GoT.X TableEntry), GoT.ok n e0 → All (hp w1) (GoT.fa .der e0 x0) → Does Tryz.prog fg ([Value.agg ⟨GoT.sh e0 x0⟩] ++ fc).toArray w1 emp (fun rv _ => rv = .bool (fq e0) ∧ True)) (hoks : GoT.ok n s) :
  Does Tryz.prog 225 #[.slice ps ((s).length) cs, .func (.func fg) #[] fc.toArray] w emp (fun (rv : Value) (_ : World) => rv = .int .i64 ((slices_IndexFunc_TableEntry s fq)) ∧ GoT.ok n ((slices_IndexFunc_TableEntry s fq) : Int)) := by
 have hbP := bd_pos n
 have hbB := bd_big (n := n) (by omega)
 refine WX.enter (tt := tt) (Γ := [(0, MF.rs .stb ps cs s)]) Tryz.func225 rfl (by kernel_rfl) rfl (allS_cons rfl N0 allS_nil) ?_
 refine R0 ?_
 have r1 : (s).length ≤ bd n := (okl hoks).1
 refine WX.loop (ι := Nat) ⟨fun i => (i ≤ (s).length) ∧ (slices_IndexFunc_TableEntry_L1 fq s 0 = slices_IndexFunc_TableEntry_L1 fq ((s).drop i) i), fun i => (s).length - i, fun i => [(8, .v (.int .i64 (((i : Nat) : Int)))), (7, .v (.int .i64 ((((s).length : Nat) : Int)))), (0, .v (.slice ps ((s).length) cs)), (1, .v (.func (.func fg) #[] fc.toArray))], fun i => [], fun i => [], fun i => [(0, MF.rs .stb ps cs s)]⟩ 0 ⟨(Nat.zero_le _), rfl⟩
  (.cons rfl (.cons rfl (.cons rfl (.cons rfl (.nil))))) .nil .nil [0] rfl ?_
 rintro i hpre
 have hpre_ : (i ≤ (s).length) ∧ (slices_IndexFunc_TableEntry_L1 fq s 0 = slices_IndexFunc_TableEntry_L1 fq ((s).drop i) i) := hpre
 clear hpre
 obtain ⟨v1, v2⟩ := hpre_
 refine R0 ?_
 refine WX.cases 9 rfl (fun h1 => ?_) (fun h1 => ?_)
 ·skip
  have h1d := B.dt h1
  have e1i : i < (s).length := (by omega)
  obtain ⟨e1, e1h⟩ : ∃ e1, (s)[i]? = some e1 := ⟨_, List.getElem?_eq_getElem e1i⟩
  have ok1 : GoT.ok n e1 := (okl hoks).2 _ (List.mem_of_getElem? e1h)
  refine R0 ?_
  refine WX.idx 0 i ttOk rfl rfl rfl rfl rfl rfl rfl rfl rfl rfl e1i ?_
  rintro ad1 rfl
  refine WX.ldE 0 1 e1 ttOk rfl rfl rfl rfl rfl rfl rfl rfl e1h (fun _ => rfl) (fun _ => rfl) ?_
  rintro ⟨⟨p1, c1⟩, ⟨⟩⟩
  refine WX.callV rfl rfl rfl rfl rfl (fun _ => rfl) rfl (fun w G bs hI hΓ => ff w hI.keep e1 ((p1, c1), ()) ok1 (All.cons (hΓ.get 1 rfl : RdSl _ _ _ _) All.nil)) ?_
  intro hq1
  refine R0 ?_
  refine WX.cases 16 rfl (fun h2 => ?_) (fun h2 => ?_)
  ·skip
   refine R0 ?_
   have hP1 : slices_IndexFunc_TableEntry_L1 fq s 0 = (some ((i : Nat) : Int)) := by rw [v2, drop_get e1h]; simp only [slices_IndexFunc_TableEntry_L1, h2, ct, cf]
   have hP2 : slices_IndexFunc_TableEntry s fq = ((i : Nat) : Int) := by simp only [slices_IndexFunc_TableEntry, hP1, ct, cf]
   refine R1 ?_
   intro w1 G bs hI hΓ
   rw [hP2]
   exact ⟨rfl, (show I64 ((i : Nat) : Int) from (by unfold I64; omega))⟩
  ·skip
   refine R0 ?_
   refine WX.see rfl rfl rfl (fun _ hΓ => looks_arith rfl rfl rfl rfl (by unfold I64; first | omega | (simp only [List.length_take] at *; omega))) ?_
   refine R0 ?_
   exact WX.iter (i + 1) ⟨(by omega), (by rw [v2, drop_get e1h]; simp only [slices_IndexFunc_TableEntry_L1, h2, ct, cf])⟩ (by first | (dsimp only; omega) | omega) (.cons rfl (.cons rfl (.cons rfl (.cons rfl (.nil))))) .nil .nil [0] rfl
 ·skip
  have h1d := B.df h1
  refine R0 ?_
  have hX1 : slices_IndexFunc_TableEntry_L1 fq s 0 = none := by rw [v2, List.drop_eq_nil_of_le (show (s).length ≤ i by omega)]; simp only [slices_IndexFunc_TableEntry_L1, ct, cf]
  have hP3 : slices_IndexFunc_TableEntry s fq = (-1) := by simp only [slices_IndexFunc_TableEntry, hX1, ct, cf]
  refine R1 ?_
  intro w1 G bs hI hΓ
  rw [hP3]
  exact ⟨rfl, (show I64 (-1) from (by unfold I64; omega))⟩
theorem ltL_slices_IndexFunc_TableEntry : ∀ (f : TableEntry → Bool) (l : List TableEntry) (i : Nat) (j : Int), slices_IndexFunc_TableEntry_L1 f l i = some j → j < ((i + l.length : Nat) : Int)
  | f, [], i, j, h => by cases h
  | f, x :: l, i, j, h => by
    simp only [slices_IndexFunc_TableEntry_L1] at h
    cases hx : f x
    · rw [hx, cond_false] at h
      have := ltL_slices_IndexFunc_TableEntry f l (i + 1) j h
      simp only [List.length_cons]; omega
    · rw [hx, cond_true] at h
      cases h
      simp only [List.length_cons]; omega
theorem ltI_slices_IndexFunc_TableEntry (l : List TableEntry) (f : TableEntry → Bool) : slices_IndexFunc_TableEntry l f < ((l.length : Nat) : Int) := by
  unfold slices_IndexFunc_TableEntry
  cases h : slices_IndexFunc_TableEntry_L1 f l 0 with
  | none => show (-1 : Int) < _; omega
  | some j => have := ltL_slices_IndexFunc_TableEntry f l 0 j h; show j < _; omega
theorem f243 (w : World) (n : Nat) (hn : n + 0 ≤ 9) (s : (List TableEntry)) (ps : Option Addr) (cs : Nat) (N0 : RdSl (hp w) ps cs s) (fg : FuncId) (fc : List Value) (fq : TableEntry → Bool) (ff : ∀ w1, Kp emp w w1 → ∀ (e0 : TableEntry) (x0 : GoT.X TableEntry), GoT.ok n e0 → All (hp w1) (GoT.fa .der e0 x0) → Does Tryz.prog fg ([Value.agg ⟨GoT.sh e0 x0⟩] ++ fc).toArray w1 emp (fun rv _ => rv = .bool (fq e0) ∧ True)) (hoks : GoT.ok n s) :
  Does Tryz.prog 243 #[.slice ps ((s).length) cs, .func (.func fg) #[] fc.toArray] w emp (fun (rv : Value) (_ : World) => rv = .bool (slices_ContainsFunc_TableEntry s fq) ∧ True) := by
 have hbP := bd_pos n
 have hbB := bd_big (n := n) (by omega)
 refine WX.enter (tt := tt) (Γ := [(0, MF.rs .stb ps cs s)]) Tryz.func243 rfl (by kernel_rfl) rfl (allS_cons rfl N0 allS_nil) ?_
 refine R0 ?_
 refine WX.callV rfl rfl rfl rfl rfl (fun _ => rfl) rfl (fun w G bs hI hΓ => f225 w n (by omega) s ps cs (hΓ.get 0 rfl) fg fc fq (fun w1_ hb_ => ff w1_ (hI.keep.trans hb_)) hoks) ?_
 intro hq1
 have q1 := ltI_slices_IndexFunc_TableEntry s fq
 refine R0 ?_
 have hP1 : slices_ContainsFunc_TableEntry s fq = (decide ((slices_IndexFunc_TableEntry s fq) ≥ 0)) := by simp only [slices_ContainsFunc_TableEntry, ct, cf]
 exact R3 hP1
end Go.Proofs.YtdimfabadjfkiaaGreat

namespace Go.Stp
set_option linter.unusedVariables false
set_option linter.unusedSimpArgs false
def cmp_isNaN_int (x_ : Int) : Bool :=
  (x_ != x_)
def cmp_Compare_int (x_ : Int) (y : Int) : Int :=
  bif (cmp_isNaN_int x_) then
    bif (cmp_isNaN_int y) then
      0
    else
      (-1)
  else
    bif (cmp_isNaN_int y) then
      1
    else
      bif decide (x_ < y) then
        (-1)
      else
        bif decide (x_ > y) then
          1
        else
          0
def cmp_Or_int_L1 : List Int → Option (Int)
  | [] => none
  | e1 :: rest_ =>
    bif (e1 != 0) then
      (some e1)
    else
      cmp_Or_int_L1 rest_
def cmp_Or_int (vals : (List Int)) : Int :=
  match cmp_Or_int_L1 vals with
    | some r_ => r_
    | none =>
      0
def impl_compareLinks (a : Link) (b : Link) : Int :=
  (cmp_Or_int ([(cmp_Compare_int a.a b.a), (cmp_Compare_int a.b b.b)]))
def impl_ValidTopology_L1 (n_ : Topology) : List Link → Nat → Option (Bool)
  | [], i => none
  | e1 :: rest_, i =>
    bif (!(impl_InRange e1.a 0 (IntKind.i64.wrap (n_.size - 1)))) then
      (some false)
    else
      bif (!(impl_InRange e1.b (IntKind.i64.wrap (e1.a + 1)) (IntKind.i64.wrap (n_.size - 1)))) then
        (some false)
      else
        bif decide (((i : Nat) : Int) > 0) then
          match (n_.links)[(((i : Nat) : Int) - 1).toNat]? with
            | none => default
            | some e2 =>
              bif decide ((impl_compareLinks e2 e1) ≥ 0) then
                (some false)
              else
                impl_ValidTopology_L1 n_ rest_ (i + 1)
        else
          impl_ValidTopology_L1 n_ rest_ (i + 1)
def impl_ValidTopology (n_ : Topology) : Bool :=
  match impl_ValidTopology_L1 n_ n_.links 0 with
    | some r_ => r_
    | none =>
      (impl_InRange n_.size 1 6)
def spec_l19Pair (a : Link) (b : Link) : Bool :=
  bif decide (a.a < b.a) then
    true
  else
    bif (a.a == b.a) then
      (decide (a.b < b.b))
    else
      false
def spec_ValidTopology_L1 (n_ : Topology) : List Link → Nat → Option (Bool)
  | [], i => none
  | e1 :: rest_, i =>
    bif (!(spec_l1In e1.a 0 (IntKind.i64.wrap (n_.size - 1)))) then
      (some false)
    else
      bif (!(spec_l1In e1.b 0 (IntKind.i64.wrap (n_.size - 1)))) then
        (some false)
      else
        bif decide (e1.a ≥ e1.b) then
          (some false)
        else
          bif decide (((i : Nat) : Int) > 0) then
            match (n_.links)[(((i : Nat) : Int) - 1).toNat]? with
              | none => default
              | some e2 =>
                bif (!(spec_l19Pair e2 e1)) then
                  (some false)
                else
                  spec_ValidTopology_L1 n_ rest_ (i + 1)
          else
            spec_ValidTopology_L1 n_ rest_ (i + 1)
def spec_ValidTopology (n_ : Topology) : Bool :=
  match spec_ValidTopology_L1 n_ n_.links 0 with
    | some r_ => r_
    | none =>
      (spec_l1In n_.size 1 6)
def NT (o : Option Bool) : Prop := o = none ∨ o = some false
theorem NT.no : NT none := .inl rfl
theorem NT.sf : NT (some false) := .inr rfl
theorem ntc {c : Bool} {a b : Option Bool} (ha : NT a) (hb : NT b) : NT (bif c then a else b) := by
  cases c
  · exact hb
  · exact ha
theorem vtN (n_ : Topology) : ∀ (l : List Link) (i : Nat), NT (spec_ValidTopology_L1 n_ l i)
  | [], i => NT.no
  | x :: l, i => by
    have ih := vtN n_ l (i + 1)
    simp only [spec_ValidTopology_L1]
    refine ntc .sf (ntc .sf (ntc .sf (ntc ?_ ih)))
    cases (n_.links)[(((i : Nat) : Int) - 1).toNat]? with
    | none => exact .no
    | some e2 => exact ntc .sf ih
theorem vtS {n_ : Topology} (h : spec_ValidTopology n_ = true) : 0 ≤ n_.size := by
  unfold spec_ValidTopology at h
  rcases vtN n_ n_.links 0 with h1 | h1
  · rw [h1] at h
    dsimp only at h
    unfold spec_l1In at h
    cases hd : decide (n_.size ≥ 1)
    · rw [hd] at h; cases h
    · have := of_decide_eq_true hd
      omega
  · rw [h1] at h
    cases h
def impl_areProducers_c1 (size : Int) (e_ : TableEntry) : Bool :=
  (!(impl_InRange e_.value 0 (IntKind.i64.wrap (size - 1))))
def impl_areProducers (h_ : (List TableEntry)) (size : Int) : Bool :=
  bif (impl_ValidTable h_) then
    (!(slices_ContainsFunc_TableEntry h_ (fun e0_ => (impl_areProducers_c1 size e0_))))
  else
    false
def spec_l32Rows_L1 (size : Int) : List TableEntry → Option (Bool)
  | [] => none
  | e1 :: rest_ =>
    bif (!(spec_l1In e1.value 0 (IntKind.i64.wrap (size - 1)))) then
      (some false)
    else
      spec_l32Rows_L1 size rest_
def spec_l32Rows (h_ : (List TableEntry)) (size : Int) : Bool :=
  match spec_l32Rows_L1 size h_ with
    | some r_ => r_
    | none =>
      (spec_ValidTable h_)
def impl_LinkIndex_c1 (a : Int) (b : Int) (k : Link) : Bool :=
  bif (k.a == a) then
    bif (k.b == b) then
      true
    else
      bif (k.a == b) then
        (k.b == a)
      else
        false
  else
    bif (k.a == b) then
      (k.b == a)
    else
      false
def slices_IndexFunc_Link_L1 (fq : Link → Bool) : List Link → Nat → Option (Int)
  | [], i => none
  | e1 :: rest_, i =>
    bif fq e1 then
      (some ((i : Nat) : Int))
    else
      slices_IndexFunc_Link_L1 fq rest_ (i + 1)
def slices_IndexFunc_Link (s : (List Link)) (fq : Link → Bool) : Int :=
  match slices_IndexFunc_Link_L1 fq s 0 with
    | some r_ => r_
    | none =>
      (-1)
def impl_LinkIndex (n_ : Topology) (a : Int) (b : Int) : Int :=
  (slices_IndexFunc_Link n_.links (fun e0_ => (impl_LinkIndex_c1 a b e0_)))
def spec_LinkIndex_L1 (a : Int) (b : Int) : List Link → Nat → Option (Int)
  | [], i => none
  | e1 :: rest_, i =>
    bif (e1.a == a) then
      bif (e1.b == b) then
        (some ((i : Nat) : Int))
      else
        bif (e1.a == b) then
          bif (e1.b == a) then
            (some ((i : Nat) : Int))
          else
            spec_LinkIndex_L1 a b rest_ (i + 1)
        else
          spec_LinkIndex_L1 a b rest_ (i + 1)
    else
      bif (e1.a == b) then
        bif (e1.b == a) then
          (some ((i : Nat) : Int))
        else
          spec_LinkIndex_L1 a b rest_ (i + 1)
      else
        spec_LinkIndex_L1 a b rest_ (i + 1)
def spec_LinkIndex (n_ : Topology) (a : Int) (b : Int) : Int :=
  match spec_LinkIndex_L1 a b n_.links 0 with
    | some r_ => r_
    | none =>
      (-1)
def impl_NeighborsOf_L1 (n_ : Topology) (a : Int) : Nat → Nat → (List Int) → (List Int)
  | 0, i, out => ((out) : List Int)
  | m_ + 1, i, out =>
    bif decide ((impl_LinkIndex n_ a ((i : Nat) : Int)) ≥ 0) then
      impl_NeighborsOf_L1 n_ a m_ (i + 1) (((out ++ [((i : Nat) : Int)])) : List Int)
    else
      impl_NeighborsOf_L1 n_ a m_ (i + 1) ((out) : List Int)
def impl_NeighborsOf (n_ : Topology) (a : Int) : (List Int) :=
  match impl_NeighborsOf_L1 n_ a ((max 0 (min n_.size 6)).toNat) 0 ([] : List Int) with
    | out =>
      out
def spec_NeighborsOf_L1 (n_ : Topology) (a : Int) : Nat → Nat → (List Int) → (List Int)
  | 0, i, out => ((out) : List Int)
  | m_ + 1, i, out =>
    bif decide (((i : Nat) : Int) < 6) then
      bif decide ((spec_LinkIndex n_ a ((i : Nat) : Int)) ≥ 0) then
        spec_NeighborsOf_L1 n_ a m_ (i + 1) (((out ++ [((i : Nat) : Int)])) : List Int)
      else
        spec_NeighborsOf_L1 n_ a m_ (i + 1) ((out) : List Int)
    else
      ((out) : List Int)
def spec_NeighborsOf (n_ : Topology) (a : Int) : (List Int) :=
  match spec_NeighborsOf_L1 n_ a ((n_.size).toNat) 0 ([] : List Int) with
    | out =>
      out
end Go.Stp

namespace Go.Proofs.YtdimfabadjfkiaaGreat
open Go.Stp
set_option linter.unusedVariables false
set_option linter.unusedSimpArgs false
theorem f391 (w : World) (n : Nat) (hn : n + 0 ≤ 9) (x_ : Int) (hokx_ : GoT.ok n x_) :
  Does Tryz.prog 391 #[.int .i64 (x_)] w emp (fun (rv : Value) (_ : World) => rv = .bool (cmp_isNaN_int x_) ∧ True) := by
 refine WX.enter (tt := tt) (Γ := []) Tryz.func391 rfl (by kernel_rfl) rfl allS_nil ?_
 refine R0 ?_
 have hP1 : cmp_isNaN_int x_ = (x_ != x_) := by simp only [cmp_isNaN_int, ct, cf]
 exact R3 hP1
theorem f340 (w : World) (n : Nat) (hn : n + 0 ≤ 9) (x_ : Int) (y : Int) (hokx_ : GoT.ok n x_) (hoky : GoT.ok n y) :
  Does Tryz.prog 340 #[.int .i64 (x_), .int .i64 (y)] w emp (fun (rv : Value) (_ : World) => rv = .int .i64 ((cmp_Compare_int x_ y)) ∧ GoT.ok n ((cmp_Compare_int x_ y) : Int)) := by
 have hbP := bd_pos n
 have hbB := bd_big (n := n) (by omega)
 refine WX.enter (tt := tt) (Γ := []) Tryz.func340 rfl (by kernel_rfl) rfl allS_nil ?_
 refine R0 ?_
 refine WX.callV rfl rfl rfl rfl rfl (fun _ => rfl) rfl (fun w G bs hI hΓ => f391 w n (by omega) x_ hokx_) ?_
 intro hq1
 refine R0 ?_
 refine WX.callV rfl rfl rfl rfl rfl (fun _ => rfl) rfl (fun w G bs hI hΓ => f391 w n (by omega) y hoky) ?_
 intro hq2
 refine R0 ?_
 refine WX.cases 11 rfl (fun h1 => ?_) (fun h1 => ?_)
 ·skip
  refine R0 ?_
  refine WX.cases 12 rfl (fun h2 => ?_) (fun h2 => ?_)
  ·skip
   refine R0 ?_
   have hP1 : cmp_Compare_int x_ y = 0 := by simp only [cmp_Compare_int, h1, h2, ct, cf]
   refine R1 ?_
   intro w1 G bs hI hΓ
   rw [hP1]
   exact ⟨rfl, (show I64 0 from (by unfold I64; omega))⟩
  ·skip
   refine R0 ?_
   have hP2 : cmp_Compare_int x_ y = (-1) := by simp only [cmp_Compare_int, h1, h2, ct, cf]
   refine R1 ?_
   intro w1 G bs hI hΓ
   rw [hP2]
   exact ⟨rfl, (show I64 (-1) from (by unfold I64; omega))⟩
 ·skip
  refine R0 ?_
  refine WX.cases 13 rfl (fun h3 => ?_) (fun h3 => ?_)
  ·skip
   refine R0 ?_
   have hP3 : cmp_Compare_int x_ y = 1 := by simp only [cmp_Compare_int, h1, h3, ct, cf]
   refine R1 ?_
   intro w1 G bs hI hΓ
   rw [hP3]
   exact ⟨rfl, (show I64 1 from (by unfold I64; omega))⟩
  ·skip
   refine R0 ?_
   refine WX.cases 16 rfl (fun h4 => ?_) (fun h4 => ?_)
   ·skip
    have h4d := B.dt h4
    refine R0 ?_
    have hP4 : cmp_Compare_int x_ y = (-1) := by simp only [cmp_Compare_int, h1, h3, h4, ct, cf]
    refine R1 ?_
    intro w1 G bs hI hΓ
    rw [hP4]
    exact ⟨rfl, (show I64 (-1) from (by unfold I64; omega))⟩
   ·skip
    have h4d := B.df h4
    refine R0 ?_
    refine WX.cases 19 rfl (fun h5 => ?_) (fun h5 => ?_)
    ·skip
     have h5d := B.dt h5
     refine R0 ?_
     have hP5 : cmp_Compare_int x_ y = 1 := by simp only [cmp_Compare_int, h1, h3, h4, h5, ct, cf]
     refine R1 ?_
     intro w1 G bs hI hΓ
     rw [hP5]
     exact ⟨rfl, (show I64 1 from (by unfold I64; omega))⟩
    ·skip
     have h5d := B.df h5
     refine R0 ?_
     have hP6 : cmp_Compare_int x_ y = 0 := by simp only [cmp_Compare_int, h1, h3, h4, h5, ct, cf]
     refine R1 ?_
     intro w1 G bs hI hΓ
     rw [hP6]
     exact ⟨rfl, (show I64 0 from (by unfold I64; omega))⟩
theorem f339 (w : World) (n : Nat) (hn : n + 0 ≤ 9) (vals : (List Int)) (K0 : Option Addr) (M0 : Nat) (N0 : RdSl (hp w) K0 M0 vals) (hokvals : GoT.ok n vals) :
  Does Tryz.prog 339 #[.slice K0 ((vals).length) M0] w emp (fun (rv : Value) (_ : World) => rv = .int .i64 ((cmp_Or_int vals)) ∧ GoT.ok n ((cmp_Or_int vals) : Int)) := by
 have hbP := bd_pos n
 have hbB := bd_big (n := n) (by omega)
 refine WX.enter (tt := tt) (Γ := [(0, MF.rs .stb K0 M0 vals)]) Tryz.func339 rfl (by kernel_rfl) rfl (allS_cons rfl N0 allS_nil) ?_
 refine R0 ?_
 have r1 : (vals).length ≤ bd n := (okl hokvals).1
 refine WX.loop (ι := Nat) ⟨fun i => (i ≤ (vals).length) ∧ (cmp_Or_int_L1 vals = cmp_Or_int_L1 ((vals).drop i)), fun i => (vals).length - i, fun i => [(8, .v (.int .i64 (((i : Nat) : Int)))), (7, .v (.int .i64 ((((vals).length : Nat) : Int)))), (6, .v (.slice K0 ((vals).length) M0)), (3, .v (.int .i64 (0)))], fun i => [], fun i => [], fun i => [(0, MF.rs .stb K0 M0 vals)]⟩ 0 ⟨(Nat.zero_le _), rfl⟩
  (.cons rfl (.cons rfl (.cons rfl (.cons rfl (.nil))))) .nil .nil [0] rfl ?_
 rintro i hpre
 have hpre_ : (i ≤ (vals).length) ∧ (cmp_Or_int_L1 vals = cmp_Or_int_L1 ((vals).drop i)) := hpre
 clear hpre
 obtain ⟨v1, v2⟩ := hpre_
 refine R0 ?_
 refine WX.cases 9 rfl (fun h1 => ?_) (fun h1 => ?_)
 ·skip
  have h1d := B.dt h1
  have e1i : i < (vals).length := (by omega)
  obtain ⟨e1, e1h⟩ : ∃ e1, (vals)[i]? = some e1 := ⟨_, List.getElem?_eq_getElem e1i⟩
  have ok1 : GoT.ok n e1 := (okl hokvals).2 _ (List.mem_of_getElem? e1h)
  refine R0 ?_
  refine WX.idx 0 i ttOk rfl rfl rfl rfl rfl rfl rfl rfl rfl rfl e1i ?_
  rintro ad1 rfl
  refine WX.ldE 0 1 e1 ttOk rfl rfl rfl rfl rfl rfl rfl rfl e1h (fun _ => rfl) (fun _ => rfl) ?_
  rintro ⟨⟩
  refine R0 ?_
  refine WX.cases 14 rfl (fun h2 => ?_) (fun h2 => ?_)
  ·skip
   have h2d := B.nt' h2
   refine R0 ?_
   have hP1 : cmp_Or_int_L1 vals = (some e1) := by rw [v2, drop_get e1h]; simp only [cmp_Or_int_L1, h2, ct, cf]
   have hP2 : cmp_Or_int vals = e1 := by simp only [cmp_Or_int, hP1, ct, cf]
   refine R1 ?_
   intro w1 G bs hI hΓ
   rw [hP2]
   exact ⟨rfl, ok1⟩
  ·skip
   have h2d := B.nf' h2
   refine R0 ?_
   refine WX.see rfl rfl rfl (fun _ hΓ => looks_arith rfl rfl rfl rfl (by unfold I64; first | omega | (simp only [List.length_take] at *; omega))) ?_
   refine R0 ?_
   exact WX.iter (i + 1) ⟨(by omega), (by rw [v2, drop_get e1h]; simp only [cmp_Or_int_L1, h2, ct, cf])⟩ (by first | (dsimp only; omega) | omega) (.cons rfl (.cons rfl (.cons rfl (.cons rfl (.nil))))) .nil .nil [0] rfl
 ·skip
  have h1d := B.df h1
  refine R0 ?_
  have hX1 : cmp_Or_int_L1 vals = none := by rw [v2, List.drop_eq_nil_of_le (show (vals).length ≤ i by omega)]; simp only [cmp_Or_int_L1, ct, cf]
  have hP3 : cmp_Or_int vals = 0 := by simp only [cmp_Or_int, hX1, ct, cf]
  refine R1 ?_
  intro w1 G bs hI hΓ
  rw [hP3]
  exact ⟨rfl, (show I64 0 from (by unfold I64; omega))⟩
theorem f278 (w : World) (n : Nat) (hn : n + 0 ≤ 9) (a : Link) (b : Link) (hoka : GoT.ok n a) (hokb : GoT.ok n b) :
  Does Tryz.prog 278 #[.agg #[.int .i64 (a.a), .int .i64 (a.b)], .agg #[.int .i64 (b.a), .int .i64 (b.b)]] w emp (fun (rv : Value) (_ : World) => rv = .int .i64 ((impl_compareLinks a b)) ∧ GoT.ok n ((impl_compareLinks a b) : Int)) := by
 have hbP := bd_pos n
 have hbB := bd_big (n := n) (by omega)
 refine WX.enter (tt := tt) (Γ := []) Tryz.func278 rfl (by kernel_rfl) rfl allS_nil ?_
 refine R0 ?_
 refine WX.draw [11, 12] mixed ?_
 intro bs G0 hΓ0
 refine DX.takes (fuel := 5) ttOk [(0, true), (1, false), (2, true), (3, false), (5, true), (6, false), (7, true), (8, false)] (by kernel_rfl) rfl ?_
 refine DX.callV 4 rfl (by kernel_rfl) rfl rfl rfl rfl rfl rfl (fun _ => rfl) rfl (fun w G bs hI hΓ => f340 w n (by omega) a.a b.a ((ok_Link hoka).1) ((ok_Link hokb).1)) ?_
 intro hq1
 refine DX.callV 9 rfl (by kernel_rfl) rfl rfl rfl rfl rfl rfl (fun _ => rfl) rfl (fun w G bs hI hΓ => f340 w n (by omega) a.b b.b ((ok_Link hoka).2) ((ok_Link hokb).2)) ?_
 intro hq2
 refine DX.tail2 [10, 11, 12] rfl rfl (by kernel_rfl) ?_
 refine WX.bld ttOk rfl rfl rfl rfl rfl rfl rfl ?_
 intro p1
 refine WX.turn [] 0 rfl (fun h hs => one_sep (⟨(), _, emp, _, rfl, emp_le _, Le.refl _, emp_dj _, trivial, ⟨(), _, emp, _, rfl, emp_le _, Le.refl _, emp_dj _, trivial, rfl⟩⟩ : OwL _ _ ([(cmp_Compare_int a.a b.a), (cmp_Compare_int a.b b.b)] : List Int))) (gs := [MF.ol [.int .i64 ((cmp_Compare_int a.a b.a)), .int .i64 ((cmp_Compare_int a.b b.b))] ([(cmp_Compare_int a.a b.a), (cmp_Compare_int a.b b.b)] : List Int)]) rfl ?_
 refine WX.seal 15 0 1 rfl rfl rfl rfl rfl ?_
 have r1 : -9223372036854775808 ≤ a.a ∧ a.a ≤ 9223372036854775807 := (ok_Link hoka).1
 have r2 : -9223372036854775808 ≤ a.b ∧ a.b ≤ 9223372036854775807 := (ok_Link hoka).2
 have r3 : -9223372036854775808 ≤ b.a ∧ b.a ≤ 9223372036854775807 := (ok_Link hokb).1
 have r4 : -9223372036854775808 ≤ b.b ∧ b.b ≤ 9223372036854775807 := (ok_Link hokb).2
 have r5 : -9223372036854775808 ≤ (cmp_Compare_int a.a b.a) ∧ (cmp_Compare_int a.a b.a) ≤ 9223372036854775807 := hq1
 have r6 : -9223372036854775808 ≤ (cmp_Compare_int a.b b.b) ∧ (cmp_Compare_int a.b b.b) ≤ 9223372036854775807 := hq2
 refine WX.callV rfl rfl rfl rfl rfl (fun _ => rfl) rfl (fun w G bs hI hΓ => f339 w n (by omega) ([(cmp_Compare_int a.a b.a), (cmp_Compare_int a.b b.b)]) p1 2 (hΓ.get 1 rfl) (okl_mk (by simp; omega) (all_cons (α := Int) hq1 (all_cons (α := Int) hq2 (fun a ha => by cases ha))) : GoT.ok n ([(cmp_Compare_int a.a b.a), (cmp_Compare_int a.b b.b)] : List Int))) ?_
 intro hq3
 refine R0 ?_
 have hP1 : impl_compareLinks a b = (cmp_Or_int ([(cmp_Compare_int a.a b.a), (cmp_Compare_int a.b b.b)])) := by simp only [impl_compareLinks, ct, cf]
 refine R1 ?_
 intro w1 G bs hI hΓ
 rw [hP1]
 exact ⟨rfl, hq3⟩
theorem f195 (w : World) (n : Nat) (hn : n + 0 ≤ 9) (n_ : Topology) (K0 : Option Addr) (M0 : Nat) (N0 : RdSl (hp w) K0 M0 n_.links) (hokn_ : GoT.ok n n_) :
  Does Tryz.prog 195 #[.agg #[.int .i64 (n_.size), .slice K0 ((n_.links).length) M0]] w emp (fun (rv : Value) (_ : World) => rv = .bool (impl_ValidTopology n_) ∧ True) := by
 have hbP := bd_pos n
 have hbB := bd_big (n := n) (by omega)
 refine WX.enter (tt := tt) (Γ := [(0, MF.rs .stb K0 M0 n_.links)]) Tryz.func195 rfl (by kernel_rfl) rfl (allS_cons rfl N0 allS_nil) ?_
 refine R0 ?_
 have r1 : (n_.links).length ≤ bd n := (okl (ok_Topology hokn_).2).1
 refine WX.loop (ι := Nat) ⟨fun i => (i ≤ (n_.links).length) ∧ (impl_ValidTopology_L1 n_ n_.links 0 = impl_ValidTopology_L1 n_ ((n_.links).drop i) i), fun i => (n_.links).length - i, fun i => [(8, .v (.int .i64 (((i : Nat) : Int)))), (7, .v (.int .i64 ((((n_.links).length : Nat) : Int)))), (6, .v (.slice K0 ((n_.links).length) M0)), (1, .p 1 0)], fun i => [(1, ⟨134, [.int .i64 (n_.size), .slice K0 ((n_.links).length) M0]⟩)], fun i => [], fun i => [(0, MF.rs .stb K0 M0 n_.links)]⟩ 0 ⟨(Nat.zero_le _), rfl⟩
  (.cons rfl (.cons rfl (.cons rfl (.cons rfl (.nil))))) (.cons rfl (.nil)) .nil [0] rfl ?_
 rintro i hpre
 have hpre_ : (i ≤ (n_.links).length) ∧ (impl_ValidTopology_L1 n_ n_.links 0 = impl_ValidTopology_L1 n_ ((n_.links).drop i) i) := hpre
 clear hpre
 obtain ⟨v1, v2⟩ := hpre_
 refine R0 ?_
 refine WX.cases 9 rfl (fun h1 => ?_) (fun h1 => ?_)
 ·skip
  have h1d := B.dt h1
  have e1i : i < (n_.links).length := (by omega)
  obtain ⟨e1, e1h⟩ : ∃ e1, (n_.links)[i]? = some e1 := ⟨_, List.getElem?_eq_getElem e1i⟩
  have ok1 : GoT.ok n e1 := (okl (ok_Topology hokn_).2).2 _ (List.mem_of_getElem? e1h)
  refine R0 ?_
  refine WX.idx 0 i ttOk rfl rfl rfl rfl rfl rfl rfl rfl rfl rfl e1i ?_
  rintro ad1 rfl
  refine WX.ldE 0 1 e1 ttOk rfl rfl rfl rfl rfl rfl rfl rfl e1h (fun _ => rfl) (fun _ => rfl) ?_
  rintro ⟨⟨⟩, ⟨⟩⟩
  refine R0 ?_
  refine WX.draw [] mixed ?_
  intro bs G0 hΓ0
  refine DX.takes (fuel := 30) ttOk [(0, true), (1, false), (2, true), (3, false)] (by kernel_rfl) rfl ?_
  refine DX.seeP 4 (by kernel_rfl) rfl rfl rfl rfl (looksP_wrap rfl rfl rfl rfl) ?_
  refine DX.callV 5 rfl (by kernel_rfl) rfl rfl rfl rfl rfl rfl (fun _ => rfl) rfl (fun w G bs hI hΓ => f138 w n (by omega) e1.a 0 (IntKind.i64.wrap (n_.size - 1)) ((ok_Link ok1).1) (show I64 0 from (by unfold I64; omega)) (i64_wrap _)) ?_
  intro hq1
  refine DX.takes (fuel := 26) ttOk [(6, true), (7, true)] (by kernel_rfl) rfl ?_
  refine DX.cases 20 rfl (fun h2 => ?_) (fun h2 => ?_)
  ·skip
   have h2d := (B.nt h2)
   refine DX.takes (fuel := 0) ttOk [(8, true), (9, true), (10, true), (11, true), (12, true), (13, true), (14, true), (15, true), (16, true), (17, true), (18, true), (19, true), (20, true), (21, true), (22, true), (23, true), (24, true), (25, true), (26, true), (27, true), (28, true), (29, true), (30, true), (31, true), (32, true), (33, true)] (by kernel_rfl) rfl ?_
   refine DX.tail2 [] rfl rfl (by kernel_rfl) ?_
   refine R0 ?_
   have hP1 : impl_ValidTopology_L1 n_ n_.links 0 = (some false) := by rw [v2, drop_get e1h]; simp only [impl_ValidTopology_L1, h2, ct, cf]
   have hP2 : impl_ValidTopology n_ = false := by simp only [impl_ValidTopology, hP1, ct, cf]
   exact R3 hP2
  ·skip
   have h2d := (B.nf h2)
   have h2r := inR_impl (B.nf h2)
   refine DX.takes (fuel := 22) ttOk [(8, true), (9, false), (10, true), (11, false)] (by kernel_rfl) rfl ?_
   refine DX.seeP 12 (by kernel_rfl) rfl rfl rfl rfl (looksP_wrap rfl rfl rfl rfl) ?_
   refine DX.takes (fuel := 19) ttOk [(13, true), (14, false)] (by kernel_rfl) rfl ?_
   refine DX.seeP 15 (by kernel_rfl) rfl rfl rfl rfl (looksP_wrap rfl rfl rfl rfl) ?_
   refine DX.callV 16 rfl (by kernel_rfl) rfl rfl rfl rfl rfl rfl (fun _ => rfl) rfl (fun w G bs hI hΓ => f138 w n (by omega) e1.b (IntKind.i64.wrap (e1.a + 1)) (IntKind.i64.wrap (n_.size - 1)) ((ok_Link ok1).2) (i64_wrap _) (i64_wrap _)) ?_
   intro hq2
   refine DX.takes (fuel := 14) ttOk [(17, true), (18, true), (19, true)] (by kernel_rfl) rfl ?_
   refine DX.cases 32 rfl (fun h3 => ?_) (fun h3 => ?_)
   ·skip
    have h3d := (B.nt h3)
    refine DX.takes (fuel := 0) ttOk [(20, true), (21, true), (22, true), (23, true), (24, true), (25, true), (26, true), (27, true), (28, true), (29, true), (30, true), (31, true), (32, true), (33, true)] (by kernel_rfl) rfl ?_
    refine DX.tail2 [] rfl rfl (by kernel_rfl) ?_
    refine R0 ?_
    have hP3 : impl_ValidTopology_L1 n_ n_.links 0 = (some false) := by rw [v2, drop_get e1h]; simp only [impl_ValidTopology_L1, h2, h3, ct, cf]
    have hP4 : impl_ValidTopology n_ = false := by simp only [impl_ValidTopology, hP3, ct, cf]
    exact R3 hP4
   ·skip
    have h3d := (B.nf h3)
    have h3r := inR_impl (B.nf h3)
    refine DX.takes (fuel := 11) ttOk [(20, true), (21, true), (22, true)] (by kernel_rfl) rfl ?_
    refine DX.cases 35 rfl (fun h4 => ?_) (fun h4 => ?_)
    ·skip
     have h4d := B.dt h4
     refine DX.takes (fuel := 8) ttOk [(23, true), (24, false), (25, true)] (by kernel_rfl) rfl ?_
     refine DX.seeP 26 (by kernel_rfl) rfl rfl rfl rfl (looksP_arith rfl rfl rfl rfl (by unfold I64; first | omega | (simp only [List.length_take] at *; omega))) ?_
     refine DX.slot 39 (y := .v (.int .i64 (((((i : Nat) : Int) - 1).toNat : Nat) : Int))) rfl (fun _ => congrArg (Value.int .i64) (show ((i : Nat) : Int) - 1 = (((((i : Nat) : Int) - 1).toNat : Nat) : Int) from by omega)) ?_
     have e2i : (((i : Nat) : Int) - 1).toNat < (n_.links).length := (by first | assumption | omega)
     obtain ⟨e2, e2h⟩ : ∃ e2, (n_.links)[(((i : Nat) : Int) - 1).toNat]? = some e2 := ⟨_, List.getElem?_eq_getElem e2i⟩
     have ok2 : GoT.ok n e2 := (okl (ok_Topology hokn_).2).2 _ (List.mem_of_getElem? e2h)
     refine DX.idx 27 0 ((((i : Nat) : Int) - 1).toNat) ttOk hΓ0 (by kernel_rfl) rfl rfl rfl rfl rfl rfl rfl rfl rfl rfl rfl e2i ?_
     rintro ad2 ⟨⟩
     refine DX.ldE 28 0 1 e2 ttOk hΓ0 (by kernel_rfl) rfl rfl rfl rfl rfl rfl rfl rfl e2h (fun _ => rfl) (fun _ => rfl) ?_
     rintro ⟨⟨⟩, ⟨⟩⟩
     refine DX.takes (fuel := 4) ttOk [(29, false)] (by kernel_rfl) rfl ?_
     refine DX.callV 30 rfl (by kernel_rfl) rfl rfl rfl rfl rfl rfl (fun _ => rfl) rfl (fun w G bs hI hΓ => f278 w n (by omega) e2 e1 ok2 ok1) ?_
     intro hq3
     refine DX.takes (fuel := 0) ttOk [(31, true), (32, true), (33, true)] (by kernel_rfl) rfl ?_
     refine DX.tail2 [] rfl rfl (by kernel_rfl) ?_
     refine R0 ?_
     refine WX.cases 46 rfl (fun h5 => ?_) (fun h5 => ?_)
     ·skip
      have h5d := B.dt h5
      refine R0 ?_
      have hP5 : impl_ValidTopology_L1 n_ n_.links 0 = (some false) := by rw [v2, drop_get e1h]; simp only [impl_ValidTopology_L1, h2, h3, h4, e2h, h5, ct, cf]
      have hP6 : impl_ValidTopology n_ = false := by simp only [impl_ValidTopology, hP5, ct, cf]
      exact R3 hP6
     ·skip
      have h5d := B.df h5
      refine R0 ?_
      refine WX.see rfl rfl rfl (fun _ hΓ => looks_arith rfl rfl rfl rfl (by unfold I64; first | omega | (simp only [List.length_take] at *; omega))) ?_
      refine R0 ?_
      exact WX.iter (i + 1) ⟨(by omega), (by rw [v2, drop_get e1h]; simp only [impl_ValidTopology_L1, h2, h3, h4, e2h, h5, ct, cf])⟩ (by first | (dsimp only; omega) | omega) (.cons rfl (.cons rfl (.cons rfl (.cons rfl (.nil))))) (.cons rfl (.nil)) .nil [0] rfl
    ·skip
     have h4d := B.df h4
     refine DX.takes (fuel := 0) ttOk [(23, true), (24, true), (25, true), (26, true), (27, true), (28, true), (29, true), (30, true), (31, true), (32, true), (33, true)] (by kernel_rfl) rfl ?_
     refine DX.tail2 [] rfl rfl (by kernel_rfl) ?_
     refine R0 ?_
     refine WX.see rfl rfl rfl (fun _ hΓ => looks_arith rfl rfl rfl rfl (by unfold I64; first | omega | (simp only [List.length_take] at *; omega))) ?_
     refine R0 ?_
     exact WX.iter (i + 1) ⟨(by omega), (by rw [v2, drop_get e1h]; simp only [impl_ValidTopology_L1, h2, h3, h4, ct, cf])⟩ (by first | (dsimp only; omega) | omega) (.cons rfl (.cons rfl (.cons rfl (.cons rfl (.nil))))) (.cons rfl (.nil)) .nil [0] rfl
 ·skip
  have h1d := B.df h1
  refine R0 ?_
  have hX1 : impl_ValidTopology_L1 n_ n_.links 0 = none := by rw [v2, List.drop_eq_nil_of_le (show (n_.links).length ≤ i by omega)]; simp only [impl_ValidTopology_L1, ct, cf]
  refine WX.callV rfl rfl rfl rfl rfl (fun _ => rfl) rfl (fun w G bs hI hΓ => f138 w n (by omega) n_.size 1 6 ((ok_Topology hokn_).1) (show I64 1 from (by unfold I64; omega)) (show I64 6 from (by unfold I64; omega))) ?_
  intro hq4
  refine R0 ?_
  have hP7 : impl_ValidTopology n_ = (impl_InRange n_.size 1 6) := by simp only [impl_ValidTopology, hX1, ct, cf]
  exact R3 hP7
theorem f265 (w : World) (n : Nat) (hn : n + 0 ≤ 9) (a : Link) (b : Link) (hoka : GoT.ok n a) (hokb : GoT.ok n b) :
  Does Tryz.prog 265 #[.agg #[.int .i64 (a.a), .int .i64 (a.b)], .agg #[.int .i64 (b.a), .int .i64 (b.b)]] w emp (fun (rv : Value) (_ : World) => rv = .bool (spec_l19Pair a b) ∧ True) := by
 refine WX.enter (tt := tt) (Γ := []) Tryz.func265 rfl (by kernel_rfl) rfl allS_nil ?_
 refine R0 ?_
 refine WX.cases 10 rfl (fun h1 => ?_) (fun h1 => ?_)
 ·skip
  have h1d := B.dt h1
  refine R0 ?_
  have hP1 : spec_l19Pair a b = true := by simp only [spec_l19Pair, h1, ct, cf]
  exact R3 hP1
 ·skip
  have h1d := B.df h1
  refine R0 ?_
  refine WX.cases 16 rfl (fun h2 => ?_) (fun h2 => ?_)
  ·skip
   have h2d := B.et h2
   refine R0 ?_
   have hP2 : spec_l19Pair a b = (decide (a.b < b.b)) := by simp only [spec_l19Pair, h1, h2, ct, cf]
   exact R3 hP2
  ·skip
   have h2d := B.ef h2
   refine R0 ?_
   have hP3 : spec_l19Pair a b = false := by simp only [spec_l19Pair, h1, h2, ct, cf]
   exact R3 hP3
theorem f182 (w : World) (n : Nat) (hn : n + 0 ≤ 9) (n_ : Topology) (K0 : Option Addr) (M0 : Nat) (N0 : RdSl (hp w) K0 M0 n_.links) (hokn_ : GoT.ok n n_) :
  Does Tryz.prog 182 #[.agg #[.int .i64 (n_.size), .slice K0 ((n_.links).length) M0]] w emp (fun (rv : Value) (_ : World) => rv = .bool (spec_ValidTopology n_) ∧ True) := by
 have hbP := bd_pos n
 have hbB := bd_big (n := n) (by omega)
 refine WX.enter (tt := tt) (Γ := [(0, MF.rs .stb K0 M0 n_.links)]) Tryz.func182 rfl (by kernel_rfl) rfl (allS_cons rfl N0 allS_nil) ?_
 refine R0 ?_
 have r1 : (n_.links).length ≤ bd n := (okl (ok_Topology hokn_).2).1
 refine WX.loop (ι := Nat) ⟨fun i => (i ≤ (n_.links).length) ∧ (spec_ValidTopology_L1 n_ n_.links 0 = spec_ValidTopology_L1 n_ ((n_.links).drop i) i), fun i => (n_.links).length - i, fun i => [(3, .v (.int .i64 (((i : Nat) : Int)))), (1, .p 1 0)], fun i => [(1, ⟨134, [.int .i64 (n_.size), .slice K0 ((n_.links).length) M0]⟩)], fun i => [], fun i => [(0, MF.rs .stb K0 M0 n_.links)]⟩ 0 ⟨(Nat.zero_le _), rfl⟩
  (.cons rfl (.cons rfl (.nil))) (.cons rfl (.nil)) .nil [0] rfl ?_
 rintro i hpre
 have hpre_ : (i ≤ (n_.links).length) ∧ (spec_ValidTopology_L1 n_ n_.links 0 = spec_ValidTopology_L1 n_ ((n_.links).drop i) i) := hpre
 clear hpre
 obtain ⟨v1, v2⟩ := hpre_
 refine R0 ?_
 refine WX.cases 9 rfl (fun h1 => ?_) (fun h1 => ?_)
 ·skip
  have h1d := B.dt h1
  have e1i : i < (n_.links).length := (by omega)
  obtain ⟨e1, e1h⟩ : ∃ e1, (n_.links)[i]? = some e1 := ⟨_, List.getElem?_eq_getElem e1i⟩
  have ok1 : GoT.ok n e1 := (okl (ok_Topology hokn_).2).2 _ (List.mem_of_getElem? e1h)
  refine R0 ?_
  refine WX.idx 0 i ttOk rfl rfl rfl rfl rfl rfl rfl rfl rfl rfl e1i ?_
  rintro ad1 rfl
  refine WX.ldE 0 1 e1 ttOk rfl rfl rfl rfl rfl rfl rfl rfl e1h (fun _ => rfl) (fun _ => rfl) ?_
  rintro ⟨⟨⟩, ⟨⟩⟩
  refine R0 ?_
  refine WX.draw [] mixed ?_
  intro bs G0 hΓ0
  refine DX.takes (fuel := 34) ttOk [(0, true), (1, false), (2, true), (3, false)] (by kernel_rfl) rfl ?_
  refine DX.seeP 4 (by kernel_rfl) rfl rfl rfl rfl (looksP_wrap rfl rfl rfl rfl) ?_
  refine DX.callV 5 rfl (by kernel_rfl) rfl rfl rfl rfl rfl rfl (fun _ => rfl) rfl (fun w G bs hI hΓ => f142 w n (by omega) e1.a 0 (IntKind.i64.wrap (n_.size - 1)) ((ok_Link ok1).1) (show I64 0 from (by unfold I64; omega)) (i64_wrap _)) ?_
  intro hq1
  refine DX.takes (fuel := 30) ttOk [(6, true), (7, true)] (by kernel_rfl) rfl ?_
  refine DX.cases 24 rfl (fun h2 => ?_) (fun h2 => ?_)
  ·skip
   have h2d := (B.nt h2)
   refine DX.takes (fuel := 0) ttOk [(8, true), (9, true), (10, true), (11, true), (12, true), (13, true), (14, true), (15, true), (16, true), (17, true), (18, true), (19, true), (20, true), (21, true), (22, true), (23, true), (24, true), (25, true), (26, true), (27, true), (28, true), (29, true), (30, true), (31, true), (32, true), (33, true), (34, true), (35, true), (36, true), (37, true)] (by kernel_rfl) rfl ?_
   refine DX.tail2 [] rfl rfl (by kernel_rfl) ?_
   refine R0 ?_
   have hP1 : spec_ValidTopology_L1 n_ n_.links 0 = (some false) := by rw [v2, drop_get e1h]; simp only [spec_ValidTopology_L1, h2, ct, cf]
   have hP2 : spec_ValidTopology n_ = false := by simp only [spec_ValidTopology, hP1, ct, cf]
   exact R3 hP2
  ·skip
   have h2d := (B.nf h2)
   have h2r := inR_spec (B.nf h2)
   refine DX.takes (fuel := 26) ttOk [(8, true), (9, false), (10, true), (11, false)] (by kernel_rfl) rfl ?_
   refine DX.seeP 12 (by kernel_rfl) rfl rfl rfl rfl (looksP_wrap rfl rfl rfl rfl) ?_
   refine DX.callV 13 rfl (by kernel_rfl) rfl rfl rfl rfl rfl rfl (fun _ => rfl) rfl (fun w G bs hI hΓ => f142 w n (by omega) e1.b 0 (IntKind.i64.wrap (n_.size - 1)) ((ok_Link ok1).2) (show I64 0 from (by unfold I64; omega)) (i64_wrap _)) ?_
   intro hq2
   refine DX.takes (fuel := 21) ttOk [(14, true), (15, true), (16, true)] (by kernel_rfl) rfl ?_
   refine DX.cases 33 rfl (fun h3 => ?_) (fun h3 => ?_)
   ·skip
    have h3d := (B.nt h3)
    refine DX.takes (fuel := 0) ttOk [(17, true), (18, true), (19, true), (20, true), (21, true), (22, true), (23, true), (24, true), (25, true), (26, true), (27, true), (28, true), (29, true), (30, true), (31, true), (32, true), (33, true), (34, true), (35, true), (36, true), (37, true)] (by kernel_rfl) rfl ?_
    refine DX.tail2 [] rfl rfl (by kernel_rfl) ?_
    refine R0 ?_
    have hP3 : spec_ValidTopology_L1 n_ n_.links 0 = (some false) := by rw [v2, drop_get e1h]; simp only [spec_ValidTopology_L1, h2, h3, ct, cf]
    have hP4 : spec_ValidTopology n_ = false := by simp only [spec_ValidTopology, hP3, ct, cf]
    exact R3 hP4
   ·skip
    have h3d := (B.nf h3)
    have h3r := inR_spec (B.nf h3)
    refine DX.takes (fuel := 14) ttOk [(17, true), (18, false), (19, true), (20, false), (21, true), (22, true), (23, true)] (by kernel_rfl) rfl ?_
    refine DX.cases 40 rfl (fun h4 => ?_) (fun h4 => ?_)
    ·skip
     have h4d := B.dt h4
     refine DX.takes (fuel := 0) ttOk [(24, true), (25, true), (26, true), (27, true), (28, true), (29, true), (30, true), (31, true), (32, true), (33, true), (34, true), (35, true), (36, true), (37, true)] (by kernel_rfl) rfl ?_
     refine DX.tail2 [] rfl rfl (by kernel_rfl) ?_
     refine R0 ?_
     have hP5 : spec_ValidTopology_L1 n_ n_.links 0 = (some false) := by rw [v2, drop_get e1h]; simp only [spec_ValidTopology_L1, h2, h3, h4, ct, cf]
     have hP6 : spec_ValidTopology n_ = false := by simp only [spec_ValidTopology, hP5, ct, cf]
     exact R3 hP6
    ·skip
     have h4d := B.df h4
     refine DX.takes (fuel := 11) ttOk [(24, true), (25, true), (26, true)] (by kernel_rfl) rfl ?_
     refine DX.cases 43 rfl (fun h5 => ?_) (fun h5 => ?_)
     ·skip
      have h5d := B.dt h5
      refine DX.takes (fuel := 8) ttOk [(27, true), (28, false), (29, true)] (by kernel_rfl) rfl ?_
      refine DX.seeP 30 (by kernel_rfl) rfl rfl rfl rfl (looksP_arith rfl rfl rfl rfl (by unfold I64; first | omega | (simp only [List.length_take] at *; omega))) ?_
      refine DX.slot 47 (y := .v (.int .i64 (((((i : Nat) : Int) - 1).toNat : Nat) : Int))) rfl (fun _ => congrArg (Value.int .i64) (show ((i : Nat) : Int) - 1 = (((((i : Nat) : Int) - 1).toNat : Nat) : Int) from by omega)) ?_
      have e2i : (((i : Nat) : Int) - 1).toNat < (n_.links).length := (by first | assumption | omega)
      obtain ⟨e2, e2h⟩ : ∃ e2, (n_.links)[(((i : Nat) : Int) - 1).toNat]? = some e2 := ⟨_, List.getElem?_eq_getElem e2i⟩
      have ok2 : GoT.ok n e2 := (okl (ok_Topology hokn_).2).2 _ (List.mem_of_getElem? e2h)
      refine DX.idx 31 0 ((((i : Nat) : Int) - 1).toNat) ttOk hΓ0 (by kernel_rfl) rfl rfl rfl rfl rfl rfl rfl rfl rfl rfl rfl e2i ?_
      rintro ad2 ⟨⟩
      refine DX.ldE 32 0 1 e2 ttOk hΓ0 (by kernel_rfl) rfl rfl rfl rfl rfl rfl rfl rfl e2h (fun _ => rfl) (fun _ => rfl) ?_
      rintro ⟨⟨⟩, ⟨⟩⟩
      refine DX.takes (fuel := 4) ttOk [(33, false)] (by kernel_rfl) rfl ?_
      refine DX.callV 34 rfl (by kernel_rfl) rfl rfl rfl rfl rfl rfl (fun _ => rfl) rfl (fun w G bs hI hΓ => f265 w n (by omega) e2 e1 ok2 ok1) ?_
      intro hq3
      refine DX.takes (fuel := 0) ttOk [(35, true), (36, true), (37, true)] (by kernel_rfl) rfl ?_
      refine DX.tail2 [] rfl rfl (by kernel_rfl) ?_
      refine R0 ?_
      refine WX.cases 54 rfl (fun h6 => ?_) (fun h6 => ?_)
      ·skip
       have h6d := (B.nt h6)
       refine R0 ?_
       have hP7 : spec_ValidTopology_L1 n_ n_.links 0 = (some false) := by rw [v2, drop_get e1h]; simp only [spec_ValidTopology_L1, h2, h3, h4, h5, e2h, h6, ct, cf]
       have hP8 : spec_ValidTopology n_ = false := by simp only [spec_ValidTopology, hP7, ct, cf]
       exact R3 hP8
      ·skip
       have h6d := (B.nf h6)
       refine R0 ?_
       refine WX.see rfl rfl rfl (fun _ hΓ => looks_arith rfl rfl rfl rfl (by unfold I64; first | omega | (simp only [List.length_take] at *; omega))) ?_
       refine R0 ?_
       exact WX.iter (i + 1) ⟨(by omega), (by rw [v2, drop_get e1h]; simp only [spec_ValidTopology_L1, h2, h3, h4, h5, e2h, h6, ct, cf])⟩ (by first | (dsimp only; omega) | omega) (.cons rfl (.cons rfl (.nil))) (.cons rfl (.nil)) .nil [0] rfl
     ·skip
      have h5d := B.df h5
      refine DX.takes (fuel := 0) ttOk [(27, true), (28, true), (29, true), (30, true), (31, true), (32, true), (33, true), (34, true), (35, true), (36, true), (37, true)] (by kernel_rfl) rfl ?_
      refine DX.tail2 [] rfl rfl (by kernel_rfl) ?_
      refine R0 ?_
      refine WX.see rfl rfl rfl (fun _ hΓ => looks_arith rfl rfl rfl rfl (by unfold I64; first | omega | (simp only [List.length_take] at *; omega))) ?_
      refine R0 ?_
      exact WX.iter (i + 1) ⟨(by omega), (by rw [v2, drop_get e1h]; simp only [spec_ValidTopology_L1, h2, h3, h4, h5, ct, cf])⟩ (by first | (dsimp only; omega) | omega) (.cons rfl (.cons rfl (.nil))) (.cons rfl (.nil)) .nil [0] rfl
 ·skip
  have h1d := B.df h1
  refine R0 ?_
  have hX1 : spec_ValidTopology_L1 n_ n_.links 0 = none := by rw [v2, List.drop_eq_nil_of_le (show (n_.links).length ≤ i by omega)]; simp only [spec_ValidTopology_L1, ct, cf]
  refine WX.callV rfl rfl rfl rfl rfl (fun _ => rfl) rfl (fun w G bs hI hΓ => f142 w n (by omega) n_.size 1 6 ((ok_Topology hokn_).1) (show I64 1 from (by unfold I64; omega)) (show I64 6 from (by unfold I64; omega))) ?_
  intro hq4
  refine R0 ?_
  have hP9 : spec_ValidTopology n_ = (spec_l1In n_.size 1 6) := by simp only [spec_ValidTopology, hX1, ct, cf]
  exact R3 hP9
theorem f285 (w : World) (n : Nat) (hn : n + 0 ≤ 9) (e_ : TableEntry) (K0 : Option Addr) (M0 : Nat) (N0 : RdSl (hp w) K0 M0 e_.name.parts) (size : Int) (bsize : Addr) (hsize : RdSl (hp w) (some bsize) 1 [size]) (hoke_ : GoT.ok n e_) (hoksize : GoT.ok n size) :
  Does Tryz.prog 285 #[.agg #[.slice K0 ((e_.name.parts).length) M0, .int .i64 (e_.value)], .pointer (some bsize)] w emp (fun (rv : Value) (_ : World) => rv = .bool (impl_areProducers_c1 size e_) ∧ True) := by
 have hbP := bd_pos n
 have hbB := bd_big (n := n) (by omega)
 refine WX.enter (tt := tt) (Γ := [(0, MF.rs .stb K0 M0 e_.name.parts), (1, MF.rs .stb (some bsize) 1 ([size]))]) Tryz.func285 rfl (by kernel_rfl) rfl (allS_cons rfl N0 (allS_cons rfl hsize allS_nil)) ?_
 have sizeh : ([size] : List Int)[0]? = some size := rfl
 refine WX.slot 1 (y := .e (some bsize) 0 1 0) rfl (fun _ => cap_eq) ?_
 refine R0 ?_
 refine WX.ldE 1 2 size ttOk rfl rfl rfl rfl rfl rfl rfl rfl sizeh (fun _ => rfl) (fun _ => rfl) ?_
 rintro ⟨⟩
 refine WX.see rfl rfl rfl (fun _ hΓ => looks_wrap rfl rfl rfl rfl) ?_
 refine WX.callV rfl rfl rfl rfl rfl (fun _ => rfl) rfl (fun w G bs hI hΓ => f138 w n (by omega) e_.value 0 (IntKind.i64.wrap (size - 1)) ((ok_TableEntry hoke_).2) (show I64 0 from (by unfold I64; omega)) (i64_wrap _)) ?_
 intro hq1
 refine R0 ?_
 have hP1 : impl_areProducers_c1 size e_ = (!(impl_InRange e_.value 0 (IntKind.i64.wrap (size - 1)))) := by simp only [impl_areProducers_c1, ct, cf]
 exact R3 hP1
theorem f197 (w : World) (n : Nat) (hn : n + 0 ≤ 9) (h_ : (List TableEntry)) (K0 : Option Addr) (M0 : Nat) (N0 : RdSl (hp w) K0 M0 h_) (size : Int) (hokh_ : GoT.ok n h_) (hoksize : GoT.ok n size) :
  Does Tryz.prog 197 #[.slice K0 ((h_).length) M0, .int .i64 (size)] w emp (fun (rv : Value) (_ : World) => rv = .bool (impl_areProducers h_ size) ∧ True) := by
 have hbP := bd_pos n
 have hbB := bd_big (n := n) (by omega)
 refine WX.enter (tt := tt) (Γ := [(0, MF.rs .stb K0 M0 h_)]) Tryz.func197 rfl (by kernel_rfl) rfl (allS_cons rfl N0 allS_nil) ?_
 refine R0 ?_
 refine WX.callV rfl rfl rfl rfl rfl (fun _ => rfl) rfl (fun w G bs hI hΓ => f229 w n (by omega) h_ K0 M0 (hΓ.get 0 rfl) hokh_) ?_
 intro hq1
 refine R0 ?_
 refine WX.cases 7 rfl (fun h1 => ?_) (fun h1 => ?_)
 ·skip
  refine R0 ?_
  refine WX.callV rfl rfl rfl rfl rfl (fun _ => rfl) rfl (fun w G bs hI hΓ => f243 w n (by omega) h_ K0 M0 (hΓ.get 0 rfl) 285 [Value.pointer (some ⟨bs 3, 0, none⟩)] (fun e0_ => (impl_areProducers_c1 size e0_)) (fun w1_ hb_ e0_ x0_ hk0_ hx0_ => f285 w1_ n (by omega) e0_ x0_.1.1 x0_.1.2 (hx0_ _ List.mem_cons_self) size ⟨bs 3, 0, none⟩ ((rd_box (α := Int) (a := size) (x := ()) (hI.loc 3 _ rfl).1 All.nil).mono (kp_le hb_)) hk0_ hoksize) hokh_) ?_
  intro hq2
  refine R0 ?_
  have hP1 : impl_areProducers h_ size = (!(slices_ContainsFunc_TableEntry h_ (fun e0_ => (impl_areProducers_c1 size e0_)))) := by simp only [impl_areProducers, h1, ct, cf]
  exact R3 hP1
 ·skip
  refine R0 ?_
  have hP2 : impl_areProducers h_ size = false := by simp only [impl_areProducers, h1, ct, cf]
  exact R3 hP2
theorem f184 (w : World) (n : Nat) (hn : n + 0 ≤ 9) (h_ : (List TableEntry)) (K0 : Option Addr) (M0 : Nat) (N0 : RdSl (hp w) K0 M0 h_) (size : Int) (hokh_ : GoT.ok n h_) (hoksize : GoT.ok n size) :
  Does Tryz.prog 184 #[.slice K0 ((h_).length) M0, .int .i64 (size)] w emp (fun (rv : Value) (_ : World) => rv = .bool (spec_l32Rows h_ size) ∧ True) := by
 have hbP := bd_pos n
 have hbB := bd_big (n := n) (by omega)
 refine WX.enter (tt := tt) (Γ := [(0, MF.rs .stb K0 M0 h_)]) Tryz.func184 rfl (by kernel_rfl) rfl (allS_cons rfl N0 allS_nil) ?_
 refine R0 ?_
 have r1 : (h_).length ≤ bd n := (okl hokh_).1
 refine WX.loop (ι := Nat) ⟨fun i => (i ≤ (h_).length) ∧ (spec_l32Rows_L1 size h_ = spec_l32Rows_L1 size ((h_).drop i)), fun i => (h_).length - i, fun i => [(5, .v (.int .i64 (((i : Nat) : Int)))), (0, .v (.slice K0 ((h_).length) M0)), (1, .v (.int .i64 (size)))], fun i => [], fun i => [], fun i => [(0, MF.rs .stb K0 M0 h_)]⟩ 0 ⟨(Nat.zero_le _), rfl⟩
  (.cons rfl (.cons rfl (.cons rfl (.nil)))) .nil .nil [0] rfl ?_
 rintro i hpre
 have hpre_ : (i ≤ (h_).length) ∧ (spec_l32Rows_L1 size h_ = spec_l32Rows_L1 size ((h_).drop i)) := hpre
 clear hpre
 obtain ⟨v1, v2⟩ := hpre_
 refine R0 ?_
 refine WX.cases 9 rfl (fun h1 => ?_) (fun h1 => ?_)
 ·skip
  have h1d := B.dt h1
  have e1i : i < (h_).length := (by omega)
  obtain ⟨e1, e1h⟩ : ∃ e1, (h_)[i]? = some e1 := ⟨_, List.getElem?_eq_getElem e1i⟩
  have ok1 : GoT.ok n e1 := (okl hokh_).2 _ (List.mem_of_getElem? e1h)
  refine R0 ?_
  refine WX.idx 0 i ttOk rfl rfl rfl rfl rfl rfl rfl rfl rfl rfl e1i ?_
  rintro ad1 rfl
  refine R0 ?_
  refine WX.ldE 0 1 e1 ttOk rfl rfl rfl rfl rfl rfl rfl rfl e1h (fun _ => rfl) (fun _ => rfl) ?_
  rintro ⟨⟨p1, c1⟩, ⟨⟩⟩
  refine R0 ?_
  refine WX.see rfl rfl rfl (fun _ hΓ => looks_wrap rfl rfl rfl rfl) ?_
  refine WX.callV rfl rfl rfl rfl rfl (fun _ => rfl) rfl (fun w G bs hI hΓ => f142 w n (by omega) e1.value 0 (IntKind.i64.wrap (size - 1)) ((ok_TableEntry ok1).2) (show I64 0 from (by unfold I64; omega)) (i64_wrap _)) ?_
  intro hq1
  refine R0 ?_
  refine WX.cases 20 rfl (fun h2 => ?_) (fun h2 => ?_)
  ·skip
   have h2d := (B.nt h2)
   refine R0 ?_
   have hP1 : spec_l32Rows_L1 size h_ = (some false) := by rw [v2, drop_get e1h]; simp only [spec_l32Rows_L1, h2, ct, cf]
   have hP2 : spec_l32Rows h_ size = false := by simp only [spec_l32Rows, hP1, ct, cf]
   exact R3 hP2
  ·skip
   have h2d := (B.nf h2)
   have h2r := inR_spec (B.nf h2)
   refine R0 ?_
   refine WX.see rfl rfl rfl (fun _ hΓ => looks_arith rfl rfl rfl rfl (by unfold I64; first | omega | (simp only [List.length_take] at *; omega))) ?_
   refine R0 ?_
   exact WX.iter (i + 1) ⟨(by omega), (by rw [v2, drop_get e1h]; simp only [spec_l32Rows_L1, h2, ct, cf])⟩ (by first | (dsimp only; omega) | omega) (.cons rfl (.cons rfl (.cons rfl (.nil)))) .nil .nil [0] rfl
 ·skip
  have h1d := B.df h1
  refine R0 ?_
  have hX1 : spec_l32Rows_L1 size h_ = none := by rw [v2, List.drop_eq_nil_of_le (show (h_).length ≤ i by omega)]; simp only [spec_l32Rows_L1, ct, cf]
  refine WX.callV rfl rfl rfl rfl rfl (fun _ => rfl) rfl (fun w G bs hI hΓ => f233 w n (by omega) h_ K0 M0 (hΓ.get 0 rfl) hokh_) ?_
  intro hq2
  refine R0 ?_
  have hP3 : spec_l32Rows h_ size = (spec_ValidTable h_) := by simp only [spec_l32Rows, hX1, ct, cf]
  exact R3 hP3
theorem f347 (w : World) (n : Nat) (hn : n + 0 ≤ 9) (k : Link) (a : Int) (ba : Addr) (ha : RdSl (hp w) (some ba) 1 [a]) (b : Int) (bb : Addr) (hb : RdSl (hp w) (some bb) 1 [b]) (hokk : GoT.ok n k) (hoka : GoT.ok n a) (hokb : GoT.ok n b) :
  Does Tryz.prog 347 #[.agg #[.int .i64 (k.a), .int .i64 (k.b)], .pointer (some ba), .pointer (some bb)] w emp (fun (rv : Value) (_ : World) => rv = .bool (impl_LinkIndex_c1 a b k) ∧ True) := by
 refine WX.enter (tt := tt) (Γ := [(0, MF.rs .stb (some ba) 1 ([a])), (1, MF.rs .stb (some bb) 1 ([b]))]) Tryz.func347 rfl (by kernel_rfl) rfl (allS_cons rfl ha (allS_cons rfl hb allS_nil)) ?_
 have ah : ([a] : List Int)[0]? = some a := rfl
 refine WX.slot 1 (y := .e (some ba) 0 1 0) rfl (fun _ => cap_eq) ?_
 have bh : ([b] : List Int)[0]? = some b := rfl
 refine WX.slot 2 (y := .e (some bb) 0 1 0) rfl (fun _ => cap_eq) ?_
 refine R0 ?_
 refine WX.ldE 0 2 a ttOk rfl rfl rfl rfl rfl rfl rfl rfl ah (fun _ => rfl) (fun _ => rfl) ?_
 rintro ⟨⟩
 refine R0 ?_
 refine WX.cases 9 rfl (fun h1 => ?_) (fun h1 => ?_)
 ·skip
  have h1d := B.et h1
  refine R0 ?_
  refine WX.ldE 1 2 b ttOk rfl rfl rfl rfl rfl rfl rfl rfl bh (fun _ => rfl) (fun _ => rfl) ?_
  rintro ⟨⟩
  refine R0 ?_
  refine WX.cases 15 rfl (fun h2 => ?_) (fun h2 => ?_)
  ·skip
   have h2d := B.et h2
   refine R0 ?_
   have hP1 : impl_LinkIndex_c1 a b k = true := by simp only [impl_LinkIndex_c1, h1, h2, ct, cf]
   exact R3 hP1
  ·skip
   have h2d := B.ef h2
   refine R0 ?_
   refine WX.ldE 1 2 b ttOk rfl rfl rfl rfl rfl rfl rfl rfl bh (fun _ => rfl) (fun _ => rfl) ?_
   rintro ⟨⟩
   refine R0 ?_
   refine WX.cases 20 rfl (fun h3 => ?_) (fun h3 => ?_)
   ·skip
    have h3d := B.et h3
    refine R0 ?_
    refine WX.ldE 0 2 a ttOk rfl rfl rfl rfl rfl rfl rfl rfl ah (fun _ => rfl) (fun _ => rfl) ?_
    rintro ⟨⟩
    refine R0 ?_
    have hP2 : impl_LinkIndex_c1 a b k = (k.b == a) := by simp only [impl_LinkIndex_c1, h1, h2, h3, ct, cf]
    exact R3 hP2
   ·skip
    have h3d := B.ef h3
    refine R0 ?_
    have hP3 : impl_LinkIndex_c1 a b k = false := by simp only [impl_LinkIndex_c1, h1, h2, h3, ct, cf]
    exact R3 hP3
 ·skip
  have h1d := B.ef h1
  refine R0 ?_
  refine WX.ldE 1 2 b ttOk rfl rfl rfl rfl rfl rfl rfl rfl bh (fun _ => rfl) (fun _ => rfl) ?_
  rintro ⟨⟩
  refine R0 ?_
  refine WX.cases 20 rfl (fun h4 => ?_) (fun h4 => ?_)
  ·skip
   have h4d := B.et h4
   refine R0 ?_
   refine WX.ldE 0 2 a ttOk rfl rfl rfl rfl rfl rfl rfl rfl ah (fun _ => rfl) (fun _ => rfl) ?_
   rintro ⟨⟩
   refine R0 ?_
   have hP4 : impl_LinkIndex_c1 a b k = (k.b == a) := by simp only [impl_LinkIndex_c1, h1, h4, ct, cf]
   exact R3 hP4
  ·skip
   have h4d := B.ef h4
   refine R0 ?_
   have hP5 : impl_LinkIndex_c1 a b k = false := by simp only [impl_LinkIndex_c1, h1, h4, ct, cf]
   exact R3 hP5
theorem f346 (w : World) (n : Nat) (hn : n + 0 ≤ 9) (s : (List Link)) (ps : Option Addr) (cs : Nat) (N0 : RdSl (hp w) ps cs s) (fg : FuncId) (fc : List Value) (fq : Link → Bool) (ff : ∀ w1, Kp emp w w1 → ∀ (e0 : Link) (x0 : GoT.X Link), GoT.ok n e0 → All (hp w1) (GoT.fa .der e0 x0) → Does Tryz.prog fg ([Value.agg ⟨GoT.sh e0 x0⟩] ++ fc).toArray w1 emp (fun rv _ => rv = .bool (fq e0) ∧ True)) (hoks : GoT.ok n s) :
  Does Tryz.prog 346 #[.slice ps ((s).length) cs, .func (.func fg) #[] fc.toArray] w emp (fun (rv : Value) (_ : World) => rv = .int .i64 ((slices_IndexFunc_Link s fq)) ∧ GoT.ok n ((slices_IndexFunc_Link s fq) : Int)) := by
 have hbP := bd_pos n
 have hbB := bd_big (n := n) (by omega)
 refine WX.enter (tt := tt) (Γ := [(0, MF.rs .stb ps cs s)]) Tryz.func346 rfl (by kernel_rfl) rfl (allS_cons rfl N0 allS_nil) ?_
 refine R0 ?_
 have r1 : (s).length ≤ bd n := (okl hoks).1
 refine WX.loop (ι := Nat) ⟨fun i => (i ≤ (s).length) ∧ (slices_IndexFunc_Link_L1 fq s 0 = slices_IndexFunc_Link_L1 fq ((s).drop i) i), fun i => (s).length - i, fun i => [(8, .v (.int .i64 (((i : Nat) : Int)))), (7, .v (.int .i64 ((((s).length : Nat) : Int)))), (0, .v (.slice ps ((s).length) cs)), (1, .v (.func (.func fg) #[] fc.toArray))], fun i => [], fun i => [], fun i => [(0, MF.rs .stb ps cs s)]⟩ 0 ⟨(Nat.zero_le _), rfl⟩
  (.cons rfl (.cons rfl (.cons rfl (.cons rfl (.nil))))) .nil .nil [0] rfl ?_
 rintro i hpre
 have hpre_ : (i ≤ (s).length) ∧ (slices_IndexFunc_Link_L1 fq s 0 = slices_IndexFunc_Link_L1 fq ((s).drop i) i) := hpre
 clear hpre
 obtain ⟨v1, v2⟩ := hpre_
 refine R0 ?_
 refine WX.cases 9 rfl (fun h1 => ?_) (fun h1 => ?_)
 ·skip
  have h1d := B.dt h1
  have e1i : i < (s).length := (by omega)
  obtain ⟨e1, e1h⟩ : ∃ e1, (s)[i]? = some e1 := ⟨_, List.getElem?_eq_getElem e1i⟩
  have ok1 : GoT.ok n e1 := (okl hoks).2 _ (List.mem_of_getElem? e1h)
  refine R0 ?_
  refine WX.idx 0 i ttOk rfl rfl rfl rfl rfl rfl rfl rfl rfl rfl e1i ?_
  rintro ad1 rfl
  refine WX.ldE 0 1 e1 ttOk rfl rfl rfl rfl rfl rfl rfl rfl e1h (fun _ => rfl) (fun _ => rfl) ?_
  rintro ⟨⟨⟩, ⟨⟩⟩
  refine WX.callV rfl rfl rfl rfl rfl (fun _ => rfl) rfl (fun w G bs hI hΓ => ff w hI.keep e1 ((), ()) ok1 All.nil) ?_
  intro hq1
  refine R0 ?_
  refine WX.cases 16 rfl (fun h2 => ?_) (fun h2 => ?_)
  ·skip
   refine R0 ?_
   have hP1 : slices_IndexFunc_Link_L1 fq s 0 = (some ((i : Nat) : Int)) := by rw [v2, drop_get e1h]; simp only [slices_IndexFunc_Link_L1, h2, ct, cf]
   have hP2 : slices_IndexFunc_Link s fq = ((i : Nat) : Int) := by simp only [slices_IndexFunc_Link, hP1, ct, cf]
   refine R1 ?_
   intro w1 G bs hI hΓ
   rw [hP2]
   exact ⟨rfl, (show I64 ((i : Nat) : Int) from (by unfold I64; omega))⟩
  ·skip
   refine R0 ?_
   refine WX.see rfl rfl rfl (fun _ hΓ => looks_arith rfl rfl rfl rfl (by unfold I64; first | omega | (simp only [List.length_take] at *; omega))) ?_
   refine R0 ?_
   exact WX.iter (i + 1) ⟨(by omega), (by rw [v2, drop_get e1h]; simp only [slices_IndexFunc_Link_L1, h2, ct, cf])⟩ (by first | (dsimp only; omega) | omega) (.cons rfl (.cons rfl (.cons rfl (.cons rfl (.nil))))) .nil .nil [0] rfl
 ·skip
  have h1d := B.df h1
  refine R0 ?_
  have hX1 : slices_IndexFunc_Link_L1 fq s 0 = none := by rw [v2, List.drop_eq_nil_of_le (show (s).length ≤ i by omega)]; simp only [slices_IndexFunc_Link_L1, ct, cf]
  have hP3 : slices_IndexFunc_Link s fq = (-1) := by simp only [slices_IndexFunc_Link, hX1, ct, cf]
  refine R1 ?_
  intro w1 G bs hI hΓ
  rw [hP3]
  exact ⟨rfl, (show I64 (-1) from (by unfold I64; omega))⟩
theorem ltL_slices_IndexFunc_Link : ∀ (f : Link → Bool) (l : List Link) (i : Nat) (j : Int), slices_IndexFunc_Link_L1 f l i = some j → j < ((i + l.length : Nat) : Int)
  | f, [], i, j, h => by cases h
  | f, x :: l, i, j, h => by
    simp only [slices_IndexFunc_Link_L1] at h
    cases hx : f x
    · rw [hx, cond_false] at h
      have := ltL_slices_IndexFunc_Link f l (i + 1) j h
      simp only [List.length_cons]; omega
    · rw [hx, cond_true] at h
      cases h
      simp only [List.length_cons]; omega
theorem ltI_slices_IndexFunc_Link (l : List Link) (f : Link → Bool) : slices_IndexFunc_Link l f < ((l.length : Nat) : Int) := by
  unfold slices_IndexFunc_Link
  cases h : slices_IndexFunc_Link_L1 f l 0 with
  | none => show (-1 : Int) < _; omega
  | some j => have := ltL_slices_IndexFunc_Link f l 0 j h; show j < _; omega
theorem f286 (w : World) (n : Nat) (hn : n + 0 ≤ 9) (n_ : Topology) (K0 : Option Addr) (M0 : Nat) (N0 : RdSl (hp w) K0 M0 n_.links) (a : Int) (b : Int) (hokn_ : GoT.ok n n_) (hoka : GoT.ok n a) (hokb : GoT.ok n b) :
  Does Tryz.prog 286 #[.agg #[.int .i64 (n_.size), .slice K0 ((n_.links).length) M0], .int .i64 (a), .int .i64 (b)] w emp (fun (rv : Value) (_ : World) => rv = .int .i64 ((impl_LinkIndex n_ a b)) ∧ GoT.ok n ((impl_LinkIndex n_ a b) : Int)) := by
 have hbP := bd_pos n
 have hbB := bd_big (n := n) (by omega)
 refine WX.enter (tt := tt) (Γ := [(0, MF.rs .stb K0 M0 n_.links)]) Tryz.func286 rfl (by kernel_rfl) rfl (allS_cons rfl N0 allS_nil) ?_
 refine R0 ?_
 refine WX.callV rfl rfl rfl rfl rfl (fun _ => rfl) rfl (fun w G bs hI hΓ => f346 w n (by omega) n_.links K0 M0 (hΓ.get 0 rfl) 347 [Value.pointer (some ⟨bs 4, 0, none⟩), Value.pointer (some ⟨bs 5, 0, none⟩)] (fun e0_ => (impl_LinkIndex_c1 a b e0_)) (fun w1_ hb_ e0_ x0_ hk0_ hx0_ => f347 w1_ n (by omega) e0_ a ⟨bs 4, 0, none⟩ ((rd_box (α := Int) (a := a) (x := ()) (hI.loc 4 _ rfl).1 All.nil).mono (kp_le hb_)) b ⟨bs 5, 0, none⟩ ((rd_box (α := Int) (a := b) (x := ()) (hI.loc 5 _ rfl).1 All.nil).mono (kp_le hb_)) hk0_ hoka hokb) ((ok_Topology hokn_).2)) ?_
 intro hq1
 have q1 := ltI_slices_IndexFunc_Link n_.links (fun e0_ => (impl_LinkIndex_c1 a b e0_))
 refine R0 ?_
 have hP1 : impl_LinkIndex n_ a b = (slices_IndexFunc_Link n_.links (fun e0_ => (impl_LinkIndex_c1 a b e0_))) := by simp only [impl_LinkIndex, ct, cf]
 refine R1 ?_
 intro w1 G bs hI hΓ
 rw [hP1]
 exact ⟨rfl, hq1⟩
theorem f273 (w : World) (n : Nat) (hn : n + 0 ≤ 9) (n_ : Topology) (K0 : Option Addr) (M0 : Nat) (N0 : RdSl (hp w) K0 M0 n_.links) (a : Int) (b : Int) (hokn_ : GoT.ok n n_) (hoka : GoT.ok n a) (hokb : GoT.ok n b) :
  Does Tryz.prog 273 #[.agg #[.int .i64 (n_.size), .slice K0 ((n_.links).length) M0], .int .i64 (a), .int .i64 (b)] w emp (fun (rv : Value) (_ : World) => rv = .int .i64 ((spec_LinkIndex n_ a b)) ∧ GoT.ok n ((spec_LinkIndex n_ a b) : Int)) := by
 have hbP := bd_pos n
 have hbB := bd_big (n := n) (by omega)
 refine WX.enter (tt := tt) (Γ := [(0, MF.rs .stb K0 M0 n_.links)]) Tryz.func273 rfl (by kernel_rfl) rfl (allS_cons rfl N0 allS_nil) ?_
 refine R0 ?_
 have r1 : (n_.links).length ≤ bd n := (okl (ok_Topology hokn_).2).1
 refine WX.loop (ι := Nat) ⟨fun i => (i ≤ (n_.links).length) ∧ (spec_LinkIndex_L1 a b n_.links 0 = spec_LinkIndex_L1 a b ((n_.links).drop i) i), fun i => (n_.links).length - i, fun i => [(7, .v (.int .i64 (((i : Nat) : Int)))), (3, .p 3 0), (1, .v (.int .i64 (a))), (2, .v (.int .i64 (b)))], fun i => [(3, ⟨134, [.int .i64 (n_.size), .slice K0 ((n_.links).length) M0]⟩)], fun i => [], fun i => [(0, MF.rs .stb K0 M0 n_.links)]⟩ 0 ⟨(Nat.zero_le _), rfl⟩
  (.cons rfl (.cons rfl (.cons rfl (.cons rfl (.nil))))) (.cons rfl (.nil)) .nil [0] rfl ?_
 rintro i hpre
 have hpre_ : (i ≤ (n_.links).length) ∧ (spec_LinkIndex_L1 a b n_.links 0 = spec_LinkIndex_L1 a b ((n_.links).drop i) i) := hpre
 clear hpre
 obtain ⟨v1, v2⟩ := hpre_
 refine R0 ?_
 refine WX.cases 12 rfl (fun h1 => ?_) (fun h1 => ?_)
 ·skip
  have h1d := B.dt h1
  have e1i : i < (n_.links).length := (by omega)
  obtain ⟨e1, e1h⟩ : ∃ e1, (n_.links)[i]? = some e1 := ⟨_, List.getElem?_eq_getElem e1i⟩
  have ok1 : GoT.ok n e1 := (okl (ok_Topology hokn_).2).2 _ (List.mem_of_getElem? e1h)
  refine R0 ?_
  refine WX.idx 0 i ttOk rfl rfl rfl rfl rfl rfl rfl rfl rfl rfl e1i ?_
  rintro ad1 rfl
  refine R0 ?_
  refine WX.ldE 0 1 e1 ttOk rfl rfl rfl rfl rfl rfl rfl rfl e1h (fun _ => rfl) (fun _ => rfl) ?_
  rintro ⟨⟨⟩, ⟨⟩⟩
  refine R0 ?_
  refine WX.cases 23 rfl (fun h2 => ?_) (fun h2 => ?_)
  ·skip
   have h2d := B.et h2
   refine R0 ?_
   refine WX.idx 0 i ttOk rfl rfl rfl rfl rfl rfl rfl rfl rfl rfl e1i ?_
   rintro ad2 ⟨⟩
   refine R0 ?_
   refine WX.ldE 0 1 e1 ttOk rfl rfl rfl rfl rfl rfl rfl rfl e1h (fun _ => rfl) (fun _ => rfl) ?_
   rintro ⟨⟨⟩, ⟨⟩⟩
   refine R0 ?_
   refine WX.cases 33 rfl (fun h3 => ?_) (fun h3 => ?_)
   ·skip
    have h3d := B.et h3
    refine R0 ?_
    have hP1 : spec_LinkIndex_L1 a b n_.links 0 = (some ((i : Nat) : Int)) := by rw [v2, drop_get e1h]; simp only [spec_LinkIndex_L1, h2, h3, ct, cf]
    have hP2 : spec_LinkIndex n_ a b = ((i : Nat) : Int) := by simp only [spec_LinkIndex, hP1, ct, cf]
    refine R1 ?_
    intro w1 G bs hI hΓ
    rw [hP2]
    exact ⟨rfl, (show I64 ((i : Nat) : Int) from (by unfold I64; omega))⟩
   ·skip
    have h3d := B.ef h3
    refine R0 ?_
    refine WX.idx 0 i ttOk rfl rfl rfl rfl rfl rfl rfl rfl rfl rfl e1i ?_
    rintro ad3 ⟨⟩
    refine R0 ?_
    refine WX.ldE 0 1 e1 ttOk rfl rfl rfl rfl rfl rfl rfl rfl e1h (fun _ => rfl) (fun _ => rfl) ?_
    rintro ⟨⟨⟩, ⟨⟩⟩
    refine R0 ?_
    refine WX.cases 42 rfl (fun h4 => ?_) (fun h4 => ?_)
    ·skip
     have h4d := B.et h4
     refine R0 ?_
     refine WX.idx 0 i ttOk rfl rfl rfl rfl rfl rfl rfl rfl rfl rfl e1i ?_
     rintro ad4 ⟨⟩
     refine R0 ?_
     refine WX.ldE 0 1 e1 ttOk rfl rfl rfl rfl rfl rfl rfl rfl e1h (fun _ => rfl) (fun _ => rfl) ?_
     rintro ⟨⟨⟩, ⟨⟩⟩
     refine R0 ?_
     refine WX.cases 52 rfl (fun h5 => ?_) (fun h5 => ?_)
     ·skip
      have h5d := B.et h5
      refine R0 ?_
      have hP3 : spec_LinkIndex_L1 a b n_.links 0 = (some ((i : Nat) : Int)) := by rw [v2, drop_get e1h]; simp only [spec_LinkIndex_L1, h2, h3, h4, h5, ct, cf]
      have hP4 : spec_LinkIndex n_ a b = ((i : Nat) : Int) := by simp only [spec_LinkIndex, hP3, ct, cf]
      refine R1 ?_
      intro w1 G bs hI hΓ
      rw [hP4]
      exact ⟨rfl, (show I64 ((i : Nat) : Int) from (by unfold I64; omega))⟩
     ·skip
      have h5d := B.ef h5
      refine R0 ?_
      refine WX.see rfl rfl rfl (fun _ hΓ => looks_arith rfl rfl rfl rfl (by unfold I64; first | omega | (simp only [List.length_take] at *; omega))) ?_
      refine R0 ?_
      exact WX.iter (i + 1) ⟨(by omega), (by rw [v2, drop_get e1h]; simp only [spec_LinkIndex_L1, h2, h3, h4, h5, ct, cf])⟩ (by first | (dsimp only; omega) | omega) (.cons rfl (.cons rfl (.cons rfl (.cons rfl (.nil))))) (.cons rfl (.nil)) .nil [0] rfl
    ·skip
     have h4d := B.ef h4
     refine R0 ?_
     refine WX.see rfl rfl rfl (fun _ hΓ => looks_arith rfl rfl rfl rfl (by unfold I64; first | omega | (simp only [List.length_take] at *; omega))) ?_
     refine R0 ?_
     exact WX.iter (i + 1) ⟨(by omega), (by rw [v2, drop_get e1h]; simp only [spec_LinkIndex_L1, h2, h3, h4, ct, cf])⟩ (by first | (dsimp only; omega) | omega) (.cons rfl (.cons rfl (.cons rfl (.cons rfl (.nil))))) (.cons rfl (.nil)) .nil [0] rfl
  ·skip
   have h2d := B.ef h2
   refine R0 ?_
   refine WX.idx 0 i ttOk rfl rfl rfl rfl rfl rfl rfl rfl rfl rfl e1i ?_
   rintro ad5 ⟨⟩
   refine R0 ?_
   refine WX.ldE 0 1 e1 ttOk rfl rfl rfl rfl rfl rfl rfl rfl e1h (fun _ => rfl) (fun _ => rfl) ?_
   rintro ⟨⟨⟩, ⟨⟩⟩
   refine R0 ?_
   refine WX.cases 42 rfl (fun h6 => ?_) (fun h6 => ?_)
   ·skip
    have h6d := B.et h6
    refine R0 ?_
    refine WX.idx 0 i ttOk rfl rfl rfl rfl rfl rfl rfl rfl rfl rfl e1i ?_
    rintro ad6 ⟨⟩
    refine R0 ?_
    refine WX.ldE 0 1 e1 ttOk rfl rfl rfl rfl rfl rfl rfl rfl e1h (fun _ => rfl) (fun _ => rfl) ?_
    rintro ⟨⟨⟩, ⟨⟩⟩
    refine R0 ?_
    refine WX.cases 52 rfl (fun h7 => ?_) (fun h7 => ?_)
    ·skip
     have h7d := B.et h7
     refine R0 ?_
     have hP5 : spec_LinkIndex_L1 a b n_.links 0 = (some ((i : Nat) : Int)) := by rw [v2, drop_get e1h]; simp only [spec_LinkIndex_L1, h2, h6, h7, ct, cf]
     have hP6 : spec_LinkIndex n_ a b = ((i : Nat) : Int) := by simp only [spec_LinkIndex, hP5, ct, cf]
     refine R1 ?_
     intro w1 G bs hI hΓ
     rw [hP6]
     exact ⟨rfl, (show I64 ((i : Nat) : Int) from (by unfold I64; omega))⟩
    ·skip
     have h7d := B.ef h7
     refine R0 ?_
     refine WX.see rfl rfl rfl (fun _ hΓ => looks_arith rfl rfl rfl rfl (by unfold I64; first | omega | (simp only [List.length_take] at *; omega))) ?_
     refine R0 ?_
     exact WX.iter (i + 1) ⟨(by omega), (by rw [v2, drop_get e1h]; simp only [spec_LinkIndex_L1, h2, h6, h7, ct, cf])⟩ (by first | (dsimp only; omega) | omega) (.cons rfl (.cons rfl (.cons rfl (.cons rfl (.nil))))) (.cons rfl (.nil)) .nil [0] rfl
   ·skip
    have h6d := B.ef h6
    refine R0 ?_
    refine WX.see rfl rfl rfl (fun _ hΓ => looks_arith rfl rfl rfl rfl (by unfold I64; first | omega | (simp only [List.length_take] at *; omega))) ?_
    refine R0 ?_
    exact WX.iter (i + 1) ⟨(by omega), (by rw [v2, drop_get e1h]; simp only [spec_LinkIndex_L1, h2, h6, ct, cf])⟩ (by first | (dsimp only; omega) | omega) (.cons rfl (.cons rfl (.cons rfl (.cons rfl (.nil))))) (.cons rfl (.nil)) .nil [0] rfl
 ·skip
  have h1d := B.df h1
  refine R0 ?_
  have hX1 : spec_LinkIndex_L1 a b n_.links 0 = none := by rw [v2, List.drop_eq_nil_of_le (show (n_.links).length ≤ i by omega)]; simp only [spec_LinkIndex_L1, ct, cf]
  have hP7 : spec_LinkIndex n_ a b = (-1) := by simp only [spec_LinkIndex, hX1, ct, cf]
  refine R1 ?_
  intro w1 G bs hI hΓ
  rw [hP7]
  exact ⟨rfl, (show I64 (-1) from (by unfold I64; omega))⟩
theorem f198 (w : World) (n : Nat) (hn : n + 0 ≤ 9) (n_ : Topology) (K0 : Option Addr) (M0 : Nat) (N0 : RdSl (hp w) K0 M0 n_.links) (a : Int) (hokn_ : GoT.ok n n_) (hoka : GoT.ok n a) :
  Does Tryz.prog 198 #[.agg #[.int .i64 (n_.size), .slice K0 ((n_.links).length) M0], .int .i64 (a)] w emp (Post w emp (fun x : GoT.X ((List Int)) => (GoT.sh ((impl_NeighborsOf n_ a) : (List Int)) x).headD undef) (fun x => GoT.oa ((impl_NeighborsOf n_ a) : (List Int)) x) (GoT.ok n ((impl_NeighborsOf n_ a) : (List Int)))) := by
 have hbP := bd_pos n
 have hbB := bd_big (n := n) (by omega)
 refine WX.enter (tt := tt) (Γ := [(0, MF.rs .stb K0 M0 n_.links)]) Tryz.func198 rfl (by kernel_rfl) rfl (allS_cons rfl N0 allS_nil) ?_
 refine R0 ?_
 refine WX.bld ttOk rfl rfl rfl rfl rfl rfl rfl ?_
 intro p1
 refine R0 ?_
 refine WX.see rfl rfl rfl (fun _ hΓ => looks_min rfl rfl rfl) ?_
 refine WX.see rfl rfl rfl (fun _ hΓ => looks_max rfl rfl rfl) ?_
 refine R0 ?_
 refine WX.free 1 (MF.ol [] ([] : List Int)) rfl ?_
 have r1 : -9223372036854775808 ≤ n_.size ∧ n_.size ≤ 9223372036854775807 := (ok_Topology hokn_).1
 refine WX.loop (ι := (Option Addr) × Nat × (List Value) × (List Int) × Nat) ⟨fun | (pout, cout, xsout, out, i) => (i ≤ (max 0 (min n_.size 6)).toNat) ∧ (∀ z_ ∈ out, GoT.ok n z_) ∧ (out.length ≤ i) ∧ (impl_NeighborsOf_L1 n_ a ((max 0 (min n_.size 6)).toNat) 0 ([] : List Int) = impl_NeighborsOf_L1 n_ a ((max 0 (min n_.size 6)).toNat - i) i out), fun | (pout, cout, xsout, out, i) => (max 0 (min n_.size 6)).toNat - i, fun | (pout, cout, xsout, out, i) => [(5, .v (.slice pout ((out).length) cout)), (12, .v (.int .i64 (((i : Nat) : Int)))), (11, .v (.int .i64 (max 0 (min n_.size 6)))), (2, .p 2 0), (1, .v (.int .i64 (a)))], fun | (pout, cout, xsout, out, i) => [(2, ⟨134, [.int .i64 (n_.size), .slice K0 ((n_.links).length) M0]⟩)], fun | (pout, cout, xsout, out, i) => [(7, ⟨1, pout, (out).length, cout, xsout⟩)], fun | (pout, cout, xsout, out, i) => [(0, MF.rs .stb K0 M0 n_.links), (1, MF.ol xsout (out : List Int))]⟩ (p1, 0, [], ([] : List Int), 0) ⟨(Nat.zero_le _), (fun a ha => by cases ha), (by simp), rfl⟩
  (.cons rfl (.cons rfl (.cons rfl (.cons rfl (.cons rfl (.nil)))))) (.cons rfl (.nil)) (.cons rfl (.nil)) [0, 1] rfl ?_
 rintro ⟨pout, cout, xsout, out, i⟩ hpre
 have hpre_ : (i ≤ (max 0 (min n_.size 6)).toNat) ∧ (∀ z_ ∈ out, GoT.ok n z_) ∧ (out.length ≤ i) ∧ (impl_NeighborsOf_L1 n_ a ((max 0 (min n_.size 6)).toNat) 0 ([] : List Int) = impl_NeighborsOf_L1 n_ a ((max 0 (min n_.size 6)).toNat - i) i out) := hpre
 clear hpre
 obtain ⟨v1, v2, v3, v4⟩ := hpre_
 refine R0 ?_
 refine WX.cases 13 rfl (fun h1 => ?_) (fun h1 => ?_)
 ·skip
  have h1d := B.dt h1
  refine R0 ?_
  refine WX.callV rfl rfl rfl rfl rfl (fun _ => rfl) rfl (fun w G bs hI hΓ => f286 w n (by omega) n_ K0 M0 (hΓ.get 0 rfl) a ((i : Nat) : Int) hokn_ hoka (show I64 ((i : Nat) : Int) from (by unfold I64; omega))) ?_
  intro hq1
  refine R0 ?_
  refine WX.cases 19 rfl (fun h2 => ?_) (fun h2 => ?_)
  ·skip
   have h2d := B.dt h2
   refine R0 ?_
   refine WX.bld ttOk rfl rfl rfl rfl rfl rfl rfl ?_
   intro p2
   refine WX.turn [] 2 rfl (fun h hs => ol_one (α := Int) (a := ((i : Nat) : Int)) (x := ()) hs) (gs := [MF.ol [.int .i64 (((i : Nat) : Int))] ([((i : Nat) : Int)] : List Int)]) rfl ?_
   refine WX.know (fun G hΓ => (hΓ.get 2 rfl : OwL _ _ _).rd.one) ?_
   intro ho1
   refine WX.appR1 7 22 ((out ++ [((i : Nat) : Int)]) : List Int).length ttOk rfl rfl rfl rfl rfl rfl rfl rfl rfl rfl rfl rfl rfl ho1 (by simp) (by simp; omega) (by simp; omega) (fun _ _ => rfl) ?_
   intro p3 c1
   refine WX.turn [1, 2] 3 rfl (fun h hs => ol_app hs) (gs := [MF.ol (xsout ++ [.int .i64 (((i : Nat) : Int))]) ((out ++ [((i : Nat) : Int)]) : List Int)]) rfl ?_
   refine R0 ?_
   refine WX.see rfl rfl rfl (fun _ hΓ => looks_arith rfl rfl rfl rfl (by unfold I64; first | omega | (simp only [List.length_take] at *; omega))) ?_
   refine R0 ?_
   refine WX.turn [3] 1 rfl (fun _ h => h) rfl ?_
   exact WX.iter (p3, c1, (xsout ++ [.int .i64 (((i : Nat) : Int))]), ((out ++ [((i : Nat) : Int)]) : List Int), i + 1) ⟨(by omega), (all_app v2 (all_cons (α := Int) (show I64 ((i : Nat) : Int) from (by unfold I64; omega)) (fun a ha => by cases ha))), (by first | assumption | omega | (simp; omega)), (by rw [v4, show (max 0 (min n_.size 6)).toNat - i = ((max 0 (min n_.size 6)).toNat - (i + 1)) + 1 by omega]; simp only [impl_NeighborsOf_L1, h2, ct, cf])⟩ (by first | (dsimp only; omega) | omega) (.cons rfl (.cons rfl (.cons rfl (.cons rfl (.cons rfl (.nil)))))) (.cons rfl (.nil)) (.cons rfl (.nil)) [0, 1] rfl
  ·skip
   have h2d := B.df h2
   refine R0 ?_
   refine WX.see rfl rfl rfl (fun _ hΓ => looks_arith rfl rfl rfl rfl (by unfold I64; first | omega | (simp only [List.length_take] at *; omega))) ?_
   refine R0 ?_
   exact WX.iter (pout, cout, xsout, (out : List Int), i + 1) ⟨(by omega), v2, (by first | assumption | omega | (simp; omega)), (by rw [v4, show (max 0 (min n_.size 6)).toNat - i = ((max 0 (min n_.size 6)).toNat - (i + 1)) + 1 by omega]; simp only [impl_NeighborsOf_L1, h2, ct, cf])⟩ (by first | (dsimp only; omega) | omega) (.cons rfl (.cons rfl (.cons rfl (.cons rfl (.cons rfl (.nil)))))) (.cons rfl (.nil)) (.cons rfl (.nil)) [0, 1] rfl
 ·skip
  have h1d := B.df h1
  refine R0 ?_
  have hX1 : impl_NeighborsOf_L1 n_ a ((max 0 (min n_.size 6)).toNat) 0 ([] : List Int) = ((out) : List Int) := by rw [v4, show (max 0 (min n_.size 6)).toNat - i = 0 by omega]; simp only [impl_NeighborsOf_L1, ct, cf]
  refine WX.seal 7 1 4 rfl rfl rfl rfl rfl ?_
  have hP1 : impl_NeighborsOf n_ a = out := by simp only [impl_NeighborsOf, hX1, ct, cf]
  refine R1 ?_
  intro w1 G bs hI hΓ
  rw [hP1]
  exact Post.of [5] (pout, cout) hI hΓ rfl rfl rfl (okl_mk (by omega) v2 : GoT.ok n (out : List Int))
theorem f187 (w : World) (n : Nat) (hn : n + 0 ≤ 9) (n_ : Topology) (K0 : Option Addr) (M0 : Nat) (N0 : RdSl (hp w) K0 M0 n_.links) (a : Int) (hokn_ : GoT.ok n n_) (hoka : GoT.ok n a) :
  Does Tryz.prog 187 #[.agg #[.int .i64 (n_.size), .slice K0 ((n_.links).length) M0], .int .i64 (a)] w emp (Post w emp (fun x : GoT.X ((List Int)) => (GoT.sh ((spec_NeighborsOf n_ a) : (List Int)) x).headD undef) (fun x => GoT.oa ((spec_NeighborsOf n_ a) : (List Int)) x) (GoT.ok n ((spec_NeighborsOf n_ a) : (List Int)))) := by
 have hbP := bd_pos n
 have hbB := bd_big (n := n) (by omega)
 refine WX.enter (tt := tt) (Γ := [(0, MF.rs .stb K0 M0 n_.links)]) Tryz.func187 rfl (by kernel_rfl) rfl (allS_cons rfl N0 allS_nil) ?_
 refine R0 ?_
 refine WX.bld ttOk rfl rfl rfl rfl rfl rfl rfl ?_
 intro p1
 refine R0 ?_
 refine WX.free 1 (MF.ol [] ([] : List Int)) rfl ?_
 have r1 : -9223372036854775808 ≤ n_.size ∧ n_.size ≤ 9223372036854775807 := (ok_Topology hokn_).1
 refine WX.loop (ι := (Option Addr) × Nat × (List Value) × (List Int) × Nat) ⟨fun | (pout, cout, xsout, out, i) => (i ≤ (n_.size).toNat) ∧ (∀ z_ ∈ out, GoT.ok n z_) ∧ (out.length ≤ i) ∧ (out.length ≤ 6) ∧ (spec_NeighborsOf_L1 n_ a ((n_.size).toNat) 0 ([] : List Int) = spec_NeighborsOf_L1 n_ a ((n_.size).toNat - i) i out), fun | (pout, cout, xsout, out, i) => (n_.size).toNat - i, fun | (pout, cout, xsout, out, i) => [(5, .v (.slice pout ((out).length) cout)), (6, .v (.int .i64 (((i : Nat) : Int)))), (2, .p 2 0), (1, .v (.int .i64 (a)))], fun | (pout, cout, xsout, out, i) => [(2, ⟨134, [.int .i64 (n_.size), .slice K0 ((n_.links).length) M0]⟩)], fun | (pout, cout, xsout, out, i) => [(7, ⟨1, pout, (out).length, cout, xsout⟩)], fun | (pout, cout, xsout, out, i) => [(0, MF.rs .stb K0 M0 n_.links), (1, MF.ol xsout (out : List Int))]⟩ (p1, 0, [], ([] : List Int), 0) ⟨(Nat.zero_le _), (fun a ha => by cases ha), (by simp), (by simp), rfl⟩
  (.cons rfl (.cons rfl (.cons rfl (.cons rfl (.nil))))) (.cons rfl (.nil)) (.cons rfl (.nil)) [0, 1] rfl ?_
 rintro ⟨pout, cout, xsout, out, i⟩ hpre
 have hpre_ : (i ≤ (n_.size).toNat) ∧ (∀ z_ ∈ out, GoT.ok n z_) ∧ (out.length ≤ i) ∧ (out.length ≤ 6) ∧ (spec_NeighborsOf_L1 n_ a ((n_.size).toNat) 0 ([] : List Int) = spec_NeighborsOf_L1 n_ a ((n_.size).toNat - i) i out) := hpre
 clear hpre
 obtain ⟨v1, v2, v3, v4, v5⟩ := hpre_
 refine R0 ?_
 refine WX.cases 12 rfl (fun h1 => ?_) (fun h1 => ?_)
 ·skip
  have h1d := B.dt h1
  refine R0 ?_
  refine WX.cases 15 rfl (fun h2 => ?_) (fun h2 => ?_)
  ·skip
   have h2d := B.dt h2
   refine R0 ?_
   refine WX.callV rfl rfl rfl rfl rfl (fun _ => rfl) rfl (fun w G bs hI hΓ => f273 w n (by omega) n_ K0 M0 (hΓ.get 0 rfl) a ((i : Nat) : Int) hokn_ hoka (show I64 ((i : Nat) : Int) from (by unfold I64; omega))) ?_
   intro hq1
   refine R0 ?_
   refine WX.cases 22 rfl (fun h3 => ?_) (fun h3 => ?_)
   ·skip
    have h3d := B.dt h3
    refine R0 ?_
    refine WX.bld ttOk rfl rfl rfl rfl rfl rfl rfl ?_
    intro p2
    refine WX.turn [] 2 rfl (fun h hs => ol_one (α := Int) (a := ((i : Nat) : Int)) (x := ()) hs) (gs := [MF.ol [.int .i64 (((i : Nat) : Int))] ([((i : Nat) : Int)] : List Int)]) rfl ?_
    refine WX.know (fun G hΓ => (hΓ.get 2 rfl : OwL _ _ _).rd.one) ?_
    intro ho1
    refine WX.appR1 7 25 ((out ++ [((i : Nat) : Int)]) : List Int).length ttOk rfl rfl rfl rfl rfl rfl rfl rfl rfl rfl rfl rfl rfl ho1 (by simp) (by simp; omega) (by simp; omega) (fun _ _ => rfl) ?_
    intro p3 c1
    refine WX.turn [1, 2] 3 rfl (fun h hs => ol_app hs) (gs := [MF.ol (xsout ++ [.int .i64 (((i : Nat) : Int))]) ((out ++ [((i : Nat) : Int)]) : List Int)]) rfl ?_
    refine R0 ?_
    refine WX.see rfl rfl rfl (fun _ hΓ => looks_arith rfl rfl rfl rfl (by unfold I64; first | omega | (simp only [List.length_take] at *; omega))) ?_
    refine R0 ?_
    refine WX.turn [3] 1 rfl (fun _ h => h) rfl ?_
    exact WX.iter (p3, c1, (xsout ++ [.int .i64 (((i : Nat) : Int))]), ((out ++ [((i : Nat) : Int)]) : List Int), i + 1) ⟨(by omega), (all_app v2 (all_cons (α := Int) (show I64 ((i : Nat) : Int) from (by unfold I64; omega)) (fun a ha => by cases ha))), (by first | assumption | omega | (simp; omega)), (by first | assumption | omega | (simp; omega)), (by rw [v5, show (n_.size).toNat - i = ((n_.size).toNat - (i + 1)) + 1 by omega]; simp only [spec_NeighborsOf_L1, h2, h3, ct, cf])⟩ (by first | (dsimp only; omega) | omega) (.cons rfl (.cons rfl (.cons rfl (.cons rfl (.nil))))) (.cons rfl (.nil)) (.cons rfl (.nil)) [0, 1] rfl
   ·skip
    have h3d := B.df h3
    refine R0 ?_
    refine WX.see rfl rfl rfl (fun _ hΓ => looks_arith rfl rfl rfl rfl (by unfold I64; first | omega | (simp only [List.length_take] at *; omega))) ?_
    refine R0 ?_
    exact WX.iter (pout, cout, xsout, (out : List Int), i + 1) ⟨(by omega), v2, (by first | assumption | omega | (simp; omega)), (by first | assumption | omega | (simp; omega)), (by rw [v5, show (n_.size).toNat - i = ((n_.size).toNat - (i + 1)) + 1 by omega]; simp only [spec_NeighborsOf_L1, h2, h3, ct, cf])⟩ (by first | (dsimp only; omega) | omega) (.cons rfl (.cons rfl (.cons rfl (.cons rfl (.nil))))) (.cons rfl (.nil)) (.cons rfl (.nil)) [0, 1] rfl
  ·skip
   have h2d := B.df h2
   refine R0 ?_
   have hX1 : spec_NeighborsOf_L1 n_ a ((n_.size).toNat) 0 ([] : List Int) = ((out) : List Int) := by rw [v5, show (n_.size).toNat - i = ((n_.size).toNat - (i + 1)) + 1 by omega]; simp only [spec_NeighborsOf_L1, h2, ct, cf]
   refine WX.seal 7 1 4 rfl rfl rfl rfl rfl ?_
   have hP1 : spec_NeighborsOf n_ a = out := by simp only [spec_NeighborsOf, hX1, ct, cf]
   refine R1 ?_
   intro w1 G bs hI hΓ
   rw [hP1]
   exact Post.of [5] (pout, cout) hI hΓ rfl rfl rfl (okl_mk (by omega) v2 : GoT.ok n (out : List Int))
 ·skip
  have h1d := B.df h1
  refine R0 ?_
  have hX2 : spec_NeighborsOf_L1 n_ a ((n_.size).toNat) 0 ([] : List Int) = ((out) : List Int) := by rw [v5, show (n_.size).toNat - i = 0 by omega]; simp only [spec_NeighborsOf_L1, ct, cf]
  refine WX.seal 7 1 6 rfl rfl rfl rfl rfl ?_
  have hP2 : spec_NeighborsOf n_ a = out := by simp only [spec_NeighborsOf, hX2, ct, cf]
  refine R1 ?_
  intro w1 G bs hI hΓ
  rw [hP2]
  exact Post.of [7] (pout, cout) hI hΓ rfl rfl rfl (okl_mk (by omega) v2 : GoT.ok n (out : List Int))
end Go.Proofs.YtdimfabadjfkiaaGreat

namespace Go.Stp
set_option linter.unusedVariables false
set_option linter.unusedSimpArgs false
def slices_IndexFunc_Data_L1 (fq : DataP → Bool) : List DataP → Nat → Option (Int)
  | [], i => none
  | e1 :: rest_, i =>
    bif fq e1 then
      (some ((i : Nat) : Int))
    else
      slices_IndexFunc_Data_L1 fq rest_ (i + 1)
def slices_IndexFunc_Data (s : (List DataP)) (fq : DataP → Bool) : Int :=
  match slices_IndexFunc_Data_L1 fq s 0 with
    | some r_ => r_
    | none =>
      (-1)
end Go.Stp

namespace Go.Proofs.YtdimfabadjfkiaaGreat
open Go.Stp
set_option linter.unusedVariables false
set_option linter.unusedSimpArgs false
theorem f212 (w : World) (n : Nat) (hn : n + 0 ≤ 9) (s : (List DataP)) (ps : Option Addr) (cs : Nat) (N0 : RdSl (hp w) ps cs s) (fg : FuncId) (fc : List Value) (fq : DataP → Bool) (ff : ∀ w1, Kp emp w w1 → ∀ (e0 : DataP) (x0 : GoT.X DataP), GoT.ok n e0 → All (hp w1) (GoT.fa .der e0 x0) → Does Tryz.prog fg ([Value.agg ⟨GoT.sh e0 x0⟩] ++ fc).toArray w1 emp (fun rv _ => rv = .bool (fq e0) ∧ True)) (hoks : GoT.ok n s) :
  Does Tryz.prog 212 #[.slice ps ((s).length) cs, .func (.func fg) #[] fc.toArray] w emp (fun (rv : Value) (_ : World) => rv = .int .i64 ((slices_IndexFunc_Data s fq)) ∧ GoT.ok n ((slices_IndexFunc_Data s fq) : Int)) := by
 have hbP := bd_pos n
 have hbB := bd_big (n := n) (by omega)
 refine WX.enter (tt := tt) (Γ := [(0, MF.rs .stb ps cs s)]) Tryz.func212 rfl (by kernel_rfl) rfl (allS_cons rfl N0 allS_nil) ?_
 refine R0 ?_
 have r1 : (s).length ≤ bd n := (okl hoks).1
 refine WX.loop (ι := Nat) ⟨fun i => (i ≤ (s).length) ∧ (slices_IndexFunc_Data_L1 fq s 0 = slices_IndexFunc_Data_L1 fq ((s).drop i) i), fun i => (s).length - i, fun i => [(8, .v (.int .i64 (((i : Nat) : Int)))), (7, .v (.int .i64 ((((s).length : Nat) : Int)))), (0, .v (.slice ps ((s).length) cs)), (1, .v (.func (.func fg) #[] fc.toArray))], fun i => [], fun i => [], fun i => [(0, MF.rs .stb ps cs s)]⟩ 0 ⟨(Nat.zero_le _), rfl⟩
  (.cons rfl (.cons rfl (.cons rfl (.cons rfl (.nil))))) .nil .nil [0] rfl ?_
 rintro i hpre
 have hpre_ : (i ≤ (s).length) ∧ (slices_IndexFunc_Data_L1 fq s 0 = slices_IndexFunc_Data_L1 fq ((s).drop i) i) := hpre
 clear hpre
 obtain ⟨v1, v2⟩ := hpre_
 refine R0 ?_
 refine WX.cases 9 rfl (fun h1 => ?_) (fun h1 => ?_)
 ·skip
  have h1d := B.dt h1
  have e1i : i < (s).length := (by omega)
  obtain ⟨e1, e1h⟩ : ∃ e1, (s)[i]? = some e1 := ⟨_, List.getElem?_eq_getElem e1i⟩
  have ok1 : GoT.ok n e1 := (okl hoks).2 _ (List.mem_of_getElem? e1h)
  refine R0 ?_
  refine WX.idx 0 i ttOk rfl rfl rfl rfl rfl rfl rfl rfl rfl rfl e1i ?_
  rintro ad1 rfl
  refine WX.ldE 0 1 e1 ttOk rfl rfl rfl rfl rfl rfl rfl rfl e1h (fun _ => rfl) (fun _ => rfl) ?_
  rintro ⟨⟨p1, c1⟩, ⟨p2, c2⟩, ⟨p3, c3⟩, ⟨⟩, ⟨⟩⟩
  refine WX.callV rfl rfl rfl rfl rfl (fun _ => rfl) rfl (fun w G bs hI hΓ => ff w hI.keep e1 ((p1, c1), (p2, c2), (p3, c3), (), ()) ok1 (All.cons (hΓ.get 1 rfl : RdSl _ _ _ _) (All.cons (hΓ.get 2 rfl : RdSl _ _ _ _) (All.cons (hΓ.get 3 rfl : RdSl _ _ _ _) All.nil)))) ?_
  intro hq1
  refine R0 ?_
  refine WX.cases 16 rfl (fun h2 => ?_) (fun h2 => ?_)
  ·skip
   refine R0 ?_
   have hP1 : slices_IndexFunc_Data_L1 fq s 0 = (some ((i : Nat) : Int)) := by rw [v2, drop_get e1h]; simp only [slices_IndexFunc_Data_L1, h2, ct, cf]
   have hP2 : slices_IndexFunc_Data s fq = ((i : Nat) : Int) := by simp only [slices_IndexFunc_Data, hP1, ct, cf]
   refine R1 ?_
   intro w1 G bs hI hΓ
   rw [hP2]
   exact ⟨rfl, (show I64 ((i : Nat) : Int) from (by unfold I64; omega))⟩
  ·skip
   refine R0 ?_
   refine WX.see rfl rfl rfl (fun _ hΓ => looks_arith rfl rfl rfl rfl (by unfold I64; first | omega | (simp only [List.length_take] at *; omega))) ?_
   refine R0 ?_
   exact WX.iter (i + 1) ⟨(by omega), (by rw [v2, drop_get e1h]; simp only [slices_IndexFunc_Data_L1, h2, ct, cf])⟩ (by first | (dsimp only; omega) | omega) (.cons rfl (.cons rfl (.cons rfl (.cons rfl (.nil))))) .nil .nil [0] rfl
 ·skip
  have h1d := B.df h1
  refine R0 ?_
  have hX1 : slices_IndexFunc_Data_L1 fq s 0 = none := by rw [v2, List.drop_eq_nil_of_le (show (s).length ≤ i by omega)]; simp only [slices_IndexFunc_Data_L1, ct, cf]
  have hP3 : slices_IndexFunc_Data s fq = (-1) := by simp only [slices_IndexFunc_Data, hX1, ct, cf]
  refine R1 ?_
  intro w1 G bs hI hΓ
  rw [hP3]
  exact ⟨rfl, (show I64 (-1) from (by unfold I64; omega))⟩
end Go.Proofs.YtdimfabadjfkiaaGreat

namespace Go.Stp
set_option linter.unusedVariables false
set_option linter.unusedSimpArgs false
def slices_Index_string_L1 (v : Str) : List Str → Nat → Option (Int)
  | [], i => none
  | e1 :: rest_, i =>
    bif ((v).toList == (e1).toList) then
      (some ((i : Nat) : Int))
    else
      slices_Index_string_L1 v rest_ (i + 1)
def slices_Index_string (s : (List Str)) (v : Str) : Int :=
  match slices_Index_string_L1 v s 0 with
    | some r_ => r_
    | none =>
      (-1)
def slices_Contains_string (s : (List Str)) (v : Str) : Bool :=
  (decide ((slices_Index_string s v) ≥ 0))
def impl_ValidSecret (secret : Int) : Bool :=
  (impl_InRange secret 1 2147483646)
def spec_ValidSecret (secret : Int) : Bool :=
  (spec_l1In secret 1 2147483646)
def impl_isVariable (s : Str) : Bool :=
  bif ((((s).size : Nat) : Int) == 2) then
    match ((s).data.toList)[0]? with
      | none => default
      | some e1 =>
        bif (((e1).toNat : Int) == 63) then
          match ((s).data.toList)[1]? with
            | none => default
            | some e2 =>
              bif decide (((e2).toNat : Int) ≥ 97) then
                (decide (((e2).toNat : Int) ≤ 122))
              else
                false
        else
          false
  else
    false
def spec_l5Letter (s : Str) : Bool :=
  bif ((((s).size : Nat) : Int) == 2) then
    match ((s).data.toList)[0]? with
      | none => default
      | some e1 =>
        bif (((e1).toNat : Int) == 63) then
          match ((s).data.toList)[1]? with
            | none => default
            | some e2 =>
              (spec_l1In ((e2).toNat : Int) 97 122)
        else
          false
  else
    false
def impl_ValidPattern_L1 (p_ : Pattern) : List Str → Nat → Option (Bool)
  | [], i => none
  | e1 :: rest_, i =>
    bif (!(impl_ValidPart e1)) then
      bif (!((e1).toList == ((⟨#[42]⟩ : Str)).toList)) then
        bif (!(impl_isVariable e1)) then
          bif (!((e1).toList == ((⟨#[42, 42]⟩ : Str)).toList)) then
            (some false)
          else
            bif (((i : Nat) : Int) != IntKind.i64.wrap ((((p_.parts).length : Nat) : Int) - 1)) then
              (some false)
            else
              impl_ValidPattern_L1 p_ rest_ (i + 1)
        else
          impl_ValidPattern_L1 p_ rest_ (i + 1)
      else
        impl_ValidPattern_L1 p_ rest_ (i + 1)
    else
      impl_ValidPattern_L1 p_ rest_ (i + 1)
def impl_ValidPattern (p_ : Pattern) : Bool :=
  match impl_ValidPattern_L1 p_ p_.parts 0 with
    | some r_ => r_
    | none =>
      (decide ((((p_.parts).length : Nat) : Int) ≤ 6))
def spec_ValidPattern_L1 (p_ : Pattern) : List Str → Nat → Option (Bool)
  | [], i => none
  | e1 :: rest_, i =>
    bif (!(spec_ValidPart e1)) then
      bif (!((e1).toList == ((⟨#[42]⟩ : Str)).toList)) then
        bif (!(spec_l5Letter e1)) then
          bif (!((e1).toList == ((⟨#[42, 42]⟩ : Str)).toList)) then
            (some false)
          else
            bif decide (((i : Nat) : Int) < IntKind.i64.wrap ((((p_.parts).length : Nat) : Int) - 1)) then
              (some false)
            else
              spec_ValidPattern_L1 p_ rest_ (i + 1)
        else
          spec_ValidPattern_L1 p_ rest_ (i + 1)
      else
        spec_ValidPattern_L1 p_ rest_ (i + 1)
    else
      spec_ValidPattern_L1 p_ rest_ (i + 1)
def spec_ValidPattern (p_ : Pattern) : Bool :=
  match spec_ValidPattern_L1 p_ p_.parts 0 with
    | some r_ => r_
    | none =>
      (decide ((((p_.parts).length : Nat) : Int) ≤ 6))
def spec_l10Has_L1 (s : Str) : List Str → Option (Bool)
  | [] => none
  | e1 :: rest_ =>
    bif ((e1).toList == (s).toList) then
      (some true)
    else
      spec_l10Has_L1 s rest_
def spec_l10Has (p_ : Pattern) (s : Str) : Bool :=
  match spec_l10Has_L1 s p_.parts with
    | some r_ => r_
    | none =>
      false
def impl_ValidRule_L1 (r : Rule) : List Str → Option (Bool)
  | [] => none
  | e1 :: rest_ =>
    bif (impl_isVariable e1) then
      bif (!(slices_Contains_string r.dataPattern.parts e1)) then
        (some false)
      else
        impl_ValidRule_L1 r rest_
    else
      impl_ValidRule_L1 r rest_
def impl_ValidRule (r : Rule) : Bool :=
  bif (!(impl_ValidPattern r.dataPattern)) then
    false
  else
    bif (!(impl_ValidPattern r.keyPattern)) then
      false
    else
      match impl_ValidRule_L1 r r.keyPattern.parts with
        | some r_ => r_
        | none =>
          true
def spec_ValidRule_L1 (r : Rule) : List Str → Option (Bool)
  | [] => none
  | e1 :: rest_ =>
    bif (spec_l5Letter e1) then
      bif (!(spec_l10Has r.dataPattern e1)) then
        (some false)
      else
        spec_ValidRule_L1 r rest_
    else
      spec_ValidRule_L1 r rest_
def spec_ValidRule (r : Rule) : Bool :=
  bif (!(spec_ValidPattern r.dataPattern)) then
    false
  else
    bif (!(spec_ValidPattern r.keyPattern)) then
      false
    else
      match spec_ValidRule_L1 r r.keyPattern.parts with
        | some r_ => r_
        | none =>
          true
def slices_IndexFunc_Key_L1 (fq : Key → Bool) : List Key → Nat → Option (Int)
  | [], i => none
  | e1 :: rest_, i =>
    bif fq e1 then
      (some ((i : Nat) : Int))
    else
      slices_IndexFunc_Key_L1 fq rest_ (i + 1)
def slices_IndexFunc_Key (s : (List Key)) (fq : Key → Bool) : Int :=
  match slices_IndexFunc_Key_L1 fq s 0 with
    | some r_ => r_
    | none =>
      (-1)
def slices_ContainsFunc_Key (s : (List Key)) (fq : Key → Bool) : Bool :=
  (decide ((slices_IndexFunc_Key s fq) ≥ 0))
def slices_IndexFunc_Rule_L1 (fq : Rule → Bool) : List Rule → Nat → Option (Int)
  | [], i => none
  | e1 :: rest_, i =>
    bif fq e1 then
      (some ((i : Nat) : Int))
    else
      slices_IndexFunc_Rule_L1 fq rest_ (i + 1)
def slices_IndexFunc_Rule (s : (List Rule)) (fq : Rule → Bool) : Int :=
  match slices_IndexFunc_Rule_L1 fq s 0 with
    | some r_ => r_
    | none =>
      (-1)
def slices_ContainsFunc_Rule (s : (List Rule)) (fq : Rule → Bool) : Bool :=
  (decide ((slices_IndexFunc_Rule s fq) ≥ 0))
def slices_ContainsFunc_Data (s : (List DataP)) (fq : DataP → Bool) : Bool :=
  (decide ((slices_IndexFunc_Data s fq) ≥ 0))
def impl_ValidRules_c1 (r : Rule) : Bool :=
  (!(impl_ValidRule r))
def impl_ValidRules (l : (List Rule)) : Bool :=
  bif decide ((((l).length : Nat) : Int) ≤ 8) then
    (!(slices_ContainsFunc_Rule l (fun e0_ => (impl_ValidRules_c1 e0_))))
  else
    false
def spec_ValidRules_L1 : List Rule → Option (Bool)
  | [] => none
  | e1 :: rest_ =>
    bif (!(spec_ValidRule e1)) then
      (some false)
    else
      spec_ValidRules_L1 rest_
def spec_ValidRules (l : (List Rule)) : Bool :=
  match spec_ValidRules_L1 l with
    | some r_ => r_
    | none =>
      (decide ((((l).length : Nat) : Int) ≤ 8))
def impl_ValidKeys_L2 (e1 : Key) : List Key → Option (Bool)
  | [] => none
  | e2 :: rest_ =>
    bif (impl_EqualNames e2.name e1.name) then
      (some false)
    else
      bif (e2.secret == e1.secret) then
        (some false)
      else
        impl_ValidKeys_L2 e1 rest_
def impl_ValidKeys_L1 (l : (List Key)) : List Key → Nat → Option (Bool)
  | [], i => none
  | e1 :: rest_, i =>
    bif (!(impl_ValidName e1.name)) then
      (some false)
    else
      bif ((((e1.name.parts).length : Nat) : Int) == 0) then
        (some false)
      else
        bif (!(impl_ValidSecret e1.secret)) then
          (some false)
        else
          match impl_ValidKeys_L2 e1 (List.take i l) with
            | some r_ => (some r_)
            | none =>
              impl_ValidKeys_L1 l rest_ (i + 1)
def impl_ValidKeys (l : (List Key)) : Bool :=
  match impl_ValidKeys_L1 l l 0 with
    | some r_ => r_
    | none =>
      (decide ((((l).length : Nat) : Int) ≤ 8))
def spec_l9Find_L1 (n_ : Name) : List Key → Nat → Option (Int)
  | [], i => none
  | e1 :: rest_, i =>
    bif (spec_EqualNames e1.name n_) then
      (some ((i : Nat) : Int))
    else
      spec_l9Find_L1 n_ rest_ (i + 1)
def spec_l9Find (l : (List Key)) (n_ : Name) : Int :=
  match spec_l9Find_L1 n_ l 0 with
    | some r_ => r_
    | none =>
      (-1)
def spec_ValidKeys_L2 (l : (List Key)) (e1 : Key) : Nat → Nat → Option (Bool)
  | 0, i2 => none
  | m_ + 1, i2 =>
    match (l)[i2]? with
      | none => default
      | some e2 =>
        bif (e2.secret == e1.secret) then
          (some false)
        else
          spec_ValidKeys_L2 l e1 m_ (i2 + 1)
def spec_ValidKeys_L1 (l : (List Key)) : List Key → Nat → Option (Bool)
  | [], i => none
  | e1 :: rest_, i =>
    bif (!(spec_ValidName e1.name)) then
      (some false)
    else
      bif ((((e1.name.parts).length : Nat) : Int) == 0) then
        (some false)
      else
        bif (!(spec_ValidSecret e1.secret)) then
          (some false)
        else
          bif decide ((spec_l9Find (List.take i l) e1.name) ≥ 0) then
            (some false)
          else
            match spec_ValidKeys_L2 l e1 i 0 with
              | some r_ => (some r_)
              | none =>
                spec_ValidKeys_L1 l rest_ (i + 1)
def spec_ValidKeys (l : (List Key)) : Bool :=
  match spec_ValidKeys_L1 l l 0 with
    | some r_ => r_
    | none =>
      (decide ((((l).length : Nat) : Int) ≤ 8))
def impl_ValidTrust_c1 (n_ : Name) (k : Key) : Bool :=
  (impl_EqualNames k.name n_)
def impl_ValidTrust_c2 (x_ : DataP) : Bool :=
  (!(impl_ValidData x_))
def impl_ValidTrust_L1 (t : TrustPolicy) : List Name → Option (Bool)
  | [] => none
  | e1 :: rest_ =>
    bif (!(slices_ContainsFunc_Key t.keys (fun e0_ => (impl_ValidTrust_c1 e1 e0_)))) then
      (some false)
    else
      impl_ValidTrust_L1 t rest_
def impl_ValidTrust (t : TrustPolicy) : Bool :=
  match impl_ValidTrust_L1 t t.anchors with
    | some r_ => r_
    | none =>
      bif (impl_ValidKeys t.keys) then
        bif (impl_ValidRules t.rules) then
          bif decide ((((t.anchors).length : Nat) : Int) ≤ 8) then
            bif decide ((((t.certificates).length : Nat) : Int) ≤ 8) then
              (!(slices_ContainsFunc_Data t.certificates (fun e0_ => (impl_ValidTrust_c2 e0_))))
            else
              false
          else
            false
        else
          false
      else
        false
def spec_ValidTrust_L2 : List DataP → Option (Bool)
  | [] => none
  | e2 :: rest_ =>
    bif (!(spec_ValidData e2)) then
      (some false)
    else
      spec_ValidTrust_L2 rest_
def spec_ValidTrust_L1 (t : TrustPolicy) : List Name → Option (Bool)
  | [] => none
  | e1 :: rest_ =>
    bif decide ((spec_l9Find t.keys e1) < 0) then
      (some false)
    else
      spec_ValidTrust_L1 t rest_
def spec_ValidTrust (t : TrustPolicy) : Bool :=
  bif (!(spec_ValidKeys t.keys)) then
    false
  else
    bif (!(spec_ValidRules t.rules)) then
      false
    else
      bif decide ((((t.anchors).length : Nat) : Int) > 8) then
        false
      else
        bif decide ((((t.certificates).length : Nat) : Int) > 8) then
          false
        else
          match spec_ValidTrust_L1 t t.anchors with
            | some r_ => r_
            | none =>
              match spec_ValidTrust_L2 t.certificates with
                | some r_ => r_
                | none =>
                  true
end Go.Stp

