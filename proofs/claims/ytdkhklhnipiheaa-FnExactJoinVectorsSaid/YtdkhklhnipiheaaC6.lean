/-
  That functions of the program compute what the Lean functions do. No condition but what each says. Written by a program (gen2.py).
-/
import Derived.Test.YtdkhklhnipiheaaC5
import Derived.Test.YtdkhklhnipiheaaP6
namespace Go.Proofs.Ytdkhklhnipiheaa
open Go.Stp
set_option linter.unusedVariables false
set_option linter.unusedSimpArgs false
theorem f128 (w : World) (n : Nat) (hn : n + 0 ≤ 9) (s : Str) (hoks : GoT.ok n s) :
    Does Try.prog 128 #[.string s] w emp (fun (rv : Value) (_ : World) => rv = .bool (impl_ValidPart s) ∧ True) := by
  have hbP := bd_pos n
  have hbB := bd_big (n := n) (by omega)
  refine WX.enter (tt := tt) (Γ := []) Try.func128 rfl (by kernel_rfl) rfl allS_nil ?_
  refine WX.run ttOk rfl ?_
  have r1 : (s).size ≤ bd n := hoks
  refine WX.loop (ι := Nat) ⟨fun i => (i ≤ ((s).data.toList).length) ∧ (impl_ValidPart_L1 ((s).data.toList) = impl_ValidPart_L1 (((s).data.toList).drop i)), fun i => ((s).data.toList).length - i, fun i => [(7, .v (.int .i64 (((i : Nat) : Int)))), (6, .v (.int .i64 ((((s).size : Nat) : Int)))), (0, .v (.string s))], fun i => [], fun i => [], fun i => []⟩ 0 ⟨(Nat.zero_le _), rfl⟩
    (.cons rfl (.cons rfl (.cons rfl (.nil)))) .nil .nil [] rfl ?_
  rintro i hpre
  have hpre_ : (i ≤ ((s).data.toList).length) ∧ (impl_ValidPart_L1 ((s).data.toList) = impl_ValidPart_L1 (((s).data.toList).drop i)) := hpre
  clear hpre
  obtain ⟨v1, v2⟩ := hpre_
  refine WX.run ttOk rfl ?_
  refine WX.cases 8 rfl (fun h1 => ?_) (fun h1 => ?_)
  · skip
    have h1d := B.dt h1
    have e1i : i < ((s).data.toList).length := (by (have hz_ : ((s).data.toList).length = (s).size := by simp); omega)
    obtain ⟨e1, e1h⟩ : ∃ e1, ((s).data.toList)[i]? = some e1 := ⟨_, List.getElem?_eq_getElem e1i⟩
    refine WX.run ttOk rfl ?_
    refine WX.see rfl rfl rfl (fun _ hΓ => looks_strIdx ttOk rfl rfl rfl rfl rfl e1h) ?_
    refine WX.run ttOk rfl ?_
    refine WX.cases 15 rfl (fun h2 => ?_) (fun h2 => ?_)
    · skip
      have h2d := B.dt h2
      refine WX.run ttOk rfl ?_
      refine WX.cases 19 rfl (fun h3 => ?_) (fun h3 => ?_)
      · skip
        have h3d := B.dt h3
        refine WX.run ttOk rfl ?_
        refine WX.see rfl rfl rfl (fun _ hΓ => looks_arith rfl rfl rfl rfl (by unfold I64; omega)) ?_
        refine WX.run ttOk rfl ?_
        exact WX.iter (i + 1) ⟨(by omega), (by rw [v2, drop_get e1h]; simp only [impl_ValidPart_L1, h2, h3, cond_true, cond_false])⟩ (by dsimp only; omega) (.cons rfl (.cons rfl (.cons rfl (.nil)))) .nil .nil [] rfl
      · skip
        have h3d := B.df h3
        refine WX.run ttOk rfl ?_
        refine WX.cases 22 rfl (fun h4 => ?_) (fun h4 => ?_)
        · skip
          have h4d := B.dt h4
          refine WX.run ttOk rfl ?_
          refine WX.cases 27 rfl (fun h5 => ?_) (fun h5 => ?_)
          · skip
            have h5d := B.dt h5
            refine WX.run ttOk rfl ?_
            refine WX.see rfl rfl rfl (fun _ hΓ => looks_arith rfl rfl rfl rfl (by unfold I64; omega)) ?_
            refine WX.run ttOk rfl ?_
            exact WX.iter (i + 1) ⟨(by omega), (by rw [v2, drop_get e1h]; simp only [impl_ValidPart_L1, h2, h3, h4, h5, cond_true, cond_false])⟩ (by dsimp only; omega) (.cons rfl (.cons rfl (.cons rfl (.nil)))) .nil .nil [] rfl
          · skip
            have h5d := B.df h5
            refine WX.run ttOk rfl ?_
            refine WX.cases 31 rfl (fun h6 => ?_) (fun h6 => ?_)
            · skip
              have h6d := B.ef (B.nt h6)
              refine WX.run ttOk rfl ?_
              have hP1 : impl_ValidPart_L1 ((s).data.toList) = (some false) := by rw [v2, drop_get e1h]; simp only [impl_ValidPart_L1, h2, h3, h4, h5, h6, cond_true, cond_false]
              have hP2 : impl_ValidPart s = false := by simp only [impl_ValidPart, hP1, cond_true, cond_false]
              refine WX.ret ttOk rfl ?_
              intro w1 G bs hI hΓ
              rw [hP2]
              exact ⟨rfl, trivial⟩
            · skip
              have h6d := B.et (B.nf h6)
              refine WX.run ttOk rfl ?_
              refine WX.see rfl rfl rfl (fun _ hΓ => looks_arith rfl rfl rfl rfl (by unfold I64; omega)) ?_
              refine WX.run ttOk rfl ?_
              exact WX.iter (i + 1) ⟨(by omega), (by rw [v2, drop_get e1h]; simp only [impl_ValidPart_L1, h2, h3, h4, h5, h6, cond_true, cond_false])⟩ (by dsimp only; omega) (.cons rfl (.cons rfl (.cons rfl (.nil)))) .nil .nil [] rfl
        · skip
          have h4d := B.df h4
          refine WX.run ttOk rfl ?_
          refine WX.cases 31 rfl (fun h7 => ?_) (fun h7 => ?_)
          · skip
            have h7d := B.ef (B.nt h7)
            refine WX.run ttOk rfl ?_
            have hP3 : impl_ValidPart_L1 ((s).data.toList) = (some false) := by rw [v2, drop_get e1h]; simp only [impl_ValidPart_L1, h2, h3, h4, h7, cond_true, cond_false]
            have hP4 : impl_ValidPart s = false := by simp only [impl_ValidPart, hP3, cond_true, cond_false]
            refine WX.ret ttOk rfl ?_
            intro w1 G bs hI hΓ
            rw [hP4]
            exact ⟨rfl, trivial⟩
          · skip
            have h7d := B.et (B.nf h7)
            refine WX.run ttOk rfl ?_
            refine WX.see rfl rfl rfl (fun _ hΓ => looks_arith rfl rfl rfl rfl (by unfold I64; omega)) ?_
            refine WX.run ttOk rfl ?_
            exact WX.iter (i + 1) ⟨(by omega), (by rw [v2, drop_get e1h]; simp only [impl_ValidPart_L1, h2, h3, h4, h7, cond_true, cond_false])⟩ (by dsimp only; omega) (.cons rfl (.cons rfl (.cons rfl (.nil)))) .nil .nil [] rfl
    · skip
      have h2d := B.df h2
      refine WX.run ttOk rfl ?_
      refine WX.cases 22 rfl (fun h8 => ?_) (fun h8 => ?_)
      · skip
        have h8d := B.dt h8
        refine WX.run ttOk rfl ?_
        refine WX.cases 27 rfl (fun h9 => ?_) (fun h9 => ?_)
        · skip
          have h9d := B.dt h9
          refine WX.run ttOk rfl ?_
          refine WX.see rfl rfl rfl (fun _ hΓ => looks_arith rfl rfl rfl rfl (by unfold I64; omega)) ?_
          refine WX.run ttOk rfl ?_
          exact WX.iter (i + 1) ⟨(by omega), (by rw [v2, drop_get e1h]; simp only [impl_ValidPart_L1, h2, h8, h9, cond_true, cond_false])⟩ (by dsimp only; omega) (.cons rfl (.cons rfl (.cons rfl (.nil)))) .nil .nil [] rfl
        · skip
          have h9d := B.df h9
          refine WX.run ttOk rfl ?_
          refine WX.cases 31 rfl (fun h10 => ?_) (fun h10 => ?_)
          · skip
            have h10d := B.ef (B.nt h10)
            refine WX.run ttOk rfl ?_
            have hP5 : impl_ValidPart_L1 ((s).data.toList) = (some false) := by rw [v2, drop_get e1h]; simp only [impl_ValidPart_L1, h2, h8, h9, h10, cond_true, cond_false]
            have hP6 : impl_ValidPart s = false := by simp only [impl_ValidPart, hP5, cond_true, cond_false]
            refine WX.ret ttOk rfl ?_
            intro w1 G bs hI hΓ
            rw [hP6]
            exact ⟨rfl, trivial⟩
          · skip
            have h10d := B.et (B.nf h10)
            refine WX.run ttOk rfl ?_
            refine WX.see rfl rfl rfl (fun _ hΓ => looks_arith rfl rfl rfl rfl (by unfold I64; omega)) ?_
            refine WX.run ttOk rfl ?_
            exact WX.iter (i + 1) ⟨(by omega), (by rw [v2, drop_get e1h]; simp only [impl_ValidPart_L1, h2, h8, h9, h10, cond_true, cond_false])⟩ (by dsimp only; omega) (.cons rfl (.cons rfl (.cons rfl (.nil)))) .nil .nil [] rfl
      · skip
        have h8d := B.df h8
        refine WX.run ttOk rfl ?_
        refine WX.cases 31 rfl (fun h11 => ?_) (fun h11 => ?_)
        · skip
          have h11d := B.ef (B.nt h11)
          refine WX.run ttOk rfl ?_
          have hP7 : impl_ValidPart_L1 ((s).data.toList) = (some false) := by rw [v2, drop_get e1h]; simp only [impl_ValidPart_L1, h2, h8, h11, cond_true, cond_false]
          have hP8 : impl_ValidPart s = false := by simp only [impl_ValidPart, hP7, cond_true, cond_false]
          refine WX.ret ttOk rfl ?_
          intro w1 G bs hI hΓ
          rw [hP8]
          exact ⟨rfl, trivial⟩
        · skip
          have h11d := B.et (B.nf h11)
          refine WX.run ttOk rfl ?_
          refine WX.see rfl rfl rfl (fun _ hΓ => looks_arith rfl rfl rfl rfl (by unfold I64; omega)) ?_
          refine WX.run ttOk rfl ?_
          exact WX.iter (i + 1) ⟨(by omega), (by rw [v2, drop_get e1h]; simp only [impl_ValidPart_L1, h2, h8, h11, cond_true, cond_false])⟩ (by dsimp only; omega) (.cons rfl (.cons rfl (.cons rfl (.nil)))) .nil .nil [] rfl
  · skip
    have h1d := B.df h1
    refine WX.run ttOk rfl ?_
    have hX1 : impl_ValidPart_L1 ((s).data.toList) = none := by rw [v2, List.drop_eq_nil_of_le (show ((s).data.toList).length ≤ i by (have hz_ : ((s).data.toList).length = (s).size := by simp); omega)]; simp only [impl_ValidPart_L1, cond_true, cond_false]
    refine WX.callV rfl rfl rfl rfl rfl (fun _ => rfl) rfl (fun w G bs hI hΓ => f86 w n (by omega) (((s).size : Nat) : Int) 1 8 (show I64 (((s).size : Nat) : Int) from (by unfold I64; omega)) (show I64 1 from (by unfold I64; omega)) (show I64 8 from (by unfold I64; omega))) ?_
    intro hq1
    refine WX.run ttOk rfl ?_
    have hP9 : impl_ValidPart s = (impl_InRange (((s).size : Nat) : Int) 1 8) := by simp only [impl_ValidPart, hX1, cond_true, cond_false]
    refine WX.ret ttOk rfl ?_
    intro w1 G bs hI hΓ
    rw [hP9]
    exact ⟨rfl, trivial⟩
theorem f125 (w : World) (n : Nat) (hn : n + 0 ≤ 9) (s : Str) (hoks : GoT.ok n s) :
    Does Try.prog 125 #[.string s] w emp (fun (rv : Value) (_ : World) => rv = .bool (spec_ValidPart s) ∧ True) := by
  have hbP := bd_pos n
  have hbB := bd_big (n := n) (by omega)
  refine WX.enter (tt := tt) (Γ := []) Try.func125 rfl (by kernel_rfl) rfl allS_nil ?_
  refine WX.run ttOk rfl ?_
  have r1 : (s).size ≤ bd n := hoks
  refine WX.callV rfl rfl rfl rfl rfl (fun _ => rfl) rfl (fun w G bs hI hΓ => f78 w n (by omega) (((s).size : Nat) : Int) 1 8 (show I64 (((s).size : Nat) : Int) from (by unfold I64; omega)) (show I64 1 from (by unfold I64; omega)) (show I64 8 from (by unfold I64; omega))) ?_
  intro hq1
  refine WX.run ttOk rfl ?_
  refine WX.cases 8 rfl (fun h1 => ?_) (fun h1 => ?_)
  · skip
    have h1d := (B.nt h1)
    refine WX.run ttOk rfl ?_
    have hP1 : spec_ValidPart s = false := by simp only [spec_ValidPart, h1, cond_true, cond_false]
    refine WX.ret ttOk rfl ?_
    intro w1 G bs hI hΓ
    rw [hP1]
    exact ⟨rfl, trivial⟩
  · skip
    have h1d := (B.nf h1)
    have h1r := inR_spec (B.nf h1)
    refine WX.run ttOk rfl ?_
    refine WX.loop (ι := Nat) ⟨fun i => (i ≤ ((s).data.toList).length) ∧ (spec_ValidPart_L1 ((s).data.toList) = spec_ValidPart_L1 (((s).data.toList).drop i)), fun i => ((s).data.toList).length - i, fun i => [(3, .v (.int .i64 (((i : Nat) : Int)))), (0, .v (.string s))], fun i => [], fun i => [], fun i => []⟩ 0 ⟨(Nat.zero_le _), rfl⟩
      (.cons rfl (.cons rfl (.nil))) .nil .nil [] rfl ?_
    rintro i hpre
    have hpre_ : (i ≤ ((s).data.toList).length) ∧ (spec_ValidPart_L1 ((s).data.toList) = spec_ValidPart_L1 (((s).data.toList).drop i)) := hpre
    clear hpre
    obtain ⟨v1, v2⟩ := hpre_
    refine WX.run ttOk rfl ?_
    refine WX.cases 12 rfl (fun h2 => ?_) (fun h2 => ?_)
    · skip
      have h2d := B.dt h2
      have e1i : i < ((s).data.toList).length := (by (have hz_ : ((s).data.toList).length = (s).size := by simp); omega)
      obtain ⟨e1, e1h⟩ : ∃ e1, ((s).data.toList)[i]? = some e1 := ⟨_, List.getElem?_eq_getElem e1i⟩
      refine WX.run ttOk rfl ?_
      refine WX.see rfl rfl rfl (fun _ hΓ => looks_strIdx ttOk rfl rfl rfl rfl rfl e1h) ?_
      refine WX.see rfl rfl rfl (fun _ hΓ => looks_ofU8 ttOk rfl rfl rfl rfl rfl rfl) ?_
      refine WX.run ttOk rfl ?_
      have r2 : (e1).toNat < 256 := UInt8.toNat_lt _
      refine WX.callV rfl rfl rfl rfl rfl (fun _ => rfl) rfl (fun w G bs hI hΓ => f78 w n (by omega) ((e1).toNat : Int) 97 122 (show I64 ((e1).toNat : Int) from (by unfold I64; omega)) (show I64 97 from (by unfold I64; omega)) (show I64 122 from (by unfold I64; omega))) ?_
      intro hq2
      refine WX.run ttOk rfl ?_
      refine WX.cases 22 rfl (fun h3 => ?_) (fun h3 => ?_)
      · skip
        have h3d := (B.nt h3)
        refine WX.run ttOk rfl ?_
        refine WX.callV rfl rfl rfl rfl rfl (fun _ => rfl) rfl (fun w G bs hI hΓ => f78 w n (by omega) ((e1).toNat : Int) 48 57 (show I64 ((e1).toNat : Int) from (by unfold I64; omega)) (show I64 48 from (by unfold I64; omega)) (show I64 57 from (by unfold I64; omega))) ?_
        intro hq3
        refine WX.run ttOk rfl ?_
        refine WX.cases 27 rfl (fun h4 => ?_) (fun h4 => ?_)
        · skip
          have h4d := (B.nt h4)
          refine WX.run ttOk rfl ?_
          refine WX.cases 30 rfl (fun h5 => ?_) (fun h5 => ?_)
          · skip
            have h5d := B.nt' h5
            refine WX.run ttOk rfl ?_
            have hP2 : spec_ValidPart_L1 ((s).data.toList) = (some false) := by rw [v2, drop_get e1h]; simp only [spec_ValidPart_L1, h3, h4, h5, cond_true, cond_false]
            have hP3 : spec_ValidPart s = false := by simp only [spec_ValidPart, h1, hP2, cond_true, cond_false]
            refine WX.ret ttOk rfl ?_
            intro w1 G bs hI hΓ
            rw [hP3]
            exact ⟨rfl, trivial⟩
          · skip
            have h5d := B.nf' h5
            refine WX.run ttOk rfl ?_
            refine WX.see rfl rfl rfl (fun _ hΓ => looks_arith rfl rfl rfl rfl (by unfold I64; omega)) ?_
            refine WX.run ttOk rfl ?_
            exact WX.iter (i + 1) ⟨(by omega), (by rw [v2, drop_get e1h]; simp only [spec_ValidPart_L1, h3, h4, h5, cond_true, cond_false])⟩ (by dsimp only; omega) (.cons rfl (.cons rfl (.nil))) .nil .nil [] rfl
        · skip
          have h4d := (B.nf h4)
          have h4r := inR_spec (B.nf h4)
          refine WX.run ttOk rfl ?_
          refine WX.see rfl rfl rfl (fun _ hΓ => looks_arith rfl rfl rfl rfl (by unfold I64; omega)) ?_
          refine WX.run ttOk rfl ?_
          exact WX.iter (i + 1) ⟨(by omega), (by rw [v2, drop_get e1h]; simp only [spec_ValidPart_L1, h3, h4, cond_true, cond_false])⟩ (by dsimp only; omega) (.cons rfl (.cons rfl (.nil))) .nil .nil [] rfl
      · skip
        have h3d := (B.nf h3)
        have h3r := inR_spec (B.nf h3)
        refine WX.run ttOk rfl ?_
        refine WX.see rfl rfl rfl (fun _ hΓ => looks_arith rfl rfl rfl rfl (by unfold I64; omega)) ?_
        refine WX.run ttOk rfl ?_
        exact WX.iter (i + 1) ⟨(by omega), (by rw [v2, drop_get e1h]; simp only [spec_ValidPart_L1, h3, cond_true, cond_false])⟩ (by dsimp only; omega) (.cons rfl (.cons rfl (.nil))) .nil .nil [] rfl
    · skip
      have h2d := B.df h2
      refine WX.run ttOk rfl ?_
      have hX1 : spec_ValidPart_L1 ((s).data.toList) = none := by rw [v2, List.drop_eq_nil_of_le (show ((s).data.toList).length ≤ i by (have hz_ : ((s).data.toList).length = (s).size := by simp); omega)]; simp only [spec_ValidPart_L1, cond_true, cond_false]
      have hP4 : spec_ValidPart s = true := by simp only [spec_ValidPart, h1, hX1, cond_true, cond_false]
      refine WX.ret ttOk rfl ?_
      intro w1 G bs hI hΓ
      rw [hP4]
      exact ⟨rfl, trivial⟩
theorem f148 (w : World) (n : Nat) (hn : n + 0 ≤ 9) (s : (List Str)) (ps : Option Addr) (cs : Nat) (hps : RdSl (hp w) ps cs s) (fg : FuncId) (fc : List Value) (fq : Str → Bool) (ff : ∀ w1, Kp emp w w1 → ∀ (e0 : Str) (x0 : GoT.X Str), GoT.ok n e0 → All (hp w1) (GoT.fa .der e0 x0) → Does Try.prog fg ([(GoT.sh e0 x0).headD undef] ++ fc).toArray w1 emp (fun rv _ => rv = .bool (fq e0) ∧ True)) (hoks : GoT.ok n s) :
    Does Try.prog 148 #[.slice ps ((s).length) cs, .func (.func fg) #[] fc.toArray] w emp (fun (rv : Value) (_ : World) => rv = .int .i64 ((slices_IndexFunc_string s fq)) ∧ GoT.ok n ((slices_IndexFunc_string s fq) : Int)) := by
  have hbP := bd_pos n
  have hbB := bd_big (n := n) (by omega)
  refine WX.enter (tt := tt) (Γ := [(0, MF.rs .stb ps cs s)]) Try.func148 rfl (by kernel_rfl) rfl (allS_cons rfl hps allS_nil) ?_
  refine WX.run ttOk rfl ?_
  have r1 : (s).length ≤ bd n := (okl hoks).1
  refine WX.loop (ι := Nat) ⟨fun i => (i ≤ (s).length) ∧ (slices_IndexFunc_string_L1 fq s 0 = slices_IndexFunc_string_L1 fq ((s).drop i) i), fun i => (s).length - i, fun i => [(8, .v (.int .i64 (((i : Nat) : Int)))), (7, .v (.int .i64 ((((s).length : Nat) : Int)))), (0, .v (.slice ps ((s).length) cs)), (1, .v (.func (.func fg) #[] fc.toArray))], fun i => [], fun i => [], fun i => [(0, MF.rs .stb ps cs s)]⟩ 0 ⟨(Nat.zero_le _), rfl⟩
    (.cons rfl (.cons rfl (.cons rfl (.cons rfl (.nil))))) .nil .nil [0] rfl ?_
  rintro i hpre
  have hpre_ : (i ≤ (s).length) ∧ (slices_IndexFunc_string_L1 fq s 0 = slices_IndexFunc_string_L1 fq ((s).drop i) i) := hpre
  clear hpre
  obtain ⟨v1, v2⟩ := hpre_
  refine WX.run ttOk rfl ?_
  refine WX.cases 9 rfl (fun h1 => ?_) (fun h1 => ?_)
  · skip
    have h1d := B.dt h1
    have e1i : i < (s).length := (by omega)
    obtain ⟨e1, e1h⟩ : ∃ e1, (s)[i]? = some e1 := ⟨_, List.getElem?_eq_getElem e1i⟩
    have ok1 : GoT.ok n e1 := (okl hoks).2 _ (List.mem_of_getElem? e1h)
    refine WX.run ttOk rfl ?_
    refine WX.idx 0 i ttOk rfl rfl rfl rfl rfl rfl rfl rfl rfl rfl e1i ?_
    rintro ad1 rfl
    refine WX.ldE 0 1 e1 ttOk rfl rfl rfl rfl rfl rfl rfl rfl e1h (fun _ => rfl) (fun _ => rfl) ?_
    rintro ⟨⟩
    refine WX.callV rfl rfl rfl rfl rfl (fun _ => rfl) rfl (fun w G bs hI hΓ => ff w hI.keep e1 () ok1 All.nil) ?_
    intro hq1
    refine WX.run ttOk rfl ?_
    refine WX.cases 16 rfl (fun h2 => ?_) (fun h2 => ?_)
    · skip
      refine WX.run ttOk rfl ?_
      have hP1 : slices_IndexFunc_string_L1 fq s 0 = (some ((i : Nat) : Int)) := by rw [v2, drop_get e1h]; simp only [slices_IndexFunc_string_L1, h2, cond_true, cond_false]
      have hP2 : slices_IndexFunc_string s fq = ((i : Nat) : Int) := by simp only [slices_IndexFunc_string, hP1, cond_true, cond_false]
      refine WX.ret ttOk rfl ?_
      intro w1 G bs hI hΓ
      rw [hP2]
      exact ⟨rfl, (show I64 ((i : Nat) : Int) from (by unfold I64; omega))⟩
    · skip
      refine WX.run ttOk rfl ?_
      refine WX.see rfl rfl rfl (fun _ hΓ => looks_arith rfl rfl rfl rfl (by unfold I64; omega)) ?_
      refine WX.run ttOk rfl ?_
      exact WX.iter (i + 1) ⟨(by omega), (by rw [v2, drop_get e1h]; simp only [slices_IndexFunc_string_L1, h2, cond_true, cond_false])⟩ (by dsimp only; omega) (.cons rfl (.cons rfl (.cons rfl (.cons rfl (.nil))))) .nil .nil [0] rfl
  · skip
    have h1d := B.df h1
    refine WX.run ttOk rfl ?_
    have hX1 : slices_IndexFunc_string_L1 fq s 0 = none := by rw [v2, List.drop_eq_nil_of_le (show (s).length ≤ i by omega)]; simp only [slices_IndexFunc_string_L1, cond_true, cond_false]
    have hP3 : slices_IndexFunc_string s fq = (-1) := by simp only [slices_IndexFunc_string, hX1, cond_true, cond_false]
    refine WX.ret ttOk rfl ?_
    intro w1 G bs hI hΓ
    rw [hP3]
    exact ⟨rfl, (show I64 (-1) from (by unfold I64; omega))⟩
theorem ltL_slices_IndexFunc_string : ∀ (f : Str → Bool) (l : List Str) (i : Nat) (j : Int), slices_IndexFunc_string_L1 f l i = some j → j < ((i + l.length : Nat) : Int)
  | f, [], i, j, h => by cases h
  | f, x :: l, i, j, h => by
    simp only [slices_IndexFunc_string_L1] at h
    cases hx : f x
    · rw [hx, cond_false] at h
      have := ltL_slices_IndexFunc_string f l (i + 1) j h
      simp only [List.length_cons]; omega
    · rw [hx, cond_true] at h
      cases h
      simp only [List.length_cons]; omega
theorem ltI_slices_IndexFunc_string (l : List Str) (f : Str → Bool) : slices_IndexFunc_string l f < ((l.length : Nat) : Int) := by
  unfold slices_IndexFunc_string
  cases h : slices_IndexFunc_string_L1 f l 0 with
  | none => show (-1 : Int) < _; omega
  | some j => have := ltL_slices_IndexFunc_string f l 0 j h; show j < _; omega
theorem f126 (w : World) (n : Nat) (hn : n + 0 ≤ 9) (s : (List Str)) (ps : Option Addr) (cs : Nat) (hps : RdSl (hp w) ps cs s) (fg : FuncId) (fc : List Value) (fq : Str → Bool) (ff : ∀ w1, Kp emp w w1 → ∀ (e0 : Str) (x0 : GoT.X Str), GoT.ok n e0 → All (hp w1) (GoT.fa .der e0 x0) → Does Try.prog fg ([(GoT.sh e0 x0).headD undef] ++ fc).toArray w1 emp (fun rv _ => rv = .bool (fq e0) ∧ True)) (hoks : GoT.ok n s) :
    Does Try.prog 126 #[.slice ps ((s).length) cs, .func (.func fg) #[] fc.toArray] w emp (fun (rv : Value) (_ : World) => rv = .bool (slices_ContainsFunc_string s fq) ∧ True) := by
  have hbP := bd_pos n
  have hbB := bd_big (n := n) (by omega)
  refine WX.enter (tt := tt) (Γ := [(0, MF.rs .stb ps cs s)]) Try.func126 rfl (by kernel_rfl) rfl (allS_cons rfl hps allS_nil) ?_
  refine WX.run ttOk rfl ?_
  refine WX.callV rfl rfl rfl rfl rfl (fun _ => rfl) rfl (fun w G bs hI hΓ => f148 w n (by omega) s ps cs (hΓ.get 0 rfl) fg fc fq (fun w1_ hb_ => ff w1_ (hI.keep.trans hb_)) hoks) ?_
  intro hq1
  have q1 := ltI_slices_IndexFunc_string s fq
  refine WX.run ttOk rfl ?_
  have hP1 : slices_ContainsFunc_string s fq = (decide ((slices_IndexFunc_string s fq) ≥ 0)) := by simp only [slices_ContainsFunc_string, cond_true, cond_false]
  refine WX.ret ttOk rfl ?_
  intro w1 G bs hI hΓ
  rw [hP1]
  exact ⟨rfl, trivial⟩
theorem f127 (w : World) (n : Nat) (hn : n + 0 ≤ 9) (p_ : Str) (hokp_ : GoT.ok n p_) :
    Does Try.prog 127 #[.string p_] w emp (fun (rv : Value) (_ : World) => rv = .bool (impl_ValidName_c1 p_) ∧ True) := by
  have hbP := bd_pos n
  have hbB := bd_big (n := n) (by omega)
  refine WX.enter (tt := tt) (Γ := []) Try.func127 rfl (by kernel_rfl) rfl allS_nil ?_
  refine WX.run ttOk rfl ?_
  refine WX.callV rfl rfl rfl rfl rfl (fun _ => rfl) rfl (fun w G bs hI hΓ => f128 w n (by omega) p_ hokp_) ?_
  intro hq1
  refine WX.run ttOk rfl ?_
  have hP1 : impl_ValidName_c1 p_ = (!(impl_ValidPart p_)) := by simp only [impl_ValidName_c1, cond_true, cond_false]
  refine WX.ret ttOk rfl ?_
  intro w1 G bs hI hΓ
  rw [hP1]
  exact ⟨rfl, trivial⟩
theorem f88 (w : World) (n : Nat) (hn : n + 0 ≤ 9) (n_ : Name) (pn_ : Option Addr) (cn_ : Nat) (hpn_ : RdSl (hp w) pn_ cn_ n_.parts) (hokn_ : GoT.ok n n_) :
    Does Try.prog 88 #[.agg #[.slice pn_ ((n_.parts).length) cn_]] w emp (fun (rv : Value) (_ : World) => rv = .bool (impl_ValidName n_) ∧ True) := by
  have hbP := bd_pos n
  have hbB := bd_big (n := n) (by omega)
  refine WX.enter (tt := tt) (Γ := [(0, MF.rs .stb pn_ cn_ n_.parts)]) Try.func88 rfl (by kernel_rfl) rfl (allS_cons rfl hpn_ allS_nil) ?_
  refine WX.run ttOk rfl ?_
  refine WX.cases 7 rfl (fun h1 => ?_) (fun h1 => ?_)
  · skip
    have h1d := B.dt h1
    refine WX.run ttOk rfl ?_
    refine WX.callV rfl rfl rfl rfl rfl (fun _ => rfl) rfl (fun w G bs hI hΓ => f126 w n (by omega) n_.parts pn_ cn_ (hΓ.get 0 rfl) 127 [] (fun e0_ => (impl_ValidName_c1 e0_)) (fun w1_ hb_ e0_ x0_ hk0_ hx0_ => f127 w1_ n (by omega) e0_ hk0_) (ok_Name hokn_)) ?_
    intro hq1
    refine WX.run ttOk rfl ?_
    have hP1 : impl_ValidName n_ = (!(slices_ContainsFunc_string n_.parts (fun e0_ => (impl_ValidName_c1 e0_)))) := by simp only [impl_ValidName, h1, cond_true, cond_false]
    refine WX.ret ttOk rfl ?_
    intro w1 G bs hI hΓ
    rw [hP1]
    exact ⟨rfl, trivial⟩
  · skip
    have h1d := B.df h1
    refine WX.run ttOk rfl ?_
    have hP2 : impl_ValidName n_ = false := by simp only [impl_ValidName, h1, cond_true, cond_false]
    refine WX.ret ttOk rfl ?_
    intro w1 G bs hI hΓ
    rw [hP2]
    exact ⟨rfl, trivial⟩
theorem f80 (w : World) (n : Nat) (hn : n + 0 ≤ 9) (n_ : Name) (pn_ : Option Addr) (cn_ : Nat) (hpn_ : RdSl (hp w) pn_ cn_ n_.parts) (hokn_ : GoT.ok n n_) :
    Does Try.prog 80 #[.agg #[.slice pn_ ((n_.parts).length) cn_]] w emp (fun (rv : Value) (_ : World) => rv = .bool (spec_ValidName n_) ∧ True) := by
  have hbP := bd_pos n
  have hbB := bd_big (n := n) (by omega)
  refine WX.enter (tt := tt) (Γ := [(0, MF.rs .stb pn_ cn_ n_.parts)]) Try.func80 rfl (by kernel_rfl) rfl (allS_cons rfl hpn_ allS_nil) ?_
  refine WX.run ttOk rfl ?_
  have r1 : (n_.parts).length ≤ bd n := (okl (ok_Name hokn_)).1
  refine WX.loop (ι := Nat) ⟨fun i => (i ≤ (n_.parts).length) ∧ (spec_ValidName_L1 n_.parts = spec_ValidName_L1 ((n_.parts).drop i)), fun i => (n_.parts).length - i, fun i => [(3, .v (.int .i64 (((i : Nat) : Int)))), (1, .p 1 0)], fun i => [(1, ⟨64, [.slice pn_ ((n_.parts).length) cn_]⟩)], fun i => [], fun i => [(0, MF.rs .stb pn_ cn_ n_.parts)]⟩ 0 ⟨(Nat.zero_le _), rfl⟩
    (.cons rfl (.cons rfl (.nil))) (.cons rfl (.nil)) .nil [0] rfl ?_
  rintro i hpre
  have hpre_ : (i ≤ (n_.parts).length) ∧ (spec_ValidName_L1 n_.parts = spec_ValidName_L1 ((n_.parts).drop i)) := hpre
  clear hpre
  obtain ⟨v1, v2⟩ := hpre_
  refine WX.run ttOk rfl ?_
  refine WX.cases 8 rfl (fun h1 => ?_) (fun h1 => ?_)
  · skip
    have h1d := B.dt h1
    have e1i : i < (n_.parts).length := (by omega)
    obtain ⟨e1, e1h⟩ : ∃ e1, (n_.parts)[i]? = some e1 := ⟨_, List.getElem?_eq_getElem e1i⟩
    have ok1 : GoT.ok n e1 := (okl (ok_Name hokn_)).2 _ (List.mem_of_getElem? e1h)
    refine WX.run ttOk rfl ?_
    refine WX.idx 0 i ttOk rfl rfl rfl rfl rfl rfl rfl rfl rfl rfl e1i ?_
    rintro ad1 rfl
    refine WX.ldE 0 1 e1 ttOk rfl rfl rfl rfl rfl rfl rfl rfl e1h (fun _ => rfl) (fun _ => rfl) ?_
    rintro ⟨⟩
    refine WX.callV rfl rfl rfl rfl rfl (fun _ => rfl) rfl (fun w G bs hI hΓ => f125 w n (by omega) e1 ok1) ?_
    intro hq1
    refine WX.run ttOk rfl ?_
    refine WX.cases 17 rfl (fun h2 => ?_) (fun h2 => ?_)
    · skip
      have h2d := (B.nt h2)
      refine WX.run ttOk rfl ?_
      have hP1 : spec_ValidName_L1 n_.parts = (some false) := by rw [v2, drop_get e1h]; simp only [spec_ValidName_L1, h2, cond_true, cond_false]
      have hP2 : spec_ValidName n_ = false := by simp only [spec_ValidName, hP1, cond_true, cond_false]
      refine WX.ret ttOk rfl ?_
      intro w1 G bs hI hΓ
      rw [hP2]
      exact ⟨rfl, trivial⟩
    · skip
      have h2d := (B.nf h2)
      refine WX.run ttOk rfl ?_
      refine WX.see rfl rfl rfl (fun _ hΓ => looks_arith rfl rfl rfl rfl (by unfold I64; omega)) ?_
      refine WX.run ttOk rfl ?_
      exact WX.iter (i + 1) ⟨(by omega), (by rw [v2, drop_get e1h]; simp only [spec_ValidName_L1, h2, cond_true, cond_false])⟩ (by dsimp only; omega) (.cons rfl (.cons rfl (.nil))) (.cons rfl (.nil)) .nil [0] rfl
  · skip
    have h1d := B.df h1
    refine WX.run ttOk rfl ?_
    have hX1 : spec_ValidName_L1 n_.parts = none := by rw [v2, List.drop_eq_nil_of_le (show (n_.parts).length ≤ i by omega)]; simp only [spec_ValidName_L1, cond_true, cond_false]
    have hP3 : spec_ValidName n_ = (decide ((((n_.parts).length : Nat) : Int) ≤ 6)) := by simp only [spec_ValidName, hX1, cond_true, cond_false]
    refine WX.ret ttOk rfl ?_
    intro w1 G bs hI hΓ
    rw [hP3]
    exact ⟨rfl, trivial⟩
theorem f166 (w : World) (n : Nat) (hn : n + 0 ≤ 9) (x_ : DataP) (px_Name : Option Addr) (cx_Name : Nat) (hpx_Name : RdSl (hp w) px_Name cx_Name x_.name.parts) (px_Content : Option Addr) (cx_Content : Nat) (hpx_Content : RdSl (hp w) px_Content cx_Content x_.content) (px_KeyName : Option Addr) (cx_KeyName : Nat) (hpx_KeyName : RdSl (hp w) px_KeyName cx_KeyName x_.keyName.parts) (hokx_ : GoT.ok n x_) :
    Does Try.prog 166 #[.agg #[.slice px_Name ((x_.name.parts).length) cx_Name, .slice px_Content ((x_.content).length) cx_Content, .slice px_KeyName ((x_.keyName.parts).length) cx_KeyName, .int .i64 (x_.freshUntil), .int .i64 (x_.signature)]] w emp (fun (rv : Value) (_ : World) => rv = .bool (impl_ValidData x_) ∧ True) := by
  have hbP := bd_pos n
  have hbB := bd_big (n := n) (by omega)
  refine WX.enter (tt := tt) (Γ := [(0, MF.rs .stb px_Name cx_Name x_.name.parts), (1, MF.rs .stb px_Content cx_Content x_.content), (2, MF.rs .stb px_KeyName cx_KeyName x_.keyName.parts)]) Try.func166 rfl (by kernel_rfl) rfl (allS_cons rfl hpx_Name (allS_cons rfl hpx_Content (allS_cons rfl hpx_KeyName allS_nil))) ?_
  refine WX.run ttOk rfl ?_
  refine WX.callV rfl rfl rfl rfl rfl (fun _ => rfl) rfl (fun w G bs hI hΓ => f88 w n (by omega) x_.name px_Name cx_Name (hΓ.get 0 rfl) ((ok_DataP hokx_).1)) ?_
  intro hq1
  refine WX.run ttOk rfl ?_
  refine WX.cases 6 rfl (fun h1 => ?_) (fun h1 => ?_)
  · skip
    refine WX.run ttOk rfl ?_
    refine WX.cases 13 rfl (fun h2 => ?_) (fun h2 => ?_)
    · skip
      have h2d := B.dt h2
      refine WX.run ttOk rfl ?_
      refine WX.cases 19 rfl (fun h3 => ?_) (fun h3 => ?_)
      · skip
        have h3d := B.dt h3
        refine WX.run ttOk rfl ?_
        refine WX.callV rfl rfl rfl rfl rfl (fun _ => rfl) rfl (fun w G bs hI hΓ => f88 w n (by omega) x_.keyName px_KeyName cx_KeyName (hΓ.get 2 rfl) ((ok_DataP hokx_).2.2.1)) ?_
        intro hq2
        refine WX.run ttOk rfl ?_
        refine WX.cases 24 rfl (fun h4 => ?_) (fun h4 => ?_)
        · skip
          refine WX.run ttOk rfl ?_
          refine WX.callV rfl rfl rfl rfl rfl (fun _ => rfl) rfl (fun w G bs hI hΓ => f86 w n (by omega) x_.freshUntil 0 100000 ((ok_DataP hokx_).2.2.2.1) (show I64 0 from (by unfold I64; omega)) (show I64 100000 from (by unfold I64; omega))) ?_
          intro hq3
          refine WX.run ttOk rfl ?_
          refine WX.cases 29 rfl (fun h5 => ?_) (fun h5 => ?_)
          · skip
            have h5r := inR_impl h5
            refine WX.run ttOk rfl ?_
            refine WX.callV rfl rfl rfl rfl rfl (fun _ => rfl) rfl (fun w G bs hI hΓ => f86 w n (by omega) x_.signature 0 2147483646 ((ok_DataP hokx_).2.2.2.2) (show I64 0 from (by unfold I64; omega)) (show I64 2147483646 from (by unfold I64; omega))) ?_
            intro hq4
            refine WX.run ttOk rfl ?_
            have hP1 : impl_ValidData x_ = (impl_InRange x_.signature 0 2147483646) := by simp only [impl_ValidData, h1, h2, h3, h4, h5, cond_true, cond_false]
            refine WX.ret ttOk rfl ?_
            intro w1 G bs hI hΓ
            rw [hP1]
            exact ⟨rfl, trivial⟩
          · skip
            refine WX.run ttOk rfl ?_
            have hP2 : impl_ValidData x_ = false := by simp only [impl_ValidData, h1, h2, h3, h4, h5, cond_true, cond_false]
            refine WX.ret ttOk rfl ?_
            intro w1 G bs hI hΓ
            rw [hP2]
            exact ⟨rfl, trivial⟩
        · skip
          refine WX.run ttOk rfl ?_
          have hP3 : impl_ValidData x_ = false := by simp only [impl_ValidData, h1, h2, h3, h4, cond_true, cond_false]
          refine WX.ret ttOk rfl ?_
          intro w1 G bs hI hΓ
          rw [hP3]
          exact ⟨rfl, trivial⟩
      · skip
        have h3d := B.df h3
        refine WX.run ttOk rfl ?_
        have hP4 : impl_ValidData x_ = false := by simp only [impl_ValidData, h1, h2, h3, cond_true, cond_false]
        refine WX.ret ttOk rfl ?_
        intro w1 G bs hI hΓ
        rw [hP4]
        exact ⟨rfl, trivial⟩
    · skip
      have h2d := B.df h2
      refine WX.run ttOk rfl ?_
      have hP5 : impl_ValidData x_ = false := by simp only [impl_ValidData, h1, h2, cond_true, cond_false]
      refine WX.ret ttOk rfl ?_
      intro w1 G bs hI hΓ
      rw [hP5]
      exact ⟨rfl, trivial⟩
  · skip
    refine WX.run ttOk rfl ?_
    have hP6 : impl_ValidData x_ = false := by simp only [impl_ValidData, h1, cond_true, cond_false]
    refine WX.ret ttOk rfl ?_
    intro w1 G bs hI hΓ
    rw [hP6]
    exact ⟨rfl, trivial⟩
theorem f163 (w : World) (n : Nat) (hn : n + 0 ≤ 9) (x_ : DataP) (px_Name : Option Addr) (cx_Name : Nat) (hpx_Name : RdSl (hp w) px_Name cx_Name x_.name.parts) (px_Content : Option Addr) (cx_Content : Nat) (hpx_Content : RdSl (hp w) px_Content cx_Content x_.content) (px_KeyName : Option Addr) (cx_KeyName : Nat) (hpx_KeyName : RdSl (hp w) px_KeyName cx_KeyName x_.keyName.parts) (hokx_ : GoT.ok n x_) :
    Does Try.prog 163 #[.agg #[.slice px_Name ((x_.name.parts).length) cx_Name, .slice px_Content ((x_.content).length) cx_Content, .slice px_KeyName ((x_.keyName.parts).length) cx_KeyName, .int .i64 (x_.freshUntil), .int .i64 (x_.signature)]] w emp (fun (rv : Value) (_ : World) => rv = .bool (spec_ValidData x_) ∧ True) := by
  have hbP := bd_pos n
  have hbB := bd_big (n := n) (by omega)
  refine WX.enter (tt := tt) (Γ := [(0, MF.rs .stb px_Name cx_Name x_.name.parts), (1, MF.rs .stb px_Content cx_Content x_.content), (2, MF.rs .stb px_KeyName cx_KeyName x_.keyName.parts)]) Try.func163 rfl (by kernel_rfl) rfl (allS_cons rfl hpx_Name (allS_cons rfl hpx_Content (allS_cons rfl hpx_KeyName allS_nil))) ?_
  refine WX.run ttOk rfl ?_
  refine WX.callV rfl rfl rfl rfl rfl (fun _ => rfl) rfl (fun w G bs hI hΓ => f80 w n (by omega) x_.name px_Name cx_Name (hΓ.get 0 rfl) ((ok_DataP hokx_).1)) ?_
  intro hq1
  refine WX.run ttOk rfl ?_
  refine WX.cases 6 rfl (fun h1 => ?_) (fun h1 => ?_)
  · skip
    refine WX.run ttOk rfl ?_
    refine WX.cases 13 rfl (fun h2 => ?_) (fun h2 => ?_)
    · skip
      have h2d := B.dt h2
      refine WX.run ttOk rfl ?_
      refine WX.cases 19 rfl (fun h3 => ?_) (fun h3 => ?_)
      · skip
        have h3d := B.dt h3
        refine WX.run ttOk rfl ?_
        refine WX.callV rfl rfl rfl rfl rfl (fun _ => rfl) rfl (fun w G bs hI hΓ => f80 w n (by omega) x_.keyName px_KeyName cx_KeyName (hΓ.get 2 rfl) ((ok_DataP hokx_).2.2.1)) ?_
        intro hq2
        refine WX.run ttOk rfl ?_
        refine WX.cases 24 rfl (fun h4 => ?_) (fun h4 => ?_)
        · skip
          refine WX.run ttOk rfl ?_
          refine WX.callV rfl rfl rfl rfl rfl (fun _ => rfl) rfl (fun w G bs hI hΓ => f78 w n (by omega) x_.freshUntil 0 100000 ((ok_DataP hokx_).2.2.2.1) (show I64 0 from (by unfold I64; omega)) (show I64 100000 from (by unfold I64; omega))) ?_
          intro hq3
          refine WX.run ttOk rfl ?_
          refine WX.cases 29 rfl (fun h5 => ?_) (fun h5 => ?_)
          · skip
            have h5r := inR_spec h5
            refine WX.run ttOk rfl ?_
            refine WX.callV rfl rfl rfl rfl rfl (fun _ => rfl) rfl (fun w G bs hI hΓ => f78 w n (by omega) x_.signature 0 2147483646 ((ok_DataP hokx_).2.2.2.2) (show I64 0 from (by unfold I64; omega)) (show I64 2147483646 from (by unfold I64; omega))) ?_
            intro hq4
            refine WX.run ttOk rfl ?_
            have hP1 : spec_ValidData x_ = (spec_l1In x_.signature 0 2147483646) := by simp only [spec_ValidData, h1, h2, h3, h4, h5, cond_true, cond_false]
            refine WX.ret ttOk rfl ?_
            intro w1 G bs hI hΓ
            rw [hP1]
            exact ⟨rfl, trivial⟩
          · skip
            refine WX.run ttOk rfl ?_
            have hP2 : spec_ValidData x_ = false := by simp only [spec_ValidData, h1, h2, h3, h4, h5, cond_true, cond_false]
            refine WX.ret ttOk rfl ?_
            intro w1 G bs hI hΓ
            rw [hP2]
            exact ⟨rfl, trivial⟩
        · skip
          refine WX.run ttOk rfl ?_
          have hP3 : spec_ValidData x_ = false := by simp only [spec_ValidData, h1, h2, h3, h4, cond_true, cond_false]
          refine WX.ret ttOk rfl ?_
          intro w1 G bs hI hΓ
          rw [hP3]
          exact ⟨rfl, trivial⟩
      · skip
        have h3d := B.df h3
        refine WX.run ttOk rfl ?_
        have hP4 : spec_ValidData x_ = false := by simp only [spec_ValidData, h1, h2, h3, cond_true, cond_false]
        refine WX.ret ttOk rfl ?_
        intro w1 G bs hI hΓ
        rw [hP4]
        exact ⟨rfl, trivial⟩
    · skip
      have h2d := B.df h2
      refine WX.run ttOk rfl ?_
      have hP5 : spec_ValidData x_ = false := by simp only [spec_ValidData, h1, h2, cond_true, cond_false]
      refine WX.ret ttOk rfl ?_
      intro w1 G bs hI hΓ
      rw [hP5]
      exact ⟨rfl, trivial⟩
  · skip
    refine WX.run ttOk rfl ?_
    have hP6 : spec_ValidData x_ = false := by simp only [spec_ValidData, h1, cond_true, cond_false]
    refine WX.ret ttOk rfl ?_
    intro w1 G bs hI hΓ
    rw [hP6]
    exact ⟨rfl, trivial⟩
theorem f157 (w : World) (n : Nat) (hn : n + 0 ≤ 9) (r : Record) (prDataName : Option Addr) (crDataName : Nat) (hprDataName : RdSl (hp w) prDataName crDataName r.data.name.parts) (prDataContent : Option Addr) (crDataContent : Nat) (hprDataContent : RdSl (hp w) prDataContent crDataContent r.data.content) (prDataKeyName : Option Addr) (crDataKeyName : Nat) (hprDataKeyName : RdSl (hp w) prDataKeyName crDataKeyName r.data.keyName.parts) (hokr : GoT.ok n r) :
    Does Try.prog 157 #[.agg #[.int .i64 (r.kind), .slice prDataName ((r.data.name.parts).length) crDataName, .slice prDataContent ((r.data.content).length) crDataContent, .slice prDataKeyName ((r.data.keyName.parts).length) crDataKeyName, .int .i64 (r.data.freshUntil), .int .i64 (r.data.signature)]] w emp (fun (rv : Value) (_ : World) => rv = .bool (impl_ValidRecord r) ∧ True) := by
  have hbP := bd_pos n
  have hbB := bd_big (n := n) (by omega)
  refine WX.enter (tt := tt) (Γ := [(0, MF.rs .stb prDataName crDataName r.data.name.parts), (1, MF.rs .stb prDataContent crDataContent r.data.content), (2, MF.rs .stb prDataKeyName crDataKeyName r.data.keyName.parts)]) Try.func157 rfl (by kernel_rfl) rfl (allS_cons rfl hprDataName (allS_cons rfl hprDataContent (allS_cons rfl hprDataKeyName allS_nil))) ?_
  refine WX.run ttOk rfl ?_
  refine WX.cases 5 rfl (fun h1 => ?_) (fun h1 => ?_)
  · skip
    have h1d := B.et h1
    refine WX.run ttOk rfl ?_
    refine WX.callV rfl rfl rfl rfl rfl (fun _ => rfl) rfl (fun w G bs hI hΓ => f166 w n (by omega) r.data prDataName crDataName (hΓ.get 0 rfl) prDataContent crDataContent (hΓ.get 1 rfl) prDataKeyName crDataKeyName (hΓ.get 2 rfl) ((ok_Record hokr).2)) ?_
    intro hq1
    refine WX.run ttOk rfl ?_
    have hP1 : impl_ValidRecord r = (impl_ValidData r.data) := by simp only [impl_ValidRecord, h1, cond_true, cond_false]
    refine WX.ret ttOk rfl ?_
    intro w1 G bs hI hΓ
    rw [hP1]
    exact ⟨rfl, trivial⟩
  · skip
    have h1d := B.ef h1
    refine WX.run ttOk rfl ?_
    refine WX.cases 10 rfl (fun h2 => ?_) (fun h2 => ?_)
    · skip
      have h2d := B.et h2
      refine WX.run ttOk rfl ?_
      refine WX.callV rfl rfl rfl rfl rfl (fun _ => rfl) rfl (fun w G bs hI hΓ => f88 w n (by omega) r.data.name prDataName crDataName (hΓ.get 0 rfl) ((ok_DataP (ok_Record hokr).2).1)) ?_
      intro hq2
      refine WX.run ttOk rfl ?_
      refine WX.cases 16 rfl (fun h3 => ?_) (fun h3 => ?_)
      · skip
        refine WX.run ttOk rfl ?_
        refine WX.cases 24 rfl (fun h4 => ?_) (fun h4 => ?_)
        · skip
          have h4d := B.dt h4
          refine WX.run ttOk rfl ?_
          refine WX.callV rfl rfl rfl rfl rfl (fun _ => rfl) rfl (fun w G bs hI hΓ => f167 w n (by omega) r.data prDataName crDataName (hΓ.get 0 rfl) prDataContent crDataContent (hΓ.get 1 rfl) prDataKeyName crDataKeyName (hΓ.get 2 rfl) (DataP.mk r.data.name ([]) (Name.mk ([])) 0 0) prDataName crDataName (hΓ.get 0 rfl) none 0 (rdSl_nil _ _ _) none 0 (rdSl_nil _ _ _) ((ok_Record hokr).2) (And.intro (ok_DataP (ok_Record hokr).2).1 (And.intro (ok_nil (α := UInt8)) (And.intro (ok_nil (α := Str)) (And.intro (show I64 0 from (by unfold I64; omega)) (show I64 0 from (by unfold I64; omega))))))) ?_
          intro hq3
          refine WX.run ttOk rfl ?_
          have hP2 : impl_ValidRecord r = (impl_EqualData r.data (DataP.mk r.data.name ([]) (Name.mk ([])) 0 0)) := by simp only [impl_ValidRecord, h1, h2, h3, h4, cond_true, cond_false]
          refine WX.ret ttOk rfl ?_
          intro w1 G bs hI hΓ
          rw [hP2]
          exact ⟨rfl, trivial⟩
        · skip
          have h4d := B.df h4
          refine WX.run ttOk rfl ?_
          have hP3 : impl_ValidRecord r = false := by simp only [impl_ValidRecord, h1, h2, h3, h4, cond_true, cond_false]
          refine WX.ret ttOk rfl ?_
          intro w1 G bs hI hΓ
          rw [hP3]
          exact ⟨rfl, trivial⟩
      · skip
        refine WX.run ttOk rfl ?_
        have hP4 : impl_ValidRecord r = false := by simp only [impl_ValidRecord, h1, h2, h3, cond_true, cond_false]
        refine WX.ret ttOk rfl ?_
        intro w1 G bs hI hΓ
        rw [hP4]
        exact ⟨rfl, trivial⟩
    · skip
      have h2d := B.ef h2
      refine WX.run ttOk rfl ?_
      have hP5 : impl_ValidRecord r = false := by simp only [impl_ValidRecord, h1, h2, cond_true, cond_false]
      refine WX.ret ttOk rfl ?_
      intro w1 G bs hI hΓ
      rw [hP5]
      exact ⟨rfl, trivial⟩
theorem f152 (w : World) (n : Nat) (hn : n + 0 ≤ 9) (r : Record) (prDataName : Option Addr) (crDataName : Nat) (hprDataName : RdSl (hp w) prDataName crDataName r.data.name.parts) (prDataContent : Option Addr) (crDataContent : Nat) (hprDataContent : RdSl (hp w) prDataContent crDataContent r.data.content) (prDataKeyName : Option Addr) (crDataKeyName : Nat) (hprDataKeyName : RdSl (hp w) prDataKeyName crDataKeyName r.data.keyName.parts) (hokr : GoT.ok n r) :
    Does Try.prog 152 #[.agg #[.int .i64 (r.kind), .slice prDataName ((r.data.name.parts).length) crDataName, .slice prDataContent ((r.data.content).length) crDataContent, .slice prDataKeyName ((r.data.keyName.parts).length) crDataKeyName, .int .i64 (r.data.freshUntil), .int .i64 (r.data.signature)]] w emp (fun (rv : Value) (_ : World) => rv = .bool (spec_ValidRecord r) ∧ True) := by
  have hbP := bd_pos n
  have hbB := bd_big (n := n) (by omega)
  refine WX.enter (tt := tt) (Γ := [(0, MF.rs .stb prDataName crDataName r.data.name.parts), (1, MF.rs .stb prDataContent crDataContent r.data.content), (2, MF.rs .stb prDataKeyName crDataKeyName r.data.keyName.parts)]) Try.func152 rfl (by kernel_rfl) rfl (allS_cons rfl hprDataName (allS_cons rfl hprDataContent (allS_cons rfl hprDataKeyName allS_nil))) ?_
  refine WX.run ttOk rfl ?_
  refine WX.cases 5 rfl (fun h1 => ?_) (fun h1 => ?_)
  · skip
    have h1d := B.et h1
    refine WX.run ttOk rfl ?_
    refine WX.callV rfl rfl rfl rfl rfl (fun _ => rfl) rfl (fun w G bs hI hΓ => f163 w n (by omega) r.data prDataName crDataName (hΓ.get 0 rfl) prDataContent crDataContent (hΓ.get 1 rfl) prDataKeyName crDataKeyName (hΓ.get 2 rfl) ((ok_Record hokr).2)) ?_
    intro hq1
    refine WX.run ttOk rfl ?_
    have hP1 : spec_ValidRecord r = (spec_ValidData r.data) := by simp only [spec_ValidRecord, h1, cond_true, cond_false]
    refine WX.ret ttOk rfl ?_
    intro w1 G bs hI hΓ
    rw [hP1]
    exact ⟨rfl, trivial⟩
  · skip
    have h1d := B.ef h1
    refine WX.run ttOk rfl ?_
    refine WX.cases 12 rfl (fun h2 => ?_) (fun h2 => ?_)
    · skip
      have h2d := B.et h2
      refine WX.run ttOk rfl ?_
      refine WX.callV rfl rfl rfl rfl rfl (fun _ => rfl) rfl (fun w G bs hI hΓ => f80 w n (by omega) r.data.name prDataName crDataName (hΓ.get 0 rfl) ((ok_DataP (ok_Record hokr).2).1)) ?_
      intro hq2
      refine WX.run ttOk rfl ?_
      refine WX.cases 18 rfl (fun h3 => ?_) (fun h3 => ?_)
      · skip
        refine WX.run ttOk rfl ?_
        refine WX.cases 26 rfl (fun h4 => ?_) (fun h4 => ?_)
        · skip
          have h4d := B.dt h4
          refine WX.run ttOk rfl ?_
          refine WX.callV rfl rfl rfl rfl rfl (fun _ => rfl) rfl (fun w G bs hI hΓ => f164 w n (by omega) r.data prDataName crDataName (hΓ.get 0 rfl) prDataContent crDataContent (hΓ.get 1 rfl) prDataKeyName crDataKeyName (hΓ.get 2 rfl) (DataP.mk r.data.name ([]) (Name.mk ([])) 0 0) prDataName crDataName (hΓ.get 0 rfl) none 0 (rdSl_nil _ _ _) none 0 (rdSl_nil _ _ _) ((ok_Record hokr).2) (And.intro (ok_DataP (ok_Record hokr).2).1 (And.intro (ok_nil (α := UInt8)) (And.intro (ok_nil (α := Str)) (And.intro (show I64 0 from (by unfold I64; omega)) (show I64 0 from (by unfold I64; omega))))))) ?_
          intro hq3
          refine WX.run ttOk rfl ?_
          have hP2 : spec_ValidRecord r = (spec_EqualData r.data (DataP.mk r.data.name ([]) (Name.mk ([])) 0 0)) := by simp only [spec_ValidRecord, h1, h2, h3, h4, cond_true, cond_false]
          refine WX.ret ttOk rfl ?_
          intro w1 G bs hI hΓ
          rw [hP2]
          exact ⟨rfl, trivial⟩
        · skip
          have h4d := B.df h4
          refine WX.run ttOk rfl ?_
          have hP3 : spec_ValidRecord r = false := by simp only [spec_ValidRecord, h1, h2, h3, h4, cond_true, cond_false]
          refine WX.ret ttOk rfl ?_
          intro w1 G bs hI hΓ
          rw [hP3]
          exact ⟨rfl, trivial⟩
      · skip
        refine WX.run ttOk rfl ?_
        have hP4 : spec_ValidRecord r = false := by simp only [spec_ValidRecord, h1, h2, h3, cond_true, cond_false]
        refine WX.ret ttOk rfl ?_
        intro w1 G bs hI hΓ
        rw [hP4]
        exact ⟨rfl, trivial⟩
    · skip
      have h2d := B.ef h2
      refine WX.run ttOk rfl ?_
      have hP5 : spec_ValidRecord r = false := by simp only [spec_ValidRecord, h1, h2, cond_true, cond_false]
      refine WX.ret ttOk rfl ?_
      intro w1 G bs hI hΓ
      rw [hP5]
      exact ⟨rfl, trivial⟩
theorem f168 (w : World) (n : Nat) (hn : n + 0 ≤ 9) (s : (List Record)) (ps : Option Addr) (cs : Nat) (hps : RdSl (hp w) ps cs s) (fg : FuncId) (fc : List Value) (fq : Record → Bool) (ff : ∀ w1, Kp emp w w1 → ∀ (e0 : Record) (x0 : GoT.X Record), GoT.ok n e0 → All (hp w1) (GoT.fa .der e0 x0) → Does Try.prog fg ([Value.agg ⟨GoT.sh e0 x0⟩] ++ fc).toArray w1 emp (fun rv _ => rv = .bool (fq e0) ∧ True)) (hoks : GoT.ok n s) :
    Does Try.prog 168 #[.slice ps ((s).length) cs, .func (.func fg) #[] fc.toArray] w emp (fun (rv : Value) (_ : World) => rv = .int .i64 ((slices_IndexFunc_Record s fq)) ∧ GoT.ok n ((slices_IndexFunc_Record s fq) : Int)) := by
  have hbP := bd_pos n
  have hbB := bd_big (n := n) (by omega)
  refine WX.enter (tt := tt) (Γ := [(0, MF.rs .stb ps cs s)]) Try.func168 rfl (by kernel_rfl) rfl (allS_cons rfl hps allS_nil) ?_
  refine WX.run ttOk rfl ?_
  have r1 : (s).length ≤ bd n := (okl hoks).1
  refine WX.loop (ι := Nat) ⟨fun i => (i ≤ (s).length) ∧ (slices_IndexFunc_Record_L1 fq s 0 = slices_IndexFunc_Record_L1 fq ((s).drop i) i), fun i => (s).length - i, fun i => [(8, .v (.int .i64 (((i : Nat) : Int)))), (7, .v (.int .i64 ((((s).length : Nat) : Int)))), (0, .v (.slice ps ((s).length) cs)), (1, .v (.func (.func fg) #[] fc.toArray))], fun i => [], fun i => [], fun i => [(0, MF.rs .stb ps cs s)]⟩ 0 ⟨(Nat.zero_le _), rfl⟩
    (.cons rfl (.cons rfl (.cons rfl (.cons rfl (.nil))))) .nil .nil [0] rfl ?_
  rintro i hpre
  have hpre_ : (i ≤ (s).length) ∧ (slices_IndexFunc_Record_L1 fq s 0 = slices_IndexFunc_Record_L1 fq ((s).drop i) i) := hpre
  clear hpre
  obtain ⟨v1, v2⟩ := hpre_
  refine WX.run ttOk rfl ?_
  refine WX.cases 9 rfl (fun h1 => ?_) (fun h1 => ?_)
  · skip
    have h1d := B.dt h1
    have e1i : i < (s).length := (by omega)
    obtain ⟨e1, e1h⟩ : ∃ e1, (s)[i]? = some e1 := ⟨_, List.getElem?_eq_getElem e1i⟩
    have ok1 : GoT.ok n e1 := (okl hoks).2 _ (List.mem_of_getElem? e1h)
    refine WX.run ttOk rfl ?_
    refine WX.idx 0 i ttOk rfl rfl rfl rfl rfl rfl rfl rfl rfl rfl e1i ?_
    rintro ad1 rfl
    refine WX.ldE 0 1 e1 ttOk rfl rfl rfl rfl rfl rfl rfl rfl e1h (fun _ => rfl) (fun _ => rfl) ?_
    rintro ⟨⟨⟩, ⟨⟨p1, c1⟩, ⟨p2, c2⟩, ⟨p3, c3⟩, ⟨⟩, ⟨⟩⟩⟩
    refine WX.callV rfl rfl rfl rfl rfl (fun _ => rfl) rfl (fun w G bs hI hΓ => ff w hI.keep e1 ((), ((p1, c1), (p2, c2), (p3, c3), (), ())) ok1 (All.cons (hΓ.get 1 rfl : RdSl _ _ _ _) (All.cons (hΓ.get 2 rfl : RdSl _ _ _ _) (All.cons (hΓ.get 3 rfl : RdSl _ _ _ _) All.nil)))) ?_
    intro hq1
    refine WX.run ttOk rfl ?_
    refine WX.cases 16 rfl (fun h2 => ?_) (fun h2 => ?_)
    · skip
      refine WX.run ttOk rfl ?_
      have hP1 : slices_IndexFunc_Record_L1 fq s 0 = (some ((i : Nat) : Int)) := by rw [v2, drop_get e1h]; simp only [slices_IndexFunc_Record_L1, h2, cond_true, cond_false]
      have hP2 : slices_IndexFunc_Record s fq = ((i : Nat) : Int) := by simp only [slices_IndexFunc_Record, hP1, cond_true, cond_false]
      refine WX.ret ttOk rfl ?_
      intro w1 G bs hI hΓ
      rw [hP2]
      exact ⟨rfl, (show I64 ((i : Nat) : Int) from (by unfold I64; omega))⟩
    · skip
      refine WX.run ttOk rfl ?_
      refine WX.see rfl rfl rfl (fun _ hΓ => looks_arith rfl rfl rfl rfl (by unfold I64; omega)) ?_
      refine WX.run ttOk rfl ?_
      exact WX.iter (i + 1) ⟨(by omega), (by rw [v2, drop_get e1h]; simp only [slices_IndexFunc_Record_L1, h2, cond_true, cond_false])⟩ (by dsimp only; omega) (.cons rfl (.cons rfl (.cons rfl (.cons rfl (.nil))))) .nil .nil [0] rfl
  · skip
    have h1d := B.df h1
    refine WX.run ttOk rfl ?_
    have hX1 : slices_IndexFunc_Record_L1 fq s 0 = none := by rw [v2, List.drop_eq_nil_of_le (show (s).length ≤ i by omega)]; simp only [slices_IndexFunc_Record_L1, cond_true, cond_false]
    have hP3 : slices_IndexFunc_Record s fq = (-1) := by simp only [slices_IndexFunc_Record, hX1, cond_true, cond_false]
    refine WX.ret ttOk rfl ?_
    intro w1 G bs hI hΓ
    rw [hP3]
    exact ⟨rfl, (show I64 (-1) from (by unfold I64; omega))⟩
theorem ltL_slices_IndexFunc_Record : ∀ (f : Record → Bool) (l : List Record) (i : Nat) (j : Int), slices_IndexFunc_Record_L1 f l i = some j → j < ((i + l.length : Nat) : Int)
  | f, [], i, j, h => by cases h
  | f, x :: l, i, j, h => by
    simp only [slices_IndexFunc_Record_L1] at h
    cases hx : f x
    · rw [hx, cond_false] at h
      have := ltL_slices_IndexFunc_Record f l (i + 1) j h
      simp only [List.length_cons]; omega
    · rw [hx, cond_true] at h
      cases h
      simp only [List.length_cons]; omega
theorem ltI_slices_IndexFunc_Record (l : List Record) (f : Record → Bool) : slices_IndexFunc_Record l f < ((l.length : Nat) : Int) := by
  unfold slices_IndexFunc_Record
  cases h : slices_IndexFunc_Record_L1 f l 0 with
  | none => show (-1 : Int) < _; omega
  | some j => have := ltL_slices_IndexFunc_Record f l 0 j h; show j < _; omega
theorem f158 (w : World) (n : Nat) (hn : n + 0 ≤ 9) (s : (List Record)) (ps : Option Addr) (cs : Nat) (hps : RdSl (hp w) ps cs s) (fg : FuncId) (fc : List Value) (fq : Record → Bool) (ff : ∀ w1, Kp emp w w1 → ∀ (e0 : Record) (x0 : GoT.X Record), GoT.ok n e0 → All (hp w1) (GoT.fa .der e0 x0) → Does Try.prog fg ([Value.agg ⟨GoT.sh e0 x0⟩] ++ fc).toArray w1 emp (fun rv _ => rv = .bool (fq e0) ∧ True)) (hoks : GoT.ok n s) :
    Does Try.prog 158 #[.slice ps ((s).length) cs, .func (.func fg) #[] fc.toArray] w emp (fun (rv : Value) (_ : World) => rv = .bool (slices_ContainsFunc_Record s fq) ∧ True) := by
  have hbP := bd_pos n
  have hbB := bd_big (n := n) (by omega)
  refine WX.enter (tt := tt) (Γ := [(0, MF.rs .stb ps cs s)]) Try.func158 rfl (by kernel_rfl) rfl (allS_cons rfl hps allS_nil) ?_
  refine WX.run ttOk rfl ?_
  refine WX.callV rfl rfl rfl rfl rfl (fun _ => rfl) rfl (fun w G bs hI hΓ => f168 w n (by omega) s ps cs (hΓ.get 0 rfl) fg fc fq (fun w1_ hb_ => ff w1_ (hI.keep.trans hb_)) hoks) ?_
  intro hq1
  have q1 := ltI_slices_IndexFunc_Record s fq
  refine WX.run ttOk rfl ?_
  have hP1 : slices_ContainsFunc_Record s fq = (decide ((slices_IndexFunc_Record s fq) ≥ 0)) := by simp only [slices_ContainsFunc_Record, cond_true, cond_false]
  refine WX.ret ttOk rfl ?_
  intro w1 G bs hI hΓ
  rw [hP1]
  exact ⟨rfl, trivial⟩
theorem f156 (w : World) (n : Nat) (hn : n + 0 ≤ 9) (r : Record) (prDataName : Option Addr) (crDataName : Nat) (hprDataName : RdSl (hp w) prDataName crDataName r.data.name.parts) (prDataContent : Option Addr) (crDataContent : Nat) (hprDataContent : RdSl (hp w) prDataContent crDataContent r.data.content) (prDataKeyName : Option Addr) (crDataKeyName : Nat) (hprDataKeyName : RdSl (hp w) prDataKeyName crDataKeyName r.data.keyName.parts) (hokr : GoT.ok n r) :
    Does Try.prog 156 #[.agg #[.int .i64 (r.kind), .slice prDataName ((r.data.name.parts).length) crDataName, .slice prDataContent ((r.data.content).length) crDataContent, .slice prDataKeyName ((r.data.keyName.parts).length) crDataKeyName, .int .i64 (r.data.freshUntil), .int .i64 (r.data.signature)]] w emp (fun (rv : Value) (_ : World) => rv = .bool (impl_ValidLog_c1 r) ∧ True) := by
  have hbP := bd_pos n
  have hbB := bd_big (n := n) (by omega)
  refine WX.enter (tt := tt) (Γ := [(0, MF.rs .stb prDataName crDataName r.data.name.parts), (1, MF.rs .stb prDataContent crDataContent r.data.content), (2, MF.rs .stb prDataKeyName crDataKeyName r.data.keyName.parts)]) Try.func156 rfl (by kernel_rfl) rfl (allS_cons rfl hprDataName (allS_cons rfl hprDataContent (allS_cons rfl hprDataKeyName allS_nil))) ?_
  refine WX.run ttOk rfl ?_
  refine WX.callV rfl rfl rfl rfl rfl (fun _ => rfl) rfl (fun w G bs hI hΓ => f157 w n (by omega) r prDataName crDataName (hΓ.get 0 rfl) prDataContent crDataContent (hΓ.get 1 rfl) prDataKeyName crDataKeyName (hΓ.get 2 rfl) hokr) ?_
  intro hq1
  refine WX.run ttOk rfl ?_
  have hP1 : impl_ValidLog_c1 r = (!(impl_ValidRecord r)) := by simp only [impl_ValidLog_c1, cond_true, cond_false]
  refine WX.ret ttOk rfl ?_
  intro w1 G bs hI hΓ
  rw [hP1]
  exact ⟨rfl, trivial⟩
theorem f146 (w : World) (n : Nat) (hn : n + 0 ≤ 9) (l : Log) (plDurable : Option Addr) (clDurable : Nat) (hplDurable : RdSl (hp w) plDurable clDurable l.durable) (plVolatile : Option Addr) (clVolatile : Nat) (hplVolatile : RdSl (hp w) plVolatile clVolatile l.volatile) (hokl : GoT.ok n l) :
    Does Try.prog 146 #[.agg #[.slice plDurable ((l.durable).length) clDurable, .slice plVolatile ((l.volatile).length) clVolatile]] w emp (fun (rv : Value) (_ : World) => rv = .bool (impl_ValidLog l) ∧ True) := by
  have hbP := bd_pos n
  have hbB := bd_big (n := n) (by omega)
  refine WX.enter (tt := tt) (Γ := [(0, MF.rs .stb plDurable clDurable l.durable), (1, MF.rs .stb plVolatile clVolatile l.volatile)]) Try.func146 rfl (by kernel_rfl) rfl (allS_cons rfl hplDurable (allS_cons rfl hplVolatile allS_nil)) ?_
  refine WX.run ttOk rfl ?_
  have r1 : (l.durable).length ≤ bd n := (okl (ok_Log hokl).1).1
  have r2 : (l.volatile).length ≤ bd n := (okl (ok_Log hokl).2).1
  refine WX.see rfl rfl rfl (fun _ hΓ => looks_arith rfl rfl rfl rfl (by unfold I64; omega)) ?_
  refine WX.run ttOk rfl ?_
  refine WX.cases 12 rfl (fun h1 => ?_) (fun h1 => ?_)
  · skip
    have h1d := B.dt h1
    refine WX.run ttOk rfl ?_
    refine WX.callV rfl rfl rfl rfl rfl (fun _ => rfl) rfl (fun w G bs hI hΓ => f158 w n (by omega) l.durable plDurable clDurable (hΓ.get 0 rfl) 156 [] (fun e0_ => (impl_ValidLog_c1 e0_)) (fun w1_ hb_ e0_ x0_ hk0_ hx0_ => f156 w1_ n (by omega) e0_ x0_.2.1.1 x0_.2.1.2 (hx0_ _ List.mem_cons_self) x0_.2.2.1.1 x0_.2.2.1.2 (hx0_ (MF.rs .der x0_.2.2.1.1 x0_.2.2.1.2 e0_.data.content) (by simp [GoT.fa])) x0_.2.2.2.1.1 x0_.2.2.2.1.2 (hx0_ (MF.rs .der x0_.2.2.2.1.1 x0_.2.2.2.1.2 e0_.data.keyName.parts) (by simp [GoT.fa])) hk0_) ((ok_Log hokl).1)) ?_
    intro hq1
    refine WX.run ttOk rfl ?_
    refine WX.cases 19 rfl (fun h2 => ?_) (fun h2 => ?_)
    · skip
      have h2d := (B.nt h2)
      refine WX.run ttOk rfl ?_
      refine WX.callV rfl rfl rfl rfl rfl (fun _ => rfl) rfl (fun w G bs hI hΓ => f158 w n (by omega) l.volatile plVolatile clVolatile (hΓ.get 1 rfl) 156 [] (fun e0_ => (impl_ValidLog_c1 e0_)) (fun w1_ hb_ e0_ x0_ hk0_ hx0_ => f156 w1_ n (by omega) e0_ x0_.2.1.1 x0_.2.1.2 (hx0_ _ List.mem_cons_self) x0_.2.2.1.1 x0_.2.2.1.2 (hx0_ (MF.rs .der x0_.2.2.1.1 x0_.2.2.1.2 e0_.data.content) (by simp [GoT.fa])) x0_.2.2.2.1.1 x0_.2.2.2.1.2 (hx0_ (MF.rs .der x0_.2.2.2.1.1 x0_.2.2.2.1.2 e0_.data.keyName.parts) (by simp [GoT.fa])) hk0_) ((ok_Log hokl).2)) ?_
      intro hq2
      refine WX.run ttOk rfl ?_
      have hP1 : impl_ValidLog l = (!(slices_ContainsFunc_Record l.volatile (fun e0_ => (impl_ValidLog_c1 e0_)))) := by simp only [impl_ValidLog, h1, h2, cond_true, cond_false]
      refine WX.ret ttOk rfl ?_
      intro w1 G bs hI hΓ
      rw [hP1]
      exact ⟨rfl, trivial⟩
    · skip
      have h2d := (B.nf h2)
      refine WX.run ttOk rfl ?_
      have hP2 : impl_ValidLog l = false := by simp only [impl_ValidLog, h1, h2, cond_true, cond_false]
      refine WX.ret ttOk rfl ?_
      intro w1 G bs hI hΓ
      rw [hP2]
      exact ⟨rfl, trivial⟩
  · skip
    have h1d := B.df h1
    refine WX.run ttOk rfl ?_
    have hP3 : impl_ValidLog l = false := by simp only [impl_ValidLog, h1, cond_true, cond_false]
    refine WX.ret ttOk rfl ?_
    intro w1 G bs hI hΓ
    rw [hP3]
    exact ⟨rfl, trivial⟩
theorem f139 (w : World) (n : Nat) (hn : n + 0 ≤ 9) (l : Log) (plDurable : Option Addr) (clDurable : Nat) (hplDurable : RdSl (hp w) plDurable clDurable l.durable) (plVolatile : Option Addr) (clVolatile : Nat) (hplVolatile : RdSl (hp w) plVolatile clVolatile l.volatile) (hokl : GoT.ok n l) :
    Does Try.prog 139 #[.agg #[.slice plDurable ((l.durable).length) clDurable, .slice plVolatile ((l.volatile).length) clVolatile]] w emp (fun (rv : Value) (_ : World) => rv = .bool (spec_ValidLog l) ∧ True) := by
  have hbP := bd_pos n
  have hbB := bd_big (n := n) (by omega)
  refine WX.enter (tt := tt) (Γ := [(0, MF.rs .stb plDurable clDurable l.durable), (1, MF.rs .stb plVolatile clVolatile l.volatile)]) Try.func139 rfl (by kernel_rfl) rfl (allS_cons rfl hplDurable (allS_cons rfl hplVolatile allS_nil)) ?_
  refine WX.run ttOk rfl ?_
  have r1 : (l.durable).length ≤ bd n := (okl (ok_Log hokl).1).1
  refine WX.loop (ι := Nat) ⟨fun i => (i ≤ (l.durable).length) ∧ (spec_ValidLog_L1 l.durable = spec_ValidLog_L1 ((l.durable).drop i)), fun i => (l.durable).length - i, fun i => [(3, .v (.int .i64 (((i : Nat) : Int)))), (1, .p 1 0)], fun i => [(1, ⟨58, [.slice plDurable ((l.durable).length) clDurable, .slice plVolatile ((l.volatile).length) clVolatile]⟩)], fun i => [], fun i => [(0, MF.rs .stb plDurable clDurable l.durable), (1, MF.rs .stb plVolatile clVolatile l.volatile)]⟩ 0 ⟨(Nat.zero_le _), rfl⟩
    (.cons rfl (.cons rfl (.nil))) (.cons rfl (.nil)) .nil [0, 1] rfl ?_
  rintro i hpre
  have hpre_ : (i ≤ (l.durable).length) ∧ (spec_ValidLog_L1 l.durable = spec_ValidLog_L1 ((l.durable).drop i)) := hpre
  clear hpre
  obtain ⟨v1, v2⟩ := hpre_
  refine WX.run ttOk rfl ?_
  refine WX.cases 9 rfl (fun h1 => ?_) (fun h1 => ?_)
  · skip
    have h1d := B.dt h1
    have e1i : i < (l.durable).length := (by omega)
    obtain ⟨e1, e1h⟩ : ∃ e1, (l.durable)[i]? = some e1 := ⟨_, List.getElem?_eq_getElem e1i⟩
    have ok1 : GoT.ok n e1 := (okl (ok_Log hokl).1).2 _ (List.mem_of_getElem? e1h)
    refine WX.run ttOk rfl ?_
    refine WX.idx 0 i ttOk rfl rfl rfl rfl rfl rfl rfl rfl rfl rfl e1i ?_
    rintro ad1 rfl
    refine WX.ldE 0 2 e1 ttOk rfl rfl rfl rfl rfl rfl rfl rfl e1h (fun _ => rfl) (fun _ => rfl) ?_
    rintro ⟨⟨⟩, ⟨⟨p1, c1⟩, ⟨p2, c2⟩, ⟨p3, c3⟩, ⟨⟩, ⟨⟩⟩⟩
    refine WX.callV rfl rfl rfl rfl rfl (fun _ => rfl) rfl (fun w G bs hI hΓ => f152 w n (by omega) e1 p1 c1 (hΓ.get 2 rfl) p2 c2 (hΓ.get 3 rfl) p3 c3 (hΓ.get 4 rfl) ok1) ?_
    intro hq1
    refine WX.run ttOk rfl ?_
    refine WX.cases 18 rfl (fun h2 => ?_) (fun h2 => ?_)
    · skip
      have h2d := (B.nt h2)
      refine WX.run ttOk rfl ?_
      have hP1 : spec_ValidLog_L1 l.durable = (some false) := by rw [v2, drop_get e1h]; simp only [spec_ValidLog_L1, h2, cond_true, cond_false]
      have hP2 : spec_ValidLog l = false := by simp only [spec_ValidLog, hP1, cond_true, cond_false]
      refine WX.ret ttOk rfl ?_
      intro w1 G bs hI hΓ
      rw [hP2]
      exact ⟨rfl, trivial⟩
    · skip
      have h2d := (B.nf h2)
      refine WX.run ttOk rfl ?_
      refine WX.see rfl rfl rfl (fun _ hΓ => looks_arith rfl rfl rfl rfl (by unfold I64; omega)) ?_
      refine WX.run ttOk rfl ?_
      exact WX.iter (i + 1) ⟨(by omega), (by rw [v2, drop_get e1h]; simp only [spec_ValidLog_L1, h2, cond_true, cond_false])⟩ (by dsimp only; omega) (.cons rfl (.cons rfl (.nil))) (.cons rfl (.nil)) .nil [0, 1] rfl
  · skip
    have h1d := B.df h1
    refine WX.run ttOk rfl ?_
    have hX1 : spec_ValidLog_L1 l.durable = none := by rw [v2, List.drop_eq_nil_of_le (show (l.durable).length ≤ i by omega)]; simp only [spec_ValidLog_L1, cond_true, cond_false]
    have r2 : (l.volatile).length ≤ bd n := (okl (ok_Log hokl).2).1
    refine WX.loop (ι := Nat) ⟨fun i => (i ≤ (l.volatile).length) ∧ (spec_ValidLog_L2 l.volatile = spec_ValidLog_L2 ((l.volatile).drop i)), fun i => (l.volatile).length - i, fun i => [(4, .v (.int .i64 (((i : Nat) : Int)))), (1, .p 1 0)], fun i => [(1, ⟨58, [.slice plDurable ((l.durable).length) clDurable, .slice plVolatile ((l.volatile).length) clVolatile]⟩)], fun i => [], fun i => [(0, MF.rs .stb plDurable clDurable l.durable), (1, MF.rs .stb plVolatile clVolatile l.volatile)]⟩ 0 ⟨(Nat.zero_le _), rfl⟩
      (.cons rfl (.cons rfl (.nil))) (.cons rfl (.nil)) .nil [0, 1] rfl ?_
    rintro i hpre
    have hpre_ : (i ≤ (l.volatile).length) ∧ (spec_ValidLog_L2 l.volatile = spec_ValidLog_L2 ((l.volatile).drop i)) := hpre
    clear hpre
    obtain ⟨v3, v4⟩ := hpre_
    refine WX.run ttOk rfl ?_
    refine WX.cases 23 rfl (fun h3 => ?_) (fun h3 => ?_)
    · skip
      have h3d := B.dt h3
      have e2i : i < (l.volatile).length := (by omega)
      obtain ⟨e2, e2h⟩ : ∃ e2, (l.volatile)[i]? = some e2 := ⟨_, List.getElem?_eq_getElem e2i⟩
      have ok2 : GoT.ok n e2 := (okl (ok_Log hokl).2).2 _ (List.mem_of_getElem? e2h)
      refine WX.run ttOk rfl ?_
      refine WX.idx 1 i ttOk rfl rfl rfl rfl rfl rfl rfl rfl rfl rfl e2i ?_
      rintro ad2 rfl
      refine WX.ldE 1 5 e2 ttOk rfl rfl rfl rfl rfl rfl rfl rfl e2h (fun _ => rfl) (fun _ => rfl) ?_
      rintro ⟨⟨⟩, ⟨⟨p4, c4⟩, ⟨p5, c5⟩, ⟨p6, c6⟩, ⟨⟩, ⟨⟩⟩⟩
      refine WX.callV rfl rfl rfl rfl rfl (fun _ => rfl) rfl (fun w G bs hI hΓ => f152 w n (by omega) e2 p4 c4 (hΓ.get 5 rfl) p5 c5 (hΓ.get 6 rfl) p6 c6 (hΓ.get 7 rfl) ok2) ?_
      intro hq2
      refine WX.run ttOk rfl ?_
      refine WX.cases 32 rfl (fun h4 => ?_) (fun h4 => ?_)
      · skip
        have h4d := (B.nt h4)
        refine WX.run ttOk rfl ?_
        have hP3 : spec_ValidLog_L2 l.volatile = (some false) := by rw [v4, drop_get e2h]; simp only [spec_ValidLog_L2, h4, cond_true, cond_false]
        have hP4 : spec_ValidLog l = false := by simp only [spec_ValidLog, hX1, hP3, cond_true, cond_false]
        refine WX.ret ttOk rfl ?_
        intro w1 G bs hI hΓ
        rw [hP4]
        exact ⟨rfl, trivial⟩
      · skip
        have h4d := (B.nf h4)
        refine WX.run ttOk rfl ?_
        refine WX.see rfl rfl rfl (fun _ hΓ => looks_arith rfl rfl rfl rfl (by unfold I64; omega)) ?_
        refine WX.run ttOk rfl ?_
        exact WX.iter (i + 1) ⟨(by omega), (by rw [v4, drop_get e2h]; simp only [spec_ValidLog_L2, h4, cond_true, cond_false])⟩ (by dsimp only; omega) (.cons rfl (.cons rfl (.nil))) (.cons rfl (.nil)) .nil [0, 1] rfl
    · skip
      have h3d := B.df h3
      refine WX.run ttOk rfl ?_
      have hX2 : spec_ValidLog_L2 l.volatile = none := by rw [v4, List.drop_eq_nil_of_le (show (l.volatile).length ≤ i by omega)]; simp only [spec_ValidLog_L2, cond_true, cond_false]
      refine WX.see rfl rfl rfl (fun _ hΓ => looks_arith rfl rfl rfl rfl (by unfold I64; omega)) ?_
      refine WX.run ttOk rfl ?_
      have hP5 : spec_ValidLog l = (decide ((((l.durable).length : Nat) : Int) + (((l.volatile).length : Nat) : Int) ≤ 40)) := by simp only [spec_ValidLog, hX1, hX2, cond_true, cond_false]
      refine WX.ret ttOk rfl ?_
      intro w1 G bs hI hΓ
      rw [hP5]
      exact ⟨rfl, trivial⟩
end Go.Proofs.Ytdkhklhnipiheaa
