/-
  DecodeVector: the law returns true at all arguments; conditions: those of the statement, no others. Written by a program (pack.py, mklaw2.py).
-/
import Derived.Carry
import Derived.ChangeArms
import Derived.ProofKit
import Derived.OpenShut
import Derived.JoinedCond
import Derived.Test.YtfffongneoegbaaKDecodeVector3
namespace Go.Proofs.Ytfffongneoegbaa
open Go.Stp
set_option linter.unusedVariables false
set_option linter.unusedSimpArgs false
theorem f37 (w : World) (n : Nat) (hn : n + 0 ≤ 9) (b : (List UInt8)) (pb : Option Addr) (cb : Nat) (hpb : RdSl (hp w) pb cb b) (at_ : Int) (hokb : GoT.ok n b) (hokat_ : GoT.ok n at_) :
    Does Try.prog 37 #[.slice pb ((b).length) cb, .int .i64 (at_)] w emp (fun (rv : Value) (_ : World) => rv = .tuple #[.int .i64 ((impl_ReadVarint b at_).1), .int .i64 ((impl_ReadVarint b at_).2.1), .bool ((impl_ReadVarint b at_).2.2)] ∧ GoT.ok n ((impl_ReadVarint b at_).1 : Int) ∧ GoT.ok n ((impl_ReadVarint b at_).2.1 : Int)) := by
  have hbP := bd_pos n
  have hbB := bd_big (n := n) (by omega)
  refine WX.enter (tt := tt) (Γ := [(0, MF.rs .stb pb cb b)]) Try.func37 rfl (by kernel_rfl) rfl (allS_cons rfl hpb allS_nil) ?_
  refine WX.run ttOk rfl ?_
  refine WX.cases 11 rfl (fun h1 => ?_) (fun h1 => ?_)
  · skip
    have h1d := B.dt h1
    refine WX.run ttOk rfl ?_
    have hP1 : impl_ReadVarint b at_ = (0, 0, false) := by simp only [impl_ReadVarint, h1, cond_true, cond_false]
    refine WX.ret ttOk rfl ?_
    intro w1 G bs hI hΓ
    rw [hP1]
    exact ⟨rfl, ⟨(show I64 0 from (by unfold I64; omega)), (show I64 0 from (by unfold I64; omega))⟩⟩
  · skip
    have h1d := B.df h1
    refine WX.run ttOk rfl ?_
    refine WX.loop (ι := Int × Int × Nat) ⟨fun | (at_2, n_, i) => (i ≤ 6) ∧ (-9223372036854775808 ≤ at_2 ∧ at_2 ≤ 9223372036854775807) ∧ (-9223372036854775808 ≤ n_ ∧ n_ ≤ 9223372036854775807) ∧ (0 ≤ at_2) ∧ (impl_ReadVarint_L1 b 6 0 at_ 0 = impl_ReadVarint_L1 b (6 - i) i at_2 n_), fun | (at_2, n_, i) => 6 - i, fun | (at_2, n_, i) => [(1, .v (.int .i64 (at_2))), (7, .v (.int .i64 (n_))), (8, .v (.int .i64 (((i : Nat) : Int)))), (0, .v (.slice pb ((b).length) cb))], fun | (at_2, n_, i) => [], fun | (at_2, n_, i) => [], fun | (at_2, n_, i) => [(0, MF.rs .stb pb cb b)]⟩ (at_, 0, 0) ⟨(Nat.zero_le _), hokat_, (by first | assumption | omega), (by omega), rfl⟩
      (.cons rfl (.cons rfl (.cons rfl (.cons rfl (.nil))))) .nil .nil [0] rfl ?_
    rintro ⟨at_2, n_, i⟩ hpre
    have hpre_ : (i ≤ 6) ∧ (-9223372036854775808 ≤ at_2 ∧ at_2 ≤ 9223372036854775807) ∧ (-9223372036854775808 ≤ n_ ∧ n_ ≤ 9223372036854775807) ∧ (0 ≤ at_2) ∧ (impl_ReadVarint_L1 b 6 0 at_ 0 = impl_ReadVarint_L1 b (6 - i) i at_2 n_) := hpre
    clear hpre
    obtain ⟨v1, v2, v3, v4, v5⟩ := hpre_
    have hb9 : b.length ≤ bd n := (okl hokb).1
    refine WX.run ttOk rfl ?_
    refine WX.cases 14 rfl (fun h2 => ?_) (fun h2 => ?_)
    · skip
      have h2d := B.dt h2
      refine WX.run ttOk rfl ?_
      refine WX.cases 19 rfl (fun h3 => ?_) (fun h3 => ?_)
      · skip
        have h3d := B.dt h3
        refine WX.run ttOk rfl ?_
        refine WX.slot 23 (y := .v (.int .i64 (((at_2).toNat : Nat) : Int))) rfl (fun _ => congrArg (Value.int .i64) (show at_2 = (((at_2).toNat : Nat) : Int) from by omega)) ?_
        have e1i : (at_2).toNat < (b).length := (by first | assumption | omega)
        obtain ⟨e1, e1h⟩ : ∃ e1, (b)[(at_2).toNat]? = some e1 := ⟨_, List.getElem?_eq_getElem e1i⟩
        refine WX.idx 0 ((at_2).toNat) ttOk rfl rfl rfl rfl rfl rfl rfl rfl rfl rfl e1i ?_
        rintro ad1 rfl
        refine WX.ldE 0 1 e1 ttOk rfl rfl rfl rfl rfl rfl rfl rfl e1h (fun _ => rfl) (fun _ => rfl) ?_
        rintro ⟨⟩
        refine WX.see rfl rfl rfl (fun _ hΓ => looks_ofU8 ttOk rfl rfl rfl rfl rfl rfl) ?_
        refine WX.run ttOk rfl ?_
        refine WX.see rfl rfl rfl (fun _ hΓ => looks_arith rfl rfl rfl rfl (by unfold I64; first | omega | (simp only [List.length_take, List.length_drop] at *; omega) | (dsimp only; omega))) ?_
        refine WX.run ttOk rfl ?_
        refine WX.see rfl rfl rfl (fun _ hΓ => looks_bits rfl rfl rfl rfl) ?_
        refine WX.run ttOk rfl ?_
        refine WX.see rfl rfl rfl (fun _ hΓ => looks_arith rfl rfl rfl rfl (by unfold I64; first | omega | (simp only [List.length_take, List.length_drop] at *; omega) | (dsimp only; omega))) ?_
        refine WX.see rfl rfl rfl (fun _ hΓ => looks_shl rfl rfl rfl (by omega)) ?_
        refine WX.see rfl rfl rfl (fun _ hΓ => looks_bits rfl rfl rfl rfl) ?_
        refine WX.run ttOk rfl ?_
        refine WX.cases 37 rfl (fun h4 => ?_) (fun h4 => ?_)
        · skip
          have h4d := B.dt h4
          refine WX.run ttOk rfl ?_
          refine WX.cases 40 rfl (fun h5 => ?_) (fun h5 => ?_)
          · skip
            have h5d := B.et h5
            refine WX.run ttOk rfl ?_
            refine WX.cases 44 rfl (fun h6 => ?_) (fun h6 => ?_)
            · skip
              have h6d := B.dt h6
              refine WX.run ttOk rfl ?_
              have hP2 : impl_ReadVarint_L1 b 6 0 at_ 0 = (Ctl.ret (0, 0, false)) := by rw [v5, show 6 - i = (6 - (i + 1)) + 1 by omega]; simp only [impl_ReadVarint_L1, h3, e1h, h4, h5, h6, cond_true, cond_false]
              have hP3 : impl_ReadVarint b at_ = (0, 0, false) := by simp only [impl_ReadVarint, h1, hP2, cond_true, cond_false]
              refine WX.ret ttOk rfl ?_
              intro w1 G bs hI hΓ
              rw [hP3]
              exact ⟨rfl, ⟨(show I64 0 from (by unfold I64; omega)), (show I64 0 from (by unfold I64; omega))⟩⟩
            · skip
              have h6d := B.df h6
              refine WX.run ttOk rfl ?_
              refine WX.cases 47 rfl (fun h7 => ?_) (fun h7 => ?_)
              · skip
                have h7d := B.dt h7
                refine WX.run ttOk rfl ?_
                have hP4 : impl_ReadVarint_L1 b 6 0 at_ 0 = (Ctl.ret (0, 0, false)) := by rw [v5, show 6 - i = (6 - (i + 1)) + 1 by omega]; simp only [impl_ReadVarint_L1, h3, e1h, h4, h5, h6, h7, cond_true, cond_false]
                have hP5 : impl_ReadVarint b at_ = (0, 0, false) := by simp only [impl_ReadVarint, h1, hP4, cond_true, cond_false]
                refine WX.ret ttOk rfl ?_
                intro w1 G bs hI hΓ
                rw [hP5]
                exact ⟨rfl, ⟨(show I64 0 from (by unfold I64; omega)), (show I64 0 from (by unfold I64; omega))⟩⟩
              · skip
                have h7d := B.df h7
                refine WX.run ttOk rfl ?_
                have hP6 : impl_ReadVarint_L1 b 6 0 at_ 0 = (Ctl.ret (bitO .or n_ (IntKind.i64.wrap ((bitO .and ((e1).toNat : Int) 127) * 2 ^ (min (Int.toNat (7 * ((i : Nat) : Int))) 64))), at_2 + 1, true)) := by rw [v5, show 6 - i = (6 - (i + 1)) + 1 by omega]; simp only [impl_ReadVarint_L1, h3, e1h, h4, h5, h6, h7, cond_true, cond_false]
                have hP7 : impl_ReadVarint b at_ = (bitO .or n_ (IntKind.i64.wrap ((bitO .and ((e1).toNat : Int) 127) * 2 ^ (min (Int.toNat (7 * ((i : Nat) : Int))) 64))), at_2 + 1, true) := by simp only [impl_ReadVarint, h1, hP6, cond_true, cond_false]
                refine WX.ret ttOk rfl ?_
                intro w1 G bs hI hΓ
                rw [hP7]
                exact ⟨rfl, ⟨(show I64 (bitO .or n_ (IntKind.i64.wrap ((bitO .and ((e1).toNat : Int) 127) * 2 ^ (min (Int.toNat (7 * ((i : Nat) : Int))) 64)))) from bitO_I64 _ _ _), (show I64 (at_2 + 1) from (by unfold I64; omega))⟩⟩
          · skip
            have h5d := B.ef h5
            refine WX.run ttOk rfl ?_
            refine WX.cases 47 rfl (fun h8 => ?_) (fun h8 => ?_)
            · skip
              have h8d := B.dt h8
              refine WX.run ttOk rfl ?_
              have hP8 : impl_ReadVarint_L1 b 6 0 at_ 0 = (Ctl.ret (0, 0, false)) := by rw [v5, show 6 - i = (6 - (i + 1)) + 1 by omega]; simp only [impl_ReadVarint_L1, h3, e1h, h4, h5, h8, cond_true, cond_false]
              have hP9 : impl_ReadVarint b at_ = (0, 0, false) := by simp only [impl_ReadVarint, h1, hP8, cond_true, cond_false]
              refine WX.ret ttOk rfl ?_
              intro w1 G bs hI hΓ
              rw [hP9]
              exact ⟨rfl, ⟨(show I64 0 from (by unfold I64; omega)), (show I64 0 from (by unfold I64; omega))⟩⟩
            · skip
              have h8d := B.df h8
              refine WX.run ttOk rfl ?_
              have hP10 : impl_ReadVarint_L1 b 6 0 at_ 0 = (Ctl.ret (bitO .or n_ (IntKind.i64.wrap ((bitO .and ((e1).toNat : Int) 127) * 2 ^ (min (Int.toNat (7 * ((i : Nat) : Int))) 64))), at_2 + 1, true)) := by rw [v5, show 6 - i = (6 - (i + 1)) + 1 by omega]; simp only [impl_ReadVarint_L1, h3, e1h, h4, h5, h8, cond_true, cond_false]
              have hP11 : impl_ReadVarint b at_ = (bitO .or n_ (IntKind.i64.wrap ((bitO .and ((e1).toNat : Int) 127) * 2 ^ (min (Int.toNat (7 * ((i : Nat) : Int))) 64))), at_2 + 1, true) := by simp only [impl_ReadVarint, h1, hP10, cond_true, cond_false]
              refine WX.ret ttOk rfl ?_
              intro w1 G bs hI hΓ
              rw [hP11]
              exact ⟨rfl, ⟨(show I64 (bitO .or n_ (IntKind.i64.wrap ((bitO .and ((e1).toNat : Int) 127) * 2 ^ (min (Int.toNat (7 * ((i : Nat) : Int))) 64)))) from bitO_I64 _ _ _), (show I64 (at_2 + 1) from (by unfold I64; omega))⟩⟩
        · skip
          have h4d := B.df h4
          refine WX.run ttOk rfl ?_
          refine WX.see rfl rfl rfl (fun _ hΓ => looks_arith rfl rfl rfl rfl (by unfold I64; first | omega | (simp only [List.length_take, List.length_drop] at *; omega) | (dsimp only; omega))) ?_
          refine WX.run ttOk rfl ?_
          exact WX.iter (at_2 + 1, bitO .or n_ (IntKind.i64.wrap ((bitO .and ((e1).toNat : Int) 127) * 2 ^ (min (Int.toNat (7 * ((i : Nat) : Int))) 64))), i + 1) ⟨(by omega), (by first | assumption | omega), (bitO_I64 _ _ _), (by omega), (by rw [v5, show 6 - i = (6 - (i + 1)) + 1 by omega]; simp only [impl_ReadVarint_L1, h3, e1h, h4, cond_true, cond_false])⟩ (by first | (dsimp only; omega) | omega) (.cons rfl (.cons rfl (.cons rfl (.cons rfl (.nil))))) .nil .nil [0] rfl
      · skip
        have h3d := B.df h3
        refine WX.run ttOk rfl ?_
        have hX1 : impl_ReadVarint_L1 b 6 0 at_ 0 = (Ctl.nxt (at_2, n_)) := by rw [v5, show 6 - i = (6 - (i + 1)) + 1 by omega]; simp only [impl_ReadVarint_L1, h3, cond_true, cond_false]
        have hP12 : impl_ReadVarint b at_ = (0, 0, false) := by simp only [impl_ReadVarint, h1, hX1, cond_true, cond_false]
        refine WX.ret ttOk rfl ?_
        intro w1 G bs hI hΓ
        rw [hP12]
        exact ⟨rfl, ⟨(show I64 0 from (by unfold I64; omega)), (show I64 0 from (by unfold I64; omega))⟩⟩
    · skip
      have h2d := B.df h2
      refine WX.run ttOk rfl ?_
      have hX2 : impl_ReadVarint_L1 b 6 0 at_ 0 = (Ctl.nxt (at_2, n_)) := by rw [v5, show 6 - i = 0 by omega]; simp only [impl_ReadVarint_L1, cond_true, cond_false]
      have hP13 : impl_ReadVarint b at_ = (0, 0, false) := by simp only [impl_ReadVarint, h1, hX2, cond_true, cond_false]
      refine WX.ret ttOk rfl ?_
      intro w1 G bs hI hΓ
      rw [hP13]
      exact ⟨rfl, ⟨(show I64 0 from (by unfold I64; omega)), (show I64 0 from (by unfold I64; omega))⟩⟩
theorem f35 (w : World) (n : Nat) (hn : n + 0 ≤ 9) (b : (List UInt8)) (pb : Option Addr) (cb : Nat) (hpb : RdSl (hp w) pb cb b) (at_ : Int) (hokb : GoT.ok n b) (hokat_ : GoT.ok n at_) :
    Does Try.prog 35 #[.slice pb ((b).length) cb, .int .i64 (at_)] w emp (fun (rv : Value) (_ : World) => rv = .tuple #[.int .i64 ((spec_ReadVarint b at_).1), .int .i64 ((spec_ReadVarint b at_).2.1), .bool ((spec_ReadVarint b at_).2.2)] ∧ GoT.ok n ((spec_ReadVarint b at_).1 : Int) ∧ GoT.ok n ((spec_ReadVarint b at_).2.1 : Int)) := by
  have hbP := bd_pos n
  have hbB := bd_big (n := n) (by omega)
  refine WX.enter (tt := tt) (Γ := [(0, MF.rs .stb pb cb b)]) Try.func35 rfl (by kernel_rfl) rfl (allS_cons rfl hpb allS_nil) ?_
  refine WX.run ttOk rfl ?_
  refine WX.loop (ι := Int × Nat) ⟨fun | (n_, i) => (i ≤ 6) ∧ (-9223372036854775808 ≤ n_ ∧ n_ ≤ 9223372036854775807) ∧ (spec_ReadVarint_L1 b at_ 6 0 0 = spec_ReadVarint_L1 b at_ (6 - i) i n_), fun | (n_, i) => 6 - i, fun | (n_, i) => [(7, .v (.int .i64 (n_))), (8, .v (.int .i64 (((i : Nat) : Int)))), (0, .v (.slice pb ((b).length) cb)), (1, .v (.int .i64 (at_)))], fun | (n_, i) => [], fun | (n_, i) => [], fun | (n_, i) => [(0, MF.rs .stb pb cb b)]⟩ (0, 0) ⟨(Nat.zero_le _), (by first | assumption | omega), rfl⟩
    (.cons rfl (.cons rfl (.cons rfl (.cons rfl (.nil))))) .nil .nil [0] rfl ?_
  rintro ⟨n_, i⟩ hpre
  have hpre_ : (i ≤ 6) ∧ (-9223372036854775808 ≤ n_ ∧ n_ ≤ 9223372036854775807) ∧ (spec_ReadVarint_L1 b at_ 6 0 0 = spec_ReadVarint_L1 b at_ (6 - i) i n_) := hpre
  clear hpre
  obtain ⟨v1, v2, v3⟩ := hpre_
  have hb9 : b.length ≤ bd n := (okl hokb).1
  refine WX.run ttOk rfl ?_
  refine WX.cases 11 rfl (fun h1 => ?_) (fun h1 => ?_)
  · skip
    have h1d := B.dt h1
    refine WX.run ttOk rfl ?_
    refine WX.cases 16 rfl (fun h2 => ?_) (fun h2 => ?_)
    · skip
      have h2d := B.dt h2
      refine WX.run ttOk rfl ?_
      have hP1 : spec_ReadVarint_L1 b at_ 6 0 0 = (Ctl.ret (0, 0, false)) := by rw [v3, show 6 - i = (6 - (i + 1)) + 1 by omega]; simp only [spec_ReadVarint_L1, h2, cond_true, cond_false]
      have hP2 : spec_ReadVarint b at_ = (0, 0, false) := by simp only [spec_ReadVarint, hP1, cond_true, cond_false]
      refine WX.ret ttOk rfl ?_
      intro w1 G bs hI hΓ
      rw [hP2]
      exact ⟨rfl, ⟨(show I64 0 from (by unfold I64; omega)), (show I64 0 from (by unfold I64; omega))⟩⟩
    · skip
      have h2d := B.df h2
      refine WX.run ttOk rfl ?_
      have r1 : (b).length ≤ bd n := (okl hokb).1
      refine WX.see rfl rfl rfl (fun _ hΓ => looks_arith rfl rfl rfl rfl (by unfold I64; first | omega | (simp only [List.length_take, List.length_drop] at *; omega) | (dsimp only; omega))) ?_
      refine WX.run ttOk rfl ?_
      refine WX.cases 23 rfl (fun h3 => ?_) (fun h3 => ?_)
      · skip
        have h3d := B.dt h3
        refine WX.run ttOk rfl ?_
        have hP3 : spec_ReadVarint_L1 b at_ 6 0 0 = (Ctl.ret (0, 0, false)) := by rw [v3, show 6 - i = (6 - (i + 1)) + 1 by omega]; simp only [spec_ReadVarint_L1, h2, h3, cond_true, cond_false]
        have hP4 : spec_ReadVarint b at_ = (0, 0, false) := by simp only [spec_ReadVarint, hP3, cond_true, cond_false]
        refine WX.ret ttOk rfl ?_
        intro w1 G bs hI hΓ
        rw [hP4]
        exact ⟨rfl, ⟨(show I64 0 from (by unfold I64; omega)), (show I64 0 from (by unfold I64; omega))⟩⟩
      · skip
        have h3d := B.df h3
        refine WX.run ttOk rfl ?_
        have r2 : -9223372036854775808 ≤ at_ ∧ at_ ≤ 9223372036854775807 := hokat_
        refine WX.see rfl rfl rfl (fun _ hΓ => looks_arith rfl rfl rfl rfl (by unfold I64; first | omega | (simp only [List.length_take, List.length_drop] at *; omega) | (dsimp only; omega))) ?_
        refine WX.slot 27 (y := .v (.int .i64 (((at_ + ((i : Nat) : Int)).toNat : Nat) : Int))) rfl (fun _ => congrArg (Value.int .i64) (show at_ + ((i : Nat) : Int) = (((at_ + ((i : Nat) : Int)).toNat : Nat) : Int) from by omega)) ?_
        have e1i : (at_ + ((i : Nat) : Int)).toNat < (b).length := (by first | assumption | omega)
        obtain ⟨e1, e1h⟩ : ∃ e1, (b)[(at_ + ((i : Nat) : Int)).toNat]? = some e1 := ⟨_, List.getElem?_eq_getElem e1i⟩
        refine WX.idx 0 ((at_ + ((i : Nat) : Int)).toNat) ttOk rfl rfl rfl rfl rfl rfl rfl rfl rfl rfl e1i ?_
        rintro ad1 rfl
        refine WX.ldE 0 1 e1 ttOk rfl rfl rfl rfl rfl rfl rfl rfl e1h (fun _ => rfl) (fun _ => rfl) ?_
        rintro ⟨⟩
        refine WX.see rfl rfl rfl (fun _ hΓ => looks_ofU8 ttOk rfl rfl rfl rfl rfl rfl) ?_
        refine WX.run ttOk rfl ?_
        refine WX.see rfl rfl rfl (fun _ hΓ => looks_bits rfl rfl rfl rfl) ?_
        refine WX.run ttOk rfl ?_
        refine WX.see rfl rfl rfl (fun _ hΓ => looks_arith rfl rfl rfl rfl (by unfold I64; first | omega | (simp only [List.length_take, List.length_drop] at *; omega) | (dsimp only; omega))) ?_
        refine WX.see rfl rfl rfl (fun _ hΓ => looks_shl rfl rfl rfl (by omega)) ?_
        refine WX.see rfl rfl rfl (fun _ hΓ => looks_bits rfl rfl rfl rfl) ?_
        refine WX.run ttOk rfl ?_
        refine WX.cases 39 rfl (fun h4 => ?_) (fun h4 => ?_)
        · skip
          have h4d := B.dt h4
          refine WX.run ttOk rfl ?_
          refine WX.cases 42 rfl (fun h5 => ?_) (fun h5 => ?_)
          · skip
            have h5d := B.et h5
            refine WX.run ttOk rfl ?_
            refine WX.cases 46 rfl (fun h6 => ?_) (fun h6 => ?_)
            · skip
              have h6d := B.dt h6
              refine WX.run ttOk rfl ?_
              have hP5 : spec_ReadVarint_L1 b at_ 6 0 0 = (Ctl.ret (0, 0, false)) := by rw [v3, show 6 - i = (6 - (i + 1)) + 1 by omega]; simp only [spec_ReadVarint_L1, h2, h3, e1h, h4, h5, h6, cond_true, cond_false]
              have hP6 : spec_ReadVarint b at_ = (0, 0, false) := by simp only [spec_ReadVarint, hP5, cond_true, cond_false]
              refine WX.ret ttOk rfl ?_
              intro w1 G bs hI hΓ
              rw [hP6]
              exact ⟨rfl, ⟨(show I64 0 from (by unfold I64; omega)), (show I64 0 from (by unfold I64; omega))⟩⟩
            · skip
              have h6d := B.df h6
              refine WX.run ttOk rfl ?_
              refine WX.cases 49 rfl (fun h7 => ?_) (fun h7 => ?_)
              · skip
                have h7d := B.dt h7
                refine WX.run ttOk rfl ?_
                have hP7 : spec_ReadVarint_L1 b at_ 6 0 0 = (Ctl.ret (0, 0, false)) := by rw [v3, show 6 - i = (6 - (i + 1)) + 1 by omega]; simp only [spec_ReadVarint_L1, h2, h3, e1h, h4, h5, h6, h7, cond_true, cond_false]
                have hP8 : spec_ReadVarint b at_ = (0, 0, false) := by simp only [spec_ReadVarint, hP7, cond_true, cond_false]
                refine WX.ret ttOk rfl ?_
                intro w1 G bs hI hΓ
                rw [hP8]
                exact ⟨rfl, ⟨(show I64 0 from (by unfold I64; omega)), (show I64 0 from (by unfold I64; omega))⟩⟩
              · skip
                have h7d := B.df h7
                refine WX.run ttOk rfl ?_
                refine WX.see rfl rfl rfl (fun _ hΓ => looks_arith rfl rfl rfl rfl (by unfold I64; first | omega | (simp only [List.length_take, List.length_drop] at *; omega) | (dsimp only; omega))) ?_
                refine WX.see rfl rfl rfl (fun _ hΓ => looks_arith rfl rfl rfl rfl (by unfold I64; first | omega | (simp only [List.length_take, List.length_drop] at *; omega) | (dsimp only; omega))) ?_
                refine WX.run ttOk rfl ?_
                have hP9 : spec_ReadVarint_L1 b at_ 6 0 0 = (Ctl.ret (bitO .or n_ (IntKind.i64.wrap ((bitO .and ((e1).toNat : Int) 127) * 2 ^ (min (Int.toNat (7 * ((i : Nat) : Int))) 64))), (at_ + ((i : Nat) : Int)) + 1, true)) := by rw [v3, show 6 - i = (6 - (i + 1)) + 1 by omega]; simp only [spec_ReadVarint_L1, h2, h3, e1h, h4, h5, h6, h7, cond_true, cond_false]
                have hP10 : spec_ReadVarint b at_ = (bitO .or n_ (IntKind.i64.wrap ((bitO .and ((e1).toNat : Int) 127) * 2 ^ (min (Int.toNat (7 * ((i : Nat) : Int))) 64))), (at_ + ((i : Nat) : Int)) + 1, true) := by simp only [spec_ReadVarint, hP9, cond_true, cond_false]
                refine WX.ret ttOk rfl ?_
                intro w1 G bs hI hΓ
                rw [hP10]
                exact ⟨rfl, ⟨(show I64 (bitO .or n_ (IntKind.i64.wrap ((bitO .and ((e1).toNat : Int) 127) * 2 ^ (min (Int.toNat (7 * ((i : Nat) : Int))) 64)))) from bitO_I64 _ _ _), (show I64 ((at_ + ((i : Nat) : Int)) + 1) from (by unfold I64; omega))⟩⟩
          · skip
            have h5d := B.ef h5
            refine WX.run ttOk rfl ?_
            refine WX.cases 49 rfl (fun h8 => ?_) (fun h8 => ?_)
            · skip
              have h8d := B.dt h8
              refine WX.run ttOk rfl ?_
              have hP11 : spec_ReadVarint_L1 b at_ 6 0 0 = (Ctl.ret (0, 0, false)) := by rw [v3, show 6 - i = (6 - (i + 1)) + 1 by omega]; simp only [spec_ReadVarint_L1, h2, h3, e1h, h4, h5, h8, cond_true, cond_false]
              have hP12 : spec_ReadVarint b at_ = (0, 0, false) := by simp only [spec_ReadVarint, hP11, cond_true, cond_false]
              refine WX.ret ttOk rfl ?_
              intro w1 G bs hI hΓ
              rw [hP12]
              exact ⟨rfl, ⟨(show I64 0 from (by unfold I64; omega)), (show I64 0 from (by unfold I64; omega))⟩⟩
            · skip
              have h8d := B.df h8
              refine WX.run ttOk rfl ?_
              refine WX.see rfl rfl rfl (fun _ hΓ => looks_arith rfl rfl rfl rfl (by unfold I64; first | omega | (simp only [List.length_take, List.length_drop] at *; omega) | (dsimp only; omega))) ?_
              refine WX.see rfl rfl rfl (fun _ hΓ => looks_arith rfl rfl rfl rfl (by unfold I64; first | omega | (simp only [List.length_take, List.length_drop] at *; omega) | (dsimp only; omega))) ?_
              refine WX.run ttOk rfl ?_
              have hP13 : spec_ReadVarint_L1 b at_ 6 0 0 = (Ctl.ret (bitO .or n_ (IntKind.i64.wrap ((bitO .and ((e1).toNat : Int) 127) * 2 ^ (min (Int.toNat (7 * ((i : Nat) : Int))) 64))), (at_ + ((i : Nat) : Int)) + 1, true)) := by rw [v3, show 6 - i = (6 - (i + 1)) + 1 by omega]; simp only [spec_ReadVarint_L1, h2, h3, e1h, h4, h5, h8, cond_true, cond_false]
              have hP14 : spec_ReadVarint b at_ = (bitO .or n_ (IntKind.i64.wrap ((bitO .and ((e1).toNat : Int) 127) * 2 ^ (min (Int.toNat (7 * ((i : Nat) : Int))) 64))), (at_ + ((i : Nat) : Int)) + 1, true) := by simp only [spec_ReadVarint, hP13, cond_true, cond_false]
              refine WX.ret ttOk rfl ?_
              intro w1 G bs hI hΓ
              rw [hP14]
              exact ⟨rfl, ⟨(show I64 (bitO .or n_ (IntKind.i64.wrap ((bitO .and ((e1).toNat : Int) 127) * 2 ^ (min (Int.toNat (7 * ((i : Nat) : Int))) 64)))) from bitO_I64 _ _ _), (show I64 ((at_ + ((i : Nat) : Int)) + 1) from (by unfold I64; omega))⟩⟩
        · skip
          have h4d := B.df h4
          refine WX.run ttOk rfl ?_
          refine WX.see rfl rfl rfl (fun _ hΓ => looks_arith rfl rfl rfl rfl (by unfold I64; first | omega | (simp only [List.length_take, List.length_drop] at *; omega) | (dsimp only; omega))) ?_
          refine WX.run ttOk rfl ?_
          exact WX.iter (bitO .or n_ (IntKind.i64.wrap ((bitO .and ((e1).toNat : Int) 127) * 2 ^ (min (Int.toNat (7 * ((i : Nat) : Int))) 64))), i + 1) ⟨(by omega), (bitO_I64 _ _ _), (by rw [v3, show 6 - i = (6 - (i + 1)) + 1 by omega]; simp only [spec_ReadVarint_L1, h2, h3, e1h, h4, cond_true, cond_false])⟩ (by first | (dsimp only; omega) | omega) (.cons rfl (.cons rfl (.cons rfl (.cons rfl (.nil))))) .nil .nil [0] rfl
  · skip
    have h1d := B.df h1
    refine WX.run ttOk rfl ?_
    have hX1 : spec_ReadVarint_L1 b at_ 6 0 0 = (Ctl.nxt n_) := by rw [v3, show 6 - i = 0 by omega]; simp only [spec_ReadVarint_L1, cond_true, cond_false]
    have hP15 : spec_ReadVarint b at_ = (0, 0, false) := by simp only [spec_ReadVarint, hX1, cond_true, cond_false]
    refine WX.ret ttOk rfl ?_
    intro w1 G bs hI hΓ
    rw [hP15]
    exact ⟨rfl, ⟨(show I64 0 from (by unfold I64; omega)), (show I64 0 from (by unfold I64; omega))⟩⟩
theorem f57 (w : World) (n : Nat) (hn : n + 0 ≤ 9) (b : (List UInt8)) (pb : Option Addr) (cb : Nat) (hpb : RdSl (hp w) pb cb b) (at_ : Int) (most : Int) (hokb : GoT.ok n b) (hokat_ : GoT.ok n at_) (hokmost : GoT.ok n most) :
    Does Try.prog 57 #[.slice pb ((b).length) cb, .int .i64 (at_), .int .i64 (most)] w emp (Post w emp (fun x : GoT.X ((List UInt8)) => .tuple #[(GoT.sh ((impl_ReadBytes b at_ most).1 : (List UInt8)) x).headD undef, .int .i64 ((impl_ReadBytes b at_ most).2.1), .bool ((impl_ReadBytes b at_ most).2.2)]) (fun x => GoT.oa ((impl_ReadBytes b at_ most).1 : (List UInt8)) x) (GoT.ok n ((impl_ReadBytes b at_ most).1 : (List UInt8)) ∧ GoT.ok n ((impl_ReadBytes b at_ most).2.1 : Int))) := by
  have hbP := bd_pos n
  have hbB := bd_big (n := n) (by omega)
  refine WX.enter (tt := tt) (Γ := [(0, MF.rs .stb pb cb b)]) Try.func57 rfl (by kernel_rfl) rfl (allS_cons rfl hpb allS_nil) ?_
  refine WX.run ttOk rfl ?_
  refine WX.callV rfl rfl rfl rfl rfl (fun _ => rfl) rfl (fun w G bs hI hΓ => f37 w n (by omega) b pb cb (hΓ.get 0 rfl) at_ hokb hokat_) ?_
  intro hq1
  have qv1 := rv_impl b at_
  refine WX.run ttOk rfl ?_
  refine WX.cases 21 rfl (fun h1 => ?_) (fun h1 => ?_)
  · skip
    have h1d := (B.nt h1)
    refine WX.run ttOk rfl ?_
    refine WX.free 1 (MF.os none 0 ([] : List UInt8)) (owSl_nil _ _) ?_
    have hP1 : impl_ReadBytes b at_ most = (([] : List UInt8), 0, false) := by simp only [impl_ReadBytes, h1, cond_true, cond_false]
    refine WX.ret ttOk rfl ?_
    intro w1 G bs hI hΓ
    rw [hP1]
    exact Post.of [1] (none, 0) hI hΓ rfl rfl rfl (⟨(ok_nil (α := UInt8)), (show I64 0 from (by unfold I64; omega))⟩)
  · skip
    have h1d := (B.nf h1)
    have hzh1 := qv1 h1d
    refine WX.run ttOk rfl ?_
    refine WX.cases 26 rfl (fun h2 => ?_) (fun h2 => ?_)
    · skip
      have h2d := B.dt h2
      refine WX.run ttOk rfl ?_
      refine WX.free 2 (MF.os none 0 ([] : List UInt8)) (owSl_nil _ _) ?_
      have hP2 : impl_ReadBytes b at_ most = (([] : List UInt8), 0, false) := by simp only [impl_ReadBytes, h1, h2, cond_true, cond_false]
      refine WX.ret ttOk rfl ?_
      intro w1 G bs hI hΓ
      rw [hP2]
      exact Post.of [2] (none, 0) hI hΓ rfl rfl rfl (⟨(ok_nil (α := UInt8)), (show I64 0 from (by unfold I64; omega))⟩)
    · skip
      have h2d := B.df h2
      refine WX.run ttOk rfl ?_
      have r1 : (b).length ≤ bd n := (okl hokb).1
      have r2 : -9223372036854775808 ≤ at_ ∧ at_ ≤ 9223372036854775807 := hokat_
      have r3 : -9223372036854775808 ≤ ((impl_ReadVarint b at_).2.1) ∧ ((impl_ReadVarint b at_).2.1) ≤ 9223372036854775807 := hq1.2
      refine WX.see rfl rfl rfl (fun _ hΓ => looks_arith rfl rfl rfl rfl (by have z_ := qv1 (by assumption); unfold I64; omega)) ?_
      refine WX.run ttOk rfl ?_
      refine WX.cases 33 rfl (fun h3 => ?_) (fun h3 => ?_)
      · skip
        have h3d := B.dt h3
        refine WX.run ttOk rfl ?_
        refine WX.free 3 (MF.os none 0 ([] : List UInt8)) (owSl_nil _ _) ?_
        have hP3 : impl_ReadBytes b at_ most = (([] : List UInt8), 0, false) := by simp only [impl_ReadBytes, h1, h2, h3, cond_true, cond_false]
        refine WX.ret ttOk rfl ?_
        intro w1 G bs hI hΓ
        rw [hP3]
        exact Post.of [3] (none, 0) hI hΓ rfl rfl rfl (⟨(ok_nil (α := UInt8)), (show I64 0 from (by unfold I64; omega))⟩)
      · skip
        have h3d := B.df h3
        refine WX.run ttOk rfl ?_
        have r4 : -9223372036854775808 ≤ ((impl_ReadVarint b at_).1) ∧ ((impl_ReadVarint b at_).1) ≤ 9223372036854775807 := hq1.1
        refine WX.see rfl rfl rfl (fun _ hΓ => looks_arith rfl rfl rfl rfl (by have z_ := qv1 (by assumption); unfold I64; omega)) ?_
        refine WX.see rfl rfl rfl (fun _ hΓ => looks_slB (Int.toNat ((impl_ReadVarint b at_).2.1)) (Int.toNat (((impl_ReadVarint b at_).2.1) + ((impl_ReadVarint b at_).1))) ttOk rfl rfl rfl rfl rfl (show (impl_ReadVarint b at_).2.1 = (((Int.toNat ((impl_ReadVarint b at_).2.1)) : Nat) : Int) from (by have z_ := qv1 (by assumption); omega)) (show ((impl_ReadVarint b at_).2.1) + ((impl_ReadVarint b at_).1) = (((Int.toNat (((impl_ReadVarint b at_).2.1) + ((impl_ReadVarint b at_).1))) : Nat) : Int) from (by have z_ := qv1 (by assumption); omega)) (show (Int.toNat ((impl_ReadVarint b at_).2.1)) ≤ (Int.toNat (((impl_ReadVarint b at_).2.1) + ((impl_ReadVarint b at_).1))) from (by have z_ := qv1 (by assumption); omega)) (Nat.le_trans (show (Int.toNat (((impl_ReadVarint b at_).2.1) + ((impl_ReadVarint b at_).1))) ≤ (b).length from (by have z_ := qv1 (by assumption); omega)) (hΓ.get 0 rfl : RdSl _ _ _ _).1)) ?_
        refine WX.slot 39 (y := .v (.slice (offP pb cb (Int.toNat ((impl_ReadVarint b at_).2.1)) 1) (((List.take ((Int.toNat (((impl_ReadVarint b at_).2.1) + ((impl_ReadVarint b at_).1))) - (Int.toNat ((impl_ReadVarint b at_).2.1))) (List.drop (Int.toNat ((impl_ReadVarint b at_).2.1)) b))).length) (cb - (Int.toNat ((impl_ReadVarint b at_).2.1))))) rfl (fun _ => by rw [show ((List.take ((Int.toNat (((impl_ReadVarint b at_).2.1) + ((impl_ReadVarint b at_).1))) - (Int.toNat ((impl_ReadVarint b at_).2.1))) (List.drop (Int.toNat ((impl_ReadVarint b at_).2.1)) b))).length = (Int.toNat (((impl_ReadVarint b at_).2.1) + ((impl_ReadVarint b at_).1))) - (Int.toNat ((impl_ReadVarint b at_).2.1)) from (by simp only [List.length_take, List.length_drop]; have z_ := (show (Int.toNat ((impl_ReadVarint b at_).2.1)) ≤ (Int.toNat (((impl_ReadVarint b at_).2.1) + ((impl_ReadVarint b at_).1))) from (by have z_ := qv1 (by assumption); omega)); have z2_ := (show (Int.toNat (((impl_ReadVarint b at_).2.1) + ((impl_ReadVarint b at_).1))) ≤ (b).length from (by have z_ := qv1 (by assumption); omega)); omega)]) ?_
        refine WX.der 4 (MF.rs .der (offP pb cb (Int.toNat ((impl_ReadVarint b at_).2.1)) 1) (cb - (Int.toNat ((impl_ReadVarint b at_).2.1))) (List.take ((Int.toNat (((impl_ReadVarint b at_).2.1) + ((impl_ReadVarint b at_).1))) - (Int.toNat ((impl_ReadVarint b at_).2.1))) (List.drop (Int.toNat ((impl_ReadVarint b at_).2.1)) b))) rfl (fun _ hΓ => RdSl.pre (RdSl.suf (hΓ.get 0 rfl : RdSl _ _ _ _) (Int.toNat ((impl_ReadVarint b at_).2.1))) ((Int.toNat (((impl_ReadVarint b at_).2.1) + ((impl_ReadVarint b at_).1))) - (Int.toNat ((impl_ReadVarint b at_).2.1)))) ?_
        refine WX.callF 5 (fun _ _ h => GoT.ow_rd h) (fun _ f hf => GoT.fak f hf) rfl rfl rfl rfl rfl (fun _ => rfl) rfl (fun w G bs hI hΓ => f51 w n (by omega) (List.take ((Int.toNat (((impl_ReadVarint b at_).2.1) + ((impl_ReadVarint b at_).1))) - (Int.toNat ((impl_ReadVarint b at_).2.1))) (List.drop (Int.toNat ((impl_ReadVarint b at_).2.1)) b)) (offP pb cb (Int.toNat ((impl_ReadVarint b at_).2.1)) 1) (cb - (Int.toNat ((impl_ReadVarint b at_).2.1))) (hΓ.get 4 rfl) (okl_mk (by first | assumption | omega | (simp only [List.length_append, List.length_cons, List.length_nil, List.length_set, List.length_map, List.length_take, List.length_drop]; omega) | (simp; omega)) (fun a ha => (okl hokb).2 a (List.mem_of_mem_drop (List.mem_of_mem_take ha))) : GoT.ok n ((List.take ((Int.toNat (((impl_ReadVarint b at_).2.1) + ((impl_ReadVarint b at_).1))) - (Int.toNat ((impl_ReadVarint b at_).2.1))) (List.drop (Int.toNat ((impl_ReadVarint b at_).2.1)) b)) : List UInt8))) (fun _ => rfl) (fun _ => rfl) ?_
        rintro ⟨p1, c1⟩ hq2
        refine WX.run ttOk rfl ?_
        refine WX.see rfl rfl rfl (fun _ hΓ => looks_arith rfl rfl rfl rfl (by have z_ := qv1 (by assumption); unfold I64; omega)) ?_
        refine WX.run ttOk rfl ?_
        have hP4 : impl_ReadBytes b at_ most = (List.take ((Int.toNat (((impl_ReadVarint b at_).2.1) + ((impl_ReadVarint b at_).1))) - (Int.toNat ((impl_ReadVarint b at_).2.1))) (List.drop (Int.toNat ((impl_ReadVarint b at_).2.1)) b), ((impl_ReadVarint b at_).2.1) + ((impl_ReadVarint b at_).1), true) := by simp only [impl_ReadBytes, h1, h2, h3, cond_true, cond_false]
        refine WX.ret ttOk rfl ?_
        intro w1 G bs hI hΓ
        rw [hP4]
        exact Post.of [6] (p1, c1) hI hΓ rfl rfl rfl (⟨hq2, (show I64 (((impl_ReadVarint b at_).2.1) + ((impl_ReadVarint b at_).1)) from (by unfold I64; omega))⟩)
theorem f56 (w : World) (n : Nat) (hn : n + 0 ≤ 9) (b : (List UInt8)) (pb : Option Addr) (cb : Nat) (hpb : RdSl (hp w) pb cb b) (at_ : Int) (most : Int) (hokb : GoT.ok n b) (hokat_ : GoT.ok n at_) (hokmost : GoT.ok n most) :
    Does Try.prog 56 #[.slice pb ((b).length) cb, .int .i64 (at_), .int .i64 (most)] w emp (Post w emp (fun x : GoT.X ((List UInt8)) => .tuple #[(GoT.sh ((spec_ReadBytes b at_ most).1 : (List UInt8)) x).headD undef, .int .i64 ((spec_ReadBytes b at_ most).2.1), .bool ((spec_ReadBytes b at_ most).2.2)]) (fun x => GoT.oa ((spec_ReadBytes b at_ most).1 : (List UInt8)) x) (GoT.ok n ((spec_ReadBytes b at_ most).1 : (List UInt8)) ∧ GoT.ok n ((spec_ReadBytes b at_ most).2.1 : Int))) := by
  have hbP := bd_pos n
  have hbB := bd_big (n := n) (by omega)
  refine WX.enter (tt := tt) (Γ := [(0, MF.rs .stb pb cb b)]) Try.func56 rfl (by kernel_rfl) rfl (allS_cons rfl hpb allS_nil) ?_
  refine WX.run ttOk rfl ?_
  refine WX.callV rfl rfl rfl rfl rfl (fun _ => rfl) rfl (fun w G bs hI hΓ => f35 w n (by omega) b pb cb (hΓ.get 0 rfl) at_ hokb hokat_) ?_
  intro hq1
  have qv1 := rv_spec b at_
  refine WX.run ttOk rfl ?_
  refine WX.cases 21 rfl (fun h1 => ?_) (fun h1 => ?_)
  · skip
    have h1d := (B.nt h1)
    refine WX.run ttOk rfl ?_
    refine WX.bld ttOk rfl rfl rfl rfl rfl rfl rfl ?_
    intro p1
    refine WX.run ttOk rfl ?_
    refine WX.free 1 (MF.ol [] ([] : List UInt8)) rfl ?_
    refine WX.seal 34 1 2 rfl rfl rfl rfl rfl ?_
    have hP1 : spec_ReadBytes b at_ most = (([]), 0, false) := by simp only [spec_ReadBytes, h1, cond_true, cond_false]
    refine WX.ret ttOk rfl ?_
    intro w1 G bs hI hΓ
    rw [hP1]
    exact Post.of [3] (p1, 0) hI hΓ rfl rfl rfl (⟨(okl_mk (Nat.zero_le _) (fun a ha => by cases ha) : GoT.ok n ([] : List UInt8)), (show I64 0 from (by unfold I64; omega))⟩)
  · skip
    have h1d := (B.nf h1)
    have hzh1 := qv1 h1d
    refine WX.run ttOk rfl ?_
    refine WX.cases 26 rfl (fun h2 => ?_) (fun h2 => ?_)
    · skip
      have h2d := B.dt h2
      refine WX.run ttOk rfl ?_
      refine WX.bld ttOk rfl rfl rfl rfl rfl rfl rfl ?_
      intro p2
      refine WX.run ttOk rfl ?_
      refine WX.free 4 (MF.ol [] ([] : List UInt8)) rfl ?_
      refine WX.seal 34 4 5 rfl rfl rfl rfl rfl ?_
      have hP2 : spec_ReadBytes b at_ most = (([]), 0, false) := by simp only [spec_ReadBytes, h1, h2, cond_true, cond_false]
      refine WX.ret ttOk rfl ?_
      intro w1 G bs hI hΓ
      rw [hP2]
      exact Post.of [6] (p2, 0) hI hΓ rfl rfl rfl (⟨(okl_mk (Nat.zero_le _) (fun a ha => by cases ha) : GoT.ok n ([] : List UInt8)), (show I64 0 from (by unfold I64; omega))⟩)
    · skip
      have h2d := B.df h2
      refine WX.run ttOk rfl ?_
      have r1 : (b).length ≤ bd n := (okl hokb).1
      have r2 : -9223372036854775808 ≤ at_ ∧ at_ ≤ 9223372036854775807 := hokat_
      have r3 : -9223372036854775808 ≤ ((spec_ReadVarint b at_).2.1) ∧ ((spec_ReadVarint b at_).2.1) ≤ 9223372036854775807 := hq1.2
      refine WX.see rfl rfl rfl (fun _ hΓ => looks_arith rfl rfl rfl rfl (by have z_ := qv1 (by assumption); unfold I64; omega)) ?_
      refine WX.run ttOk rfl ?_
      refine WX.cases 33 rfl (fun h3 => ?_) (fun h3 => ?_)
      · skip
        have h3d := B.dt h3
        refine WX.run ttOk rfl ?_
        refine WX.bld ttOk rfl rfl rfl rfl rfl rfl rfl ?_
        intro p3
        refine WX.run ttOk rfl ?_
        refine WX.free 7 (MF.ol [] ([] : List UInt8)) rfl ?_
        refine WX.seal 34 7 8 rfl rfl rfl rfl rfl ?_
        have hP3 : spec_ReadBytes b at_ most = (([]), 0, false) := by simp only [spec_ReadBytes, h1, h2, h3, cond_true, cond_false]
        refine WX.ret ttOk rfl ?_
        intro w1 G bs hI hΓ
        rw [hP3]
        exact Post.of [9] (p3, 0) hI hΓ rfl rfl rfl (⟨(okl_mk (Nat.zero_le _) (fun a ha => by cases ha) : GoT.ok n ([] : List UInt8)), (show I64 0 from (by unfold I64; omega))⟩)
      · skip
        have h3d := B.df h3
        refine WX.run ttOk rfl ?_
        refine WX.bld ttOk rfl rfl rfl rfl rfl rfl rfl ?_
        intro p4
        refine WX.run ttOk rfl ?_
        have r4 : -9223372036854775808 ≤ ((spec_ReadVarint b at_).1) ∧ ((spec_ReadVarint b at_).1) ≤ 9223372036854775807 := hq1.1
        refine WX.see rfl rfl rfl (fun _ hΓ => looks_arith rfl rfl rfl rfl (by have z_ := qv1 (by assumption); unfold I64; omega)) ?_
        refine WX.see rfl rfl rfl (fun _ hΓ => looks_slB (Int.toNat ((spec_ReadVarint b at_).2.1)) (Int.toNat (((spec_ReadVarint b at_).2.1) + ((spec_ReadVarint b at_).1))) ttOk rfl rfl rfl rfl rfl (show (spec_ReadVarint b at_).2.1 = (((Int.toNat ((spec_ReadVarint b at_).2.1)) : Nat) : Int) from (by have z_ := qv1 (by assumption); omega)) (show ((spec_ReadVarint b at_).2.1) + ((spec_ReadVarint b at_).1) = (((Int.toNat (((spec_ReadVarint b at_).2.1) + ((spec_ReadVarint b at_).1))) : Nat) : Int) from (by have z_ := qv1 (by assumption); omega)) (show (Int.toNat ((spec_ReadVarint b at_).2.1)) ≤ (Int.toNat (((spec_ReadVarint b at_).2.1) + ((spec_ReadVarint b at_).1))) from (by have z_ := qv1 (by assumption); omega)) (Nat.le_trans (show (Int.toNat (((spec_ReadVarint b at_).2.1) + ((spec_ReadVarint b at_).1))) ≤ (b).length from (by have z_ := qv1 (by assumption); omega)) (hΓ.get 0 rfl : RdSl _ _ _ _).1)) ?_
        refine WX.slot 41 (y := .v (.slice (offP pb cb (Int.toNat ((spec_ReadVarint b at_).2.1)) 1) (((List.take ((Int.toNat (((spec_ReadVarint b at_).2.1) + ((spec_ReadVarint b at_).1))) - (Int.toNat ((spec_ReadVarint b at_).2.1))) (List.drop (Int.toNat ((spec_ReadVarint b at_).2.1)) b))).length) (cb - (Int.toNat ((spec_ReadVarint b at_).2.1))))) rfl (fun _ => by rw [show ((List.take ((Int.toNat (((spec_ReadVarint b at_).2.1) + ((spec_ReadVarint b at_).1))) - (Int.toNat ((spec_ReadVarint b at_).2.1))) (List.drop (Int.toNat ((spec_ReadVarint b at_).2.1)) b))).length = (Int.toNat (((spec_ReadVarint b at_).2.1) + ((spec_ReadVarint b at_).1))) - (Int.toNat ((spec_ReadVarint b at_).2.1)) from (by simp only [List.length_take, List.length_drop]; have z_ := (show (Int.toNat ((spec_ReadVarint b at_).2.1)) ≤ (Int.toNat (((spec_ReadVarint b at_).2.1) + ((spec_ReadVarint b at_).1))) from (by have z_ := qv1 (by assumption); omega)); have z2_ := (show (Int.toNat (((spec_ReadVarint b at_).2.1) + ((spec_ReadVarint b at_).1))) ≤ (b).length from (by have z_ := qv1 (by assumption); omega)); omega)]) ?_
        refine WX.der 10 (MF.rs .der (offP pb cb (Int.toNat ((spec_ReadVarint b at_).2.1)) 1) (cb - (Int.toNat ((spec_ReadVarint b at_).2.1))) (List.take ((Int.toNat (((spec_ReadVarint b at_).2.1) + ((spec_ReadVarint b at_).1))) - (Int.toNat ((spec_ReadVarint b at_).2.1))) (List.drop (Int.toNat ((spec_ReadVarint b at_).2.1)) b))) rfl (fun _ hΓ => RdSl.pre (RdSl.suf (hΓ.get 0 rfl : RdSl _ _ _ _) (Int.toNat ((spec_ReadVarint b at_).2.1))) ((Int.toNat (((spec_ReadVarint b at_).2.1) + ((spec_ReadVarint b at_).1))) - (Int.toNat ((spec_ReadVarint b at_).2.1)))) ?_
        refine WX.free 11 (MF.ol [] ([] : List UInt8)) rfl ?_
        refine WX.appG1 35 10 12 ((List.take ((Int.toNat (((spec_ReadVarint b at_).2.1) + ((spec_ReadVarint b at_).1))) - (Int.toNat ((spec_ReadVarint b at_).2.1))) (List.drop (Int.toNat ((spec_ReadVarint b at_).2.1)) b)) : List UInt8).length ttOk rfl rfl rfl rfl rfl rfl rfl rfl rfl rfl rfl rfl rfl (by simp) (by first | assumption | omega | (simp only [List.length_append, List.length_cons, List.length_nil, List.length_set, List.length_map, List.length_take, List.length_drop]; omega) | (simp; omega)) (by first | assumption | omega | (simp only [List.length_append, List.length_cons, List.length_nil, List.length_set, List.length_map, List.length_take, List.length_drop]; omega) | (simp; omega)) (fun _ _ _ => rfl) ?_
        intro ys1 p5 c1
        refine WX.know (fun G hΓ => (hΓ.get 12 rfl : RdL _ _ _).flat) ?_
        intro hf1
        refine WX.turn [11] 13 rfl (fun h hs => ol_flat hs hf1) (gs := [MF.ol ([] ++ ys1) ((List.take ((Int.toNat (((spec_ReadVarint b at_).2.1) + ((spec_ReadVarint b at_).1))) - (Int.toNat ((spec_ReadVarint b at_).2.1))) (List.drop (Int.toNat ((spec_ReadVarint b at_).2.1)) b)) : List UInt8)]) rfl ?_
        refine WX.run ttOk rfl ?_
        refine WX.see rfl rfl rfl (fun _ hΓ => looks_arith rfl rfl rfl rfl (by have z_ := qv1 (by assumption); unfold I64; omega)) ?_
        refine WX.run ttOk rfl ?_
        refine WX.seal 35 13 14 rfl rfl rfl rfl rfl ?_
        have hP4 : spec_ReadBytes b at_ most = (List.take ((Int.toNat (((spec_ReadVarint b at_).2.1) + ((spec_ReadVarint b at_).1))) - (Int.toNat ((spec_ReadVarint b at_).2.1))) (List.drop (Int.toNat ((spec_ReadVarint b at_).2.1)) b), ((spec_ReadVarint b at_).2.1) + ((spec_ReadVarint b at_).1), true) := by simp only [spec_ReadBytes, h1, h2, h3, cond_true, cond_false]
        refine WX.ret ttOk rfl ?_
        intro w1 G bs hI hΓ
        rw [hP4]
        exact Post.of [15] (p5, c1) hI hΓ rfl rfl rfl (⟨(okl_mk (by first | assumption | omega | (simp only [List.length_append, List.length_cons, List.length_nil, List.length_set, List.length_map, List.length_take, List.length_drop]; omega) | (simp; omega)) (fun _ _ => trivial) : GoT.ok n ((List.take ((Int.toNat (((spec_ReadVarint b at_).2.1) + ((spec_ReadVarint b at_).1))) - (Int.toNat ((spec_ReadVarint b at_).2.1))) (List.drop (Int.toNat ((spec_ReadVarint b at_).2.1)) b)) : List UInt8)), (show I64 (((spec_ReadVarint b at_).2.1) + ((spec_ReadVarint b at_).1)) from (by unfold I64; omega))⟩)
theorem f38 (w : World) (n : Nat) (hn : n + 0 ≤ 9) (b : (List UInt8)) (pb : Option Addr) (cb : Nat) (hpb : RdSl (hp w) pb cb b) (at_ : Int) (hokb : GoT.ok n b) (hokat_ : GoT.ok n at_) :
    Does Try.prog 38 #[.slice pb ((b).length) cb, .int .i64 (at_)] w emp (Post w emp (fun x : GoT.X (Name) => .tuple #[.agg ⟨GoT.sh ((impl_ReadName b at_).1 : Name) x⟩, .int .i64 ((impl_ReadName b at_).2.1), .bool ((impl_ReadName b at_).2.2)]) (fun x => GoT.oa ((impl_ReadName b at_).1 : Name) x) (GoT.ok n ((impl_ReadName b at_).1 : Name) ∧ GoT.ok n ((impl_ReadName b at_).2.1 : Int))) := by
  have hbP := bd_pos n
  have hbB := bd_big (n := n) (by omega)
  refine WX.enter (tt := tt) (Γ := [(0, MF.rs .stb pb cb b)]) Try.func38 rfl (by kernel_rfl) rfl (allS_cons rfl hpb allS_nil) ?_
  refine WX.run ttOk rfl ?_
  refine WX.callV rfl rfl rfl rfl rfl (fun _ => rfl) rfl (fun w G bs hI hΓ => f37 w n (by omega) b pb cb (hΓ.get 0 rfl) at_ hokb hokat_) ?_
  intro hq1
  have qv1 := rv_impl b at_
  refine WX.run ttOk rfl ?_
  refine WX.cases 23 rfl (fun h1 => ?_) (fun h1 => ?_)
  · skip
    have h1d := (B.nt h1)
    refine WX.run ttOk rfl ?_
    refine WX.free 1 (MF.os none 0 ([] : List Str)) (owSl_nil _ _) ?_
    have hP1 : impl_ReadName b at_ = (Name.mk ([]), 0, false) := by simp only [impl_ReadName, h1, cond_true, cond_false]
    refine WX.ret ttOk rfl ?_
    intro w1 G bs hI hΓ
    rw [hP1]
    exact Post.of [1] (none, 0) hI hΓ rfl rfl rfl (⟨(ok_nil (α := Str)), (show I64 0 from (by unfold I64; omega))⟩)
  · skip
    have h1d := (B.nf h1)
    refine WX.run ttOk rfl ?_
    refine WX.cases 26 rfl (fun h2 => ?_) (fun h2 => ?_)
    · skip
      have h2d := B.dt h2
      refine WX.run ttOk rfl ?_
      refine WX.free 2 (MF.os none 0 ([] : List Str)) (owSl_nil _ _) ?_
      have hP2 : impl_ReadName b at_ = (Name.mk ([]), 0, false) := by simp only [impl_ReadName, h1, h2, cond_true, cond_false]
      refine WX.ret ttOk rfl ?_
      intro w1 G bs hI hΓ
      rw [hP2]
      exact Post.of [2] (none, 0) hI hΓ rfl rfl rfl (⟨(ok_nil (α := Str)), (show I64 0 from (by unfold I64; omega))⟩)
    · skip
      have h2d := B.df h2
      refine WX.run ttOk rfl ?_
      refine WX.row0 501 1 none rfl ?_
      refine WX.free 3 (MF.ol [] ([] : List Str)) rfl ?_
      have r1 : (b).length ≤ bd n := (okl hokb).1
      have r2 : -9223372036854775808 ≤ at_ ∧ at_ ≤ 9223372036854775807 := hokat_
      have r3 : -9223372036854775808 ≤ ((impl_ReadVarint b at_).1) ∧ ((impl_ReadVarint b at_).1) ≤ 9223372036854775807 := hq1.1
      refine WX.loop (ι := Int × Nat × (Option Addr) × Nat × (List Value) × (List Str)) ⟨fun | (next, i, pn_, cn_, xsn_, n_) => (i ≤ ((impl_ReadVarint b at_).1).toNat) ∧ (-9223372036854775808 ≤ next ∧ next ≤ 9223372036854775807) ∧ (∀ z_ ∈ n_, GoT.ok n z_) ∧ (n_.length ≤ i) ∧ (impl_ReadName_L1 b (((impl_ReadVarint b at_).1).toNat) ((impl_ReadVarint b at_).2.1) ([] : List Str) = impl_ReadName_L1 b (((impl_ReadVarint b at_).1).toNat - i) next n_), fun | (next, i, pn_, cn_, xsn_, n_) => ((impl_ReadVarint b at_).1).toNat - i, fun | (next, i, pn_, cn_, xsn_, n_) => [(8, .v (.int .i64 (next))), (30, .v (.int .i64 (((i : Nat) : Int)))), (29, .v (.int .i64 ((impl_ReadVarint b at_).1))), (10, .p 10 0), (4, .p 4 0), (0, .v (.slice pb ((b).length) cb))], fun | (next, i, pn_, cn_, xsn_, n_) => [(10, ⟨53, [.slice pn_ ((n_).length) cn_]⟩), (4, ⟨53, [.slice none (0) 0]⟩)], fun | (next, i, pn_, cn_, xsn_, n_) => [(501, ⟨1, pn_, (n_).length, cn_, xsn_⟩)], fun | (next, i, pn_, cn_, xsn_, n_) => [(0, MF.rs .stb pb cb b), (3, MF.ol xsn_ (n_ : List Str))]⟩ ((impl_ReadVarint b at_).2.1, 0, none, 0, [], ([] : List Str)) ⟨(Nat.zero_le _), hq1.2, (fun a ha => by cases ha), (by simp), rfl⟩
        (.cons rfl (.cons rfl (.cons rfl (.cons rfl (.cons rfl (.cons rfl (.nil))))))) (.cons rfl (.cons rfl (.nil))) (.cons rfl (.nil)) [0, 3] rfl ?_
      rintro ⟨next, i, pn_, cn_, xsn_, n_⟩ hpre
      have hpre_ : (i ≤ ((impl_ReadVarint b at_).1).toNat) ∧ (-9223372036854775808 ≤ next ∧ next ≤ 9223372036854775807) ∧ (∀ z_ ∈ n_, GoT.ok n z_) ∧ (n_.length ≤ i) ∧ (impl_ReadName_L1 b (((impl_ReadVarint b at_).1).toNat) ((impl_ReadVarint b at_).2.1) ([] : List Str) = impl_ReadName_L1 b (((impl_ReadVarint b at_).1).toNat - i) next n_) := hpre
      clear hpre
      obtain ⟨v1, v2, v3, v4, v5⟩ := hpre_
      refine WX.run ttOk rfl ?_
      refine WX.cases 31 rfl (fun h3 => ?_) (fun h3 => ?_)
      · skip
        have h3d := B.dt h3
        refine WX.run ttOk rfl ?_
        refine WX.callF 4 (fun _ _ h => GoT.ow_rd h) (fun _ f hf => GoT.fak f hf) rfl rfl rfl rfl rfl (fun _ => rfl) rfl (fun w G bs hI hΓ => f57 w n (by omega) b pb cb (hΓ.get 0 rfl) next 8 hokb v2 (show I64 8 from (by unfold I64; omega))) (fun _ => rfl) (fun _ => rfl) ?_
        rintro ⟨p1, c1⟩ hq2
        refine WX.run ttOk rfl ?_
        refine WX.cases 40 rfl (fun h4 => ?_) (fun h4 => ?_)
        · skip
          have h4d := (B.nt h4)
          refine WX.run ttOk rfl ?_
          refine WX.free 6 (MF.os none 0 ([] : List Str)) (owSl_nil _ _) ?_
          have hP3 : impl_ReadName_L1 b (((impl_ReadVarint b at_).1).toNat) ((impl_ReadVarint b at_).2.1) ([] : List Str) = (Ctl.ret (Name.mk ([]), 0, false)) := by rw [v5, show ((impl_ReadVarint b at_).1).toNat - i = (((impl_ReadVarint b at_).1).toNat - (i + 1)) + 1 by omega]; simp only [impl_ReadName_L1, h4, cond_true, cond_false]
          have hP4 : impl_ReadName b at_ = (Name.mk ([]), 0, false) := by simp only [impl_ReadName, h1, h2, hP3, cond_true, cond_false]
          refine WX.ret ttOk rfl ?_
          intro w1 G bs hI hΓ
          rw [hP4]
          exact Post.of [6] (none, 0) hI hΓ rfl rfl rfl (⟨(ok_nil (α := Str)), (show I64 0 from (by unfold I64; omega))⟩)
        · skip
          have h4d := (B.nf h4)
          refine WX.run ttOk rfl ?_
          refine WX.see rfl rfl rfl (fun _ hΓ => looks_toStr ttOk (hΓ.get 4 rfl) rfl rfl rfl rfl rfl rfl rfl rfl rfl) ?_
          refine WX.bld ttOk rfl rfl rfl rfl rfl rfl rfl ?_
          intro p2
          have r4 : (bstr ((impl_ReadBytes b next 8).1)).size = (((impl_ReadBytes b next 8).1)).length := bstr_size _
          have r5 : ((impl_ReadBytes b next 8).1).length ≤ bd n := (okl hq2.1).1
          refine WX.turn [] 7 rfl (fun h hs => ol_one (α := Str) (a := (bstr ((impl_ReadBytes b next 8).1))) (x := ()) hs) (gs := [MF.ol [.string (bstr ((impl_ReadBytes b next 8).1))] ([(bstr ((impl_ReadBytes b next 8).1))] : List Str)]) rfl ?_
          refine WX.know (fun G hΓ => (hΓ.get 7 rfl : OwL _ _ _).rd.one) ?_
          intro ho1
          refine WX.appR1 501 46 ((n_ ++ [(bstr ((impl_ReadBytes b next 8).1))]) : List Str).length ttOk rfl rfl rfl rfl rfl rfl rfl rfl rfl rfl rfl rfl rfl ho1 (by simp) (by simp; omega) (by simp; omega) (fun _ _ => rfl) ?_
          intro p3 c2
          refine WX.turn [3, 7] 8 rfl (fun h hs => ol_app hs) (gs := [MF.ol (xsn_ ++ [.string (bstr ((impl_ReadBytes b next 8).1))]) ((n_ ++ [(bstr ((impl_ReadBytes b next 8).1))]) : List Str)]) rfl ?_
          refine WX.run ttOk rfl ?_
          refine WX.see rfl rfl rfl (fun _ hΓ => looks_arith rfl rfl rfl rfl (by unfold I64; first | omega | (simp only [List.length_take, List.length_drop] at *; omega) | (dsimp only; omega))) ?_
          refine WX.run ttOk rfl ?_
          refine WX.turn [8] 3 rfl (fun _ h => h) rfl ?_
          exact WX.iter ((impl_ReadBytes b next 8).2.1, i + 1, p3, c2, (xsn_ ++ [.string (bstr ((impl_ReadBytes b next 8).1))]), ((n_ ++ [(bstr ((impl_ReadBytes b next 8).1))]) : List Str)) ⟨(by omega), hq2.2, (all_app v3 (all_cons (α := Str) (show ((bstr ((impl_ReadBytes b next 8).1))).size ≤ bd n from (by first | omega | (simp; omega))) (fun a ha => by cases ha))), (by first | assumption | omega | (simp only [List.length_append, List.length_cons, List.length_nil, List.length_set, List.length_map, List.length_take, List.length_drop]; omega) | (simp; omega)), (by rw [v5, show ((impl_ReadVarint b at_).1).toNat - i = (((impl_ReadVarint b at_).1).toNat - (i + 1)) + 1 by omega]; simp only [impl_ReadName_L1, h4, cond_true, cond_false])⟩ (by first | (dsimp only; omega) | omega) (.cons rfl (.cons rfl (.cons rfl (.cons rfl (.cons rfl (.cons rfl (.nil))))))) (.cons rfl (.cons rfl (.nil))) (.cons rfl (.nil)) [0, 3] rfl
      · skip
        have h3d := B.df h3
        refine WX.run ttOk rfl ?_
        have hX1 : impl_ReadName_L1 b (((impl_ReadVarint b at_).1).toNat) ((impl_ReadVarint b at_).2.1) ([] : List Str) = (Ctl.nxt (next, ((n_) : List Str))) := by rw [v5, show ((impl_ReadVarint b at_).1).toNat - i = 0 by omega]; simp only [impl_ReadName_L1, cond_true, cond_false]
        refine WX.seal 501 3 9 rfl rfl rfl rfl rfl ?_
        refine WX.callV rfl rfl rfl rfl rfl (fun _ => rfl) rfl (fun w G bs hI hΓ => f52 w n (by omega) (Name.mk n_) pn_ cn_ (hΓ.get 9 rfl) (okl_mk (by omega) v3 : GoT.ok n (n_ : List Str))) ?_
        intro hq3
        refine WX.run ttOk rfl ?_
        refine WX.cases 53 rfl (fun h5 => ?_) (fun h5 => ?_)
        · skip
          have h5d := (B.nt h5)
          refine WX.run ttOk rfl ?_
          refine WX.free 11 (MF.os none 0 ([] : List Str)) (owSl_nil _ _) ?_
          have hP5 : impl_ReadName b at_ = (Name.mk ([]), 0, false) := by simp only [impl_ReadName, h1, h2, hX1, h5, cond_true, cond_false]
          refine WX.ret ttOk rfl ?_
          intro w1 G bs hI hΓ
          rw [hP5]
          exact Post.of [11] (none, 0) hI hΓ rfl rfl rfl (⟨(ok_nil (α := Str)), (show I64 0 from (by unfold I64; omega))⟩)
        · skip
          have h5d := (B.nf h5)
          refine WX.run ttOk rfl ?_
          have hP6 : impl_ReadName b at_ = (Name.mk n_, next, true) := by simp only [impl_ReadName, h1, h2, hX1, h5, cond_true, cond_false]
          refine WX.ret ttOk rfl ?_
          intro w1 G bs hI hΓ
          rw [hP6]
          exact Post.of [10] (pn_, cn_) hI hΓ rfl rfl rfl (⟨(okl_mk (by omega) v3 : GoT.ok n (n_ : List Str)), v2⟩)
theorem f36 (w : World) (n : Nat) (hn : n + 0 ≤ 9) (b : (List UInt8)) (pb : Option Addr) (cb : Nat) (hpb : RdSl (hp w) pb cb b) (at_ : Int) (hokb : GoT.ok n b) (hokat_ : GoT.ok n at_) :
    Does Try.prog 36 #[.slice pb ((b).length) cb, .int .i64 (at_)] w emp (Post w emp (fun x : GoT.X (Name) => .tuple #[.agg ⟨GoT.sh ((spec_ReadName b at_).1 : Name) x⟩, .int .i64 ((spec_ReadName b at_).2.1), .bool ((spec_ReadName b at_).2.2)]) (fun x => GoT.oa ((spec_ReadName b at_).1 : Name) x) (GoT.ok n ((spec_ReadName b at_).1 : Name) ∧ GoT.ok n ((spec_ReadName b at_).2.1 : Int))) := by
  have hbP := bd_pos n
  have hbB := bd_big (n := n) (by omega)
  refine WX.enter (tt := tt) (Γ := [(0, MF.rs .stb pb cb b)]) Try.func36 rfl (by kernel_rfl) rfl (allS_cons rfl hpb allS_nil) ?_
  refine WX.run ttOk rfl ?_
  refine WX.callV rfl rfl rfl rfl rfl (fun _ => rfl) rfl (fun w G bs hI hΓ => f35 w n (by omega) b pb cb (hΓ.get 0 rfl) at_ hokb hokat_) ?_
  intro hq1
  have qv1 := rv_spec b at_
  refine WX.run ttOk rfl ?_
  refine WX.cases 24 rfl (fun h1 => ?_) (fun h1 => ?_)
  · skip
    have h1d := (B.nt h1)
    refine WX.run ttOk rfl ?_
    refine WX.free 1 (MF.os none 0 ([] : List Str)) (owSl_nil _ _) ?_
    have hP1 : spec_ReadName b at_ = (Name.mk ([]), 0, false) := by simp only [spec_ReadName, h1, cond_true, cond_false]
    refine WX.ret ttOk rfl ?_
    intro w1 G bs hI hΓ
    rw [hP1]
    exact Post.of [1] (none, 0) hI hΓ rfl rfl rfl (⟨(ok_nil (α := Str)), (show I64 0 from (by unfold I64; omega))⟩)
  · skip
    have h1d := (B.nf h1)
    refine WX.run ttOk rfl ?_
    refine WX.cases 27 rfl (fun h2 => ?_) (fun h2 => ?_)
    · skip
      have h2d := B.dt h2
      refine WX.run ttOk rfl ?_
      refine WX.free 2 (MF.os none 0 ([] : List Str)) (owSl_nil _ _) ?_
      have hP2 : spec_ReadName b at_ = (Name.mk ([]), 0, false) := by simp only [spec_ReadName, h1, h2, cond_true, cond_false]
      refine WX.ret ttOk rfl ?_
      intro w1 G bs hI hΓ
      rw [hP2]
      exact Post.of [2] (none, 0) hI hΓ rfl rfl rfl (⟨(ok_nil (α := Str)), (show I64 0 from (by unfold I64; omega))⟩)
    · skip
      have h2d := B.df h2
      refine WX.run ttOk rfl ?_
      refine WX.row0 501 1 none rfl ?_
      refine WX.free 3 (MF.ol [] ([] : List Str)) rfl ?_
      have r1 : (b).length ≤ bd n := (okl hokb).1
      have r2 : -9223372036854775808 ≤ at_ ∧ at_ ≤ 9223372036854775807 := hokat_
      have r3 : -9223372036854775808 ≤ ((spec_ReadVarint b at_).1) ∧ ((spec_ReadVarint b at_).1) ≤ 9223372036854775807 := hq1.1
      refine WX.loop (ι := Int × Nat × (Option Addr) × Nat × (List Value) × (List Str)) ⟨fun | (next, i, pn_, cn_, xsn_, n_) => (i ≤ ((spec_ReadVarint b at_).1).toNat) ∧ (-9223372036854775808 ≤ next ∧ next ≤ 9223372036854775807) ∧ (∀ z_ ∈ n_, GoT.ok n z_) ∧ (n_.length ≤ i) ∧ (spec_ReadName_L1 b (((spec_ReadVarint b at_).1).toNat) ((spec_ReadVarint b at_).2.1) ([] : List Str) = spec_ReadName_L1 b (((spec_ReadVarint b at_).1).toNat - i) next n_), fun | (next, i, pn_, cn_, xsn_, n_) => ((spec_ReadVarint b at_).1).toNat - i, fun | (next, i, pn_, cn_, xsn_, n_) => [(8, .v (.int .i64 (next))), (11, .v (.int .i64 (((i : Nat) : Int)))), (10, .p 10 0), (7, .v (.int .i64 ((spec_ReadVarint b at_).1))), (4, .p 4 0), (0, .v (.slice pb ((b).length) cb))], fun | (next, i, pn_, cn_, xsn_, n_) => [(10, ⟨53, [.slice pn_ ((n_).length) cn_]⟩), (4, ⟨53, [.slice none (0) 0]⟩)], fun | (next, i, pn_, cn_, xsn_, n_) => [(501, ⟨1, pn_, (n_).length, cn_, xsn_⟩)], fun | (next, i, pn_, cn_, xsn_, n_) => [(0, MF.rs .stb pb cb b), (3, MF.ol xsn_ (n_ : List Str))]⟩ ((spec_ReadVarint b at_).2.1, 0, none, 0, [], ([] : List Str)) ⟨(Nat.zero_le _), hq1.2, (fun a ha => by cases ha), (by simp), rfl⟩
        (.cons rfl (.cons rfl (.cons rfl (.cons rfl (.cons rfl (.cons rfl (.nil))))))) (.cons rfl (.cons rfl (.nil))) (.cons rfl (.nil)) [0, 3] rfl ?_
      rintro ⟨next, i, pn_, cn_, xsn_, n_⟩ hpre
      have hpre_ : (i ≤ ((spec_ReadVarint b at_).1).toNat) ∧ (-9223372036854775808 ≤ next ∧ next ≤ 9223372036854775807) ∧ (∀ z_ ∈ n_, GoT.ok n z_) ∧ (n_.length ≤ i) ∧ (spec_ReadName_L1 b (((spec_ReadVarint b at_).1).toNat) ((spec_ReadVarint b at_).2.1) ([] : List Str) = spec_ReadName_L1 b (((spec_ReadVarint b at_).1).toNat - i) next n_) := hpre
      clear hpre
      obtain ⟨v1, v2, v3, v4, v5⟩ := hpre_
      refine WX.run ttOk rfl ?_
      refine WX.cases 32 rfl (fun h3 => ?_) (fun h3 => ?_)
      · skip
        have h3d := B.dt h3
        refine WX.run ttOk rfl ?_
        refine WX.callF 4 (fun _ _ h => GoT.ow_rd h) (fun _ f hf => GoT.fak f hf) rfl rfl rfl rfl rfl (fun _ => rfl) rfl (fun w G bs hI hΓ => f56 w n (by omega) b pb cb (hΓ.get 0 rfl) next 8 hokb v2 (show I64 8 from (by unfold I64; omega))) (fun _ => rfl) (fun _ => rfl) ?_
        rintro ⟨p1, c1⟩ hq2
        refine WX.run ttOk rfl ?_
        refine WX.cases 43 rfl (fun h4 => ?_) (fun h4 => ?_)
        · skip
          have h4d := (B.nt h4)
          refine WX.run ttOk rfl ?_
          refine WX.free 6 (MF.os none 0 ([] : List Str)) (owSl_nil _ _) ?_
          have hP3 : spec_ReadName_L1 b (((spec_ReadVarint b at_).1).toNat) ((spec_ReadVarint b at_).2.1) ([] : List Str) = (Ctl.ret (Name.mk ([]), 0, false)) := by rw [v5, show ((spec_ReadVarint b at_).1).toNat - i = (((spec_ReadVarint b at_).1).toNat - (i + 1)) + 1 by omega]; simp only [spec_ReadName_L1, h4, cond_true, cond_false]
          have hP4 : spec_ReadName b at_ = (Name.mk ([]), 0, false) := by simp only [spec_ReadName, h1, h2, hP3, cond_true, cond_false]
          refine WX.ret ttOk rfl ?_
          intro w1 G bs hI hΓ
          rw [hP4]
          exact Post.of [6] (none, 0) hI hΓ rfl rfl rfl (⟨(ok_nil (α := Str)), (show I64 0 from (by unfold I64; omega))⟩)
        · skip
          have h4d := (B.nf h4)
          refine WX.run ttOk rfl ?_
          refine WX.see rfl rfl rfl (fun _ hΓ => looks_toStr ttOk (hΓ.get 4 rfl) rfl rfl rfl rfl rfl rfl rfl rfl rfl) ?_
          refine WX.bld ttOk rfl rfl rfl rfl rfl rfl rfl ?_
          intro p2
          have r4 : (bstr ((spec_ReadBytes b next 8).1)).size = (((spec_ReadBytes b next 8).1)).length := bstr_size _
          have r5 : ((spec_ReadBytes b next 8).1).length ≤ bd n := (okl hq2.1).1
          refine WX.turn [] 7 rfl (fun h hs => ol_one (α := Str) (a := (bstr ((spec_ReadBytes b next 8).1))) (x := ()) hs) (gs := [MF.ol [.string (bstr ((spec_ReadBytes b next 8).1))] ([(bstr ((spec_ReadBytes b next 8).1))] : List Str)]) rfl ?_
          refine WX.know (fun G hΓ => (hΓ.get 7 rfl : OwL _ _ _).rd.one) ?_
          intro ho1
          refine WX.appR1 501 49 ((n_ ++ [(bstr ((spec_ReadBytes b next 8).1))]) : List Str).length ttOk rfl rfl rfl rfl rfl rfl rfl rfl rfl rfl rfl rfl rfl ho1 (by simp) (by simp; omega) (by simp; omega) (fun _ _ => rfl) ?_
          intro p3 c2
          refine WX.turn [3, 7] 8 rfl (fun h hs => ol_app hs) (gs := [MF.ol (xsn_ ++ [.string (bstr ((spec_ReadBytes b next 8).1))]) ((n_ ++ [(bstr ((spec_ReadBytes b next 8).1))]) : List Str)]) rfl ?_
          refine WX.run ttOk rfl ?_
          refine WX.see rfl rfl rfl (fun _ hΓ => looks_arith rfl rfl rfl rfl (by unfold I64; first | omega | (simp only [List.length_take, List.length_drop] at *; omega) | (dsimp only; omega))) ?_
          refine WX.run ttOk rfl ?_
          refine WX.turn [8] 3 rfl (fun _ h => h) rfl ?_
          exact WX.iter ((spec_ReadBytes b next 8).2.1, i + 1, p3, c2, (xsn_ ++ [.string (bstr ((spec_ReadBytes b next 8).1))]), ((n_ ++ [(bstr ((spec_ReadBytes b next 8).1))]) : List Str)) ⟨(by omega), hq2.2, (all_app v3 (all_cons (α := Str) (show ((bstr ((spec_ReadBytes b next 8).1))).size ≤ bd n from (by first | omega | (simp; omega))) (fun a ha => by cases ha))), (by first | assumption | omega | (simp only [List.length_append, List.length_cons, List.length_nil, List.length_set, List.length_map, List.length_take, List.length_drop]; omega) | (simp; omega)), (by rw [v5, show ((spec_ReadVarint b at_).1).toNat - i = (((spec_ReadVarint b at_).1).toNat - (i + 1)) + 1 by omega]; simp only [spec_ReadName_L1, h4, cond_true, cond_false])⟩ (by first | (dsimp only; omega) | omega) (.cons rfl (.cons rfl (.cons rfl (.cons rfl (.cons rfl (.cons rfl (.nil))))))) (.cons rfl (.cons rfl (.nil))) (.cons rfl (.nil)) [0, 3] rfl
      · skip
        have h3d := B.df h3
        refine WX.run ttOk rfl ?_
        have hX1 : spec_ReadName_L1 b (((spec_ReadVarint b at_).1).toNat) ((spec_ReadVarint b at_).2.1) ([] : List Str) = (Ctl.nxt (next, ((n_) : List Str))) := by rw [v5, show ((spec_ReadVarint b at_).1).toNat - i = 0 by omega]; simp only [spec_ReadName_L1, cond_true, cond_false]
        refine WX.seal 501 3 9 rfl rfl rfl rfl rfl ?_
        refine WX.callV rfl rfl rfl rfl rfl (fun _ => rfl) rfl (fun w G bs hI hΓ => f44 w n (by omega) (Name.mk n_) pn_ cn_ (hΓ.get 9 rfl) (okl_mk (by omega) v3 : GoT.ok n (n_ : List Str))) ?_
        intro hq3
        refine WX.run ttOk rfl ?_
        refine WX.cases 55 rfl (fun h5 => ?_) (fun h5 => ?_)
        · skip
          have h5d := (B.nt h5)
          refine WX.run ttOk rfl ?_
          refine WX.free 11 (MF.os none 0 ([] : List Str)) (owSl_nil _ _) ?_
          have hP5 : spec_ReadName b at_ = (Name.mk ([]), 0, false) := by simp only [spec_ReadName, h1, h2, hX1, h5, cond_true, cond_false]
          refine WX.ret ttOk rfl ?_
          intro w1 G bs hI hΓ
          rw [hP5]
          exact Post.of [11] (none, 0) hI hΓ rfl rfl rfl (⟨(ok_nil (α := Str)), (show I64 0 from (by unfold I64; omega))⟩)
        · skip
          have h5d := (B.nf h5)
          refine WX.run ttOk rfl ?_
          have hP6 : spec_ReadName b at_ = (Name.mk n_, next, true) := by simp only [spec_ReadName, h1, h2, hX1, h5, cond_true, cond_false]
          refine WX.ret ttOk rfl ?_
          intro w1 G bs hI hΓ
          rw [hP6]
          exact Post.of [10] (pn_, cn_) hI hΓ rfl rfl rfl (⟨(okl_mk (by omega) v3 : GoT.ok n (n_ : List Str)), v2⟩)
end Go.Proofs.Ytfffongneoegbaa

namespace Go.Stp
set_option linter.unusedVariables false
set_option linter.unusedSimpArgs false
def impl_DecodeVector_L1 (b : (List UInt8)) : Nat → Int → (List TableEntry) → Ctl (StateVector × Bool) (Int × (List TableEntry))
  | 0, at_, v => (Ctl.nxt (at_, ((v) : List TableEntry)))
  | m_ + 1, at_, v =>
    bif (!((impl_ReadName b at_).2.2)) then
      (Ctl.ret ((StateVector.mk ([])), false))
    else
      bif (!((impl_ReadVarint b ((impl_ReadName b at_).2.1)).2.2)) then
        (Ctl.ret ((StateVector.mk ([])), false))
      else
        impl_DecodeVector_L1 b m_ ((impl_ReadVarint b ((impl_ReadName b at_).2.1)).2.1) (((v ++ [(TableEntry.mk ((impl_ReadName b at_).1) ((impl_ReadVarint b ((impl_ReadName b at_).2.1)).1))])) : List TableEntry)
def impl_DecodeVector (b : (List UInt8)) : StateVector × Bool :=
  bif (!((impl_ReadVarint b 0).2.2)) then
    ((StateVector.mk ([])), false)
  else
    bif decide ((impl_ReadVarint b 0).1 > 20) then
      ((StateVector.mk ([])), false)
    else
      match impl_DecodeVector_L1 b (((impl_ReadVarint b 0).1).toNat) ((impl_ReadVarint b 0).2.1) ([] : List TableEntry) with
        | .ret r_ => r_
        | .nxt (at_, v) =>
          bif (at_ != (((b).length : Nat) : Int)) then
            ((StateVector.mk ([])), false)
          else
            bif (!(impl_ValidVector (StateVector.mk v))) then
              ((StateVector.mk ([])), false)
            else
              ((StateVector.mk v), true)
def spec_DecodeVector_L1 (b : (List UInt8)) : Nat → Int → (List TableEntry) → Ctl (StateVector × Bool) (Int × (List TableEntry))
  | 0, at_, v => (Ctl.nxt (at_, ((v) : List TableEntry)))
  | m_ + 1, at_, v =>
    bif (!((spec_ReadName b at_).2.2)) then
      (Ctl.ret ((StateVector.mk ([])), false))
    else
      bif (!((spec_ReadVarint b ((spec_ReadName b at_).2.1)).2.2)) then
        (Ctl.ret ((StateVector.mk ([])), false))
      else
        spec_DecodeVector_L1 b m_ ((spec_ReadVarint b ((spec_ReadName b at_).2.1)).2.1) (((v ++ [(TableEntry.mk ((spec_ReadName b at_).1) ((spec_ReadVarint b ((spec_ReadName b at_).2.1)).1))])) : List TableEntry)
def spec_DecodeVector (b : (List UInt8)) : StateVector × Bool :=
  bif (!((spec_ReadVarint b 0).2.2)) then
    ((StateVector.mk ([])), false)
  else
    bif decide ((spec_ReadVarint b 0).1 > 20) then
      ((StateVector.mk ([])), false)
    else
      match spec_DecodeVector_L1 b (((spec_ReadVarint b 0).1).toNat) ((spec_ReadVarint b 0).2.1) ([] : List TableEntry) with
        | .ret r_ => r_
        | .nxt (at_, v) =>
          bif (at_ != (((b).length : Nat) : Int)) then
            ((StateVector.mk ([])), false)
          else
            bif (!(spec_ValidVector (StateVector.mk v))) then
              ((StateVector.mk ([])), false)
            else
              ((StateVector.mk v), true)
end Go.Stp

namespace Go.Proofs.Ytfffongneoegbaa
open Go.Stp
set_option linter.unusedVariables false
set_option linter.unusedSimpArgs false
theorem f21 (w : World) (n : Nat) (hn : n + 0 ≤ 9) (b : (List UInt8)) (pb : Option Addr) (cb : Nat) (hpb : RdSl (hp w) pb cb b) (hokb : GoT.ok n b) :
    Does Try.prog 21 #[.slice pb ((b).length) cb] w emp (Post w emp (fun x : GoT.X (StateVector) => .tuple #[.agg ⟨GoT.sh ((impl_DecodeVector b).1 : StateVector) x⟩, .bool ((impl_DecodeVector b).2)]) (fun x => GoT.oa ((impl_DecodeVector b).1 : StateVector) x) (GoT.ok n ((impl_DecodeVector b).1 : StateVector))) := by
  have hbP := bd_pos n
  have hbB := bd_big (n := n) (by omega)
  refine WX.enter (tt := tt) (Γ := [(0, MF.rs .stb pb cb b)]) Try.func21 rfl (by kernel_rfl) rfl (allS_cons rfl hpb allS_nil) ?_
  refine WX.run ttOk rfl ?_
  refine WX.callV rfl rfl rfl rfl rfl (fun _ => rfl) rfl (fun w G bs hI hΓ => f37 w n (by omega) b pb cb (hΓ.get 0 rfl) 0 hokb (show I64 0 from (by unfold I64; omega))) ?_
  intro hq1
  have qv1 := rv_impl b 0
  refine WX.run ttOk rfl ?_
  refine WX.cases 22 rfl (fun h1 => ?_) (fun h1 => ?_)
  · skip
    have h1d := (B.nt h1)
    refine WX.run ttOk rfl ?_
    refine WX.free 1 (MF.os none 0 ([] : List TableEntry)) (owSl_nil _ _) ?_
    have hP1 : impl_DecodeVector b = (StateVector.mk ([]), false) := by simp only [impl_DecodeVector, h1, cond_true, cond_false]
    refine WX.ret ttOk rfl ?_
    intro w1 G bs hI hΓ
    rw [hP1]
    exact Post.of [1] (none, 0) hI hΓ rfl rfl rfl (ok_nil (α := TableEntry))
  · skip
    have h1d := (B.nf h1)
    refine WX.run ttOk rfl ?_
    refine WX.cases 25 rfl (fun h2 => ?_) (fun h2 => ?_)
    · skip
      have h2d := B.dt h2
      refine WX.run ttOk rfl ?_
      refine WX.free 2 (MF.os none 0 ([] : List TableEntry)) (owSl_nil _ _) ?_
      have hP2 : impl_DecodeVector b = (StateVector.mk ([]), false) := by simp only [impl_DecodeVector, h1, h2, cond_true, cond_false]
      refine WX.ret ttOk rfl ?_
      intro w1 G bs hI hΓ
      rw [hP2]
      exact Post.of [2] (none, 0) hI hΓ rfl rfl rfl (ok_nil (α := TableEntry))
    · skip
      have h2d := B.df h2
      refine WX.run ttOk rfl ?_
      refine WX.row0 501 2 none rfl ?_
      refine WX.free 3 (MF.ol [] ([] : List TableEntry)) rfl ?_
      have r1 : (b).length ≤ bd n := (okl hokb).1
      have r2 : -9223372036854775808 ≤ ((impl_ReadVarint b 0).1) ∧ ((impl_ReadVarint b 0).1) ≤ 9223372036854775807 := hq1.1
      refine WX.loop (ι := Int × Nat × (Option Addr) × Nat × (List Value) × (List TableEntry)) ⟨fun | (at_, i, pv, cv, xsv, v) => (i ≤ ((impl_ReadVarint b 0).1).toNat) ∧ (-9223372036854775808 ≤ at_ ∧ at_ ≤ 9223372036854775807) ∧ (∀ z_ ∈ v, GoT.ok n z_) ∧ (v.length ≤ i) ∧ (impl_DecodeVector_L1 b (((impl_ReadVarint b 0).1).toNat) ((impl_ReadVarint b 0).2.1) ([] : List TableEntry) = impl_DecodeVector_L1 b (((impl_ReadVarint b 0).1).toNat - i) at_ v), fun | (at_, i, pv, cv, xsv, v) => ((impl_ReadVarint b 0).1).toNat - i, fun | (at_, i, pv, cv, xsv, v) => [(5, .v (.int .i64 (at_))), (29, .v (.int .i64 (((i : Nat) : Int)))), (28, .v (.int .i64 ((impl_ReadVarint b 0).1))), (7, .p 7 0), (2, .p 2 0), (0, .v (.slice pb ((b).length) cb))], fun | (at_, i, pv, cv, xsv, v) => [(7, ⟨35, [.slice pv ((v).length) cv]⟩), (2, ⟨35, [.slice none (0) 0]⟩)], fun | (at_, i, pv, cv, xsv, v) => [(501, ⟨2, pv, (v).length, cv, xsv⟩)], fun | (at_, i, pv, cv, xsv, v) => [(0, MF.rs .stb pb cb b), (3, MF.ol xsv (v : List TableEntry))]⟩ ((impl_ReadVarint b 0).2.1, 0, none, 0, [], ([] : List TableEntry)) ⟨(Nat.zero_le _), hq1.2, (fun a ha => by cases ha), (by simp), rfl⟩
        (.cons rfl (.cons rfl (.cons rfl (.cons rfl (.cons rfl (.cons rfl (.nil))))))) (.cons rfl (.cons rfl (.nil))) (.cons rfl (.nil)) [0, 3] rfl ?_
      rintro ⟨at_, i, pv, cv, xsv, v⟩ hpre
      have hpre_ : (i ≤ ((impl_ReadVarint b 0).1).toNat) ∧ (-9223372036854775808 ≤ at_ ∧ at_ ≤ 9223372036854775807) ∧ (∀ z_ ∈ v, GoT.ok n z_) ∧ (v.length ≤ i) ∧ (impl_DecodeVector_L1 b (((impl_ReadVarint b 0).1).toNat) ((impl_ReadVarint b 0).2.1) ([] : List TableEntry) = impl_DecodeVector_L1 b (((impl_ReadVarint b 0).1).toNat - i) at_ v) := hpre
      clear hpre
      obtain ⟨v1, v2, v3, v4, v5⟩ := hpre_
      refine WX.run ttOk rfl ?_
      refine WX.cases 30 rfl (fun h3 => ?_) (fun h3 => ?_)
      · skip
        have h3d := B.dt h3
        refine WX.run ttOk rfl ?_
        refine WX.callF 4 (fun _ _ h => GoT.ow_rd h) (fun _ f hf => GoT.fak f hf) rfl rfl rfl rfl rfl (fun _ => rfl) rfl (fun w G bs hI hΓ => f38 w n (by omega) b pb cb (hΓ.get 0 rfl) at_ hokb v2) (fun _ => rfl) (fun _ => rfl) ?_
        rintro ⟨p1, c1⟩ hq2
        refine WX.run ttOk rfl ?_
        refine WX.callV rfl rfl rfl rfl rfl (fun _ => rfl) rfl (fun w G bs hI hΓ => f37 w n (by omega) b pb cb (hΓ.get 0 rfl) ((impl_ReadName b at_).2.1) hokb hq2.2) ?_
        intro hq3
        have qv2 := rv_impl b ((impl_ReadName b at_).2.1)
        refine WX.run ttOk rfl ?_
        refine WX.cases 47 rfl (fun h4 => ?_) (fun h4 => ?_)
        · skip
          have h4d := (B.nt h4)
          refine WX.run ttOk rfl ?_
          refine WX.free 6 (MF.os none 0 ([] : List TableEntry)) (owSl_nil _ _) ?_
          have hP3 : impl_DecodeVector_L1 b (((impl_ReadVarint b 0).1).toNat) ((impl_ReadVarint b 0).2.1) ([] : List TableEntry) = (Ctl.ret (StateVector.mk ([]), false)) := by rw [v5, show ((impl_ReadVarint b 0).1).toNat - i = (((impl_ReadVarint b 0).1).toNat - (i + 1)) + 1 by omega]; simp only [impl_DecodeVector_L1, h4, cond_true, cond_false]
          have hP4 : impl_DecodeVector b = (StateVector.mk ([]), false) := by simp only [impl_DecodeVector, h1, h2, hP3, cond_true, cond_false]
          refine WX.ret ttOk rfl ?_
          intro w1 G bs hI hΓ
          rw [hP4]
          exact Post.of [6] (none, 0) hI hΓ rfl rfl rfl (ok_nil (α := TableEntry))
        · skip
          have h4d := (B.nf h4)
          refine WX.run ttOk rfl ?_
          refine WX.cases 50 rfl (fun h5 => ?_) (fun h5 => ?_)
          · skip
            have h5d := (B.nt h5)
            refine WX.run ttOk rfl ?_
            refine WX.free 7 (MF.os none 0 ([] : List TableEntry)) (owSl_nil _ _) ?_
            have hP5 : impl_DecodeVector_L1 b (((impl_ReadVarint b 0).1).toNat) ((impl_ReadVarint b 0).2.1) ([] : List TableEntry) = (Ctl.ret (StateVector.mk ([]), false)) := by rw [v5, show ((impl_ReadVarint b 0).1).toNat - i = (((impl_ReadVarint b 0).1).toNat - (i + 1)) + 1 by omega]; simp only [impl_DecodeVector_L1, h4, h5, cond_true, cond_false]
            have hP6 : impl_DecodeVector b = (StateVector.mk ([]), false) := by simp only [impl_DecodeVector, h1, h2, hP5, cond_true, cond_false]
            refine WX.ret ttOk rfl ?_
            intro w1 G bs hI hΓ
            rw [hP6]
            exact Post.of [7] (none, 0) hI hΓ rfl rfl rfl (ok_nil (α := TableEntry))
          · skip
            have h5d := (B.nf h5)
            refine WX.run ttOk rfl ?_
            refine WX.bld ttOk rfl rfl rfl rfl rfl rfl rfl ?_
            intro p2
            refine WX.turn [5] 8 rfl (fun h hs => ol_one (α := TableEntry) (a := (TableEntry.mk ((impl_ReadName b at_).1) ((impl_ReadVarint b ((impl_ReadName b at_).2.1)).1))) (x := ((p1, c1), ())) hs) (gs := [MF.ol [.slice p1 (((impl_ReadName b at_).1.parts).length) c1, .int .i64 ((impl_ReadVarint b ((impl_ReadName b at_).2.1)).1)] ([(TableEntry.mk ((impl_ReadName b at_).1) ((impl_ReadVarint b ((impl_ReadName b at_).2.1)).1))] : List TableEntry)]) rfl ?_
            have r3 : -9223372036854775808 ≤ ((impl_ReadName b at_).2.1) ∧ ((impl_ReadName b at_).2.1) ≤ 9223372036854775807 := hq2.2
            have r4 : -9223372036854775808 ≤ ((impl_ReadVarint b ((impl_ReadName b at_).2.1)).1) ∧ ((impl_ReadVarint b ((impl_ReadName b at_).2.1)).1) ≤ 9223372036854775807 := hq3.1
            refine WX.know (fun G hΓ => (hΓ.get 8 rfl : OwL _ _ _).rd.one) ?_
            intro ho1
            refine WX.appR1 501 57 ((v ++ [(TableEntry.mk ((impl_ReadName b at_).1) ((impl_ReadVarint b ((impl_ReadName b at_).2.1)).1))]) : List TableEntry).length ttOk rfl rfl rfl rfl rfl rfl rfl rfl rfl rfl rfl rfl rfl ho1 (by simp) (by simp; omega) (by simp; omega) (fun _ _ => rfl) ?_
            intro p3 c2
            refine WX.turn [3, 8] 9 rfl (fun h hs => ol_app hs) (gs := [MF.ol (xsv ++ [.slice p1 (((impl_ReadName b at_).1.parts).length) c1, .int .i64 ((impl_ReadVarint b ((impl_ReadName b at_).2.1)).1)]) ((v ++ [(TableEntry.mk ((impl_ReadName b at_).1) ((impl_ReadVarint b ((impl_ReadName b at_).2.1)).1))]) : List TableEntry)]) rfl ?_
            refine WX.run ttOk rfl ?_
            refine WX.see rfl rfl rfl (fun _ hΓ => looks_arith rfl rfl rfl rfl (by unfold I64; first | omega | (simp only [List.length_take, List.length_drop] at *; omega) | (dsimp only; omega))) ?_
            refine WX.run ttOk rfl ?_
            refine WX.turn [9] 3 rfl (fun _ h => h) rfl ?_
            exact WX.iter ((impl_ReadVarint b ((impl_ReadName b at_).2.1)).2.1, i + 1, p3, c2, (xsv ++ [.slice p1 (((impl_ReadName b at_).1.parts).length) c1, .int .i64 ((impl_ReadVarint b ((impl_ReadName b at_).2.1)).1)]), ((v ++ [(TableEntry.mk ((impl_ReadName b at_).1) ((impl_ReadVarint b ((impl_ReadName b at_).2.1)).1))]) : List TableEntry)) ⟨(by omega), hq3.2, (all_app v3 (all_cons (α := TableEntry) (And.intro hq2.1 hq3.1) (fun a ha => by cases ha))), (by first | assumption | omega | (simp only [List.length_append, List.length_cons, List.length_nil, List.length_set, List.length_map, List.length_take, List.length_drop]; omega) | (simp; omega)), (by rw [v5, show ((impl_ReadVarint b 0).1).toNat - i = (((impl_ReadVarint b 0).1).toNat - (i + 1)) + 1 by omega]; simp only [impl_DecodeVector_L1, h4, h5, cond_true, cond_false])⟩ (by first | (dsimp only; omega) | omega) (.cons rfl (.cons rfl (.cons rfl (.cons rfl (.cons rfl (.cons rfl (.nil))))))) (.cons rfl (.cons rfl (.nil))) (.cons rfl (.nil)) [0, 3] rfl
      · skip
        have h3d := B.df h3
        refine WX.run ttOk rfl ?_
        have hX1 : impl_DecodeVector_L1 b (((impl_ReadVarint b 0).1).toNat) ((impl_ReadVarint b 0).2.1) ([] : List TableEntry) = (Ctl.nxt (at_, ((v) : List TableEntry))) := by rw [v5, show ((impl_ReadVarint b 0).1).toNat - i = 0 by omega]; simp only [impl_DecodeVector_L1, cond_true, cond_false]
        refine WX.cases 66 rfl (fun h6 => ?_) (fun h6 => ?_)
        · skip
          have h6d := B.nt' h6
          refine WX.run ttOk rfl ?_
          refine WX.free 10 (MF.os none 0 ([] : List TableEntry)) (owSl_nil _ _) ?_
          have hP7 : impl_DecodeVector b = (StateVector.mk ([]), false) := by simp only [impl_DecodeVector, h1, h2, hX1, h6, cond_true, cond_false]
          refine WX.ret ttOk rfl ?_
          intro w1 G bs hI hΓ
          rw [hP7]
          exact Post.of [10] (none, 0) hI hΓ rfl rfl rfl (ok_nil (α := TableEntry))
        · skip
          have h6d := B.nf' h6
          refine WX.run ttOk rfl ?_
          refine WX.seal 501 3 11 rfl rfl rfl rfl rfl ?_
          refine WX.callV rfl rfl rfl rfl rfl (fun _ => rfl) rfl (fun w G bs hI hΓ => f30 w n (by omega) (StateVector.mk v) pv cv (hΓ.get 11 rfl) (okl_mk (by omega) v3 : GoT.ok n (v : List TableEntry))) ?_
          intro hq4
          refine WX.run ttOk rfl ?_
          refine WX.cases 70 rfl (fun h7 => ?_) (fun h7 => ?_)
          · skip
            have h7d := (B.nt h7)
            refine WX.run ttOk rfl ?_
            refine WX.free 13 (MF.os none 0 ([] : List TableEntry)) (owSl_nil _ _) ?_
            have hP8 : impl_DecodeVector b = (StateVector.mk ([]), false) := by simp only [impl_DecodeVector, h1, h2, hX1, h6, h7, cond_true, cond_false]
            refine WX.ret ttOk rfl ?_
            intro w1 G bs hI hΓ
            rw [hP8]
            exact Post.of [13] (none, 0) hI hΓ rfl rfl rfl (ok_nil (α := TableEntry))
          · skip
            have h7d := (B.nf h7)
            refine WX.run ttOk rfl ?_
            have hP9 : impl_DecodeVector b = (StateVector.mk v, true) := by simp only [impl_DecodeVector, h1, h2, hX1, h6, h7, cond_true, cond_false]
            refine WX.ret ttOk rfl ?_
            intro w1 G bs hI hΓ
            rw [hP9]
            exact Post.of [12] (pv, cv) hI hΓ rfl rfl rfl (okl_mk (by omega) v3 : GoT.ok n (v : List TableEntry))
theorem f19 (w : World) (n : Nat) (hn : n + 0 ≤ 9) (b : (List UInt8)) (pb : Option Addr) (cb : Nat) (hpb : RdSl (hp w) pb cb b) (hokb : GoT.ok n b) :
    Does Try.prog 19 #[.slice pb ((b).length) cb] w emp (Post w emp (fun x : GoT.X (StateVector) => .tuple #[.agg ⟨GoT.sh ((spec_DecodeVector b).1 : StateVector) x⟩, .bool ((spec_DecodeVector b).2)]) (fun x => GoT.oa ((spec_DecodeVector b).1 : StateVector) x) (GoT.ok n ((spec_DecodeVector b).1 : StateVector))) := by
  have hbP := bd_pos n
  have hbB := bd_big (n := n) (by omega)
  refine WX.enter (tt := tt) (Γ := [(0, MF.rs .stb pb cb b)]) Try.func19 rfl (by kernel_rfl) rfl (allS_cons rfl hpb allS_nil) ?_
  refine WX.run ttOk rfl ?_
  refine WX.callV rfl rfl rfl rfl rfl (fun _ => rfl) rfl (fun w G bs hI hΓ => f35 w n (by omega) b pb cb (hΓ.get 0 rfl) 0 hokb (show I64 0 from (by unfold I64; omega))) ?_
  intro hq1
  have qv1 := rv_spec b 0
  refine WX.run ttOk rfl ?_
  refine WX.cases 23 rfl (fun h1 => ?_) (fun h1 => ?_)
  · skip
    have h1d := (B.nt h1)
    refine WX.run ttOk rfl ?_
    refine WX.free 1 (MF.os none 0 ([] : List TableEntry)) (owSl_nil _ _) ?_
    have hP1 : spec_DecodeVector b = (StateVector.mk ([]), false) := by simp only [spec_DecodeVector, h1, cond_true, cond_false]
    refine WX.ret ttOk rfl ?_
    intro w1 G bs hI hΓ
    rw [hP1]
    exact Post.of [1] (none, 0) hI hΓ rfl rfl rfl (ok_nil (α := TableEntry))
  · skip
    have h1d := (B.nf h1)
    refine WX.run ttOk rfl ?_
    refine WX.cases 26 rfl (fun h2 => ?_) (fun h2 => ?_)
    · skip
      have h2d := B.dt h2
      refine WX.run ttOk rfl ?_
      refine WX.free 2 (MF.os none 0 ([] : List TableEntry)) (owSl_nil _ _) ?_
      have hP2 : spec_DecodeVector b = (StateVector.mk ([]), false) := by simp only [spec_DecodeVector, h1, h2, cond_true, cond_false]
      refine WX.ret ttOk rfl ?_
      intro w1 G bs hI hΓ
      rw [hP2]
      exact Post.of [2] (none, 0) hI hΓ rfl rfl rfl (ok_nil (α := TableEntry))
    · skip
      have h2d := B.df h2
      refine WX.run ttOk rfl ?_
      refine WX.row0 501 2 none rfl ?_
      refine WX.free 3 (MF.ol [] ([] : List TableEntry)) rfl ?_
      have r1 : (b).length ≤ bd n := (okl hokb).1
      have r2 : -9223372036854775808 ≤ ((spec_ReadVarint b 0).1) ∧ ((spec_ReadVarint b 0).1) ≤ 9223372036854775807 := hq1.1
      refine WX.loop (ι := Int × Nat × (Option Addr) × Nat × (List Value) × (List TableEntry)) ⟨fun | (at_, i, pv, cv, xsv, v) => (i ≤ ((spec_ReadVarint b 0).1).toNat) ∧ (-9223372036854775808 ≤ at_ ∧ at_ ≤ 9223372036854775807) ∧ (∀ z_ ∈ v, GoT.ok n z_) ∧ (v.length ≤ i) ∧ (spec_DecodeVector_L1 b (((spec_ReadVarint b 0).1).toNat) ((spec_ReadVarint b 0).2.1) ([] : List TableEntry) = spec_DecodeVector_L1 b (((spec_ReadVarint b 0).1).toNat - i) at_ v), fun | (at_, i, pv, cv, xsv, v) => ((spec_ReadVarint b 0).1).toNat - i, fun | (at_, i, pv, cv, xsv, v) => [(5, .v (.int .i64 (at_))), (8, .v (.int .i64 (((i : Nat) : Int)))), (7, .p 7 0), (4, .v (.int .i64 ((spec_ReadVarint b 0).1))), (2, .p 2 0), (0, .v (.slice pb ((b).length) cb))], fun | (at_, i, pv, cv, xsv, v) => [(7, ⟨35, [.slice pv ((v).length) cv]⟩), (2, ⟨35, [.slice none (0) 0]⟩)], fun | (at_, i, pv, cv, xsv, v) => [(501, ⟨2, pv, (v).length, cv, xsv⟩)], fun | (at_, i, pv, cv, xsv, v) => [(0, MF.rs .stb pb cb b), (3, MF.ol xsv (v : List TableEntry))]⟩ ((spec_ReadVarint b 0).2.1, 0, none, 0, [], ([] : List TableEntry)) ⟨(Nat.zero_le _), hq1.2, (fun a ha => by cases ha), (by simp), rfl⟩
        (.cons rfl (.cons rfl (.cons rfl (.cons rfl (.cons rfl (.cons rfl (.nil))))))) (.cons rfl (.cons rfl (.nil))) (.cons rfl (.nil)) [0, 3] rfl ?_
      rintro ⟨at_, i, pv, cv, xsv, v⟩ hpre
      have hpre_ : (i ≤ ((spec_ReadVarint b 0).1).toNat) ∧ (-9223372036854775808 ≤ at_ ∧ at_ ≤ 9223372036854775807) ∧ (∀ z_ ∈ v, GoT.ok n z_) ∧ (v.length ≤ i) ∧ (spec_DecodeVector_L1 b (((spec_ReadVarint b 0).1).toNat) ((spec_ReadVarint b 0).2.1) ([] : List TableEntry) = spec_DecodeVector_L1 b (((spec_ReadVarint b 0).1).toNat - i) at_ v) := hpre
      clear hpre
      obtain ⟨v1, v2, v3, v4, v5⟩ := hpre_
      refine WX.run ttOk rfl ?_
      refine WX.cases 31 rfl (fun h3 => ?_) (fun h3 => ?_)
      · skip
        have h3d := B.dt h3
        refine WX.run ttOk rfl ?_
        refine WX.callF 4 (fun _ _ h => GoT.ow_rd h) (fun _ f hf => GoT.fak f hf) rfl rfl rfl rfl rfl (fun _ => rfl) rfl (fun w G bs hI hΓ => f36 w n (by omega) b pb cb (hΓ.get 0 rfl) at_ hokb v2) (fun _ => rfl) (fun _ => rfl) ?_
        rintro ⟨p1, c1⟩ hq2
        refine WX.run ttOk rfl ?_
        refine WX.callV rfl rfl rfl rfl rfl (fun _ => rfl) rfl (fun w G bs hI hΓ => f35 w n (by omega) b pb cb (hΓ.get 0 rfl) ((spec_ReadName b at_).2.1) hokb hq2.2) ?_
        intro hq3
        have qv2 := rv_spec b ((spec_ReadName b at_).2.1)
        refine WX.run ttOk rfl ?_
        refine WX.cases 50 rfl (fun h4 => ?_) (fun h4 => ?_)
        · skip
          have h4d := (B.nt h4)
          refine WX.run ttOk rfl ?_
          refine WX.free 6 (MF.os none 0 ([] : List TableEntry)) (owSl_nil _ _) ?_
          have hP3 : spec_DecodeVector_L1 b (((spec_ReadVarint b 0).1).toNat) ((spec_ReadVarint b 0).2.1) ([] : List TableEntry) = (Ctl.ret (StateVector.mk ([]), false)) := by rw [v5, show ((spec_ReadVarint b 0).1).toNat - i = (((spec_ReadVarint b 0).1).toNat - (i + 1)) + 1 by omega]; simp only [spec_DecodeVector_L1, h4, cond_true, cond_false]
          have hP4 : spec_DecodeVector b = (StateVector.mk ([]), false) := by simp only [spec_DecodeVector, h1, h2, hP3, cond_true, cond_false]
          refine WX.ret ttOk rfl ?_
          intro w1 G bs hI hΓ
          rw [hP4]
          exact Post.of [6] (none, 0) hI hΓ rfl rfl rfl (ok_nil (α := TableEntry))
        · skip
          have h4d := (B.nf h4)
          refine WX.run ttOk rfl ?_
          refine WX.cases 53 rfl (fun h5 => ?_) (fun h5 => ?_)
          · skip
            have h5d := (B.nt h5)
            refine WX.run ttOk rfl ?_
            refine WX.free 7 (MF.os none 0 ([] : List TableEntry)) (owSl_nil _ _) ?_
            have hP5 : spec_DecodeVector_L1 b (((spec_ReadVarint b 0).1).toNat) ((spec_ReadVarint b 0).2.1) ([] : List TableEntry) = (Ctl.ret (StateVector.mk ([]), false)) := by rw [v5, show ((spec_ReadVarint b 0).1).toNat - i = (((spec_ReadVarint b 0).1).toNat - (i + 1)) + 1 by omega]; simp only [spec_DecodeVector_L1, h4, h5, cond_true, cond_false]
            have hP6 : spec_DecodeVector b = (StateVector.mk ([]), false) := by simp only [spec_DecodeVector, h1, h2, hP5, cond_true, cond_false]
            refine WX.ret ttOk rfl ?_
            intro w1 G bs hI hΓ
            rw [hP6]
            exact Post.of [7] (none, 0) hI hΓ rfl rfl rfl (ok_nil (α := TableEntry))
          · skip
            have h5d := (B.nf h5)
            refine WX.run ttOk rfl ?_
            refine WX.bld ttOk rfl rfl rfl rfl rfl rfl rfl ?_
            intro p2
            refine WX.turn [5] 8 rfl (fun h hs => ol_one (α := TableEntry) (a := (TableEntry.mk ((spec_ReadName b at_).1) ((spec_ReadVarint b ((spec_ReadName b at_).2.1)).1))) (x := ((p1, c1), ())) hs) (gs := [MF.ol [.slice p1 (((spec_ReadName b at_).1.parts).length) c1, .int .i64 ((spec_ReadVarint b ((spec_ReadName b at_).2.1)).1)] ([(TableEntry.mk ((spec_ReadName b at_).1) ((spec_ReadVarint b ((spec_ReadName b at_).2.1)).1))] : List TableEntry)]) rfl ?_
            have r3 : -9223372036854775808 ≤ ((spec_ReadName b at_).2.1) ∧ ((spec_ReadName b at_).2.1) ≤ 9223372036854775807 := hq2.2
            have r4 : -9223372036854775808 ≤ ((spec_ReadVarint b ((spec_ReadName b at_).2.1)).1) ∧ ((spec_ReadVarint b ((spec_ReadName b at_).2.1)).1) ≤ 9223372036854775807 := hq3.1
            refine WX.know (fun G hΓ => (hΓ.get 8 rfl : OwL _ _ _).rd.one) ?_
            intro ho1
            refine WX.appR1 501 60 ((v ++ [(TableEntry.mk ((spec_ReadName b at_).1) ((spec_ReadVarint b ((spec_ReadName b at_).2.1)).1))]) : List TableEntry).length ttOk rfl rfl rfl rfl rfl rfl rfl rfl rfl rfl rfl rfl rfl ho1 (by simp) (by simp; omega) (by simp; omega) (fun _ _ => rfl) ?_
            intro p3 c2
            refine WX.turn [3, 8] 9 rfl (fun h hs => ol_app hs) (gs := [MF.ol (xsv ++ [.slice p1 (((spec_ReadName b at_).1.parts).length) c1, .int .i64 ((spec_ReadVarint b ((spec_ReadName b at_).2.1)).1)]) ((v ++ [(TableEntry.mk ((spec_ReadName b at_).1) ((spec_ReadVarint b ((spec_ReadName b at_).2.1)).1))]) : List TableEntry)]) rfl ?_
            refine WX.run ttOk rfl ?_
            refine WX.see rfl rfl rfl (fun _ hΓ => looks_arith rfl rfl rfl rfl (by unfold I64; first | omega | (simp only [List.length_take, List.length_drop] at *; omega) | (dsimp only; omega))) ?_
            refine WX.run ttOk rfl ?_
            refine WX.turn [9] 3 rfl (fun _ h => h) rfl ?_
            exact WX.iter ((spec_ReadVarint b ((spec_ReadName b at_).2.1)).2.1, i + 1, p3, c2, (xsv ++ [.slice p1 (((spec_ReadName b at_).1.parts).length) c1, .int .i64 ((spec_ReadVarint b ((spec_ReadName b at_).2.1)).1)]), ((v ++ [(TableEntry.mk ((spec_ReadName b at_).1) ((spec_ReadVarint b ((spec_ReadName b at_).2.1)).1))]) : List TableEntry)) ⟨(by omega), hq3.2, (all_app v3 (all_cons (α := TableEntry) (And.intro hq2.1 hq3.1) (fun a ha => by cases ha))), (by first | assumption | omega | (simp only [List.length_append, List.length_cons, List.length_nil, List.length_set, List.length_map, List.length_take, List.length_drop]; omega) | (simp; omega)), (by rw [v5, show ((spec_ReadVarint b 0).1).toNat - i = (((spec_ReadVarint b 0).1).toNat - (i + 1)) + 1 by omega]; simp only [spec_DecodeVector_L1, h4, h5, cond_true, cond_false])⟩ (by first | (dsimp only; omega) | omega) (.cons rfl (.cons rfl (.cons rfl (.cons rfl (.cons rfl (.cons rfl (.nil))))))) (.cons rfl (.cons rfl (.nil))) (.cons rfl (.nil)) [0, 3] rfl
      · skip
        have h3d := B.df h3
        refine WX.run ttOk rfl ?_
        have hX1 : spec_DecodeVector_L1 b (((spec_ReadVarint b 0).1).toNat) ((spec_ReadVarint b 0).2.1) ([] : List TableEntry) = (Ctl.nxt (at_, ((v) : List TableEntry))) := by rw [v5, show ((spec_ReadVarint b 0).1).toNat - i = 0 by omega]; simp only [spec_DecodeVector_L1, cond_true, cond_false]
        refine WX.cases 68 rfl (fun h6 => ?_) (fun h6 => ?_)
        · skip
          have h6d := B.nt' h6
          refine WX.run ttOk rfl ?_
          refine WX.free 10 (MF.os none 0 ([] : List TableEntry)) (owSl_nil _ _) ?_
          have hP7 : spec_DecodeVector b = (StateVector.mk ([]), false) := by simp only [spec_DecodeVector, h1, h2, hX1, h6, cond_true, cond_false]
          refine WX.ret ttOk rfl ?_
          intro w1 G bs hI hΓ
          rw [hP7]
          exact Post.of [10] (none, 0) hI hΓ rfl rfl rfl (ok_nil (α := TableEntry))
        · skip
          have h6d := B.nf' h6
          refine WX.run ttOk rfl ?_
          refine WX.seal 501 3 11 rfl rfl rfl rfl rfl ?_
          refine WX.callV rfl rfl rfl rfl rfl (fun _ => rfl) rfl (fun w G bs hI hΓ => f26 w n (by omega) (StateVector.mk v) pv cv (hΓ.get 11 rfl) (okl_mk (by omega) v3 : GoT.ok n (v : List TableEntry))) ?_
          intro hq4
          refine WX.run ttOk rfl ?_
          refine WX.cases 72 rfl (fun h7 => ?_) (fun h7 => ?_)
          · skip
            have h7d := (B.nt h7)
            refine WX.run ttOk rfl ?_
            refine WX.free 13 (MF.os none 0 ([] : List TableEntry)) (owSl_nil _ _) ?_
            have hP8 : spec_DecodeVector b = (StateVector.mk ([]), false) := by simp only [spec_DecodeVector, h1, h2, hX1, h6, h7, cond_true, cond_false]
            refine WX.ret ttOk rfl ?_
            intro w1 G bs hI hΓ
            rw [hP8]
            exact Post.of [13] (none, 0) hI hΓ rfl rfl rfl (ok_nil (α := TableEntry))
          · skip
            have h7d := (B.nf h7)
            refine WX.run ttOk rfl ?_
            have hP9 : spec_DecodeVector b = (StateVector.mk v, true) := by simp only [spec_DecodeVector, h1, h2, hX1, h6, h7, cond_true, cond_false]
            refine WX.ret ttOk rfl ?_
            intro w1 G bs hI hΓ
            rw [hP9]
            exact Post.of [12] (pv, cv) hI hΓ rfl rfl rfl (okl_mk (by omega) v3 : GoT.ok n (v : List TableEntry))
end Go.Proofs.Ytfffongneoegbaa

namespace Go.Stp
theorem mid {α : Type} (p : List α) (e : α) (l : List α) : (p ++ e :: l)[p.length]? = some e := by simp
theorem mid_set {α : Type} (p : List α) (e x : α) (l : List α) : (p ++ e :: l).set p.length x = (p ++ [x]) ++ l := by simp
theorem mid_app {α : Type} (p : List α) (e : α) (l : List α) : (p ++ [e]) ++ l = p ++ e :: l := by simp
theorem mid_len {α : Type} (p : List α) (e : α) : (p ++ [e]).length = p.length + 1 := by simp
def SzR (r left : Int) (s : Nat) : Prop := r = -1 ∨ ((s : Int) ≤ left ∧ r = left - s)
theorem SzR.pos {r left : Int} {s : Nat} (h : SzR r left s) (hr : 0 ≤ r) : (s : Int) ≤ left ∧ r = left - s := by
  rcases h with h | h
  · omega
  · exact h
theorem dF {x : Int} (h : 0 ≤ x) : decide (x < 0) = false := decide_eq_false (by omega)
theorem wrap1 {x : Int} (h0 : 0 ≤ x) (h1 : x ≤ 4611686018427387904) : IntKind.i64.wrap (x + 1) = x + 1 := wrap_i64 (by unfold I64; omega)
theorem szL_cons {α : Type} [GoT α] [Sz α] (a : α) (l : List α) : szL (a :: l) = sz a + szL l := by simp [szL]
theorem szL_nil {α : Type} [GoT α] [Sz α] : szL ([] : List α) = 0 := rfl
theorem szL_zero {α : Type} [GoT α] [Sz α] (h : ∀ a : α, sz a = 0) : ∀ l : List α, szL l = 0
  | [] => rfl
  | a :: l => by rw [szL_cons, h a, szL_zero h l]
theorem szL_u8 (l : List UInt8) : szL l = 0 := szL_zero (fun _ => rfl) l
def MkR (k k' : Int) (s : Nat) (held : Int) : Prop := k ≤ k' ∧ k' ≤ k + 16 * (s : Int) ∧ held = k'
theorem bne_self_F {α : Type} [BEq α] [LawfulBEq α] (a : α) : (a != a) = false := by simp
theorem nbeq_self_F {α : Type} [BEq α] [LawfulBEq α] (a : α) : (!(a == a)) = false := by simp
end Go.Stp

namespace Go.Stp
set_option linter.unusedVariables false
set_option linter.unusedSimpArgs false
theorem eqL_StringS : ∀ (l p : (List Str)), laws_eqStringS_L1 (p ++ l) l p.length = none
  | [], _ => rfl
  | e :: l, p => by
    have ih := eqL_StringS l (p ++ [e])
    rw [mid_app, mid_len] at ih
    simp only [laws_eqStringS_L1, mid, bne_self_F, nbeq_self_F, cond_false]
    exact ih
theorem eq_StringS (a : (List Str)) : laws_eqStringS a a = true := by
  have h := eqL_StringS a []
  simp only [List.nil_append, List.length_nil] at h
  simp only [laws_eqStringS, bne_self_F, cond_false, h]
theorem mkL_StringS : ∀ (l p : (List Str)) (k : Int), 0 ≤ k → k + 16 * ((l.length : Int) + szL l) ≤ 4611686018427387904 → ∃ l' k', laws_markStringS_L1 l.length p.length (p ++ l) k = (p ++ l', k') ∧ k ≤ k' ∧ k' ≤ k + 16 * ((l.length : Int) + szL l) ∧ laws_heldStringS_L1 l' k = .nxt k'
  | [], p, k, _, _ => ⟨[], k, rfl, by omega, by simp [szL_nil], rfl⟩
  | e :: l, p, k, h0, hb => by
    rw [szL_cons, List.length_cons] at hb
    have w1 := wrap1 (x := k) (by omega) (by omega)
    obtain ⟨l', k', r1, r2, r3, r4⟩ := mkL_StringS l (p ++ [(laws_markText k)]) (k + 1) (by omega) (by omega)
    rw [mid_len] at r1
    refine ⟨(laws_markText k) :: l', k', ?_, by omega, by rw [szL_cons, List.length_cons]; omega, ?_⟩
    · simp only [List.length_cons, laws_markStringS_L1, mid, mid_set, w1]
      rw [r1, mid_app]
    · simp only [laws_heldStringS_L1, bne_self_F, nbeq_self_F, cond_false, w1]
      exact r4
theorem mk_StringS (a : (List Str)) (k : Int) (h0 : 0 ≤ k) (hb : k + 16 * (sz a : Int) ≤ 4611686018427387904) : MkR k (laws_markStringS a k).1 (sz a) (laws_heldStringS (laws_markStringS a k).2 k) := by
  rw [sz_list] at hb ⊢
  obtain ⟨l', k', r1, r2, r3, r4⟩ := mkL_StringS a [] k h0 (by omega)
  simp only [List.nil_append, List.length_nil] at r1
  simp only [laws_markStringS, r1, laws_heldStringS, r4]
  exact ⟨r2, by omega, rfl⟩
theorem eq_Name (a : Name) : laws_eqName a a = true := by
  simp only [laws_eqName, bne_self_F, nbeq_self_F, cond_false, Bool.not_true, eq_StringS]
theorem eq_TableEntry (a : TableEntry) : laws_eqTableEntry a a = true := by
  simp only [laws_eqTableEntry, bne_self_F, nbeq_self_F, cond_false, Bool.not_true, eq_Name]
theorem eqL_TableEntryS : ∀ (l p : (List TableEntry)), laws_eqTableEntryS_L1 (p ++ l) l p.length = none
  | [], _ => rfl
  | e :: l, p => by
    have ih := eqL_TableEntryS l (p ++ [e])
    rw [mid_app, mid_len] at ih
    simp only [laws_eqTableEntryS_L1, mid, eq_TableEntry e, Bool.not_true, cond_false]
    exact ih
theorem eq_TableEntryS (a : (List TableEntry)) : laws_eqTableEntryS a a = true := by
  have h := eqL_TableEntryS a []
  simp only [List.nil_append, List.length_nil] at h
  simp only [laws_eqTableEntryS, bne_self_F, cond_false, h]
theorem sz_flat_TableEntryS (e : TableEntry) : sz e = sz e.name.parts := by
  simp only [sz_TableEntry, sz_Name, Nat.add_assoc]
theorem mkL_TableEntryS : ∀ (l p : (List TableEntry)) (k : Int), 0 ≤ k → k + 16 * ((l.length : Int) + szL l) ≤ 4611686018427387904 → ∃ l' k', laws_markTableEntryS_L1 l.length p.length (p ++ l) k = (p ++ l', k') ∧ k ≤ k' ∧ k' ≤ k + 16 * ((l.length : Int) + szL l) ∧ laws_heldTableEntryS_L1 l' k = .nxt k'
  | [], p, k, _, _ => ⟨[], k, rfl, by omega, by simp [szL_nil], rfl⟩
  | e :: l, p, k, h0, hb => by
    rw [szL_cons, List.length_cons] at hb
    have hsz := sz_flat_TableEntryS e
    obtain ⟨p1, q1, e1⟩ := mk_StringS e.name.parts (k) (by omega) (by omega)
    have d1 := dF (show 0 ≤ (laws_markStringS e.name.parts (k)).1 by omega)
    have w2 := wrap1 (x := (laws_markStringS e.name.parts (k)).1) (by omega) (by omega)
    obtain ⟨l', k', r1, r2, r3, r4⟩ := mkL_TableEntryS l (p ++ [(TableEntry.mk (Name.mk (laws_markStringS e.name.parts k).2) ((laws_markStringS e.name.parts k).1))]) ((laws_markStringS e.name.parts (k)).1 + 1) (by omega) (by omega)
    rw [mid_len] at r1
    refine ⟨(TableEntry.mk (Name.mk (laws_markStringS e.name.parts k).2) ((laws_markStringS e.name.parts k).1)) :: l', k', ?_, by omega, by rw [szL_cons, List.length_cons]; omega, ?_⟩
    · simp only [List.length_cons, laws_markTableEntryS_L1, mid, mid_set, w2]
      rw [r1, mid_app]
    · simp only [laws_heldTableEntryS_L1, bne_self_F, nbeq_self_F, cond_false, e1, d1, cond_false, w2]
      exact r4
theorem mk_TableEntryS (a : (List TableEntry)) (k : Int) (h0 : 0 ≤ k) (hb : k + 16 * (sz a : Int) ≤ 4611686018427387904) : MkR k (laws_markTableEntryS a k).1 (sz a) (laws_heldTableEntryS (laws_markTableEntryS a k).2 k) := by
  rw [sz_list] at hb ⊢
  obtain ⟨l', k', r1, r2, r3, r4⟩ := mkL_TableEntryS a [] k h0 (by omega)
  simp only [List.nil_append, List.length_nil] at r1
  simp only [laws_markTableEntryS, r1, laws_heldTableEntryS, r4]
  exact ⟨r2, by omega, rfl⟩
theorem eq_StateVector (a : StateVector) : laws_eqStateVector a a = true := by
  simp only [laws_eqStateVector, bne_self_F, nbeq_self_F, cond_false, Bool.not_true, eq_TableEntryS]
theorem mk_StateVector (a : StateVector) (k : Int) (h0 : 0 ≤ k) (hb : k + 16 * (sz a : Int) ≤ 4611686018427387904) : MkR k (laws_markStateVector a k).1 (sz a) (laws_heldStateVector (laws_markStateVector a k).2 k) := by
  rw [sz_StateVector] at hb ⊢
  obtain ⟨p0, q0, e0⟩ := mk_TableEntryS a.entries (k) (by omega) (by omega)
  have d0 := dF (show 0 ≤ (laws_markTableEntryS a.entries (k)).1 by omega)
  have f0 : (laws_markStateVector a k).2.entries = (laws_markTableEntryS a.entries (k)).2 := rfl
  refine ⟨show k ≤ (laws_markTableEntryS a.entries (k)).1 by omega, show (laws_markTableEntryS a.entries (k)).1 ≤ _ by omega, ?_⟩
  show _ = (laws_markTableEntryS a.entries (k)).1
  simp only [laws_heldStateVector, f0, e0, d0, cond_false]
theorem eqL_ByteS : ∀ (l p : (List UInt8)), laws_eqByteS_L1 (p ++ l) l p.length = none
  | [], _ => rfl
  | e :: l, p => by
    have ih := eqL_ByteS l (p ++ [e])
    rw [mid_app, mid_len] at ih
    simp only [laws_eqByteS_L1, mid, bne_self_F, nbeq_self_F, cond_false]
    exact ih
theorem eq_ByteS (a : (List UInt8)) : laws_eqByteS a a = true := by
  have h := eqL_ByteS a []
  simp only [List.nil_append, List.length_nil] at h
  simp only [laws_eqByteS, bne_self_F, cond_false, h]
theorem toL_ByteS : ∀ (l p z : (List UInt8)), z.length = l.length → laws_toByteS_L1 l p.length (p ++ z) = p ++ l
  | [], p, [], _ => rfl
  | e :: l, p, y :: z, h => by
    have ih := toL_ByteS l (p ++ [e]) z (by simpa using h)
    rw [mid_app p e l, mid_len] at ih
    simp only [laws_toByteS_L1, mid, mid_set]
    exact ih
theorem to_ByteS (a : (List UInt8)) : laws_toByteS a = a := by
  simp only [laws_toByteS]
  exact toL_ByteS a [] _ (by simp)
theorem mkL_ByteS : ∀ (l p : (List UInt8)) (k : Int), 0 ≤ k → k + 16 * ((l.length : Int) + szL l) ≤ 4611686018427387904 → ∃ l' k', laws_markByteS_L1 l.length p.length (p ++ l) k = (p ++ l', k') ∧ k ≤ k' ∧ k' ≤ k + 16 * ((l.length : Int) + szL l) ∧ laws_heldByteS_L1 l' k = .nxt k'
  | [], p, k, _, _ => ⟨[], k, rfl, by omega, by simp [szL_nil], rfl⟩
  | e :: l, p, k, h0, hb => by
    rw [szL_cons, List.length_cons] at hb
    have w1 := wrap1 (x := k) (by omega) (by omega)
    obtain ⟨l', k', r1, r2, r3, r4⟩ := mkL_ByteS l (p ++ [(toU8 k)]) (k + 1) (by omega) (by omega)
    rw [mid_len] at r1
    refine ⟨(toU8 k) :: l', k', ?_, by omega, by rw [szL_cons, List.length_cons]; omega, ?_⟩
    · simp only [List.length_cons, laws_markByteS_L1, mid, mid_set, w1]
      rw [r1, mid_app]
    · simp only [laws_heldByteS_L1, bne_self_F, nbeq_self_F, cond_false, w1]
      exact r4
theorem mk_ByteS (a : (List UInt8)) (k : Int) (h0 : 0 ≤ k) (hb : k + 16 * (sz a : Int) ≤ 4611686018427387904) : MkR k (laws_markByteS a k).1 (sz a) (laws_heldByteS (laws_markByteS a k).2 k) := by
  rw [sz_list] at hb ⊢
  obtain ⟨l', k', r1, r2, r3, r4⟩ := mkL_ByteS a [] k h0 (by omega)
  simp only [List.nil_append, List.length_nil] at r1
  simp only [laws_markByteS, r1, laws_heldByteS, r4]
  exact ⟨r2, by omega, rfl⟩
end Go.Stp

namespace Go.Stp
set_option linter.unusedVariables false
set_option linter.unusedSimpArgs false
def laws_FnExactDecodeVector (aB : (List UInt8)) : Bool :=
  bif decide ((((aB).length : Nat) : Int) > 1048576) then
    true
  else
    bif (!(laws_eqStateVector ((impl_DecodeVector (laws_toByteS aB)).1) ((spec_DecodeVector (laws_toByteS aB)).1))) then
      false
    else
      bif (!(((impl_DecodeVector (laws_toByteS aB)).2) == ((spec_DecodeVector (laws_toByteS aB)).2))) then
        false
      else
        bif (!(laws_eqByteS (laws_toByteS aB) (laws_toByteS aB))) then
          false
        else
          bif decide ((laws_markByteS (laws_toByteS aB) 1).1 < 0) then
            false
          else
            bif decide ((laws_heldStateVector ((laws_markStateVector ((impl_DecodeVector (laws_toByteS aB)).1) 1).2) 1) < 0) then
              false
            else
              bif ((laws_heldStateVector ((laws_markStateVector ((impl_DecodeVector (laws_toByteS aB)).1) 1).2) 1) != (laws_markStateVector ((impl_DecodeVector (laws_toByteS aB)).1) 1).1) then
                false
              else
                true
end Go.Stp

namespace Go.Proofs.Ytfffongneoegbaa
open Go.Stp
set_option linter.unusedVariables false
set_option linter.unusedSimpArgs false
theorem f5 (w : World) (n : Nat) (hn : n + 0 ≤ 9) (aB : (List UInt8)) (paB : Option Addr) (caB : Nat) (hpaB : RdSl (hp w) paB caB aB) (hokaB : GoT.ok 10 aB) :
    Does Try.prog 5 #[.slice paB ((aB).length) caB] w emp (fun (rv : Value) (_ : World) => rv = .bool (laws_FnExactDecodeVector aB) ∧ True) := by
  have hbP := bd_pos n
  have hbB := bd_big (n := n) (by omega)
  refine WX.enter (tt := tt) (Γ := [(0, MF.rs .stb paB caB aB)]) Try.func5 rfl (by kernel_rfl) rfl (allS_cons rfl hpaB allS_nil) ?_
  refine WX.run ttOk rfl ?_
  refine WX.cases 15 rfl (fun h1 => ?_) (fun h1 => ?_)
  · skip
    have h1d := B.dt h1
    refine WX.run ttOk rfl ?_
    have hP1 : laws_FnExactDecodeVector aB = true := by simp only [laws_FnExactDecodeVector, h1, cond_true, cond_false]
    refine WX.ret ttOk rfl ?_
    intro w1 G bs hI hΓ
    rw [hP1]
    exact ⟨rfl, trivial⟩
  · skip
    have h1d := B.df h1
    have hk1 : GoT.ok n aB := okl_mk (show (aB).length ≤ bd n by omega) (fun _ _ => trivial)
    refine WX.run ttOk rfl ?_
    refine WX.callF 1 (fun _ _ h => GoT.ow_rd h) (fun _ f hf => GoT.fak f hf) rfl rfl rfl rfl rfl (fun _ => rfl) rfl (fun w G bs hI hΓ => f20 w n (by omega) aB paB caB (hΓ.get 0 rfl) hk1) (fun _ => rfl) (fun _ => rfl) ?_
    rintro ⟨p1, c1⟩ hq1
    refine WX.callF 3 (fun _ _ h => GoT.ow_rd h) (fun _ f hf => GoT.fak f hf) rfl rfl rfl rfl rfl (fun _ => rfl) rfl (fun w G bs hI hΓ => f19 w n (by omega) (laws_toByteS aB) p1 c1 (hΓ.get 1 rfl) hq1) (fun _ => rfl) (fun _ => rfl) ?_
    rintro ⟨p2, c2⟩ hq2
    refine WX.run ttOk rfl ?_
    refine WX.callF 5 (fun _ _ h => GoT.ow_rd h) (fun _ f hf => GoT.fak f hf) rfl rfl rfl rfl rfl (fun _ => rfl) rfl (fun w G bs hI hΓ => f20 w n (by omega) aB paB caB (hΓ.get 0 rfl) hk1) (fun _ => rfl) (fun _ => rfl) ?_
    rintro ⟨p3, c3⟩ hq3
    refine WX.run ttOk rfl ?_
    refine WX.callF 7 (fun _ _ h => GoT.ow_rd h) (fun _ f hf => GoT.fak f hf) rfl rfl rfl rfl rfl (fun _ => rfl) rfl (fun w G bs hI hΓ => f21 w n (by omega) (laws_toByteS aB) p3 c3 (hΓ.get 5 rfl) hq3) (fun _ => rfl) (fun _ => rfl) ?_
    rintro ⟨p4, c4⟩ hq4
    refine WX.run ttOk rfl ?_
    refine WX.callV rfl rfl rfl rfl rfl (fun _ => rfl) rfl (fun w G bs hI hΓ => f15 w n (by omega) ((impl_DecodeVector (laws_toByteS aB)).1) p4 c4 (hΓ.get 7 rfl) ((spec_DecodeVector (laws_toByteS aB)).1) p2 c2 (hΓ.get 3 rfl) hq4 hq2) ?_
    intro hq5
    refine WX.run ttOk rfl ?_
    refine WX.cases 33 rfl (fun h2 => ?_) (fun h2 => ?_)
    · skip
      have h2d := (B.nt h2)
      refine WX.run ttOk rfl ?_
      have hP2 : laws_FnExactDecodeVector aB = false := by simp only [laws_FnExactDecodeVector, h1, h2, cond_true, cond_false]
      refine WX.ret ttOk rfl ?_
      intro w1 G bs hI hΓ
      rw [hP2]
      exact ⟨rfl, trivial⟩
    · skip
      have h2d := (B.nf h2)
      refine WX.run ttOk rfl ?_
      refine WX.see rfl rfl rfl (fun _ hΓ => looks_beq ttOk rfl rfl rfl rfl rfl rfl) ?_
      refine WX.run ttOk rfl ?_
      refine WX.cases 37 rfl (fun h3 => ?_) (fun h3 => ?_)
      · skip
        have h3d := (B.nt h3)
        refine WX.run ttOk rfl ?_
        have hP3 : laws_FnExactDecodeVector aB = false := by simp only [laws_FnExactDecodeVector, h1, h2, h3, cond_true, cond_false]
        refine WX.ret ttOk rfl ?_
        intro w1 G bs hI hΓ
        rw [hP3]
        exact ⟨rfl, trivial⟩
      · skip
        have h3d := (B.nf h3)
        refine WX.run ttOk rfl ?_
        refine WX.callF 9 (fun _ _ h => GoT.ow_rd h) (fun _ f hf => GoT.fak f hf) rfl rfl rfl rfl rfl (fun _ => rfl) rfl (fun w G bs hI hΓ => f20 w n (by omega) aB paB caB (hΓ.get 0 rfl) hk1) (fun _ => rfl) (fun _ => rfl) ?_
        rintro ⟨p5, c5⟩ hq6
        refine WX.callV rfl rfl rfl rfl rfl (fun _ => rfl) rfl (fun w G bs hI hΓ => f14 w n (by omega) (laws_toByteS aB) p3 c3 (hΓ.get 5 rfl) (laws_toByteS aB) p5 c5 (hΓ.get 9 rfl) hq3 hq6) ?_
        intro hq7
        refine WX.run ttOk rfl ?_
        refine WX.cases 42 rfl (fun h4 => ?_) (fun h4 => ?_)
        · skip
          have h4d := (B.nt h4)
          refine WX.run ttOk rfl ?_
          have hP4 : laws_FnExactDecodeVector aB = false := by simp only [laws_FnExactDecodeVector, h1, h2, h3, h4, cond_true, cond_false]
          refine WX.ret ttOk rfl ?_
          intro w1 G bs hI hΓ
          rw [hP4]
          exact ⟨rfl, trivial⟩
        · skip
          have h4d := (B.nf h4)
          refine WX.run ttOk rfl ?_
          refine WX.callM [6] 11 rfl (fun _ _ h => GoT.ow_rd h) (fun _ f hf => GoT.fak f hf) rfl rfl rfl rfl rfl (fun _ => rfl) rfl (fun w G bs H hI hH hs hΓ => f17 w n (by omega) (laws_toByteS aB) p3 c3 1 H hH hs hq3 (show I64 1 from (by unfold I64; omega))) (fun _ => rfl) (fun _ => rfl) ?_
          rintro ⟨⟩ hq8
          have hl1 : ((laws_markByteS (laws_toByteS aB) 1).2).length = ((laws_toByteS aB)).length := hq8.2
          refine WX.run ttOk rfl ?_
          refine WX.cases 48 rfl (fun h5 => ?_) (fun h5 => ?_)
          · skip
            have h5d := B.dt h5
            refine WX.run ttOk rfl ?_
            have hP5 : laws_FnExactDecodeVector aB = false := by simp only [laws_FnExactDecodeVector, h1, h2, h3, h4, h5, cond_true, cond_false]
            refine WX.ret ttOk rfl ?_
            intro w1 G bs hI hΓ
            rw [hP5]
            exact ⟨rfl, trivial⟩
          · skip
            have h5d := B.df h5
            refine WX.run ttOk rfl ?_
            refine WX.der 13 (MF.rs .der p4 c4 ((impl_DecodeVector (laws_toByteS aB)).1.entries)) rfl (fun _ hΓ => (hΓ.get 8 rfl : OwSl _ _ _ _).rd) ?_
            refine WX.der 14 (MF.rs .der p2 c2 ((spec_DecodeVector (laws_toByteS aB)).1.entries)) rfl (fun _ hΓ => (hΓ.get 4 rfl : OwSl _ _ _ _).rd) ?_
            refine WX.callV rfl rfl rfl rfl rfl (fun _ => rfl) rfl (fun w G bs hI hΓ => f15 w n (by omega) ((impl_DecodeVector (laws_toByteS aB)).1) p4 c4 (hΓ.get 13 rfl) ((spec_DecodeVector (laws_toByteS aB)).1) p2 c2 (hΓ.get 14 rfl) hq4 hq2) ?_
            intro hq9
            refine WX.run ttOk rfl ?_
            refine WX.cases 54 rfl (fun h6 => ?_) (fun h6 => ?_)
            · skip
              have h6d := (B.nt h6)
              exact absurd (h2.symm.trans h6) Bool.false_ne_true
            · skip
              have h6d := (B.nf h6)
              refine WX.run ttOk rfl ?_
              refine WX.see rfl rfl rfl (fun _ hΓ => looks_beq ttOk rfl rfl rfl rfl rfl rfl) ?_
              refine WX.run ttOk rfl ?_
              refine WX.cases 58 rfl (fun h7 => ?_) (fun h7 => ?_)
              · skip
                have h7d := (B.nt h7)
                exact absurd (h3.symm.trans h7) Bool.false_ne_true
              · skip
                have h7d := (B.nf h7)
                refine WX.run ttOk rfl ?_
                refine WX.callM [8] 15 rfl (fun _ _ h => GoT.ow_rd h) (fun _ f hf => GoT.fak f hf) rfl rfl rfl rfl rfl (fun _ => rfl) rfl (fun w G bs H hI hH hs hΓ => f16 w n (by omega) ((impl_DecodeVector (laws_toByteS aB)).1) p4 c4 1 H hH hs hq4 (show I64 1 from (by unfold I64; omega))) (fun _ => rfl) (fun _ => rfl) ?_
                rintro ⟨⟩ hq10
                have hl2 : ((laws_markStateVector ((impl_DecodeVector (laws_toByteS aB)).1) 1).2.entries).length = ((impl_DecodeVector (laws_toByteS aB)).1.entries).length := hq10.2
                refine WX.run ttOk rfl ?_
                refine WX.slot 62 (y := .v (.agg #[.slice p4 (((laws_markStateVector ((impl_DecodeVector (laws_toByteS aB)).1) 1).2.entries).length) c4])) rfl (fun _ => by show (.agg #[.slice p4 (((impl_DecodeVector (laws_toByteS aB)).1.entries).length) c4] : Value) = .agg #[.slice p4 (((laws_markStateVector ((impl_DecodeVector (laws_toByteS aB)).1) 1).2.entries).length) c4]; simp only [hl2]) ?_
                refine WX.callV rfl rfl rfl rfl rfl (fun _ => rfl) rfl (fun w G bs hI hΓ => f22 w n (by omega) ((laws_markStateVector ((impl_DecodeVector (laws_toByteS aB)).1) 1).2) p4 c4 (hΓ.get 15 rfl) 1 hq10.1.2 (show I64 1 from (by unfold I64; omega))) ?_
                intro hq11
                refine WX.run ttOk rfl ?_
                refine WX.cases 66 rfl (fun h8 => ?_) (fun h8 => ?_)
                · skip
                  have h8d := B.dt h8
                  refine WX.run ttOk rfl ?_
                  have hP6 : laws_FnExactDecodeVector aB = false := by simp only [laws_FnExactDecodeVector, h1, h2, h3, h4, h5, h6, h7, h8, cond_true, cond_false]
                  refine WX.ret ttOk rfl ?_
                  intro w1 G bs hI hΓ
                  rw [hP6]
                  exact ⟨rfl, trivial⟩
                · skip
                  have h8d := B.df h8
                  refine WX.run ttOk rfl ?_
                  refine WX.cases 69 rfl (fun h9 => ?_) (fun h9 => ?_)
                  · skip
                    have h9d := B.nt' h9
                    refine WX.run ttOk rfl ?_
                    have hP7 : laws_FnExactDecodeVector aB = false := by simp only [laws_FnExactDecodeVector, h1, h2, h3, h4, h5, h6, h7, h8, h9, cond_true, cond_false]
                    refine WX.ret ttOk rfl ?_
                    intro w1 G bs hI hΓ
                    rw [hP7]
                    exact ⟨rfl, trivial⟩
                  · skip
                    have h9d := B.nf' h9
                    refine WX.run ttOk rfl ?_
                    refine WX.callF 17 (fun _ _ h => GoT.ow_rd h) (fun _ f hf => GoT.fak f hf) rfl rfl rfl rfl rfl (fun _ => rfl) rfl (fun w G bs hI hΓ => f20 w n (by omega) aB paB caB (hΓ.get 0 rfl) hk1) (fun _ => rfl) (fun _ => rfl) ?_
                    rintro ⟨p6, c6⟩ hq12
                    refine WX.callF 19 (fun _ _ h => GoT.ow_rd h) (fun _ f hf => GoT.fak f hf) rfl rfl rfl rfl rfl (fun _ => rfl) rfl (fun w G bs hI hΓ => f21 w n (by omega) (laws_toByteS aB) p6 c6 (hΓ.get 17 rfl) hq12) (fun _ => rfl) (fun _ => rfl) ?_
                    rintro ⟨p7, c7⟩ hq13
                    refine WX.run ttOk rfl ?_
                    refine WX.der 21 (MF.rs .der p2 c2 ((spec_DecodeVector (laws_toByteS aB)).1.entries)) rfl (fun _ hΓ => (hΓ.get 4 rfl : OwSl _ _ _ _).rd) ?_
                    refine WX.callV rfl rfl rfl rfl rfl (fun _ => rfl) rfl (fun w G bs hI hΓ => f15 w n (by omega) ((impl_DecodeVector (laws_toByteS aB)).1) p7 c7 (hΓ.get 19 rfl) ((spec_DecodeVector (laws_toByteS aB)).1) p2 c2 (hΓ.get 21 rfl) hq13 hq2) ?_
                    intro hq14
                    refine WX.run ttOk rfl ?_
                    refine WX.cases 80 rfl (fun h10 => ?_) (fun h10 => ?_)
                    · skip
                      have h10d := (B.nt h10)
                      exact absurd (h2.symm.trans h10) Bool.false_ne_true
                    · skip
                      have h10d := (B.nf h10)
                      refine WX.run ttOk rfl ?_
                      refine WX.see rfl rfl rfl (fun _ hΓ => looks_beq ttOk rfl rfl rfl rfl rfl rfl) ?_
                      refine WX.run ttOk rfl ?_
                      refine WX.cases 84 rfl (fun h11 => ?_) (fun h11 => ?_)
                      · skip
                        have h11d := (B.nt h11)
                        exact absurd (h3.symm.trans h11) Bool.false_ne_true
                      · skip
                        have h11d := (B.nf h11)
                        refine WX.run ttOk rfl ?_
                        refine WX.slot 85 (y := .v (.agg #[.slice p4 (((laws_markStateVector ((impl_DecodeVector (laws_toByteS aB)).1) 1).2.entries).length) c4])) rfl (fun _ => by show (.agg #[.slice p4 (((impl_DecodeVector (laws_toByteS aB)).1.entries).length) c4] : Value) = .agg #[.slice p4 (((laws_markStateVector ((impl_DecodeVector (laws_toByteS aB)).1) 1).2.entries).length) c4]; simp only [hl2]) ?_
                        refine WX.callV rfl rfl rfl rfl rfl (fun _ => rfl) rfl (fun w G bs hI hΓ => f22 w n (by omega) ((laws_markStateVector ((impl_DecodeVector (laws_toByteS aB)).1) 1).2) p4 c4 (hΓ.get 15 rfl) 1 hq10.1.2 (show I64 1 from (by unfold I64; omega))) ?_
                        intro hq15
                        refine WX.run ttOk rfl ?_
                        refine WX.cases 89 rfl (fun h12 => ?_) (fun h12 => ?_)
                        · skip
                          have h12d := B.dt h12
                          exact absurd (h8.symm.trans h12) Bool.false_ne_true
                        · skip
                          have h12d := B.df h12
                          refine WX.run ttOk rfl ?_
                          refine WX.cases 92 rfl (fun h13 => ?_) (fun h13 => ?_)
                          · skip
                            have h13d := B.nt' h13
                            exact absurd (h9.symm.trans h13) Bool.false_ne_true
                          · skip
                            have h13d := B.nf' h13
                            refine WX.run ttOk rfl ?_
                            have hP8 : laws_FnExactDecodeVector aB = true := by simp only [laws_FnExactDecodeVector, h1, h2, h3, h4, h5, h6, h7, h8, h9, h10, h11, h12, h13, cond_true, cond_false]
                            refine WX.ret ttOk rfl ?_
                            intro w1 G bs hI hΓ
                            rw [hP8]
                            exact ⟨rfl, trivial⟩
end Go.Proofs.Ytfffongneoegbaa

namespace Go.Stp
set_option linter.unusedVariables false
set_option linter.unusedSimpArgs false
theorem same_In (a b c : Int) : impl_InRange a b c = spec_l1In a b c := rfl
theorem vPL : ∀ l : List UInt8, impl_ValidPart_L1 l = spec_ValidPart_L1 l ∧ (spec_ValidPart_L1 l = none ∨ spec_ValidPart_L1 l = some false)
  | [] => ⟨rfl, .inl rfl⟩
  | c :: l => by
    obtain ⟨h1, h2⟩ := vPL l
    simp only [impl_ValidPart_L1, spec_ValidPart_L1, h1, spec_l1In, ge_iff_le]
    cases decide ((97 : Int) ≤ (c.toNat : Int)) <;> cases decide ((c.toNat : Int) ≤ 122) <;> cases decide ((48 : Int) ≤ (c.toNat : Int)) <;> cases decide ((c.toNat : Int) ≤ 57) <;> cases hc : ((c.toNat : Int) == 45) <;> simp [bne, hc, h2]
theorem same_ValidPart (s : Str) : impl_ValidPart s = spec_ValidPart s := by
  unfold impl_ValidPart spec_ValidPart
  obtain ⟨h1, h2⟩ := vPL s.data.toList
  rw [h1, same_In]
  rcases h2 with h | h <;> rw [h] <;> cases spec_l1In (((s).size : Nat) : Int) 1 8 <;> rfl
theorem iF_string : ∀ (f : Str → Bool) (l : List Str) (i : Nat), (slices_IndexFunc_string_L1 f l i = none ∧ l.any f = false) ∨ ∃ j : Nat, slices_IndexFunc_string_L1 f l i = some (j : Int) ∧ l.any f = true
  | f, [], i => .inl ⟨rfl, rfl⟩
  | f, x :: l, i => by
    simp only [slices_IndexFunc_string_L1, List.any_cons]
    cases hx : f x
    · simpa using iF_string f l (i + 1)
    · exact .inr ⟨i, rfl, rfl⟩
theorem cF_string (l : List Str) (f : Str → Bool) : slices_ContainsFunc_string l f = l.any f := by
  unfold slices_ContainsFunc_string slices_IndexFunc_string
  rcases iF_string f l 0 with ⟨h1, h2⟩ | ⟨j, h1, h2⟩ <;> simp [h1, h2]
theorem vNL : ∀ l : List Str, spec_ValidName_L1 l = bif l.any (fun e => !(spec_ValidPart e)) then some false else none
  | [] => rfl
  | x :: l => by
    simp only [spec_ValidName_L1, List.any_cons]
    cases (!(spec_ValidPart x)) <;> simp [vNL l]
theorem same_ValidName (a : Name) : impl_ValidName a = spec_ValidName a := by
  unfold impl_ValidName spec_ValidName impl_ValidName_c1
  rw [cF_string, vNL]
  simp only [same_ValidPart]
  cases a.parts.any (fun e => !(spec_ValidPart e)) <;> cases decide ((((a.parts).length : Nat) : Int) ≤ 6) <;> rfl
theorem cmp_l4 (x y : Str) : cmp_Compare_string x y = spec_l4Cmp x y := by
  simp [cmp_Compare_string, cmp_isNaN_string, spec_l4Cmp]
theorem cCL : ∀ (a b p : List Str), (slices_Compare_string_L1 (p ++ b) a p.length = spec_CompareNames_L1 ⟨p ++ b⟩ a p.length ∧ (spec_CompareNames_L1 ⟨p ++ b⟩ a p.length = none → a.length ≤ b.length)) ∨ (slices_Compare_string_L1 (p ++ b) a p.length = some 1 ∧ spec_CompareNames_L1 ⟨p ++ b⟩ a p.length = none ∧ b.length < a.length)
  | [], b, p => .inl ⟨rfl, fun _ => Nat.zero_le _⟩
  | x :: a, [], p => .inr (by simp [slices_Compare_string_L1, spec_CompareNames_L1])
  | x :: a, y :: b, p => by
    have ih := cCL a b (p ++ [y])
    rw [mid_app, mid_len] at ih
    have hlt : decide (((p.length : Nat) : Int) < (((p ++ y :: b).length : Nat) : Int)) = true := by simp; omega
    have hge : decide (((p.length : Nat) : Int) ≥ (((p ++ y :: b).length : Nat) : Int)) = false := by simp; omega
    simp only [spec_CompareNames_L1, slices_Compare_string_L1, hlt, hge, cond_true, cond_false, mid, cmp_l4, List.length_cons]
    cases (spec_l4Cmp x y != 0)
    · simp only [cond_false]
      rcases ih with ⟨h1, h2⟩ | ⟨h1, h2, h3⟩
      · exact .inl ⟨h1, fun h => by have := h2 h; omega⟩
      · exact .inr ⟨h1, h2, by omega⟩
    · exact .inl ⟨rfl, fun h => by cases h⟩
theorem same_CompareNames (a b : Name) : impl_CompareNames a b = spec_CompareNames a b := by
  unfold impl_CompareNames slices_Compare_string spec_CompareNames
  have h : (slices_Compare_string_L1 b.parts a.parts 0 = spec_CompareNames_L1 b a.parts 0 ∧ (spec_CompareNames_L1 b a.parts 0 = none → a.parts.length ≤ b.parts.length)) ∨ (slices_Compare_string_L1 b.parts a.parts 0 = some 1 ∧ spec_CompareNames_L1 b a.parts 0 = none ∧ b.parts.length < a.parts.length) := cCL a.parts b.parts []
  rcases h with ⟨h1, h2⟩ | ⟨h1, h2, h3⟩
  · rw [h1]
    cases hs : spec_CompareNames_L1 b a.parts 0 with
    | some k => rfl
    | none =>
      have := h2 hs
      have c : decide ((((a.parts).length : Nat) : Int) > (((b.parts).length : Nat) : Int)) = false := by simp; omega
      simp only [c, cond_false]
  · rw [h1, h2]
    have c : decide ((((a.parts).length : Nat) : Int) > (((b.parts).length : Nat) : Int)) = true := by simp; omega
    have d : decide ((((a.parts).length : Nat) : Int) < (((b.parts).length : Nat) : Int)) = false := by simp; omega
    simp only [c, d, cond_false, cond_true]
theorem vTL (l : List TableEntry) : ∀ (r : List TableEntry) (i : Nat), impl_ValidTable_L1 l r i = spec_ValidTable_L1 l r i
  | [], _ => rfl
  | x :: r, i => by simp only [impl_ValidTable_L1, spec_ValidTable_L1, same_ValidName, same_CompareNames, vTL l r]
theorem same_ValidTable (l : List TableEntry) : impl_ValidTable l = spec_ValidTable l := by
  unfold impl_ValidTable spec_ValidTable
  rw [vTL]
theorem iF_TableEntry : ∀ (f : TableEntry → Bool) (l : List TableEntry) (i : Nat), (slices_IndexFunc_TableEntry_L1 f l i = none ∧ l.any f = false) ∨ ∃ j : Nat, slices_IndexFunc_TableEntry_L1 f l i = some (j : Int) ∧ l.any f = true
  | f, [], i => .inl ⟨rfl, rfl⟩
  | f, x :: l, i => by
    simp only [slices_IndexFunc_TableEntry_L1, List.any_cons]
    cases hx : f x
    · simpa using iF_TableEntry f l (i + 1)
    · exact .inr ⟨i, rfl, rfl⟩
theorem cF_TableEntry (l : List TableEntry) (f : TableEntry → Bool) : slices_ContainsFunc_TableEntry l f = l.any f := by
  unfold slices_ContainsFunc_TableEntry slices_IndexFunc_TableEntry
  rcases iF_TableEntry f l 0 with ⟨h1, h2⟩ | ⟨j, h1, h2⟩ <;> simp [h1, h2]
theorem vVL : ∀ l : List TableEntry, spec_ValidVector_L1 l = bif l.any (fun e => !(spec_l1In e.value 1 1000)) then some false else none
  | [] => rfl
  | x :: l => by
    simp only [spec_ValidVector_L1, List.any_cons]
    cases (!(spec_l1In x.value 1 1000)) <;> simp [vVL l]
theorem same_ValidVector' (a : StateVector) : impl_ValidVector a = spec_ValidVector a := by
  unfold impl_ValidVector spec_ValidVector impl_ValidVector_c1
  rw [cF_TableEntry, vVL, same_ValidTable]
  simp only [same_In]
  cases a.entries.any (fun e => !(spec_l1In e.value 1 1000)) <;> cases spec_ValidTable a.entries <;> rfl
end Go.Stp

namespace Go.Stp
set_option linter.unusedVariables false
set_option linter.unusedSimpArgs false
set_option maxRecDepth 100000 in
theorem m128 : ∀ m : Fin 256, m.val ||| 128 = ((m.val &&& 127) ||| 128) := by decide
theorem rvE (b : List UInt8) (at_ : Int) (ha : 0 ≤ at_) : ∀ (m i : Nat) (n_ : Int), (∃ r, impl_ReadVarint_L1 b m i (at_ + ((i : Nat) : Int)) n_ = .ret r ∧ spec_ReadVarint_L1 b at_ m i n_ = .ret r) ∨ ((∃ x, impl_ReadVarint_L1 b m i (at_ + ((i : Nat) : Int)) n_ = .nxt x) ∧ (spec_ReadVarint_L1 b at_ m i n_ = .ret (0, 0, false) ∨ ∃ y, spec_ReadVarint_L1 b at_ m i n_ = .nxt y))
  | 0, i, n_ => .inr ⟨⟨_, rfl⟩, .inr ⟨_, rfl⟩⟩
  | m + 1, i, n_ => by
    have ih := rvE b at_ ha m (i + 1)
    rw [show at_ + (((i + 1 : Nat)) : Int) = at_ + ((i : Nat) : Int) + 1 by omega] at ih
    simp only [impl_ReadVarint_L1, spec_ReadVarint_L1]
    rw [decide_eq_false (show ¬ at_ < 0 by omega), cond_false]
    by_cases hlt : at_ + ((i : Nat) : Int) < ((b.length : Nat) : Int)
    · rw [decide_eq_true hlt, decide_eq_false (show ¬ at_ ≥ ((b.length : Nat) : Int) - ((i : Nat) : Int) by omega), cond_true, cond_false]
      cases b[(at_ + ((i : Nat) : Int)).toNat]? with
      | none => exact .inl ⟨_, rfl, rfl⟩
      | some e1 =>
        dsimp only
        generalize bitO .or n_ (IntKind.i64.wrap ((bitO .and ((e1).toNat : Int) 127) * 2 ^ (min (Int.toNat (7 * ((i : Nat) : Int))) 64))) = v
        cases decide (((e1).toNat : Int) < 128)
        · exact ih v
        · cases (((e1).toNat : Int) == 0) <;> cases decide (((i : Nat) : Int) > 0) <;> cases decide (v > 1000000000000) <;> exact .inl ⟨_, rfl, rfl⟩
    · rw [decide_eq_false hlt, decide_eq_true (show at_ ≥ ((b.length : Nat) : Int) - ((i : Nat) : Int) by omega), cond_true, cond_false]
      exact .inr ⟨⟨_, rfl⟩, .inl rfl⟩
theorem same_ReadVarint (b : List UInt8) (at_ : Int) : impl_ReadVarint b at_ = spec_ReadVarint b at_ := by
  unfold impl_ReadVarint spec_ReadVarint
  by_cases ha : at_ < 0
  · rw [decide_eq_true ha, cond_true]
    have : spec_ReadVarint_L1 b at_ 6 0 0 = .ret (0, 0, false) := by
      simp only [spec_ReadVarint_L1]
      rw [decide_eq_true ha, cond_true]
    rw [this]
  · rw [decide_eq_false ha, cond_false]
    have h := rvE b at_ (by omega) 6 0 0
    rw [show at_ + (((0 : Nat)) : Int) = at_ by omega] at h
    rcases h with ⟨r, h1, h2⟩ | ⟨⟨x, h1⟩, h2 | ⟨y, h2⟩⟩
    · rw [h1, h2]
    · rw [h1, h2]
    · rw [h1, h2]
theorem same_ReadBytes (b : List UInt8) (at_ most : Int) : impl_ReadBytes b at_ most = spec_ReadBytes b at_ most := by
  simp only [impl_ReadBytes, spec_ReadBytes, same_ReadVarint]
theorem rnE (b : List UInt8) : ∀ (m : Nat) (nx : Int) (o : List Str), impl_ReadName_L1 b m nx o = spec_ReadName_L1 b m nx o
  | 0, nx, o => rfl
  | m + 1, nx, o => by simp only [impl_ReadName_L1, spec_ReadName_L1, same_ReadBytes, rnE b m]
theorem same_ReadName (b : List UInt8) (at_ : Int) : impl_ReadName b at_ = spec_ReadName b at_ := by
  simp only [impl_ReadName, spec_ReadName, same_ReadVarint, same_ValidName, rnE]
theorem dvE (b : List UInt8) : ∀ (m : Nat) (a : Int) (v : List TableEntry), impl_DecodeVector_L1 b m a v = spec_DecodeVector_L1 b m a v
  | 0, a, v => rfl
  | m + 1, a, v => by simp only [impl_DecodeVector_L1, spec_DecodeVector_L1, same_ReadName, same_ReadVarint, dvE b m]
theorem same_DecodeVector' (b : List UInt8) : impl_DecodeVector b = spec_DecodeVector b := by
  simp only [impl_DecodeVector, spec_DecodeVector, same_ReadVarint, same_ValidVector', dvE]
theorem szN0 : sz (Name.mk []) = 0 := by simp [sz_Name, sz_list, szL_nil]
theorem szV0 : sz (StateVector.mk []) = 0 := by simp [sz_StateVector, sz_list, szL_nil]
theorem szL8 : ∀ (l : List Str), (∀ p ∈ l, p.size ≤ 8) → szL l ≤ 8 * l.length
  | [], _ => by simp [szL_nil]
  | x :: l, h => by
    have h1 := szL8 l (fun p hp => h p (List.mem_cons_of_mem _ hp))
    have h2 := h x List.mem_cons_self
    rw [szL_cons, sz_str, List.length_cons]
    omega
theorem rnB (b : List UInt8) (at_ : Int) : sz (spec_ReadName b at_).1 ≤ 54 := by
  have L : ∀ (m : Nat) (nx : Int) (o : List Str), (∃ r, spec_ReadName_L1 b m nx o = .ret r ∧ r.1 = Name.mk []) ∨ ∃ x, spec_ReadName_L1 b m nx o = .nxt x := fun m => by
    induction m with
    | zero => exact fun nx o => .inr ⟨_, rfl⟩
    | succ m ih =>
      intro nx o
      simp only [spec_ReadName_L1]
      cases (spec_ReadBytes b nx 8).2.2
      · exact .inl ⟨_, rfl, rfl⟩
      · exact ih _ _
  unfold spec_ReadName
  cases (spec_ReadVarint b at_).2.2
  · show sz (Name.mk []) ≤ 54
    rw [szN0]; omega
  · simp only [Bool.not_true, cond_false]
    cases decide ((spec_ReadVarint b at_).1 > 6)
    · simp only [cond_false]
      rcases L (((spec_ReadVarint b at_).1).toNat) ((spec_ReadVarint b at_).2.1) [] with ⟨r, h1, h2⟩ | ⟨⟨nx, o⟩, h1⟩
      · rw [h1]; dsimp only; rw [h2, szN0]; omega
      · rw [h1]; dsimp only
        cases hv : spec_ValidName (Name.mk o)
        · show sz (Name.mk []) ≤ 54
          rw [szN0]; omega
        · have h3 := vnB_spec hv
          have h4 := szL8 o h3.2
          have h5 : o.length ≤ 6 := h3.1
          show sz (Name.mk o) ≤ 54
          rw [sz_Name, sz_list]
          dsimp only
          omega
    · show sz (Name.mk []) ≤ 54
      rw [szN0]; omega
theorem szL54 : ∀ (l : List TableEntry), (∀ e ∈ l, sz e ≤ 54) → szL l ≤ 54 * l.length
  | [], _ => by simp [szL_nil]
  | x :: l, h => by
    have h1 := szL54 l (fun p hp => h p (List.mem_cons_of_mem _ hp))
    have h2 := h x List.mem_cons_self
    rw [szL_cons, List.length_cons]
    omega
theorem dvB (b : List UInt8) : ∀ (m : Nat) (a : Int) (v : List TableEntry), (∀ e ∈ v, sz e ≤ 54) → (∃ r, spec_DecodeVector_L1 b m a v = .ret r ∧ r.1 = StateVector.mk []) ∨ ∃ a' v', spec_DecodeVector_L1 b m a v = .nxt (a', v') ∧ v'.length ≤ v.length + m ∧ ∀ e ∈ v', sz e ≤ 54
  | 0, a, v, h => .inr ⟨a, v, rfl, by omega, h⟩
  | m + 1, a, v, h => by
    simp only [spec_DecodeVector_L1]
    cases (spec_ReadName b a).2.2
    · exact .inl ⟨_, rfl, rfl⟩
    · simp only [Bool.not_true, cond_false]
      cases (spec_ReadVarint b ((spec_ReadName b a).2.1)).2.2
      · exact .inl ⟨_, rfl, rfl⟩
      · simp only [Bool.not_true, cond_false]
        rcases dvB b m ((spec_ReadVarint b ((spec_ReadName b a).2.1)).2.1) (v ++ [(TableEntry.mk ((spec_ReadName b a).1) ((spec_ReadVarint b ((spec_ReadName b a).2.1)).1))]) (fun e he => (List.mem_append.1 he).elim (h e) (fun he => by
          obtain rfl := List.mem_singleton.1 he
          rw [sz_TableEntry]; exact rnB b a)) with h1 | ⟨a', v', h1, h2, h3⟩
        · exact .inl h1
        · refine .inr ⟨a', v', h1, ?_, h3⟩
          rw [List.length_append, List.length_cons, List.length_nil] at h2
          omega
theorem bnd_DecodeVector (b : List UInt8) : sz (spec_DecodeVector b).1 ≤ 1100 := by
  unfold spec_DecodeVector
  have z : sz (StateVector.mk []) ≤ 1100 := by rw [szV0]; omega
  cases (spec_ReadVarint b 0).2.2
  · exact z
  · simp only [Bool.not_true, cond_false]
    cases hk : decide ((spec_ReadVarint b 0).1 > 20)
    · have hk' := of_decide_eq_false hk
      simp only [cond_false]
      rcases dvB b (((spec_ReadVarint b 0).1).toNat) ((spec_ReadVarint b 0).2.1) [] (fun e he => by cases he) with ⟨r, h1, h2⟩ | ⟨a', v', h1, h2, h3⟩
      · rw [h1]; dsimp only; rw [h2]; exact z
      · rw [h1]; dsimp only
        rw [List.length_nil] at h2
        have h4 := szL54 v' h3
        cases (a' != (((b).length : Nat) : Int))
        · simp only [cond_false]
          cases spec_ValidVector (StateVector.mk v')
          · exact z
          · show sz (StateVector.mk v') ≤ 1100
            rw [sz_StateVector, sz_list]
            dsimp only
            omega
        · exact z
    · exact z
end Go.Stp

namespace Go.Stp
open Go.RowKit (Below)
open GoT (X k ok sh fa oa)
def Opens (P : Program) (T : TypeId) (α : Type) [GoT α] : Prop :=
  P.cellsOf T = k α ∧ ∀ {H : Type} {enc : TypeId × Value → H} {w : World} {spare : Nat → Bool} {held : Bool} {fuel : Nat} {cs : List Value} {x : DataW H × List MemPlace}, DataW.trod enc P w 0 spare held fuel T cs = some x →
    ∃ (a : α) (y : X α), cs = sh a y ∧ ok 10 a ∧ All (hp w) (fa .der a y)
theorem opens_byte {P : Program} {T : TypeId} (h : P.underlying T = some (.int .u8)) (hc : P.cellsOf T = 1) : Opens P T UInt8 := ⟨hc, fun h' => by
  obtain ⟨n, rfl, _, hw⟩ := DataW.trod_int h h'
  have hn : 0 ≤ n ∧ n ≤ 255 := by simpa [Lit.wf, IntKind.min, IntKind.max, IntKind.signed, IntKind.bits] using hw
  refine ⟨UInt8.ofNat n.toNat, (), ?_, trivial, (fun _ h_ => by cases h_)⟩
  have : ((UInt8.ofNat n.toNat).toNat : Int) = n := by
    rw [UInt8.toNat_ofNat', Nat.mod_eq_of_lt (by omega)]; omega
  simp only [sh]
  rw [this]⟩
theorem cells?_each {w : World} {a : Addr} {n : Nat} {cs : List Value} (h : w.cells? 0 a n = some cs) : ∀ j u, cs[j]? = some u → w.cell? (a.add j) = some u := by
  intro j u hj
  obtain ⟨_, h1, h2⟩ := World.cells?_some h
  rw [h2 j (by rw [← h1]; exact (List.getElem?_eq_some_iff.1 hj).1)]; exact hj
theorem opens_slice {P : Program} {T E : TypeId} {α : Type} [GoT α] (h : P.underlying T = some (.slice E)) (hc : P.cellsOf T = 1) (he : Opens P E α) : Opens P T (List α) := ⟨hc, fun {H enc w spare held fuel cs x} h' => by
  rcases DataW.trod_slice h h' with ⟨rfl, _⟩ | ⟨a, len, cap, elems, rest, n, _, rfl, _, _, hl, hm, hlen, hel, _, _⟩
  · exact ⟨[], (none, 0), rfl, ⟨Nat.zero_le _, fun _ h_ => by cases h_⟩, fun f hf => by
      obtain rfl := List.mem_singleton.1 hf
      exact ⟨Nat.zero_le _, Nat.zero_le _, [], fun j u h => by simp at h, rfl⟩⟩
  · have key : ∀ m, m ≤ len → ∃ (l : List α) (xs : List Value), l.length = m ∧ xs.length = m * k α ∧ RdL (hp w) xs l ∧ (∀ b ∈ l, ok 10 b) ∧ CellsAt (hp w) (some a) xs := by
      intro m
      induction m with
      | zero => exact fun _ => ⟨[], [], rfl, by simp, rfl, by simp, fun j u h => by simp at h⟩
      | succ m ih =>
        intro hmle
        obtain ⟨l, xs, h1, h2, h3, h4, h5⟩ := ih (by omega)
        have hm' := hel m (by omega)
        rw [he.1] at hm'
        obtain ⟨y, hy⟩ : ∃ y, elems[m]? = some y := ⟨_, List.getElem?_eq_getElem (by omega)⟩
        rw [hy, Option.bind_eq_some_iff] at hm'
        obtain ⟨cs', hcs, htr⟩ := hm'
        obtain ⟨b, yb, rfl, hok, hfa⟩ := he.2 htr
        refine ⟨l ++ [b], xs ++ sh b yb, by simp [h1], by rw [List.length_append, h2, GoT.len, Nat.add_mul]; omega, h3.snoc hfa, ?_, ?_⟩
        · intro c hc
          rcases List.mem_append.1 hc with hc | hc
          · exact h4 c hc
          · simp at hc; subst hc; exact hok
        · intro j u hj
          refine ⟨a, rfl, ?_⟩
          by_cases hlt : j < xs.length
          · rw [List.getElem?_append_left hlt] at hj
            obtain ⟨a', ha', hg⟩ := h5 j u hj
            simp at ha'; subst ha'; exact hg
          · rw [List.getElem?_append_right (by omega)] at hj
            have := cells?_each hcs _ _ hj
            rw [addr_add_add, h2, show m * k α + (j - m * k α) = j by omega] at this
            exact this
    obtain ⟨l, xs, h1, h2, h3, h4, h5⟩ := key len (Nat.le_refl _)
    have hm' : len ≤ 9223372036854775807 := by simp only [maxLen] at hm; omega
    refine ⟨l, (some a, cap), by simp [sh, h1], ⟨by show l.length ≤ 9223372036854775807; omega, h4⟩, fun f hf => ?_⟩
    obtain rfl := List.mem_singleton.1 hf
    exact ⟨by omega, by omega, xs, h5, h3⟩⟩
def Arg (P : Program) (T : TypeId) (α : Type) [GoT α] (mk : List Value → Value) : Prop :=
  ∀ {H : Type} {enc : TypeId × Value → H} {W : World} {b0 : Nat} {spare : Nat → Bool} {held : Bool} {v : Value} {d : DataW H} {ps : List MemPlace}, Value.okWide P W .any b0 T v → DataW.Trod enc P W 0 spare held T v d ps →
    ∃ (a : α) (y : X α), v = mk (sh a y) ∧ ok 10 a ∧ All (hp W) (fa .der a y)
theorem arg_slice {P : Program} {T E : TypeId} {α : Type} [GoT α] (h : P.underlying T = some (.slice E)) (ho : Opens P T (List α)) : Arg P T (List α) (fun cs => cs.headD undef) := by
  intro H enc W b0 spare held v d ps hval ⟨fuel, hf⟩
  obtain ⟨a, y, h1, h2, h3⟩ := ho.2 hf
  refine ⟨a, y, ?_, h2, h3⟩
  cases v with
  | agg cs => simp [Value.okWide, h, Cell.okWide, Cell.ok] at hval
  | _ => first | (simp [Value.cells, sh] at h1; done) | (simp [Value.cells, sh] at h1; simp [sh, h1])
theorem trodAll_stays {H : Type} {enc : TypeId × Value → H} {P : Program} (hl : laidOutB P = true) {W W' : World} {sp : Nat → Bool} : ∀ {ts : List TypeId} {vs : List Value} {ds : List (DataW H)} {ps : List MemPlace},
    ts.all (fun t => P.readableRec t && decide (t < P.types.size)) = true → DataW.TrodAll enc P W 0 (fun _ => true) true ts vs ds ps → (∀ p ∈ ps, W.sameAt W' p) → (∀ p ∈ ps, sp p.block = true) → DataW.TrodAll enc P W' 0 sp true ts vs ds ps
  | [], [], [], _, _, h, _, _ => h
  | t :: ts, v :: vs, d :: ds, ps, ha, ⟨p, q, h1, h2, e⟩, hs, hsp => by
    simp only [List.all_cons, Bool.and_eq_true, decide_eq_true_eq] at ha
    subst e
    exact ⟨p, q, WideElems.Trod_stays hl ha.1.1 ha.1.2 h1 (fun x hx => hs x (List.mem_append_left _ hx)) (fun x hx => hsp x (List.mem_append_left _ hx)),
      trodAll_stays hl ha.2 h2 (fun x hx => hs x (List.mem_append_right _ hx)) (fun x hx => hsp x (List.mem_append_right _ hx)), rfl⟩
theorem trodAll_len {H : Type} {enc : TypeId × Value → H} {P : Program} {W : World} {b : Nat} {sp : Nat → Bool} {hd : Bool} : ∀ {ts : List TypeId} {vs : List Value} {ds : List (DataW H)} {ps : List MemPlace}, DataW.TrodAll enc P W b sp hd ts vs ds ps → ds.length = ts.length
  | [], [], [], _, _ => rfl
  | _ :: _, _ :: _, _ :: _, _, ⟨_, _, _, h2, _⟩ => by simp [trodAll_len h2]
theorem law_post {H : Type} {enc : TypeId × Value → H} {P : Program} {f : Func} {s : ChangeSpec} {W W' : World} {args : Array Value} {ds gs : List (DataW H)} {before : List MemPlace} {B : TypeId}
    (hl : laidOutB P = true) (hpar : f.params.toList.all (fun t => P.readableRec t && decide (t < P.types.size)) = true) (hvars : s.vars = []) (hB : f.resultTypes = #[B]) (hu : P.underlying B = some .bool)
    (hfn : ∀ ds : List (DataW H), ds.length = f.params.size → s.fn H ds = { results := [.lit (.bool true)], args := ds })
    (hW : DataW.Whole enc P f.params.toList s.vars false W args.toList ds gs before) (hb : Below W.heap.size W W') : s.post enc P f false true false false W args (.bool true) W' := by
  have hW' := hW
  have hlt : ∀ p ∈ before, p.block < W.heap.size := fun p hp => hW.lt p hp
  obtain ⟨p, q, hA, hV, rfl, hfz, hnd⟩ := hW'
  rw [hvars] at hV
  obtain ⟨rfl, rfl⟩ := ChangeShapes.trodVars_none hV
  have hlen : ds.length = f.params.size := by simpa using trodAll_len hA
  have hdd : s.fn H (ds ++ []) = { results := [.lit (.bool true)], args := ds } := by rw [List.append_nil]; exact hfn ds hlen
  have hres : ∀ (b : Nat) (sp : Nat → Bool) (hd : Bool), DataW.TrodAll enc P W' b sp hd f.resultTypes.toList ((Value.bool true).resultList f.resultTypes.size) (s.fn H (ds ++ [])).results [] := by
    intro b sp hd
    rw [hdd, hB]
    exact trodAll_cons_mk (RowKit.shut_bool hu _) ChangeShapes.trodAll_mk0
  have hargs : ∀ sp : Nat → Bool, (∀ x ∈ p ++ [], sp x.block = true) → DataW.TrodAll enc P W' 0 sp true f.params.toList args.toList (s.fn H (ds ++ [])).args p := by
    intro sp hsp
    rw [hdd]
    exact trodAll_stays hl hpar hA (fun x hx => hb.same (hlt x (by simpa using hx))) (fun x hx => hsp x (by simpa using hx))
  have hvars' : ∀ sp : Nat → Bool, DataW.TrodVars enc P W' sp s.vars (s.fn H (ds ++ [])).vars [] := by
    intro sp; rw [hvars, hdd]; rfl
  have hold : ∀ x ∈ p ++ [], (fun b => decide (b < W.heap.size)) x.block = true := fun x hx => by simpa using hlt x hx
  refine ⟨ds, [], p ++ [], [], p, [], hW, hres _ _ _, hargs _ hold, hvars' _, World.keptBut_mono (fun x hx => ⟨hx, Or.inr (by simpa using hx)⟩) (hb.frame (· ∈ p ++ [])), fun h => (by cases h)⟩
end Go.Stp

namespace Go.Proofs.Ytfffongneoegbaa.Facts
set_option maxRecDepth 100000
theorem laid : laidOutB Try.prog = true := by kernel_rfl
theorem rowed : mapsRowed Try.prog = true := by kernel_rfl
end Go.Proofs.Ytfffongneoegbaa.Facts

namespace Go.Stp
set_option linter.unusedVariables false
set_option linter.unusedSimpArgs false
theorem same_DecodeVector (aB : (List UInt8)) : impl_DecodeVector aB = spec_DecodeVector aB := same_DecodeVector' aB
theorem bound_DecodeVector (aB : (List UInt8)) : sz (spec_DecodeVector aB).1 ≤ 1100 := bnd_DecodeVector aB
theorem true_DecodeVector (aB : (List UInt8)) (haB : GoT.ok 10 aB) : laws_FnExactDecodeVector aB = true := by
  unfold laws_FnExactDecodeVector
  by_cases sf0 : (((aB).length : Nat) : Int) > 1048576
  · simp only [decide_eq_true sf0, cond_true]
  have df0 := decide_eq_false sf0
  have zf0 : sz aB = (aB).length := by rw [sz_list, szL_u8]; rfl
  obtain ⟨mp0, mq0, me0⟩ := mk_ByteS aB (1) (by omega) (by omega)
  have dk := dF (show 0 ≤ (laws_markByteS aB (1)).1 by omega)
  have hb := bound_DecodeVector aB
  have hb0 := hb
  obtain ⟨gp0, gq0, ge0⟩ := mk_StateVector (spec_DecodeVector aB).1 (1) (by omega) (by omega)
  have dg0 := dF (show 0 ≤ (laws_markStateVector (spec_DecodeVector aB).1 (1)).1 by omega)
  simp only [df0, cond_false, to_ByteS, same_DecodeVector, eq_ByteS, eq_StateVector, dk, ge0, dg0, Bool.not_true, bne_self_F, nbeq_self_F, beq_self_eq_true]
end Go.Stp
namespace Go.Proofs.Ytfffongneoegbaa
open Go.Stp
open Go.RowKit (Below)
open Go.ChangeShapes Go.WideShapes Go.ChangeAt
namespace LawDecodeVector
theorem own : ownKnob Try.prog.godebug = none := by kernel_rfl
theorem laid : laidOutB Try.prog = true := Facts.laid
set_option maxRecDepth 100000 in
theorem lifted (os : Os) (started : os.Started) (H : Type) (enc : TypeId × Value → H) :
    ReturnsInHanded {} Try.checked os 5 .any (Rows.fnExactDecodeVectorSpec.pre6 enc Try.prog Try.f5 Rows.fnExactDecodeVectorRow.domain false) (Rows.fnExactDecodeVectorSpec.post enc Try.prog Try.f5 false true false false) := by
  refine returnsInHanded_of_change (C := Try.checked) own started (by kernel_rfl) Try.func5
    (ChangeSpec.witness6 (enc := enc) (C := Try.checked) false ⟨#[], #[.slice none 0 0], []⟩ 8 (by kernel_rfl) (by kernel_rfl) (by kernel_rfl) (by kernel_rfl)) ?_
  intro W base args ds gs before hval0 hW _ _
  have hval : ∀ (j : Nat) t v, Try.f5.params[j]? = some t → args[j]? = some v → Value.okWide Try.prog W .any base t v := hval0
  have hW' := hW
  obtain ⟨p, q, hA0, _⟩ := hW
  have hA : DataW.TrodAll enc Try.prog W 0 (fun _ => true) true Try.f5.params.toList args.toList ds p := hA0
  rw [Try.params5] at hA hval
  obtain ⟨v0, vs0, d0, ds0, p0, q0, hargs, rfl, rfl, h0, r0⟩ := ChangeShapes.trodAll_cons hA
  obtain ⟨rfl, rfl, rfl⟩ := trodAll_nil r0
  obtain rfl : args = #[v0] := by cases args; simp_all
  obtain ⟨a0, x0, rfl, k0, g0⟩ := (arg_slice Try.underlying22 (opens_slice Try.underlying22 (by kernel_rfl) (opens_byte Try.underlying5 (by kernel_rfl)))) (hval 0 22 _ rfl rfl) h0
  have ht := true_DecodeVector a0 k0
  refine (f5 W 0 (by decide) a0 x0.1 x0.2 (g0 (MF.rs .der x0.1 x0.2 a0) (List.mem_cons_self)) k0).2.mono fun e W1 ⟨v, he, hb, hv⟩ => ?_
  rw [ht] at hv
  obtain ⟨rfl, _⟩ := hv
  subst he
  exact ⟨_, rfl, law_post laid (by kernel_rfl) rfl rfl Try.underlying4 (fun ds h => by match ds, h with | [_], _ => rfl) hW' hb.below⟩
set_option maxRecDepth 100000 in
theorem c_inPlace : (Rows.fnExactDecodeVectorRow.inPlace == Try.prog.inPlace 5) = true := by kernel_rfl
set_option maxRecDepth 100000 in
theorem c_unfollowed : (Rows.fnExactDecodeVectorRow.unfollowed == Try.prog.unfollowed 5) = true := by kernel_rfl
set_option maxRecDepth 100000 in
theorem c_recurses : (Rows.fnExactDecodeVectorRow.recurses == Try.prog.recurses 5) = true := by kernel_rfl
set_option maxRecDepth 100000 in
theorem c_named : (Rows.fnExactDecodeVectorRow.named == Try.prog.varsNamed 5) = true := by kernel_rfl
set_option maxRecDepth 100000 in
theorem c_read : Try.f5.params.all (Try.pinned.checked.prog.readableRec ·) = true := by kernel_rfl
set_option maxRecDepth 100000 in
theorem c_maps : (Rows.fnExactDecodeVectorRow.maps == (Try.f5.params.toList ++ Rows.fnExactDecodeVectorSpec.plain.varTypes Try.pinned.checked.prog).any (Try.pinned.checked.prog.mapsRec ·)) = true := by kernel_rfl
set_option maxRecDepth 100000 in
theorem c_ifaces : (Rows.fnExactDecodeVectorRow.ifaces == (Try.f5.params.toList ++ Rows.fnExactDecodeVectorSpec.plain.varTypes Try.pinned.checked.prog).any (Try.pinned.checked.prog.ifacesRec ·)) = true := by kernel_rfl
set_option maxRecDepth 100000 in
theorem c_loops : (Rows.fnExactDecodeVectorRow.loops == (Try.f5.params.toList ++ Rows.fnExactDecodeVectorSpec.plain.varTypes Try.pinned.checked.prog).any (Try.pinned.checked.prog.loopsFrom ·)) = true := by kernel_rfl
set_option maxRecDepth 100000 in
theorem c_wide : (Rows.fnExactDecodeVectorRow.wideKeys == (Try.f5.params.toList ++ Rows.fnExactDecodeVectorSpec.plain.varTypes Try.pinned.checked.prog ++ Try.f5.resultTypes.toList).any (Try.pinned.checked.prog.wideKeysFrom ·)) = true := by kernel_rfl
set_option maxRecDepth 100000 in
theorem c_rread : Try.f5.resultTypes.all (fun t => Try.pinned.checked.prog.readableRec t && decide (t < Try.pinned.checked.prog.types.size)) = true := by kernel_rfl
set_option maxRecDepth 100000 in
theorem c_veiled : (Rows.fnExactDecodeVectorRow.veiled == (Try.f5.params.toList ++ Rows.fnExactDecodeVectorSpec.plain.varTypes Try.pinned.checked.prog ++ Try.f5.resultTypes.toList).any (Try.pinned.checked.prog.veiledRec ·)) = true := by kernel_rfl
set_option maxRecDepth 100000 in
theorem c_vfits : Rows.fnExactDecodeVectorRow.veiledFits Try.pinned.checked.prog Try.f5.params.toList (Try.f5.params.toList ++ Rows.fnExactDecodeVectorSpec.plain.varTypes Try.pinned.checked.prog ++ Try.f5.resultTypes.toList) = true := by kernel_rfl
set_option maxRecDepth 100000 in
theorem c_enter : Try.pinned.checked.prog.mayEnter = true := by kernel_rfl
set_option maxRecDepth 100000 in
theorem c_heard : Try.pinned.checked.prog.stopsHeard = true := by kernel_rfl
set_option maxRecDepth 100000 in
theorem c_lifted : (Rows.fnExactDecodeVectorRow.lifted == Try.pinned.checked.prog.liftsFinal) = true := by kernel_rfl
set_option maxRecDepth 100000 in
theorem c_plainKeys : (Rows.fnExactDecodeVectorRow.plainKeys == Try.pinned.checked.prog.plainKeys) = true := by kernel_rfl
set_option maxRecDepth 100000 in
theorem c_make : (Try.pinned.checked.prog.make == some Rows.fnExactDecodeVectorRow.make) = true := by kernel_rfl
set_option maxRecDepth 100000 in
theorem closed : joinedFacts Try.pinned.checked.prog 5 Try.f5 Rows.fnExactDecodeVectorSpec Rows.fnExactDecodeVectorRow = true := by
  unfold joinedFacts
  rw [show laidOutB Try.pinned.checked.prog = true from laid, show mapsRowed Try.pinned.checked.prog = true from Facts.rowed, show (Rows.fnExactDecodeVectorRow.inPlace == Try.pinned.checked.prog.inPlace 5) = true from c_inPlace, show (Rows.fnExactDecodeVectorRow.unfollowed == Try.pinned.checked.prog.unfollowed 5) = true from c_unfollowed, show (Rows.fnExactDecodeVectorRow.recurses == Try.pinned.checked.prog.recurses 5) = true from c_recurses, show (Rows.fnExactDecodeVectorRow.named == Try.pinned.checked.prog.varsNamed 5) = true from c_named, c_read, c_maps, c_ifaces, c_loops, c_wide, c_rread, c_veiled, c_vfits, c_enter, c_heard, c_lifted, c_plainKeys, c_make]
  kernel_rfl
theorem over : Rows.fnExactDecodeVectorRow.holds Try.pinned (OpenSpec.ofChange Rows.fnExactDecodeVectorSpec) :=
  OpenClaim.holds_of_wide 5 Try.f5 rfl rfl rfl rfl rfl rfl rfl ⟨rfl, rfl, rfl, rfl, rfl⟩ rfl rfl rfl rfl rfl (by kernel_rfl) Try.func5 closed
    (of_decide_eq_true (by kernel_rfl)) (by unfold Func.isWrapper; first | (rw [if_pos (by decide +kernel)]; kernel_rfl) | (rw [if_neg (by decide +kernel)]; exact ⟨rfl, rfl⟩))
    (fun os started H enc _ => lifted os started H enc)
theorem proved : Rows.FnExactDecodeVectorSaid := over
#print axioms proved
end LawDecodeVector
end Go.Proofs.Ytfffongneoegbaa

