/-
  Contracts of functions of the program: what each returns, for all arguments. Written by a program (gen.py) out of annotations.
-/
import Derived.Test.YtkgehljhlmbdmaaTab
import Derived.Test.YtkgehljhlmbdmaaDraw
import Derived.Test.YtkgehljhlmbdmaaPure
namespace Go.Proofs.Ytkgehljhlmbdmaa
open Go.Stp
set_option linter.unusedVariables false
set_option linter.unusedSimpArgs false
theorem f52 (w : World) (n : Int) (a : Int) (b : Int) :
    Does Try.prog 52 #[.int .i64 (n), .int .i64 (a), .int .i64 (b)] w (fun rv _ => rv = .bool (decide (a ≤ n ∧ n ≤ b))) := by
  refine WX.enter (tt := tt) (Γ := []) Try.func52 rfl (by kernel_rfl) rfl allK_nil ?_
  refine WX.run ttOk rfl ?_
  refine WX.cases 10 rfl (fun h1 => ?_) (fun h1 => ?_)
  · skip
    replace h1 := B.dt h1
    refine WX.run ttOk rfl ?_
    refine WX.ret ttOk rfl ?_
    intro w1 G bs hI hΓ
    simp [tup, *]
  · skip
    replace h1 := B.df h1
    refine WX.run ttOk rfl ?_
    refine WX.ret ttOk rfl ?_
    intro w1 G bs hI hΓ
    simp [tup, *]
theorem f48 (w : World) (n : Int) (a : Int) (b : Int) :
    Does Try.prog 48 #[.int .i64 (n), .int .i64 (a), .int .i64 (b)] w (fun rv _ => rv = .bool (decide (a ≤ n ∧ n ≤ b))) := by
  refine WX.enter (tt := tt) (Γ := []) Try.func48 rfl (by kernel_rfl) rfl allK_nil ?_
  refine WX.run ttOk rfl ?_
  refine WX.cases 10 rfl (fun h1 => ?_) (fun h1 => ?_)
  · skip
    replace h1 := B.dt h1
    refine WX.run ttOk rfl ?_
    refine WX.ret ttOk rfl ?_
    intro w1 G bs hI hΓ
    simp [tup, *]
  · skip
    replace h1 := B.df h1
    refine WX.run ttOk rfl ?_
    refine WX.ret ttOk rfl ?_
    intro w1 G bs hI hΓ
    simp [tup, *]
theorem f53 (w : World) (a : (List Str)) (pa : Option Addr) (ca : Nat) (hpa : RdSl (hp w) pa ca a) (left : Int) (hq0 : 0 ≤ left) (hq1 : left ≤ 9223372036854775807) :
    Does Try.prog 53 #[.slice pa ((a).length) ca, .int .i64 (left)] w (fun rv _ => rv = .int .i64 (szR left (sz a))) := by
  have hpaL : _ ≤ 9223372036854775807 := hpa.2.1
  refine WX.enter (tt := tt) (Γ := [(0, MF.rs pa ca a)]) Try.func53 rfl (by kernel_rfl) rfl (allK_cons hpa allK_nil) ?_
  refine WX.run ttOk rfl ?_
  refine WX.arith rfl rfl rfl rfl rfl rfl rfl (by unfold I64; omega) ?_
  refine WX.run ttOk rfl ?_
  refine WX.cases 11 rfl (fun h1 => ?_) (fun h1 => ?_)
  · skip
    replace h1 := B.dt h1
    refine WX.run ttOk rfl ?_
    refine WX.ret ttOk rfl ?_
    intro w1 G bs hI hΓ
    refine congrArg (Value.int .i64) ?_
    have sA := szR_spec left (sz a)
    have sB := sz_list a
    first | omega | (have hm := szL_mono e1h; omega) | (have hm := szL_mono e1h; have sC := sz_str e1; omega) | (have hm := szL_all (l := a) (i := i) (by omega); omega)
  · skip
    replace h1 := B.df h1
    refine WX.run ttOk rfl ?_
    refine WX.loop (ι := Nat) ⟨fun i => i ≤ a.length ∧ ((a.length + szL (a.take i) : Nat) : Int) ≤ left, fun i => a.length - i, fun i => [(1, .v (.int .i64 (left - ((a.length + szL (a.take i) : Nat) : Int)))), (5, .v (.int .i64 (((i : Nat) : Int)))), (0, .v (.slice pa ((a).length) ca))], fun i => [], fun i => [], fun i => [(0, MF.rs pa ca a)]⟩ 0 ⟨by omega, by simp [szL]; omega⟩
      (.cons (look_int rfl (by simp [szL])) (.cons rfl (.cons rfl (.nil)))) .nil .nil (.cons rfl (.nil)) ?_
    rintro i hpre
    dsimp only at hpre
    refine WX.run ttOk rfl ?_
    refine WX.cases 15 rfl (fun h2 => ?_) (fun h2 => ?_)
    · skip
      replace h2 := B.dt h2
      refine WX.run ttOk rfl ?_
      have hi1 : i < (a).length := (by first | assumption | omega)
      obtain ⟨e1, e1h⟩ : ∃ e1, (a)[i]? = some e1 := ⟨_, List.getElem?_eq_getElem hi1⟩
      refine WX.idx 0 i ttOk rfl rfl rfl rfl rfl rfl rfl rfl rfl rfl hi1 ?_
      rintro ad1 rfl
      refine WX.ldE 0 1 e1 ttOk rfl rfl rfl rfl rfl rfl rfl e1h (fun _ => rfl) (fun _ => rfl) ?_
      rintro ⟨⟩ ok1
      have ok1s : (e1).size ≤ 9223372036854775807 := ok1
      refine WX.run ttOk rfl ?_
      refine WX.arith rfl rfl rfl rfl rfl rfl rfl (by unfold I64; omega) ?_
      refine WX.run ttOk rfl ?_
      refine WX.cases 26 rfl (fun h3 => ?_) (fun h3 => ?_)
      · skip
        replace h3 := B.dt h3
        refine WX.run ttOk rfl ?_
        refine WX.ret ttOk rfl ?_
        intro w1 G bs hI hΓ
        refine congrArg (Value.int .i64) ?_
        have sA := szR_spec left (sz a)
        have sB := sz_list a
        first | omega | (have hm := szL_mono e1h; omega) | (have hm := szL_mono e1h; have sC := sz_str e1; omega) | (have hm := szL_all (l := a) (i := i) (by omega); omega)
      · skip
        replace h3 := B.df h3
        refine WX.run ttOk rfl ?_
        refine WX.arith rfl rfl rfl rfl rfl rfl rfl (by unfold I64; omega) ?_
        refine WX.run ttOk rfl ?_
        have hs := szL_take e1h
        have sC := sz_str e1
        refine WX.iter (i + 1) ⟨by omega, by rw [hs]; omega⟩ (by dsimp only; omega) (.cons (look_int rfl (by rw [hs]; omega)) (.cons rfl (.cons rfl (.nil)))) .nil .nil (.cons rfl (.nil))
    · skip
      replace h2 := B.df h2
      refine WX.run ttOk rfl ?_
      refine WX.ret ttOk rfl ?_
      intro w1 G bs hI hΓ
      refine congrArg (Value.int .i64) ?_
      have sA := szR_spec left (sz a)
      have sB := sz_list a
      first | omega | (have hm := szL_mono e1h; omega) | (have hm := szL_mono e1h; have sC := sz_str e1; omega) | (have hm := szL_all (l := a) (i := i) (by omega); omega)
theorem f27 (w : World) (a : Name) (pa : Option Addr) (ca : Nat) (hpa : RdSl (hp w) pa ca a.parts) (left : Int) (hq0 : 0 ≤ left) (hq1 : left ≤ 9223372036854775807) :
    Does Try.prog 27 #[.agg #[.slice pa ((a.parts).length) ca], .int .i64 (left)] w (fun rv _ => rv = .int .i64 (szR left (sz a))) := by
  have hpaL : _ ≤ 9223372036854775807 := hpa.2.1
  refine WX.enter (tt := tt) (Γ := [(0, MF.rs pa ca a.parts)]) Try.func27 rfl (by kernel_rfl) rfl (allK_cons hpa allK_nil) ?_
  refine WX.run ttOk rfl ?_
  refine WX.callV rfl rfl rfl rfl rfl (fun _ => rfl) rfl (fun w G bs hI hΓ => f53 w (a.parts) pa ca (hΓ 0 _ rfl) (left) (by omega) (by omega)) ?_
  have sR1 := szR_spec (left) (sz (a.parts))
  refine WX.run ttOk rfl ?_
  refine WX.cases 10 rfl (fun h1 => ?_) (fun h1 => ?_)
  · skip
    replace h1 := B.dt h1
    refine WX.run ttOk rfl ?_
    refine WX.ret ttOk rfl ?_
    intro w1 G bs hI hΓ
    refine congrArg (Value.int .i64) ?_
    have sA := szR_spec left (sz a)
    have sB := sz_Name a
    first | omega | (have hm := szL_mono e1h; omega) | (have hm := szL_mono e1h; have sC := sz_str e1; omega) | (have hm := szL_all (l := a) (i := i) (by omega); omega)
  · skip
    replace h1 := B.df h1
    refine WX.run ttOk rfl ?_
    refine WX.ret ttOk rfl ?_
    intro w1 G bs hI hΓ
    refine congrArg (Value.int .i64) ?_
    have sA := szR_spec left (sz a)
    have sB := sz_Name a
    first | omega | (have hm := szL_mono e1h; omega) | (have hm := szL_mono e1h; have sC := sz_str e1; omega) | (have hm := szL_all (l := a) (i := i) (by omega); omega)
theorem f63 (w : World) (a : TableEntry) (paName : Option Addr) (caName : Nat) (hpaName : RdSl (hp w) paName caName a.name.parts) (left : Int) (hq0 : 0 ≤ left) (hq1 : left ≤ 9223372036854775807) :
    Does Try.prog 63 #[.agg #[.slice paName ((a.name.parts).length) caName, .int .i64 (a.value)], .int .i64 (left)] w (fun rv _ => rv = .int .i64 (szR left (sz a))) := by
  have hpaNameL : _ ≤ 9223372036854775807 := hpaName.2.1
  refine WX.enter (tt := tt) (Γ := [(0, MF.rs paName caName a.name.parts)]) Try.func63 rfl (by kernel_rfl) rfl (allK_cons hpaName allK_nil) ?_
  refine WX.run ttOk rfl ?_
  refine WX.callV rfl rfl rfl rfl rfl (fun _ => rfl) rfl (fun w G bs hI hΓ => f27 w a.name paName caName (hΓ 0 _ rfl) (left) (by omega) (by omega)) ?_
  have sR1 := szR_spec (left) (sz a.name)
  refine WX.run ttOk rfl ?_
  refine WX.cases 10 rfl (fun h1 => ?_) (fun h1 => ?_)
  · skip
    replace h1 := B.dt h1
    refine WX.run ttOk rfl ?_
    refine WX.ret ttOk rfl ?_
    intro w1 G bs hI hΓ
    refine congrArg (Value.int .i64) ?_
    have sA := szR_spec left (sz a)
    have sB := sz_TableEntry a
    first | omega | (have hm := szL_mono e1h; omega) | (have hm := szL_mono e1h; have sC := sz_str e1; omega) | (have hm := szL_all (l := a) (i := i) (by omega); omega)
  · skip
    replace h1 := B.df h1
    refine WX.run ttOk rfl ?_
    refine WX.ret ttOk rfl ?_
    intro w1 G bs hI hΓ
    refine congrArg (Value.int .i64) ?_
    have sA := szR_spec left (sz a)
    have sB := sz_TableEntry a
    first | omega | (have hm := szL_mono e1h; omega) | (have hm := szL_mono e1h; have sC := sz_str e1; omega) | (have hm := szL_all (l := a) (i := i) (by omega); omega)
theorem f37 (w : World) (a : (List TableEntry)) (pa : Option Addr) (ca : Nat) (hpa : RdSl (hp w) pa ca a) (left : Int) (hq0 : 0 ≤ left) (hq1 : left ≤ 9223372036854775807) :
    Does Try.prog 37 #[.slice pa ((a).length) ca, .int .i64 (left)] w (fun rv _ => rv = .int .i64 (szR left (sz a))) := by
  have hpaL : _ ≤ 9223372036854775807 := hpa.2.1
  refine WX.enter (tt := tt) (Γ := [(0, MF.rs pa ca a)]) Try.func37 rfl (by kernel_rfl) rfl (allK_cons hpa allK_nil) ?_
  refine WX.run ttOk rfl ?_
  refine WX.arith rfl rfl rfl rfl rfl rfl rfl (by unfold I64; omega) ?_
  refine WX.run ttOk rfl ?_
  refine WX.cases 11 rfl (fun h1 => ?_) (fun h1 => ?_)
  · skip
    replace h1 := B.dt h1
    refine WX.run ttOk rfl ?_
    refine WX.ret ttOk rfl ?_
    intro w1 G bs hI hΓ
    refine congrArg (Value.int .i64) ?_
    have sA := szR_spec left (sz a)
    have sB := sz_list a
    first | omega | (have hm := szL_mono e1h; omega) | (have hm := szL_mono e1h; have sC := sz_str e1; omega) | (have hm := szL_all (l := a) (i := i) (by omega); omega)
  · skip
    replace h1 := B.df h1
    refine WX.run ttOk rfl ?_
    refine WX.loop (ι := Nat) ⟨fun i => i ≤ a.length ∧ ((a.length + szL (a.take i) : Nat) : Int) ≤ left, fun i => a.length - i, fun i => [(1, .v (.int .i64 (left - ((a.length + szL (a.take i) : Nat) : Int)))), (5, .v (.int .i64 (((i : Nat) : Int)))), (0, .v (.slice pa ((a).length) ca))], fun i => [], fun i => [], fun i => [(0, MF.rs pa ca a)]⟩ 0 ⟨by omega, by simp [szL]; omega⟩
      (.cons (look_int rfl (by simp [szL])) (.cons rfl (.cons rfl (.nil)))) .nil .nil (.cons rfl (.nil)) ?_
    rintro i hpre
    dsimp only at hpre
    refine WX.run ttOk rfl ?_
    refine WX.cases 15 rfl (fun h2 => ?_) (fun h2 => ?_)
    · skip
      replace h2 := B.dt h2
      refine WX.run ttOk rfl ?_
      have hi1 : i < (a).length := (by first | assumption | omega)
      obtain ⟨e1, e1h⟩ : ∃ e1, (a)[i]? = some e1 := ⟨_, List.getElem?_eq_getElem hi1⟩
      refine WX.idx 0 i ttOk rfl rfl rfl rfl rfl rfl rfl rfl rfl rfl hi1 ?_
      rintro ad1 rfl
      refine WX.ldE 0 1 e1 ttOk rfl rfl rfl rfl rfl rfl rfl e1h (fun _ => rfl) (fun _ => rfl) ?_
      rintro ⟨⟨p1, c1⟩, ⟨⟩⟩ ok1
      have ok10 := ok1
      rcases ok10 with ⟨-, ok1sx1⟩
      replace ok1sx1 : -9223372036854775808 ≤ e1.value ∧ e1.value ≤ 9223372036854775807 := ok1sx1
      refine WX.run ttOk rfl ?_
      refine WX.callV rfl rfl rfl rfl rfl (fun _ => rfl) rfl (fun w G bs hI hΓ => f63 w e1 p1 c1 (hΓ 1 _ rfl) (left - ((a.length + szL (a.take i) : Nat) : Int)) (by omega) (by omega)) ?_
      have sR1 := szR_spec (left - ((a.length + szL (a.take i) : Nat) : Int)) (sz e1)
      refine WX.run ttOk rfl ?_
      refine WX.cases 25 rfl (fun h3 => ?_) (fun h3 => ?_)
      · skip
        replace h3 := B.dt h3
        refine WX.run ttOk rfl ?_
        refine WX.ret ttOk rfl ?_
        intro w1 G bs hI hΓ
        refine congrArg (Value.int .i64) ?_
        have sA := szR_spec left (sz a)
        have sB := sz_list a
        first | omega | (have hm := szL_mono e1h; omega) | (have hm := szL_mono e1h; have sC := sz_str e1; omega) | (have hm := szL_all (l := a) (i := i) (by omega); omega)
      · skip
        replace h3 := B.df h3
        refine WX.run ttOk rfl ?_
        refine WX.arith rfl rfl rfl rfl rfl rfl rfl (by unfold I64; omega) ?_
        refine WX.run ttOk rfl ?_
        have hs := szL_take e1h
        refine WX.iter (i + 1) ⟨by omega, by rw [hs]; omega⟩ (by dsimp only; omega) (.cons (look_int rfl (by rw [hs]; omega)) (.cons rfl (.cons rfl (.nil)))) .nil .nil (.cons rfl (.nil))
    · skip
      replace h2 := B.df h2
      refine WX.run ttOk rfl ?_
      refine WX.ret ttOk rfl ?_
      intro w1 G bs hI hΓ
      refine congrArg (Value.int .i64) ?_
      have sA := szR_spec left (sz a)
      have sB := sz_list a
      first | omega | (have hm := szL_mono e1h; omega) | (have hm := szL_mono e1h; have sC := sz_str e1; omega) | (have hm := szL_all (l := a) (i := i) (by omega); omega)
theorem f13 (w : World) (a : StateVector) (pa : Option Addr) (ca : Nat) (hpa : RdSl (hp w) pa ca a.entries) (left : Int) (hq0 : 0 ≤ left) (hq1 : left ≤ 9223372036854775807) :
    Does Try.prog 13 #[.agg #[.slice pa ((a.entries).length) ca], .int .i64 (left)] w (fun rv _ => rv = .int .i64 (szR left (sz a))) := by
  have hpaL : _ ≤ 9223372036854775807 := hpa.2.1
  refine WX.enter (tt := tt) (Γ := [(0, MF.rs pa ca a.entries)]) Try.func13 rfl (by kernel_rfl) rfl (allK_cons hpa allK_nil) ?_
  refine WX.run ttOk rfl ?_
  refine WX.callV rfl rfl rfl rfl rfl (fun _ => rfl) rfl (fun w G bs hI hΓ => f37 w (a.entries) pa ca (hΓ 0 _ rfl) (left) (by omega) (by omega)) ?_
  have sR1 := szR_spec (left) (sz (a.entries))
  refine WX.run ttOk rfl ?_
  refine WX.cases 10 rfl (fun h1 => ?_) (fun h1 => ?_)
  · skip
    replace h1 := B.dt h1
    refine WX.run ttOk rfl ?_
    refine WX.ret ttOk rfl ?_
    intro w1 G bs hI hΓ
    refine congrArg (Value.int .i64) ?_
    have sA := szR_spec left (sz a)
    have sB := sz_StateVector a
    first | omega | (have hm := szL_mono e1h; omega) | (have hm := szL_mono e1h; have sC := sz_str e1; omega) | (have hm := szL_all (l := a) (i := i) (by omega); omega)
  · skip
    replace h1 := B.df h1
    refine WX.run ttOk rfl ?_
    refine WX.ret ttOk rfl ?_
    intro w1 G bs hI hΓ
    refine congrArg (Value.int .i64) ?_
    have sA := szR_spec left (sz a)
    have sB := sz_StateVector a
    first | omega | (have hm := szL_mono e1h; omega) | (have hm := szL_mono e1h; have sC := sz_str e1; omega) | (have hm := szL_all (l := a) (i := i) (by omega); omega)
theorem f61 (w : World) (a : (List Str)) (pa : Option Addr) (ca : Nat) (hpa : RdSl (hp w) pa ca a) (b : (List Str)) (pb : Option Addr) (cb : Nat) (hpb : RdSl (hp w) pb cb b) :
    Does Try.prog 61 #[.slice pa ((a).length) ca, .slice pb ((b).length) cb] w (fun rv _ => rv = .bool (eqv a b)) := by
  have hpaL : _ ≤ 9223372036854775807 := hpa.2.1
  have hpbL : _ ≤ 9223372036854775807 := hpb.2.1
  refine WX.enter (tt := tt) (Γ := [(0, MF.rs pa ca a), (1, MF.rs pb cb b)]) Try.func61 rfl (by kernel_rfl) rfl (allK_cons hpa (allK_cons hpb allK_nil)) ?_
  refine WX.run ttOk rfl ?_
  refine WX.cases 10 rfl (fun h1 => ?_) (fun h1 => ?_)
  · skip
    replace h1 := B.nt' h1
    refine WX.run ttOk rfl ?_
    refine WX.ret ttOk rfl ?_
    intro w1 G bs hI hΓ
    refine congrArg Value.bool ?_
    first | exact (eqv_ne (fun e => h1 (by rw [e]))).symm | exact (eqv_ne (ne_of_get e1h e2h (fun e => h3 (by rw [e])))).symm | exact (eqv_iff.2 (eq_of_take hpre.2 (by omega) (by omega))).symm | exact (eqv_ne (ne_of_get e1h e2h (fun e => by subst e; rw [eqv_self] at h3; cases h3))).symm | exact (eqv_ne (ne_of_get e1h e2h (by simpa using h3))).symm
  · skip
    replace h1 := B.nf' h1
    refine WX.run ttOk rfl ?_
    refine WX.loop (ι := Nat) ⟨fun i => i ≤ a.length ∧ a.take i = b.take i, fun i => a.length - i, fun i => [(5, .v (.int .i64 (((i : Nat) : Int)))), (0, .v (.slice pa ((a).length) ca)), (1, .v (.slice pb ((b).length) cb))], fun i => [], fun i => [], fun i => [(0, MF.rs pa ca a), (1, MF.rs pb cb b)]⟩ 0 ⟨by omega, by simp⟩
      (.cons rfl (.cons rfl (.cons rfl (.nil)))) .nil .nil (.cons rfl (.cons rfl (.nil))) ?_
    rintro i hpre
    dsimp only at hpre
    refine WX.run ttOk rfl ?_
    refine WX.cases 14 rfl (fun h2 => ?_) (fun h2 => ?_)
    · skip
      replace h2 := B.dt h2
      refine WX.run ttOk rfl ?_
      refine WX.draw 9 mixed ?_
      intro bs G0 hΓ0
      refine DX.takes (fuel := 7) ttOk [0, 1] (by kernel_rfl) rfl ?_
      have hi1 : i < (a).length := (by first | assumption | omega)
      obtain ⟨e1, e1h⟩ : ∃ e1, (a)[i]? = some e1 := ⟨_, List.getElem?_eq_getElem hi1⟩
      refine DX.idx 2 0 i ttOk hΓ0 (by kernel_rfl) rfl rfl rfl rfl rfl rfl rfl rfl rfl rfl rfl hi1 ?_
      rintro ad1 rfl
      refine DX.ldE 3 0 2 e1 ttOk hΓ0 (by kernel_rfl) rfl rfl rfl rfl rfl rfl rfl rfl e1h (fun _ => rfl) (fun _ => rfl) ?_
      rintro ⟨⟩ ok1
      have ok1s : (e1).size ≤ 9223372036854775807 := ok1
      refine DX.takes (fuel := 3) ttOk [4, 5] (by kernel_rfl) rfl ?_
      have hi2 : i < (b).length := (by first | assumption | omega)
      obtain ⟨e2, e2h⟩ : ∃ e2, (b)[i]? = some e2 := ⟨_, List.getElem?_eq_getElem hi2⟩
      refine DX.idx 6 1 i ttOk hΓ0 (by kernel_rfl) rfl rfl rfl rfl rfl rfl rfl rfl rfl rfl rfl hi2 ?_
      rintro ad2 rfl
      refine DX.ldE 7 1 2 e2 ttOk hΓ0 (by kernel_rfl) rfl rfl rfl rfl rfl rfl rfl rfl e2h (fun _ => rfl) (fun _ => rfl) ?_
      rintro ⟨⟩ ok2
      have ok2s : (e2).size ≤ 9223372036854775807 := ok2
      refine DX.takes (fuel := 0) ttOk [8] (by kernel_rfl) rfl ?_
      refine DX.tail rfl rfl (by kernel_rfl) ?_
      refine WX.run ttOk rfl ?_
      refine WX.cases 25 rfl (fun h3 => ?_) (fun h3 => ?_)
      · skip
        replace h3 := B.nt h3
        replace h3 := B.ef h3
        refine WX.run ttOk rfl ?_
        refine WX.ret ttOk rfl ?_
        intro w1 G bs hI hΓ
        refine congrArg Value.bool ?_
        first | exact (eqv_ne (fun e => h1 (by rw [e]))).symm | exact (eqv_ne (ne_of_get e1h e2h (fun e => h3 (by rw [e])))).symm | exact (eqv_iff.2 (eq_of_take hpre.2 (by omega) (by omega))).symm | exact (eqv_ne (ne_of_get e1h e2h (fun e => by subst e; rw [eqv_self] at h3; cases h3))).symm | exact (eqv_ne (ne_of_get e1h e2h (by simpa using h3))).symm
      · skip
        replace h3 := B.nf h3
        replace h3 := B.et h3
        refine WX.run ttOk rfl ?_
        refine WX.arith rfl rfl rfl rfl rfl rfl rfl (by unfold I64; omega) ?_
        refine WX.run ttOk rfl ?_
        refine WX.iter (i + 1) ⟨by omega, take_snoc_eq hpre.2 e1h (by rw [e2h]; first | (rw [str_ext h3]) | (rw [eqv_iff.1 h3]) | (congr 1; simpa using h3.symm))⟩ (by dsimp only; omega) (.cons rfl (.cons rfl (.cons rfl (.nil)))) .nil .nil (.cons rfl (.cons rfl (.nil)))
    · skip
      replace h2 := B.df h2
      refine WX.run ttOk rfl ?_
      refine WX.ret ttOk rfl ?_
      intro w1 G bs hI hΓ
      refine congrArg Value.bool ?_
      first | exact (eqv_ne (fun e => h1 (by rw [e]))).symm | exact (eqv_ne (ne_of_get e1h e2h (fun e => h3 (by rw [e])))).symm | exact (eqv_iff.2 (eq_of_take hpre.2 (by omega) (by omega))).symm | exact (eqv_ne (ne_of_get e1h e2h (fun e => by subst e; rw [eqv_self] at h3; cases h3))).symm | exact (eqv_ne (ne_of_get e1h e2h (by simpa using h3))).symm
theorem f35 (w : World) (a : Name) (pa : Option Addr) (ca : Nat) (hpa : RdSl (hp w) pa ca a.parts) (b : Name) (pb : Option Addr) (cb : Nat) (hpb : RdSl (hp w) pb cb b.parts) :
    Does Try.prog 35 #[.agg #[.slice pa ((a.parts).length) ca], .agg #[.slice pb ((b.parts).length) cb]] w (fun rv _ => rv = .bool (eqv a b)) := by
  have hpaL : _ ≤ 9223372036854775807 := hpa.2.1
  have hpbL : _ ≤ 9223372036854775807 := hpb.2.1
  refine WX.enter (tt := tt) (Γ := [(0, MF.rs pa ca a.parts), (1, MF.rs pb cb b.parts)]) Try.func35 rfl (by kernel_rfl) rfl (allK_cons hpa (allK_cons hpb allK_nil)) ?_
  refine WX.run ttOk rfl ?_
  refine WX.callV rfl rfl rfl rfl rfl (fun _ => rfl) rfl (fun w G bs hI hΓ => f61 w (a.parts) pa ca (hΓ 0 _ rfl) (b.parts) pb cb (hΓ 1 _ rfl)) ?_
  refine WX.run ttOk rfl ?_
  refine WX.cases 10 rfl (fun h1 => ?_) (fun h1 => ?_)
  · skip
    replace h1 := B.nt h1
    refine WX.run ttOk rfl ?_
    refine WX.ret ttOk rfl ?_
    intro w1 G bs hI hΓ
    refine congrArg Value.bool ?_
    first | exact (eqv_iff.2 (by cases a; cases b; simp_all [eqv_iff])).symm | exact (eqv_ne (fun e => by subst e; simp_all [eqv_self])).symm
  · skip
    replace h1 := B.nf h1
    refine WX.run ttOk rfl ?_
    refine WX.ret ttOk rfl ?_
    intro w1 G bs hI hΓ
    refine congrArg Value.bool ?_
    first | exact (eqv_iff.2 (by cases a; cases b; simp_all [eqv_iff])).symm | exact (eqv_ne (fun e => by subst e; simp_all [eqv_self])).symm
end Go.Proofs.Ytkgehljhlmbdmaa
