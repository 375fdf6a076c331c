/-
  Contracts of functions of the program: what each returns, for all arguments. Written by a program (gen.py) out of annotations.
-/
import Derived.Test.YtmmbmgbochlggaaC2
import Derived.Test.YtmmbmgbochlggaaDraw
import Derived.Test.YtmmbmgbochlggaaPure
namespace Go.Proofs.Ytmmbmgbochlggaa
open Go.Stp
set_option linter.unusedVariables false
set_option linter.unusedSimpArgs false
theorem f54 (w : World) (a : TableEntry) (paName : Option Addr) (caName : Nat) (hpaName : RdSl (hp w) paName caName a.name.parts) (b : TableEntry) (pbName : Option Addr) (cbName : Nat) (hpbName : RdSl (hp w) pbName cbName b.name.parts) :
    Does Try.prog 54 #[.agg #[.slice paName ((a.name.parts).length) caName, .int .i64 (a.value)], .agg #[.slice pbName ((b.name.parts).length) cbName, .int .i64 (b.value)]] w (fun rv _ => rv = .bool (eqv a b)) := by
  have hpaNameL : _ ≤ 9223372036854775807 := hpaName.2.1
  have hpbNameL : _ ≤ 9223372036854775807 := hpbName.2.1
  refine WX.enter (tt := tt) (Γ := [(0, MF.rs paName caName a.name.parts), (1, MF.rs pbName cbName b.name.parts)]) Try.func54 rfl (by kernel_rfl) rfl (allK_cons hpaName (allK_cons hpbName allK_nil)) ?_
  refine WX.run ttOk rfl ?_
  refine WX.callV rfl rfl rfl rfl rfl (fun _ => rfl) rfl (fun w G bs hI hΓ => f25 w a.name paName caName (hΓ 0 _ rfl) b.name pbName cbName (hΓ 1 _ rfl)) ?_
  refine WX.run ttOk rfl ?_
  refine WX.cases 10 rfl (fun h1 => ?_) (fun h1 => ?_)
  · skip
    replace h1 := B.nt h1
    refine WX.run ttOk rfl ?_
    refine WX.ret ttOk rfl ?_
    intro w1 G bs hI hΓ
    refine congrArg Value.bool ?_
    first | exact (eqv_iff.2 (by cases a; cases b; simp_all [eqv_iff])).symm | exact (eqv_ne (fun e => by subst e; simp_all [eqv_self])).symm
  · skip
    replace h1 := B.nf h1
    refine WX.run ttOk rfl ?_
    refine WX.cases 15 rfl (fun h2 => ?_) (fun h2 => ?_)
    · skip
      replace h2 := B.nt' h2
      refine WX.run ttOk rfl ?_
      refine WX.ret ttOk rfl ?_
      intro w1 G bs hI hΓ
      refine congrArg Value.bool ?_
      first | exact (eqv_iff.2 (by cases a; cases b; simp_all [eqv_iff])).symm | exact (eqv_ne (fun e => by subst e; simp_all [eqv_self])).symm
    · skip
      replace h2 := B.nf' h2
      refine WX.run ttOk rfl ?_
      refine WX.ret ttOk rfl ?_
      intro w1 G bs hI hΓ
      refine congrArg Value.bool ?_
      first | exact (eqv_iff.2 (by cases a; cases b; simp_all [eqv_iff])).symm | exact (eqv_ne (fun e => by subst e; simp_all [eqv_self])).symm
theorem f38 (w : World) (a : (List TableEntry)) (pa : Option Addr) (ca : Nat) (hpa : RdSl (hp w) pa ca a) (b : (List TableEntry)) (pb : Option Addr) (cb : Nat) (hpb : RdSl (hp w) pb cb b) :
    Does Try.prog 38 #[.slice pa ((a).length) ca, .slice pb ((b).length) cb] w (fun rv _ => rv = .bool (eqv a b)) := by
  have hpaL : _ ≤ 9223372036854775807 := hpa.2.1
  have hpbL : _ ≤ 9223372036854775807 := hpb.2.1
  refine WX.enter (tt := tt) (Γ := [(0, MF.rs pa ca a), (1, MF.rs pb cb b)]) Try.func38 rfl (by kernel_rfl) rfl (allK_cons hpa (allK_cons hpb allK_nil)) ?_
  refine WX.run ttOk rfl ?_
  refine WX.cases 10 rfl (fun h1 => ?_) (fun h1 => ?_)
  · skip
    replace h1 := B.nt' h1
    refine WX.run ttOk rfl ?_
    refine WX.ret ttOk rfl ?_
    intro w1 G bs hI hΓ
    refine congrArg Value.bool ?_
    first | exact (eqv_ne (fun e => h1 (by rw [e]))).symm | exact (eqv_ne (ne_of_get e1h e2h (fun e => h3 (by rw [e])))).symm | exact (eqv_iff.2 (eq_of_take hpre.2 (by omega) (by omega))).symm | exact (eqv_ne (ne_of_get e1h e2h (fun e => by subst e; rw [eqv_self] at h3; cases h3))).symm | exact (eqv_ne (ne_of_get e1h e2h (by simpa using h3))).symm
  · skip
    replace h1 := B.nf' h1
    refine WX.run ttOk rfl ?_
    refine WX.loop (ι := Nat) ⟨fun i => i ≤ a.length ∧ a.take i = b.take i, fun i => a.length - i, fun i => [(5, .v (.int .i64 (((i : Nat) : Int)))), (0, .v (.slice pa ((a).length) ca)), (1, .v (.slice pb ((b).length) cb))], fun i => [], fun i => [], fun i => [(0, MF.rs pa ca a), (1, MF.rs pb cb b)]⟩ 0 ⟨by omega, by simp⟩
      (.cons rfl (.cons rfl (.cons rfl (.nil)))) .nil .nil (.cons rfl (.cons rfl (.nil))) ?_
    rintro i hpre
    dsimp only at hpre
    refine WX.run ttOk rfl ?_
    refine WX.cases 14 rfl (fun h2 => ?_) (fun h2 => ?_)
    · skip
      replace h2 := B.dt h2
      refine WX.run ttOk rfl ?_
      refine WX.draw 10 mixed ?_
      intro bs G0 hΓ0
      refine DX.takes (fuel := 8) ttOk [0, 1] (by kernel_rfl) rfl ?_
      have hi1 : i < (a).length := (by first | assumption | omega)
      obtain ⟨e1, e1h⟩ : ∃ e1, (a)[i]? = some e1 := ⟨_, List.getElem?_eq_getElem hi1⟩
      refine DX.idx 2 0 i ttOk hΓ0 (by kernel_rfl) rfl rfl rfl rfl rfl rfl rfl rfl rfl rfl rfl hi1 ?_
      rintro ad1 rfl
      refine DX.ldE 3 0 2 e1 ttOk hΓ0 (by kernel_rfl) rfl rfl rfl rfl rfl rfl rfl rfl e1h (fun _ => rfl) (fun _ => rfl) ?_
      rintro ⟨⟨p1, c1⟩, ⟨⟩⟩ ok1
      have ok10 := ok1
      rcases ok10 with ⟨-, ok1sx1⟩
      replace ok1sx1 : -9223372036854775808 ≤ e1.value ∧ e1.value ≤ 9223372036854775807 := ok1sx1
      refine DX.takes (fuel := 4) ttOk [4, 5] (by kernel_rfl) rfl ?_
      have hi2 : i < (b).length := (by first | assumption | omega)
      obtain ⟨e2, e2h⟩ : ∃ e2, (b)[i]? = some e2 := ⟨_, List.getElem?_eq_getElem hi2⟩
      refine DX.idx 6 1 i ttOk hΓ0 (by kernel_rfl) rfl rfl rfl rfl rfl rfl rfl rfl rfl rfl rfl hi2 ?_
      rintro ad2 rfl
      refine DX.ldE 7 1 3 e2 ttOk hΓ0 (by kernel_rfl) rfl rfl rfl rfl rfl rfl rfl rfl e2h (fun _ => rfl) (fun _ => rfl) ?_
      rintro ⟨⟨p2, c2⟩, ⟨⟩⟩ ok2
      have ok20 := ok2
      rcases ok20 with ⟨-, ok2sx1⟩
      replace ok2sx1 : -9223372036854775808 ≤ e2.value ∧ e2.value ≤ 9223372036854775807 := ok2sx1
      refine DX.callV 8 (by kernel_rfl) rfl rfl rfl rfl rfl rfl (fun _ => rfl) rfl (fun w G bs hI hΓ => f54 w e1 p1 c1 (hΓ 2 _ rfl) e2 p2 c2 (hΓ 3 _ rfl)) ?_
      refine DX.takes (fuel := 0) ttOk [9] (by kernel_rfl) rfl ?_
      refine DX.tail rfl rfl (by kernel_rfl) ?_
      refine WX.run ttOk rfl ?_
      refine WX.cases 26 rfl (fun h3 => ?_) (fun h3 => ?_)
      · skip
        replace h3 := B.nt h3
        refine WX.run ttOk rfl ?_
        refine WX.ret ttOk rfl ?_
        intro w1 G bs hI hΓ
        refine congrArg Value.bool ?_
        first | exact (eqv_ne (fun e => h1 (by rw [e]))).symm | exact (eqv_ne (ne_of_get e1h e2h (fun e => h3 (by rw [e])))).symm | exact (eqv_iff.2 (eq_of_take hpre.2 (by omega) (by omega))).symm | exact (eqv_ne (ne_of_get e1h e2h (fun e => by subst e; rw [eqv_self] at h3; cases h3))).symm | exact (eqv_ne (ne_of_get e1h e2h (by simpa using h3))).symm
      · skip
        replace h3 := B.nf h3
        refine WX.run ttOk rfl ?_
        refine WX.arith rfl rfl rfl rfl rfl rfl rfl (by unfold I64; omega) ?_
        refine WX.run ttOk rfl ?_
        refine WX.iter (i + 1) ⟨by omega, take_snoc_eq hpre.2 e1h (by rw [e2h]; first | (rw [str_ext h3]) | (rw [eqv_iff.1 h3]) | (congr 1; simpa using h3.symm))⟩ (by dsimp only; omega) (.cons rfl (.cons rfl (.cons rfl (.nil)))) .nil .nil (.cons rfl (.cons rfl (.nil)))
    · skip
      replace h2 := B.df h2
      refine WX.run ttOk rfl ?_
      refine WX.ret ttOk rfl ?_
      intro w1 G bs hI hΓ
      refine congrArg Value.bool ?_
      first | exact (eqv_ne (fun e => h1 (by rw [e]))).symm | exact (eqv_ne (ne_of_get e1h e2h (fun e => h3 (by rw [e])))).symm | exact (eqv_iff.2 (eq_of_take hpre.2 (by omega) (by omega))).symm | exact (eqv_ne (ne_of_get e1h e2h (fun e => by subst e; rw [eqv_self] at h3; cases h3))).symm | exact (eqv_ne (ne_of_get e1h e2h (by simpa using h3))).symm
theorem f20 (w : World) (a : StateVector) (pa : Option Addr) (ca : Nat) (hpa : RdSl (hp w) pa ca a.entries) (b : StateVector) (pb : Option Addr) (cb : Nat) (hpb : RdSl (hp w) pb cb b.entries) :
    Does Try.prog 20 #[.agg #[.slice pa ((a.entries).length) ca], .agg #[.slice pb ((b.entries).length) cb]] w (fun rv _ => rv = .bool (eqv a b)) := by
  have hpaL : _ ≤ 9223372036854775807 := hpa.2.1
  have hpbL : _ ≤ 9223372036854775807 := hpb.2.1
  refine WX.enter (tt := tt) (Γ := [(0, MF.rs pa ca a.entries), (1, MF.rs pb cb b.entries)]) Try.func20 rfl (by kernel_rfl) rfl (allK_cons hpa (allK_cons hpb allK_nil)) ?_
  refine WX.run ttOk rfl ?_
  refine WX.callV rfl rfl rfl rfl rfl (fun _ => rfl) rfl (fun w G bs hI hΓ => f38 w (a.entries) pa ca (hΓ 0 _ rfl) (b.entries) pb cb (hΓ 1 _ rfl)) ?_
  refine WX.run ttOk rfl ?_
  refine WX.cases 10 rfl (fun h1 => ?_) (fun h1 => ?_)
  · skip
    replace h1 := B.nt h1
    refine WX.run ttOk rfl ?_
    refine WX.ret ttOk rfl ?_
    intro w1 G bs hI hΓ
    refine congrArg Value.bool ?_
    first | exact (eqv_iff.2 (by cases a; cases b; simp_all [eqv_iff])).symm | exact (eqv_ne (fun e => by subst e; simp_all [eqv_self])).symm
  · skip
    replace h1 := B.nf h1
    refine WX.run ttOk rfl ?_
    refine WX.ret ttOk rfl ?_
    intro w1 G bs hI hΓ
    refine congrArg Value.bool ?_
    first | exact (eqv_iff.2 (by cases a; cases b; simp_all [eqv_iff])).symm | exact (eqv_ne (fun e => by subst e; simp_all [eqv_self])).symm
theorem f17 (w : World) (v : StateVector) (pv : Option Addr) (cv : Nat) (hpv : RdSl (hp w) pv cv v.entries) :
    Does Try.prog 17 #[.agg #[.slice pv ((v.entries).length) cv]] w (fun rv _ => rv = .int .i64 (vsum (v).entries)) := by
  have hpvL : _ ≤ 9223372036854775807 := hpv.2.1
  refine WX.enter (tt := tt) (Γ := [(0, MF.rs pv cv v.entries)]) Try.func17 rfl (by kernel_rfl) rfl (allK_cons hpv allK_nil) ?_
  refine WX.run ttOk rfl ?_
  refine WX.loop (ι := Nat) ⟨fun i => i ≤ v.entries.length, fun i => v.entries.length - i, fun i => [(3, .v (.int .i64 (vsum (v.entries.take i)))), (4, .v (.int .i64 (((i : Nat) : Int)))), (2, .v (.int .i64 (0))), (1, .p 1 0)], fun i => [(1, ⟨38, [.slice pv ((v.entries).length) cv]⟩)], fun i => [], fun i => [(0, MF.rs pv cv v.entries)]⟩ 0 (Nat.zero_le _)
    (.cons rfl (.cons rfl (.cons rfl (.cons rfl (.nil))))) (.cons rfl (.nil)) .nil (.cons rfl (.nil)) ?_
  rintro i hpre
  dsimp only at hpre
  refine WX.run ttOk rfl ?_
  refine WX.cases 9 rfl (fun h1 => ?_) (fun h1 => ?_)
  · skip
    replace h1 := B.dt h1
    refine WX.run ttOk rfl ?_
    have hi1 : i < (v.entries).length := (by first | assumption | omega)
    obtain ⟨e1, e1h⟩ : ∃ e1, (v.entries)[i]? = some e1 := ⟨_, List.getElem?_eq_getElem hi1⟩
    refine WX.idx 0 i ttOk rfl rfl rfl rfl rfl rfl rfl rfl rfl rfl hi1 ?_
    rintro ad1 rfl
    refine WX.run ttOk rfl ?_
    refine WX.ldE 0 1 e1 ttOk rfl rfl rfl rfl rfl rfl rfl e1h (fun _ => rfl) (fun _ => rfl) ?_
    rintro ⟨⟨p1, c1⟩, ⟨⟩⟩ ok1
    have ok10 := ok1
    rcases ok10 with ⟨-, ok1sx1⟩
    replace ok1sx1 : -9223372036854775808 ≤ e1.value ∧ e1.value ≤ 9223372036854775807 := ok1sx1
    refine WX.wrap rfl rfl rfl rfl rfl rfl rfl ?_
    refine WX.run ttOk rfl ?_
    refine WX.arith rfl rfl rfl rfl rfl rfl rfl (by unfold I64; omega) ?_
    refine WX.run ttOk rfl ?_
    refine WX.iter (i + 1) (by omega) (by dsimp only; omega) (.cons (look_int rfl (vsum_snoc e1h).symm) (.cons rfl (.cons rfl (.cons rfl (.nil))))) (.cons rfl (.nil)) .nil (.cons rfl (.nil))
  · skip
    replace h1 := B.df h1
    refine WX.run ttOk rfl ?_
    refine WX.ret ttOk rfl ?_
    intro w1 G bs hI hΓ
    simp [tup, List.take_of_length_le (show v.entries.length ≤ i by omega)]
theorem f19 (w : World) (v : StateVector) (pv : Option Addr) (cv : Nat) (hpv : RdSl (hp w) pv cv v.entries) :
    Does Try.prog 19 #[.agg #[.slice pv ((v.entries).length) cv]] w (fun rv _ => rv = .int .i64 (vsum (v).entries)) := by
  have hpvL : _ ≤ 9223372036854775807 := hpv.2.1
  refine WX.enter (tt := tt) (Γ := [(0, MF.rs pv cv v.entries)]) Try.func19 rfl (by kernel_rfl) rfl (allK_cons hpv allK_nil) ?_
  refine WX.run ttOk rfl ?_
  refine WX.loop (ι := Nat) ⟨fun i => i ≤ v.entries.length, fun i => v.entries.length - i, fun i => [(3, .v (.int .i64 (vsum (v.entries.take i)))), (9, .v (.int .i64 (((i : Nat) : Int)))), (8, .v (.int .i64 ((((v.entries).length : Nat) : Int)))), (7, .v (.slice pv ((v.entries).length) cv)), (2, .v (.int .i64 (0)))], fun i => [], fun i => [], fun i => [(0, MF.rs pv cv v.entries)]⟩ 0 (Nat.zero_le _)
    (.cons rfl (.cons rfl (.cons rfl (.cons rfl (.cons rfl (.nil)))))) .nil .nil (.cons rfl (.nil)) ?_
  rintro i hpre
  dsimp only at hpre
  refine WX.run ttOk rfl ?_
  refine WX.cases 10 rfl (fun h1 => ?_) (fun h1 => ?_)
  · skip
    replace h1 := B.dt h1
    refine WX.run ttOk rfl ?_
    have hi1 : i < (v.entries).length := (by first | assumption | omega)
    obtain ⟨e1, e1h⟩ : ∃ e1, (v.entries)[i]? = some e1 := ⟨_, List.getElem?_eq_getElem hi1⟩
    refine WX.idx 0 i ttOk rfl rfl rfl rfl rfl rfl rfl rfl rfl rfl hi1 ?_
    rintro ad1 rfl
    refine WX.ldE 0 1 e1 ttOk rfl rfl rfl rfl rfl rfl rfl e1h (fun _ => rfl) (fun _ => rfl) ?_
    rintro ⟨⟨p1, c1⟩, ⟨⟩⟩ ok1
    have ok10 := ok1
    rcases ok10 with ⟨-, ok1sx1⟩
    replace ok1sx1 : -9223372036854775808 ≤ e1.value ∧ e1.value ≤ 9223372036854775807 := ok1sx1
    refine WX.run ttOk rfl ?_
    refine WX.wrap rfl rfl rfl rfl rfl rfl rfl ?_
    refine WX.run ttOk rfl ?_
    refine WX.arith rfl rfl rfl rfl rfl rfl rfl (by unfold I64; omega) ?_
    refine WX.run ttOk rfl ?_
    refine WX.iter (i + 1) (by omega) (by dsimp only; omega) (.cons (look_int rfl (vsum_snoc e1h).symm) (.cons rfl (.cons rfl (.cons rfl (.cons rfl (.nil)))))) .nil .nil (.cons rfl (.nil))
  · skip
    replace h1 := B.df h1
    refine WX.run ttOk rfl ?_
    refine WX.ret ttOk rfl ?_
    intro w1 G bs hI hΓ
    simp [tup, List.take_of_length_le (show v.entries.length ≤ i by omega)]
theorem f11 (w : World) (kind : Int) :
    Does Try.prog 11 #[.int .i64 (kind)] w (fun rv _ => rv = .string (evName kind)) := by
  refine WX.enter (tt := tt) (Γ := []) Try.func11 rfl (by kernel_rfl) rfl allK_nil ?_
  refine WX.run ttOk rfl ?_
  refine WX.bld ttOk rfl rfl rfl rfl rfl rfl rfl ?_
  intro p1
  refine WX.fact 0 (MF.ol [.string (⟨#[]⟩), .string (⟨#[116, 105, 99, 107]⟩), .string (⟨#[100, 101, 108, 105, 118, 101, 114]⟩), .string (⟨#[100, 114, 111, 112]⟩), .string (⟨#[100, 117, 112, 108, 105, 99, 97, 116, 101]⟩), .string (⟨#[102, 97, 105, 108]⟩), .string (⟨#[114, 101, 112, 97, 105, 114]⟩), .string (⟨#[99, 114, 97, 115, 104]⟩), .string (⟨#[114, 101, 115, 116, 97, 114, 116]⟩), .string (⟨#[105, 110, 106, 101, 99, 116]⟩), .string (⟨#[114, 101, 114, 111, 117, 116, 101]⟩), .string (⟨#[114, 101, 113, 117, 101, 115, 116]⟩)] evl []) (fun _ _ => owL_strs evl) ?_
  refine WX.fixS 4 0 1 rfl rfl rfl evl_ok (by decide) rfl rfl ?_
  intro fq1 _ _ _
  refine WX.run ttOk rfl ?_
  refine WX.arith rfl rfl rfl rfl rfl rfl rfl (by unfold I64; omega) ?_
  refine WX.callV rfl rfl rfl rfl rfl (fun _ => rfl) rfl (fun w G bs hI hΓ => f32 w (kind) (0) (((12 : Nat) : Int) - 1)) ?_
  refine WX.run ttOk rfl ?_
  refine WX.cases 10 rfl (fun h1 => ?_) (fun h1 => ?_)
  · skip
    replace h1 := B.nt h1
    replace h1 := B.df h1
    refine WX.run ttOk rfl ?_
    refine WX.ret ttOk rfl ?_
    intro w1 G bs hI hΓ
    first | exact congrArg Value.string (evName_out (by omega)) | exact congrArg Value.string (evName_get e1h (by omega))
  · skip
    replace h1 := B.nf h1
    replace h1 := B.dt h1
    refine WX.run ttOk rfl ?_
    refine WX.slot 12 (y := .v (.int .i64 (((kind).toNat : Nat) : Int))) rfl (fun _ => congrArg (Value.int .i64) (show kind = (((kind).toNat : Nat) : Int) from by omega)) ?_
    have hi1 : (kind).toNat < (evl).length := (show _ < 12 from by omega)
    obtain ⟨e1, e1h⟩ : ∃ e1, (evl)[(kind).toNat]? = some e1 := ⟨_, List.getElem?_eq_getElem hi1⟩
    refine WX.idx 1 ((kind).toNat) ttOk rfl rfl rfl rfl rfl rfl rfl rfl rfl rfl hi1 ?_
    rintro ad1 rfl
    refine WX.ldE 1 3 e1 ttOk rfl rfl rfl rfl rfl rfl rfl e1h (fun _ => rfl) (fun _ => rfl) ?_
    rintro ⟨⟩ ok1
    have ok1s : (e1).size ≤ 9223372036854775807 := ok1
    refine WX.run ttOk rfl ?_
    refine WX.ret ttOk rfl ?_
    intro w1 G bs hI hΓ
    first | exact congrArg Value.string (evName_out (by omega)) | exact congrArg Value.string (evName_get e1h (by omega))
theorem f12 (w : World) (kind : Int) :
    Does Try.prog 12 #[.int .i64 (kind)] w (fun rv _ => rv = .string (evName kind)) := by
  refine WX.enter (tt := tt) (Γ := []) Try.func12 rfl (by kernel_rfl) rfl allK_nil ?_
  refine WX.run ttOk rfl ?_
  refine WX.bld ttOk rfl rfl rfl rfl rfl rfl rfl ?_
  intro p1
  refine WX.fact 0 (MF.ol [.string (⟨#[116, 105, 99, 107]⟩), .string (⟨#[100, 101, 108, 105, 118, 101, 114]⟩), .string (⟨#[100, 114, 111, 112]⟩), .string (⟨#[100, 117, 112, 108, 105, 99, 97, 116, 101]⟩), .string (⟨#[102, 97, 105, 108]⟩), .string (⟨#[114, 101, 112, 97, 105, 114]⟩), .string (⟨#[99, 114, 97, 115, 104]⟩), .string (⟨#[114, 101, 115, 116, 97, 114, 116]⟩), .string (⟨#[105, 110, 106, 101, 99, 116]⟩), .string (⟨#[114, 101, 114, 111, 117, 116, 101]⟩), .string (⟨#[114, 101, 113, 117, 101, 115, 116]⟩)] evl.tail []) (fun _ _ => owL_strs evl.tail) ?_
  refine WX.fixS 4 0 1 rfl rfl rfl (fun s hs => evl_ok s (List.mem_of_mem_tail hs)) (by decide) rfl rfl ?_
  intro fq1 _ _ _
  refine WX.run ttOk rfl ?_
  refine WX.callV rfl rfl rfl rfl rfl (fun _ => rfl) rfl (fun w G bs hI hΓ => f33 w (kind) (1) (11)) ?_
  refine WX.run ttOk rfl ?_
  refine WX.cases 7 rfl (fun h1 => ?_) (fun h1 => ?_)
  · skip
    replace h1 := B.nt h1
    replace h1 := B.df h1
    refine WX.run ttOk rfl ?_
    refine WX.ret ttOk rfl ?_
    intro w1 G bs hI hΓ
    first | exact congrArg Value.string (evName_out1 (by omega)) | exact congrArg Value.string (evName_get1 e1h (by omega))
  · skip
    replace h1 := B.nf h1
    replace h1 := B.dt h1
    refine WX.run ttOk rfl ?_
    refine WX.arith rfl rfl rfl rfl rfl rfl rfl (by unfold I64; omega) ?_
    refine WX.slot 10 (y := .v (.int .i64 (((kind - 1).toNat : Nat) : Int))) rfl (fun _ => congrArg (Value.int .i64) (show kind - 1 = (((kind - 1).toNat : Nat) : Int) from by omega)) ?_
    have hi1 : (kind - 1).toNat < (evl.tail).length := (show _ < 11 from by omega)
    obtain ⟨e1, e1h⟩ : ∃ e1, (evl.tail)[(kind - 1).toNat]? = some e1 := ⟨_, List.getElem?_eq_getElem hi1⟩
    refine WX.idx 1 ((kind - 1).toNat) ttOk rfl rfl rfl rfl rfl rfl rfl rfl rfl rfl hi1 ?_
    rintro ad1 rfl
    refine WX.ldE 1 3 e1 ttOk rfl rfl rfl rfl rfl rfl rfl e1h (fun _ => rfl) (fun _ => rfl) ?_
    rintro ⟨⟩ ok1
    have ok1s : (e1).size ≤ 9223372036854775807 := ok1
    refine WX.run ttOk rfl ?_
    refine WX.ret ttOk rfl ?_
    intro w1 G bs hI hΓ
    first | exact congrArg Value.string (evName_out1 (by omega)) | exact congrArg Value.string (evName_get1 e1h (by omega))
end Go.Proofs.Ytmmbmgbochlggaa
