/-
  Contracts of functions of the program: what each returns, for all arguments. Written by a program (gen.py) out of annotations.
-/
import Derived.Test.YtkgehljhlmbdmaaC2
import Derived.Test.YtkgehljhlmbdmaaDraw
import Derived.Test.YtkgehljhlmbdmaaPure
namespace Go.Proofs.Ytkgehljhlmbdmaa
open Go.Stp
set_option linter.unusedVariables false
set_option linter.unusedSimpArgs false
theorem f68 (w : World) (a : TableEntry) (paName : Option Addr) (caName : Nat) (hpaName : RdSl (hp w) paName caName a.name.parts) (b : TableEntry) (pbName : Option Addr) (cbName : Nat) (hpbName : RdSl (hp w) pbName cbName b.name.parts) :
    Does Try.prog 68 #[.agg #[.slice paName ((a.name.parts).length) caName, .int .i64 (a.value)], .agg #[.slice pbName ((b.name.parts).length) cbName, .int .i64 (b.value)]] w (fun rv _ => rv = .bool (eqv a b)) := by
  have hpaNameL : _ ≤ 9223372036854775807 := hpaName.2.1
  have hpbNameL : _ ≤ 9223372036854775807 := hpbName.2.1
  refine WX.enter (tt := tt) (Γ := [(0, MF.rs paName caName a.name.parts), (1, MF.rs pbName cbName b.name.parts)]) Try.func68 rfl (by kernel_rfl) rfl (allK_cons hpaName (allK_cons hpbName allK_nil)) ?_
  refine WX.run ttOk rfl ?_
  refine WX.callV rfl rfl rfl rfl rfl (fun _ => rfl) rfl (fun w G bs hI hΓ => f35 w a.name paName caName (hΓ 0 _ rfl) b.name pbName cbName (hΓ 1 _ rfl)) ?_
  refine WX.run ttOk rfl ?_
  refine WX.cases 10 rfl (fun h1 => ?_) (fun h1 => ?_)
  · skip
    replace h1 := B.nt h1
    refine WX.run ttOk rfl ?_
    refine WX.ret ttOk rfl ?_
    intro w1 G bs hI hΓ
    refine congrArg Value.bool ?_
    first | exact (eqv_iff.2 (by cases a; cases b; simp_all [eqv_iff])).symm | exact (eqv_ne (fun e => by subst e; simp_all [eqv_self])).symm
  · skip
    replace h1 := B.nf h1
    refine WX.run ttOk rfl ?_
    refine WX.cases 15 rfl (fun h2 => ?_) (fun h2 => ?_)
    · skip
      replace h2 := B.nt' h2
      refine WX.run ttOk rfl ?_
      refine WX.ret ttOk rfl ?_
      intro w1 G bs hI hΓ
      refine congrArg Value.bool ?_
      first | exact (eqv_iff.2 (by cases a; cases b; simp_all [eqv_iff])).symm | exact (eqv_ne (fun e => by subst e; simp_all [eqv_self])).symm
    · skip
      replace h2 := B.nf' h2
      refine WX.run ttOk rfl ?_
      refine WX.ret ttOk rfl ?_
      intro w1 G bs hI hΓ
      refine congrArg Value.bool ?_
      first | exact (eqv_iff.2 (by cases a; cases b; simp_all [eqv_iff])).symm | exact (eqv_ne (fun e => by subst e; simp_all [eqv_self])).symm
theorem f43 (w : World) (a : (List TableEntry)) (pa : Option Addr) (ca : Nat) (hpa : RdSl (hp w) pa ca a) (b : (List TableEntry)) (pb : Option Addr) (cb : Nat) (hpb : RdSl (hp w) pb cb b) :
    Does Try.prog 43 #[.slice pa ((a).length) ca, .slice pb ((b).length) cb] w (fun rv _ => rv = .bool (eqv a b)) := by
  have hpaL : _ ≤ 9223372036854775807 := hpa.2.1
  have hpbL : _ ≤ 9223372036854775807 := hpb.2.1
  refine WX.enter (tt := tt) (Γ := [(0, MF.rs pa ca a), (1, MF.rs pb cb b)]) Try.func43 rfl (by kernel_rfl) rfl (allK_cons hpa (allK_cons hpb allK_nil)) ?_
  refine WX.run ttOk rfl ?_
  refine WX.cases 10 rfl (fun h1 => ?_) (fun h1 => ?_)
  · skip
    replace h1 := B.nt' h1
    refine WX.run ttOk rfl ?_
    refine WX.ret ttOk rfl ?_
    intro w1 G bs hI hΓ
    refine congrArg Value.bool ?_
    first | exact (eqv_ne (fun e => h1 (by rw [e]))).symm | exact (eqv_ne (ne_of_get e1h e2h (fun e => h3 (by rw [e])))).symm | exact (eqv_iff.2 (eq_of_take hpre.2 (by omega) (by omega))).symm | exact (eqv_ne (ne_of_get e1h e2h (fun e => by subst e; rw [eqv_self] at h3; cases h3))).symm | exact (eqv_ne (ne_of_get e1h e2h (by simpa using h3))).symm
  · skip
    replace h1 := B.nf' h1
    refine WX.run ttOk rfl ?_
    refine WX.loop (ι := Nat) ⟨fun i => i ≤ a.length ∧ a.take i = b.take i, fun i => a.length - i, fun i => [(5, .v (.int .i64 (((i : Nat) : Int)))), (0, .v (.slice pa ((a).length) ca)), (1, .v (.slice pb ((b).length) cb))], fun i => [], fun i => [], fun i => [(0, MF.rs pa ca a), (1, MF.rs pb cb b)]⟩ 0 ⟨by omega, by simp⟩
      (.cons rfl (.cons rfl (.cons rfl (.nil)))) .nil .nil (.cons rfl (.cons rfl (.nil))) ?_
    rintro i hpre
    dsimp only at hpre
    refine WX.run ttOk rfl ?_
    refine WX.cases 14 rfl (fun h2 => ?_) (fun h2 => ?_)
    · skip
      replace h2 := B.dt h2
      refine WX.run ttOk rfl ?_
      refine WX.draw 10 mixed ?_
      intro bs G0 hΓ0
      refine DX.takes (fuel := 8) ttOk [0, 1] (by kernel_rfl) rfl ?_
      have hi1 : i < (a).length := (by first | assumption | omega)
      obtain ⟨e1, e1h⟩ : ∃ e1, (a)[i]? = some e1 := ⟨_, List.getElem?_eq_getElem hi1⟩
      refine DX.idx 2 0 i ttOk hΓ0 (by kernel_rfl) rfl rfl rfl rfl rfl rfl rfl rfl rfl rfl rfl hi1 ?_
      rintro ad1 rfl
      refine DX.ldE 3 0 2 e1 ttOk hΓ0 (by kernel_rfl) rfl rfl rfl rfl rfl rfl rfl rfl e1h (fun _ => rfl) (fun _ => rfl) ?_
      rintro ⟨⟨p1, c1⟩, ⟨⟩⟩ ok1
      have ok10 := ok1
      rcases ok10 with ⟨-, ok1sx1⟩
      replace ok1sx1 : -9223372036854775808 ≤ e1.value ∧ e1.value ≤ 9223372036854775807 := ok1sx1
      refine DX.takes (fuel := 4) ttOk [4, 5] (by kernel_rfl) rfl ?_
      have hi2 : i < (b).length := (by first | assumption | omega)
      obtain ⟨e2, e2h⟩ : ∃ e2, (b)[i]? = some e2 := ⟨_, List.getElem?_eq_getElem hi2⟩
      refine DX.idx 6 1 i ttOk hΓ0 (by kernel_rfl) rfl rfl rfl rfl rfl rfl rfl rfl rfl rfl rfl hi2 ?_
      rintro ad2 rfl
      refine DX.ldE 7 1 3 e2 ttOk hΓ0 (by kernel_rfl) rfl rfl rfl rfl rfl rfl rfl rfl e2h (fun _ => rfl) (fun _ => rfl) ?_
      rintro ⟨⟨p2, c2⟩, ⟨⟩⟩ ok2
      have ok20 := ok2
      rcases ok20 with ⟨-, ok2sx1⟩
      replace ok2sx1 : -9223372036854775808 ≤ e2.value ∧ e2.value ≤ 9223372036854775807 := ok2sx1
      refine DX.callV 8 (by kernel_rfl) rfl rfl rfl rfl rfl rfl (fun _ => rfl) rfl (fun w G bs hI hΓ => f68 w e1 p1 c1 (hΓ 2 _ rfl) e2 p2 c2 (hΓ 3 _ rfl)) ?_
      refine DX.takes (fuel := 0) ttOk [9] (by kernel_rfl) rfl ?_
      refine DX.tail rfl rfl (by kernel_rfl) ?_
      refine WX.run ttOk rfl ?_
      refine WX.cases 26 rfl (fun h3 => ?_) (fun h3 => ?_)
      · skip
        replace h3 := B.nt h3
        refine WX.run ttOk rfl ?_
        refine WX.ret ttOk rfl ?_
        intro w1 G bs hI hΓ
        refine congrArg Value.bool ?_
        first | exact (eqv_ne (fun e => h1 (by rw [e]))).symm | exact (eqv_ne (ne_of_get e1h e2h (fun e => h3 (by rw [e])))).symm | exact (eqv_iff.2 (eq_of_take hpre.2 (by omega) (by omega))).symm | exact (eqv_ne (ne_of_get e1h e2h (fun e => by subst e; rw [eqv_self] at h3; cases h3))).symm | exact (eqv_ne (ne_of_get e1h e2h (by simpa using h3))).symm
      · skip
        replace h3 := B.nf h3
        refine WX.run ttOk rfl ?_
        refine WX.arith rfl rfl rfl rfl rfl rfl rfl (by unfold I64; omega) ?_
        refine WX.run ttOk rfl ?_
        refine WX.iter (i + 1) ⟨by omega, take_snoc_eq hpre.2 e1h (by rw [e2h]; first | (rw [str_ext h3]) | (rw [eqv_iff.1 h3]) | (congr 1; simpa using h3.symm))⟩ (by dsimp only; omega) (.cons rfl (.cons rfl (.cons rfl (.nil)))) .nil .nil (.cons rfl (.cons rfl (.nil)))
    · skip
      replace h2 := B.df h2
      refine WX.run ttOk rfl ?_
      refine WX.ret ttOk rfl ?_
      intro w1 G bs hI hΓ
      refine congrArg Value.bool ?_
      first | exact (eqv_ne (fun e => h1 (by rw [e]))).symm | exact (eqv_ne (ne_of_get e1h e2h (fun e => h3 (by rw [e])))).symm | exact (eqv_iff.2 (eq_of_take hpre.2 (by omega) (by omega))).symm | exact (eqv_ne (ne_of_get e1h e2h (fun e => by subst e; rw [eqv_self] at h3; cases h3))).symm | exact (eqv_ne (ne_of_get e1h e2h (by simpa using h3))).symm
theorem f17 (w : World) (a : StateVector) (pa : Option Addr) (ca : Nat) (hpa : RdSl (hp w) pa ca a.entries) (b : StateVector) (pb : Option Addr) (cb : Nat) (hpb : RdSl (hp w) pb cb b.entries) :
    Does Try.prog 17 #[.agg #[.slice pa ((a.entries).length) ca], .agg #[.slice pb ((b.entries).length) cb]] w (fun rv _ => rv = .bool (eqv a b)) := by
  have hpaL : _ ≤ 9223372036854775807 := hpa.2.1
  have hpbL : _ ≤ 9223372036854775807 := hpb.2.1
  refine WX.enter (tt := tt) (Γ := [(0, MF.rs pa ca a.entries), (1, MF.rs pb cb b.entries)]) Try.func17 rfl (by kernel_rfl) rfl (allK_cons hpa (allK_cons hpb allK_nil)) ?_
  refine WX.run ttOk rfl ?_
  refine WX.callV rfl rfl rfl rfl rfl (fun _ => rfl) rfl (fun w G bs hI hΓ => f43 w (a.entries) pa ca (hΓ 0 _ rfl) (b.entries) pb cb (hΓ 1 _ rfl)) ?_
  refine WX.run ttOk rfl ?_
  refine WX.cases 10 rfl (fun h1 => ?_) (fun h1 => ?_)
  · skip
    replace h1 := B.nt h1
    refine WX.run ttOk rfl ?_
    refine WX.ret ttOk rfl ?_
    intro w1 G bs hI hΓ
    refine congrArg Value.bool ?_
    first | exact (eqv_iff.2 (by cases a; cases b; simp_all [eqv_iff])).symm | exact (eqv_ne (fun e => by subst e; simp_all [eqv_self])).symm
  · skip
    replace h1 := B.nf h1
    refine WX.run ttOk rfl ?_
    refine WX.ret ttOk rfl ?_
    intro w1 G bs hI hΓ
    refine congrArg Value.bool ?_
    first | exact (eqv_iff.2 (by cases a; cases b; simp_all [eqv_iff])).symm | exact (eqv_ne (fun e => by subst e; simp_all [eqv_self])).symm
end Go.Proofs.Ytkgehljhlmbdmaa
