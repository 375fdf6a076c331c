/-
  CatchUp: the law returns true at all arguments; conditions: those of the statement, no others. Written by a program (pack.py, mklaw2.py).
-/
import Derived.Test.YtfffongneoegbaaGreatKCatchUp7
namespace Go.Stp
set_option linter.unusedVariables false
set_option linter.unusedSimpArgs false
theorem same_CatchUp (aM : Member) (aFrom : Member) : impl_CatchUp aM aFrom = spec_CatchUp aM aFrom := same_CatchUp' aM aFrom
theorem bound_CatchUp (aM : Member) (aFrom : Member) : sz (spec_CatchUp aM aFrom) ≤ sz aM + 40 + 80 * sz aFrom := bnd_CatchUp aM aFrom
theorem true_CatchUp (aM : Member) (aFrom : Member) (haM : GoT.ok 10 aM) (haFrom : GoT.ok 10 aFrom) : laws_FnExactCatchUp aM aFrom = true := by
  unfold laws_FnExactCatchUp
  by_cases s0 : laws_szMember aM 1048576 < 0
  · simp only [dT s0, cond_true]
  have d0 := dF (show 0 ≤ laws_szMember aM 1048576 by omega)
  obtain ⟨t0, z0⟩ := (sz_Member_R aM 1048576 haM (by omega) (by omega)).pos (by omega)
  by_cases s1 : laws_szMember aFrom (laws_szMember aM 1048576) < 0
  · simp only [dT s1, cond_true, d0, cond_false]
  have d1 := dF (show 0 ≤ laws_szMember aFrom (laws_szMember aM 1048576) by omega)
  obtain ⟨t1, z1⟩ := (sz_Member_R aFrom (laws_szMember aM 1048576) haFrom (by omega) (by omega)).pos (by omega)
  obtain ⟨mp0, mq0, me0⟩ := mk_Member aM (1) (by omega) (by omega)
  obtain ⟨mp1, mq1, me1⟩ := mk_Member aFrom ((laws_markMember aM (1)).1) (by omega) (by omega)
  have dk := dF (show 0 ≤ (laws_markMember aFrom ((laws_markMember aM (1)).1)).1 by omega)
  have hb := bound_CatchUp aM aFrom
  have hb0 := hb
  obtain ⟨gp0, gq0, ge0⟩ := mk_Member (spec_CatchUp aM aFrom) (1) (by omega) (by omega)
  have dg0 := dF (show 0 ≤ (laws_markMember (spec_CatchUp aM aFrom) (1)).1 by omega)
  simp only [d0, cond_false, d1, to_Member, same_CatchUp, eq_Member, dk, ge0, dg0, Bool.not_true, bne_self_F, nbeq_self_F, beq_self_eq_true]
end Go.Stp
namespace Go.Proofs.YtfffongneoegbaaGreat
open Go.Stp
open Go.RowKit (Below)
open Go.ChangeShapes Go.WideShapes Go.ChangeAt
namespace LawCatchUp
theorem own : ownKnob Tryz.prog.godebug = none := by kernel_rfl
theorem laid : laidOutB Tryz.prog = true := Facts.laid
set_option maxRecDepth 100000 in
theorem op24 : Opens Tryz.prog 24 Name := opens_struct (fun e : Name => e.parts) (fun b => ⟨b⟩) (fun _ => rfl) Tryz.underlying24 (show Tryz.prog.cellsOf 24 = 1 by kernel_rfl) (opensF_one rfl (opens_slice Tryz.underlying22 (by kernel_rfl) (opens_str Tryz.underlying9 (by kernel_rfl))))
set_option maxRecDepth 100000 in
theorem op255 : Opens Tryz.prog 255 TableEntry := opens_struct (fun e : TableEntry => (e.name, e.value)) (fun b => ⟨b.1, b.2⟩) (fun _ => rfl) Tryz.underlying255 (show Tryz.prog.cellsOf 255 = 2 by kernel_rfl) (opensF_cons rfl op24 (opensF_one rfl (opens_int Tryz.underlying3 (by kernel_rfl))))
set_option maxRecDepth 100000 in
theorem op27 : Opens Tryz.prog 27 StateVector := opens_struct (fun e : StateVector => e.entries) (fun b => ⟨b⟩) (fun _ => rfl) Tryz.underlying27 (show Tryz.prog.cellsOf 27 = 1 by kernel_rfl) (opensF_one rfl (opens_slice Tryz.underlying25 (by kernel_rfl) op255))
set_option maxRecDepth 100000 in
theorem op33 : Opens Tryz.prog 33 Publication := opens_struct (fun e : Publication => (e.publisher, e.seq, e.content)) (fun b => ⟨b.1, b.2.1, b.2.2⟩) (fun _ => rfl) Tryz.underlying33 (show Tryz.prog.cellsOf 33 = 3 by kernel_rfl) (opensF_cons rfl op24 (opensF_cons rfl (opens_int Tryz.underlying3 (by kernel_rfl)) (opensF_one rfl (opens_slice Tryz.underlying31 (by kernel_rfl) (opens_byte Tryz.underlying5 (by kernel_rfl))))))
set_option maxRecDepth 100000 in
theorem op30 : Opens Tryz.prog 30 Member := opens_struct (fun e : Member => (e.name, e.vector, e.publications)) (fun b => ⟨b.1, b.2.1, b.2.2⟩) (fun _ => rfl) Tryz.underlying30 (show Tryz.prog.cellsOf 30 = 3 by kernel_rfl) (opensF_cons rfl op24 (opensF_cons rfl op27 (opensF_one rfl (opens_slice Tryz.underlying28 (by kernel_rfl) op33))))
set_option maxRecDepth 100000 in
theorem lifted (os : Os) (started : os.Started) (H : Type) (enc : TypeId × Value → H) :
    ReturnsInHanded {} Tryz.checked os 5 .any (Rows.fnExactCatchUpSpec.pre6 enc Tryz.prog Tryz.f5 Rows.fnExactCatchUpRow.domain false) (Rows.fnExactCatchUpSpec.post enc Tryz.prog Tryz.f5 false true false false) := by
  refine returnsInHanded_of_change (C := Tryz.checked) own started (by kernel_rfl) Tryz.func5
    (ChangeSpec.witness6 (enc := enc) (C := Tryz.checked) false ⟨#[], #[.agg #[.slice none 0 0, .slice none 0 0, .slice none 0 0], .agg #[.slice none 0 0, .slice none 0 0, .slice none 0 0]], []⟩ 8 (by kernel_rfl) (by kernel_rfl) (by kernel_rfl) (by kernel_rfl)) ?_
  intro W base args ds gs before hval0 hW _ _
  have hval : ∀ (j : Nat) t v, Tryz.f5.params[j]? = some t → args[j]? = some v → Value.okWide Tryz.prog W .any base t v := hval0
  have hW' := hW
  obtain ⟨p, q, hA0, _⟩ := hW
  have hA : DataW.TrodAll enc Tryz.prog W 0 (fun _ => true) true Tryz.f5.params.toList args.toList ds p := hA0
  rw [Tryz.params5] at hA hval
  obtain ⟨v0, vs0, d0, ds0, p0, q0, hargs, rfl, rfl, h0, r0⟩ := ChangeShapes.trodAll_cons hA
  obtain ⟨v1, vs1, d1, ds1, p1, q1, rfl, rfl, rfl, h1, r1⟩ := ChangeShapes.trodAll_cons r0
  obtain ⟨rfl, rfl, rfl⟩ := trodAll_nil r1
  obtain rfl : args = #[v0, v1] := by cases args; simp_all
  obtain ⟨a0, x0, rfl, k0, g0⟩ := (arg_struct Tryz.underlying30 op30) (hval 0 30 _ rfl rfl) h0
  obtain ⟨a1, x1, rfl, k1, g1⟩ := (arg_struct Tryz.underlying30 op30) (hval 1 30 _ rfl rfl) h1
  have ht := true_CatchUp a0 a1 k0 k1
  refine (f5 W 0 (by decide) a0 x0.1.1 x0.1.2 (g0 (MF.rs .der x0.1.1 x0.1.2 a0.name.parts) (List.mem_cons_self)) x0.2.1.1 x0.2.1.2 (g0 (MF.rs .der x0.2.1.1 x0.2.1.2 a0.vector.entries) (by simp [GoT.fa])) x0.2.2.1 x0.2.2.2 (g0 (MF.rs .der x0.2.2.1 x0.2.2.2 a0.publications) (by simp [GoT.fa])) a1 x1.1.1 x1.1.2 (g1 (MF.rs .der x1.1.1 x1.1.2 a1.name.parts) (List.mem_cons_self)) x1.2.1.1 x1.2.1.2 (g1 (MF.rs .der x1.2.1.1 x1.2.1.2 a1.vector.entries) (by simp [GoT.fa])) x1.2.2.1 x1.2.2.2 (g1 (MF.rs .der x1.2.2.1 x1.2.2.2 a1.publications) (by simp [GoT.fa])) k0 k1).2.mono fun e W1 ⟨v, he, hb, hv⟩ => ?_
  rw [ht] at hv
  obtain ⟨rfl, _⟩ := hv
  subst he
  exact ⟨_, rfl, law_post laid (by kernel_rfl) rfl rfl Tryz.underlying4 (fun ds h => by match ds, h with | [_, _], _ => rfl) hW' hb.below⟩
set_option maxRecDepth 100000 in
theorem c_inPlace : (Rows.fnExactCatchUpRow.inPlace == Tryz.prog.inPlace 5) = true := by kernel_rfl
set_option maxRecDepth 100000 in
theorem c_unfollowed : (Rows.fnExactCatchUpRow.unfollowed == Tryz.prog.unfollowed 5) = true := by kernel_rfl
set_option maxRecDepth 100000 in
theorem c_recurses : (Rows.fnExactCatchUpRow.recurses == Tryz.prog.recurses 5) = true := by kernel_rfl
set_option maxRecDepth 100000 in
theorem c_named : (Rows.fnExactCatchUpRow.named == Tryz.prog.varsNamed 5) = true := by kernel_rfl
set_option maxRecDepth 100000 in
theorem closed : joinedFacts Tryz.pinned.checked.prog 5 Tryz.f5 Rows.fnExactCatchUpSpec Rows.fnExactCatchUpRow = true := by
  unfold joinedFacts
  rw [show laidOutB Tryz.pinned.checked.prog = true from laid, show mapsRowed Tryz.pinned.checked.prog = true from Facts.rowed, show (Rows.fnExactCatchUpRow.inPlace == Tryz.pinned.checked.prog.inPlace 5) = true from c_inPlace, show (Rows.fnExactCatchUpRow.unfollowed == Tryz.pinned.checked.prog.unfollowed 5) = true from c_unfollowed, show (Rows.fnExactCatchUpRow.recurses == Tryz.pinned.checked.prog.recurses 5) = true from c_recurses, show (Rows.fnExactCatchUpRow.named == Tryz.pinned.checked.prog.varsNamed 5) = true from c_named]
  kernel_rfl
theorem over : Rows.fnExactCatchUpRow.holds Tryz.pinned (OpenSpec.ofChange Rows.fnExactCatchUpSpec) :=
  OpenClaim.holds_of_wide 5 Tryz.f5 rfl rfl rfl rfl rfl rfl rfl ⟨rfl, rfl, rfl, rfl, rfl⟩ rfl rfl rfl rfl rfl (by kernel_rfl) Tryz.func5 closed
    (of_decide_eq_true (by kernel_rfl)) (by unfold Func.isWrapper; first | (rw [if_pos (by decide +kernel)]; kernel_rfl) | (rw [if_neg (by decide +kernel)]; exact ⟨rfl, rfl⟩))
    (fun os started H enc _ => lifted os started H enc)
theorem proved : Rows.FnExactCatchUpSaid := over
#print axioms proved
end LawCatchUp
end Go.Proofs.YtfffongneoegbaaGreat

