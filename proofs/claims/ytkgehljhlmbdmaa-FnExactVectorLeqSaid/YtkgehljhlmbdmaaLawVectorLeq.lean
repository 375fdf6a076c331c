/-
  FnExactVectorLeq: the law returns true at all arguments; conditions: those of the statement, no others.
-/
import Derived.Test.YtkgehljhlmbdmaaC5
import Derived.Test.YtkgehljhlmbdmaaOpen
namespace Go.Proofs.Ytkgehljhlmbdmaa
open Go.Stp
open Go.RowKit (Below)
open Go.ChangeShapes Go.WideShapes Go.ChangeAt
set_option linter.unusedVariables false
set_option linter.unusedSimpArgs false
namespace LawVectorLeq
theorem own : ownKnob Try.prog.godebug = none := by kernel_rfl
theorem laid : laidOutB Try.prog = true := by kernel_rfl
theorem op24 : Opens Try.prog 24 Name := opens_struct (fun e : Name => e.parts) (fun b => ⟨b⟩) (fun _ => rfl) Try.underlying24 (by kernel_rfl) (opensF_one rfl (opens_slice Try.underlying22 (by kernel_rfl) (opens_str Try.underlying9 (by kernel_rfl))))
theorem op89 : Opens Try.prog 89 TableEntry := opens_struct (fun e : TableEntry => (e.name, e.value)) (fun b => ⟨b.1, b.2⟩) (fun _ => rfl) Try.underlying89 (by kernel_rfl) (opensF_cons rfl op24 (opensF_one rfl (opens_int Try.underlying3 (by kernel_rfl))))
theorem op41 : Opens Try.prog 41 StateVector := opens_struct (fun e : StateVector => e.entries) (fun b => ⟨b⟩) (fun _ => rfl) Try.underlying41 (by kernel_rfl) (opensF_one rfl (opens_slice Try.underlying39 (by kernel_rfl) op89))
theorem f4 (w : World) (aA : StateVector) (paA : Option Addr) (caA : Nat) (hpaA : RdSl (hp w) paA caA aA.entries) (aB : StateVector) (paB : Option Addr) (caB : Nat) (hpaB : RdSl (hp w) paB caB aB.entries) :
    Does Try.prog 4 #[.agg #[.slice paA ((aA.entries).length) caA], .agg #[.slice paB ((aB.entries).length) caB]] w (fun rv _ => rv = .bool (true)) := by
  have hpaAL : _ ≤ 9223372036854775807 := hpaA.2.1
  have hpaBL : _ ≤ 9223372036854775807 := hpaB.2.1
  refine WX.enter (tt := tt) (Γ := [(0, MF.rs paA caA aA.entries), (1, MF.rs paB caB aB.entries)]) Try.func4 rfl (by kernel_rfl) rfl (allK_cons hpaA (allK_cons hpaB allK_nil)) ?_
  refine WX.run ttOk rfl ?_
  refine WX.callV rfl rfl rfl rfl rfl (fun _ => rfl) rfl (fun w G bs hI hΓ => f13 w aA paA caA (hΓ 0 _ rfl) (1048576) (by omega) (by omega)) ?_
  have sR1 := szR_spec (1048576) (sz aA)
  refine WX.run ttOk rfl ?_
  refine WX.cases 14 rfl (fun h1 => ?_) (fun h1 => ?_)
  · skip
    replace h1 := B.dt h1
    refine WX.run ttOk rfl ?_
    refine WX.ret ttOk rfl ?_
    intro w1 G bs hI hΓ
    rfl
  · skip
    replace h1 := B.df h1
    refine WX.run ttOk rfl ?_
    refine WX.callV rfl rfl rfl rfl rfl (fun _ => rfl) rfl (fun w G bs hI hΓ => f13 w aB paB caB (hΓ 1 _ rfl) (szR (1048576) (sz aA)) (by omega) (by omega)) ?_
    have sR2 := szR_spec (szR (1048576) (sz aA)) (sz aB)
    refine WX.run ttOk rfl ?_
    refine WX.cases 19 rfl (fun h2 => ?_) (fun h2 => ?_)
    · skip
      replace h2 := B.dt h2
      refine WX.run ttOk rfl ?_
      refine WX.ret ttOk rfl ?_
      intro w1 G bs hI hΓ
      rfl
    · skip
      replace h2 := B.df h2
      refine WX.run ttOk rfl ?_
      refine WX.draw 5 mixed ?_
      intro bs G0 hΓ0
      refine DX.takes (fuel := 4) ttOk [0, 2] (by kernel_rfl) rfl ?_
      refine DX.callO 1 2 (by kernel_rfl) rfl rfl rfl rfl rfl rfl (fun _ => rfl) rfl (fun w G bs hI hΓ => f15 w aA paA caA (hΓ 0 _ rfl) (by first | omega | (have hm := szL_mono e1h; omega))) (fun _ => rfl) (fun _ _ => rfl) ?_
      rintro ⟨p1, c1⟩ (fp1 : List Nat) ok1 nd1 nw1 ap1
      replace nd1 : List.Nodup (fp1) := nd1
      replace ap1 : Apart _ (fp1) := ap1
      replace nw1 : ∀ b ∈ fp1, w.heap.size ≤ b := nw1
      refine DX.callO 3 4 (by kernel_rfl) rfl rfl rfl rfl rfl rfl (fun _ => rfl) rfl (fun w G bs hI hΓ => f15 w aB paB caB (hΓ 1 _ rfl) (by first | omega | (have hm := szL_mono e1h; omega))) (fun _ => rfl) (fun _ _ => rfl) ?_
      rintro ⟨p2, c2⟩ (fp2 : List Nat) ok2 nd2 nw2 ap2
      replace nd2 : List.Nodup (fp2) := nd2
      replace ap2 : Apart _ (fp2) := ap2
      replace nw2 : ∀ b ∈ fp2, w.heap.size ≤ b := nw2
      refine DX.callV 4 (by kernel_rfl) rfl rfl rfl rfl rfl rfl (fun _ => rfl) rfl (fun w G bs hI hΓ => f14 w aA p1 c1 (hΓ 2 _ rfl) aB p2 c2 (hΓ 4 _ rfl)) ?_
      refine DX.tail rfl rfl (by kernel_rfl) ?_
      refine WX.run ttOk rfl ?_
      refine WX.callO 6 rfl rfl rfl rfl rfl (fun _ => rfl) rfl (fun w G bs hI hΓ => f15 w aA paA caA (hΓ 0 _ rfl) (by first | omega | (have hm := szL_mono e1h; omega))) (fun _ => rfl) (fun _ _ => rfl) ?_
      rintro ⟨p3, c3⟩ (fp3 : List Nat) ok3 nd3 nw3 ap3
      replace nd3 : List.Nodup (fp3) := nd3
      replace ap3 : Apart _ (fp3) := ap3
      replace nw3 : ∀ b ∈ fp3, w.heap.size ≤ b := nw3
      refine WX.run ttOk rfl ?_
      refine WX.callO 8 rfl rfl rfl rfl rfl (fun _ => rfl) rfl (fun w G bs hI hΓ => f15 w aB paB caB (hΓ 1 _ rfl) (by first | omega | (have hm := szL_mono e1h; omega))) (fun _ => rfl) (fun _ _ => rfl) ?_
      rintro ⟨p4, c4⟩ (fp4 : List Nat) ok4 nd4 nw4 ap4
      replace nd4 : List.Nodup (fp4) := nd4
      replace ap4 : Apart _ (fp4) := ap4
      replace nw4 : ∀ b ∈ fp4, w.heap.size ≤ b := nw4
      refine WX.run ttOk rfl ?_
      refine WX.callV rfl rfl rfl rfl rfl (fun _ => rfl) rfl (fun w G bs hI hΓ => f16 w aA p3 c3 (hΓ 6 _ rfl) aB p4 c4 (hΓ 8 _ rfl)) ?_
      refine WX.run ttOk rfl ?_
      refine WX.beq ttOk rfl rfl rfl rfl rfl rfl rfl rfl rfl ?_
      refine WX.run ttOk rfl ?_
      refine WX.cases 34 rfl (fun h3 => ?_) (fun h3 => ?_)
      · skip
        replace h3 := B.nt h3
        refine WX.run ttOk rfl ?_
        refine WX.ret ttOk rfl ?_
        intro w1 G bs hI hΓ
        exfalso
        first | (simp [eqv_self] at *; done) | simp_all [eqv_self]
      · skip
        replace h3 := B.nf h3
        refine WX.run ttOk rfl ?_
        refine WX.draw 5 mixed ?_
        intro bs G0 hΓ0
        refine DX.takes (fuel := 3) ttOk [0, 1] (by kernel_rfl) rfl ?_
        refine DX.callO 2 10 (by kernel_rfl) rfl rfl rfl rfl rfl rfl (fun _ => rfl) rfl (fun w G bs hI hΓ => f15 w aA paA caA (hΓ 0 _ rfl) (by first | omega | (have hm := szL_mono e1h; omega))) (fun _ => rfl) (fun _ _ => rfl) ?_
        rintro ⟨p5, c5⟩ (fp5 : List Nat) ok5 nd5 nw5 ap5
        replace nd5 : List.Nodup (fp5) := nd5
        replace ap5 : Apart _ (fp5) := ap5
        replace nw5 : ∀ b ∈ fp5, w.heap.size ≤ b := nw5
        refine DX.callV 3 (by kernel_rfl) rfl rfl rfl rfl rfl rfl (fun _ => rfl) rfl (fun w G bs hI hΓ => f17 w aA p3 c3 (hΓ 6 _ rfl) aA p5 c5 (hΓ 10 _ rfl)) ?_
        refine DX.takes (fuel := 0) ttOk [4] (by kernel_rfl) rfl ?_
        refine DX.tail rfl rfl (by kernel_rfl) ?_
        refine WX.run ttOk rfl ?_
        refine WX.cases 39 rfl (fun h4 => ?_) (fun h4 => ?_)
        · skip
          replace h4 := B.nt h4
          refine WX.run ttOk rfl ?_
          refine WX.ret ttOk rfl ?_
          intro w1 G bs hI hΓ
          exfalso
          first | (simp [eqv_self] at *; done) | simp_all [eqv_self]
        · skip
          replace h4 := B.nf h4
          refine WX.run ttOk rfl ?_
          refine WX.draw 5 mixed ?_
          intro bs G0 hΓ0
          refine DX.takes (fuel := 3) ttOk [0, 1] (by kernel_rfl) rfl ?_
          refine DX.callO 2 12 (by kernel_rfl) rfl rfl rfl rfl rfl rfl (fun _ => rfl) rfl (fun w G bs hI hΓ => f15 w aB paB caB (hΓ 1 _ rfl) (by first | omega | (have hm := szL_mono e1h; omega))) (fun _ => rfl) (fun _ _ => rfl) ?_
          rintro ⟨p6, c6⟩ (fp6 : List Nat) ok6 nd6 nw6 ap6
          replace nd6 : List.Nodup (fp6) := nd6
          replace ap6 : Apart _ (fp6) := ap6
          replace nw6 : ∀ b ∈ fp6, w.heap.size ≤ b := nw6
          refine DX.callV 3 (by kernel_rfl) rfl rfl rfl rfl rfl rfl (fun _ => rfl) rfl (fun w G bs hI hΓ => f17 w aB p4 c4 (hΓ 8 _ rfl) aB p6 c6 (hΓ 12 _ rfl)) ?_
          refine DX.takes (fuel := 0) ttOk [4] (by kernel_rfl) rfl ?_
          refine DX.tail rfl rfl (by kernel_rfl) ?_
          refine WX.run ttOk rfl ?_
          refine WX.cases 44 rfl (fun h5 => ?_) (fun h5 => ?_)
          · skip
            replace h5 := B.nt h5
            refine WX.run ttOk rfl ?_
            refine WX.ret ttOk rfl ?_
            intro w1 G bs hI hΓ
            exfalso
            first | (simp [eqv_self] at *; done) | simp_all [eqv_self]
          · skip
            replace h5 := B.nf h5
            refine WX.run ttOk rfl ?_
            refine WX.ret ttOk rfl ?_
            intro w1 G bs hI hΓ
            rfl
set_option maxRecDepth 100000 in
theorem lifted (os : Os) (started : os.Started) (H : Type) (enc : TypeId × Value → H) :
    ReturnsInHanded {} Try.checked os 4 .any (Rows.fnExactVectorLeqSpec.pre6 enc Try.prog Try.f4 Rows.fnExactVectorLeqRow.domain false) (Rows.fnExactVectorLeqSpec.post enc Try.prog Try.f4 false true false false) := by
  refine returnsInHanded_of_change (C := Try.checked) own started (by kernel_rfl) Try.func4
    (ChangeSpec.witness6 (enc := enc) (C := Try.checked) false ⟨#[], #[.agg #[.slice none (0) 0], .agg #[.slice none (0) 0]], []⟩ 8 (by kernel_rfl) (by kernel_rfl) (by kernel_rfl) (by kernel_rfl)) ?_
  intro W base args ds gs before hval0 hW _ _
  have hval : ∀ (j : Nat) t v, Try.f4.params[j]? = some t → args[j]? = some v → Value.okWide Try.prog W .any base t v := hval0
  have hW' := hW
  obtain ⟨p, q, hA0, _⟩ := hW
  have hA : DataW.TrodAll enc Try.prog W 0 (fun _ => true) true Try.f4.params.toList args.toList ds p := hA0
  rw [Try.params4] at hA hval
  obtain ⟨v0, vs0, d0, ds0, p0, q0, hargs, rfl, rfl, h0, r0⟩ := ChangeShapes.trodAll_cons hA
  obtain ⟨v1, vs1, d1, ds1, p1, q1, rfl, rfl, rfl, h1, r1⟩ := ChangeShapes.trodAll_cons r0
  obtain ⟨rfl, rfl, rfl⟩ := trodAll_nil r1
  obtain rfl : args = #[v0, v1] := by cases args; simp_all
  obtain ⟨a0, x0, rfl, k0, g0⟩ := (arg_struct Try.underlying41 op41) (hval 0 41 _ rfl rfl) h0
  obtain ⟨a1, x1, rfl, k1, g1⟩ := (arg_struct Try.underlying41 op41) (hval 1 41 _ rfl rfl) h1
  refine (f4 W a0 x0.1 x0.2 (g0 _ (List.mem_cons_self)) a1 x1.1 x1.2 (g1 _ (List.mem_cons_self))).2.mono fun e W1 ⟨v, he, hb, hv⟩ => ?_
  subst he; subst hv
  exact ⟨_, rfl, law_post laid (by kernel_rfl) rfl rfl Try.underlying4 (fun ds h => by match ds, h with | [_, _], _ => rfl) hW' hb⟩
theorem over : Rows.fnExactVectorLeqRow.holds Try.pinned (OpenSpec.ofChange Rows.fnExactVectorLeqSpec) :=
  OpenClaim.holds_of_wide 4 Try.f4 rfl rfl rfl rfl rfl rfl rfl ⟨rfl, rfl, rfl, rfl, rfl⟩ rfl rfl rfl rfl rfl (by kernel_rfl) Try.func4 (by kernel_rfl)
    (of_decide_eq_true (by kernel_rfl)) (by unfold Func.isWrapper; first | (rw [if_pos (by decide +kernel)]; kernel_rfl) | (rw [if_neg (by decide +kernel)]; exact ⟨rfl, rfl⟩))
    (fun os started H enc _ => lifted os started H enc)
theorem proved : Rows.FnExactVectorLeqSaid := over
#print axioms proved
end LawVectorLeq
end Go.Proofs.Ytkgehljhlmbdmaa
