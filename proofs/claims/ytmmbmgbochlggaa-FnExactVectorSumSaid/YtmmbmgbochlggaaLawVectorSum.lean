/-
  FnExactVectorSum: the law returns true at all arguments; conditions: those of the statement, no others.
-/
import Derived.Test.YtmmbmgbochlggaaC3
import Derived.Test.YtmmbmgbochlggaaOpen
namespace Go.Proofs.Ytmmbmgbochlggaa
open Go.Stp
open Go.RowKit (Below)
open Go.ChangeShapes Go.WideShapes Go.ChangeAt
set_option linter.unusedVariables false
set_option linter.unusedSimpArgs false
namespace LawVectorSum
theorem own : ownKnob Try.prog.godebug = none := by kernel_rfl
theorem laid : laidOutB Try.prog = true := by kernel_rfl
theorem op44 : Opens Try.prog 44 Name := opens_struct (fun e : Name => e.parts) (fun b => ⟨b⟩) (fun _ => rfl) Try.underlying44 (by kernel_rfl) (opensF_one rfl (opens_slice Try.underlying42 (by kernel_rfl) (opens_str Try.underlying9 (by kernel_rfl))))
theorem op81 : Opens Try.prog 81 TableEntry := opens_struct (fun e : TableEntry => (e.name, e.value)) (fun b => ⟨b.1, b.2⟩) (fun _ => rfl) Try.underlying81 (by kernel_rfl) (opensF_cons rfl op44 (opensF_one rfl (opens_int Try.underlying3 (by kernel_rfl))))
theorem op33 : Opens Try.prog 33 StateVector := opens_struct (fun e : StateVector => e.entries) (fun b => ⟨b⟩) (fun _ => rfl) Try.underlying33 (by kernel_rfl) (opensF_one rfl (opens_slice Try.underlying31 (by kernel_rfl) op81))
theorem f6 (w : World) (aV : StateVector) (paV : Option Addr) (caV : Nat) (hpaV : RdSl (hp w) paV caV aV.entries) :
    Does Try.prog 6 #[.agg #[.slice paV ((aV.entries).length) caV]] w (fun rv _ => rv = .bool (true)) := by
  have hpaVL : _ ≤ 9223372036854775807 := hpaV.2.1
  refine WX.enter (tt := tt) (Γ := [(0, MF.rs paV caV aV.entries)]) Try.func6 rfl (by kernel_rfl) rfl (allK_cons hpaV allK_nil) ?_
  refine WX.run ttOk rfl ?_
  refine WX.callV rfl rfl rfl rfl rfl (fun _ => rfl) rfl (fun w _ _ _ hΓ => f16 w aV paV caV (hΓ 0 _ rfl) (1048576) (by omega) (by omega)) ?_
  have sR1 := szR_spec (1048576) (sz aV)
  refine WX.run ttOk rfl ?_
  refine WX.cases 11 rfl (fun h1 => ?_) (fun h1 => ?_)
  · skip
    replace h1 := B.dt h1
    refine WX.run ttOk rfl ?_
    refine WX.ret ttOk rfl ?_
    intro w1 G bs hI hΓ
    rfl
  · skip
    replace h1 := B.df h1
    refine WX.run ttOk rfl ?_
    refine WX.callO 1 rfl rfl rfl rfl rfl (fun _ => rfl) rfl (fun w _ _ _ hΓ => f18 w aV paV caV (hΓ 0 _ rfl) (by first | omega | (have hm := szL_mono e1h; omega))) (fun _ => rfl) (fun _ _ => rfl) ?_
    rintro ⟨p1, c1⟩ (fp1 : List Nat) ok1 nd1 nw1 ap1
    replace nd1 : List.Nodup (fp1) := nd1
    replace ap1 : Apart _ (fp1) := ap1
    replace nw1 : ∀ b ∈ fp1, w.heap.size ≤ b := nw1
    refine WX.callV rfl rfl rfl rfl rfl (fun _ => rfl) rfl (fun w _ _ _ hΓ => f17 w aV p1 c1 (hΓ 1 _ rfl)) ?_
    refine WX.run ttOk rfl ?_
    refine WX.callO 3 rfl rfl rfl rfl rfl (fun _ => rfl) rfl (fun w _ _ _ hΓ => f18 w aV paV caV (hΓ 0 _ rfl) (by first | omega | (have hm := szL_mono e1h; omega))) (fun _ => rfl) (fun _ _ => rfl) ?_
    rintro ⟨p2, c2⟩ (fp2 : List Nat) ok2 nd2 nw2 ap2
    replace nd2 : List.Nodup (fp2) := nd2
    replace ap2 : Apart _ (fp2) := ap2
    replace nw2 : ∀ b ∈ fp2, w.heap.size ≤ b := nw2
    refine WX.run ttOk rfl ?_
    refine WX.callV rfl rfl rfl rfl rfl (fun _ => rfl) rfl (fun w _ _ _ hΓ => f19 w aV p2 c2 (hΓ 3 _ rfl)) ?_
    refine WX.run ttOk rfl ?_
    refine WX.cases 21 rfl (fun h2 => ?_) (fun h2 => ?_)
    · skip
      replace h2 := B.nt' h2
      refine WX.run ttOk rfl ?_
      refine WX.ret ttOk rfl ?_
      intro w1 G bs hI hΓ
      exfalso
      first | (simp [eqv_self] at *; done) | simp_all [eqv_self]
    · skip
      replace h2 := B.nf' h2
      refine WX.run ttOk rfl ?_
      refine WX.draw 5 mixed ?_
      intro bs G0 hΓ0
      refine DX.takes (fuel := 3) ttOk [0, 1] (by kernel_rfl) rfl ?_
      refine DX.callO 2 5 (by kernel_rfl) rfl rfl rfl rfl rfl rfl (fun _ => rfl) rfl (fun w _ _ _ hΓ => f18 w aV paV caV (hΓ 0 _ rfl) (by first | omega | (have hm := szL_mono e1h; omega))) (fun _ => rfl) (fun _ _ => rfl) ?_
      rintro ⟨p3, c3⟩ (fp3 : List Nat) ok3 nd3 nw3 ap3
      replace nd3 : List.Nodup (fp3) := nd3
      replace ap3 : Apart _ (fp3) := ap3
      replace nw3 : ∀ b ∈ fp3, w.heap.size ≤ b := nw3
      refine DX.callV 3 (by kernel_rfl) rfl rfl rfl rfl rfl rfl (fun _ => rfl) rfl (fun w _ _ _ hΓ => f20 w aV p2 c2 (hΓ 3 _ rfl) aV p3 c3 (hΓ 5 _ rfl)) ?_
      refine DX.takes (fuel := 0) ttOk [4] (by kernel_rfl) rfl ?_
      refine DX.tail rfl rfl (by kernel_rfl) ?_
      refine WX.run ttOk rfl ?_
      refine WX.cases 26 rfl (fun h3 => ?_) (fun h3 => ?_)
      · skip
        replace h3 := B.nt h3
        refine WX.run ttOk rfl ?_
        refine WX.ret ttOk rfl ?_
        intro w1 G bs hI hΓ
        exfalso
        first | (simp [eqv_self] at *; done) | simp_all [eqv_self]
      · skip
        replace h3 := B.nf h3
        refine WX.run ttOk rfl ?_
        refine WX.ret ttOk rfl ?_
        intro w1 G bs hI hΓ
        rfl
set_option maxRecDepth 100000 in
theorem lifted (os : Os) (started : os.Started) (H : Type) (enc : TypeId × Value → H) :
    ReturnsInHanded {} Try.checked os 6 .any (Rows.fnExactVectorSumSpec.pre6 enc Try.prog Try.f6 Rows.fnExactVectorSumRow.domain false) (Rows.fnExactVectorSumSpec.post enc Try.prog Try.f6 false true false false) := by
  refine returnsInHanded_of_change (C := Try.checked) own started (by kernel_rfl) Try.func6
    (ChangeSpec.witness6 (enc := enc) (C := Try.checked) false ⟨#[], #[.agg #[.slice none (0) 0]], []⟩ 8 (by kernel_rfl) (by kernel_rfl) (by kernel_rfl) (by kernel_rfl)) ?_
  intro W base args ds gs before hval0 hW _ _
  have hval : ∀ (j : Nat) t v, Try.f6.params[j]? = some t → args[j]? = some v → Value.okWide Try.prog W .any base t v := hval0
  have hW' := hW
  obtain ⟨p, q, hA0, _⟩ := hW
  have hA : DataW.TrodAll enc Try.prog W 0 (fun _ => true) true Try.f6.params.toList args.toList ds p := hA0
  rw [Try.params6] at hA hval
  obtain ⟨v0, vs0, d0, ds0, p0, q0, hargs, rfl, rfl, h0, r0⟩ := ChangeShapes.trodAll_cons hA
  obtain ⟨rfl, rfl, rfl⟩ := trodAll_nil r0
  obtain rfl : args = #[v0] := by cases args; simp_all
  obtain ⟨a0, x0, rfl, k0, g0⟩ := (arg_struct Try.underlying33 op33) (hval 0 33 _ rfl rfl) h0
  refine (f6 W a0 x0.1 x0.2 (g0 _ (List.mem_cons_self))).2.mono fun e W1 ⟨v, he, hb, hv⟩ => ?_
  subst he; subst hv
  exact ⟨_, rfl, law_post laid (by kernel_rfl) rfl rfl Try.underlying4 (fun ds h => by match ds, h with | [_], _ => rfl) hW' hb⟩
theorem over : Rows.fnExactVectorSumRow.holds Try.pinned (OpenSpec.ofChange Rows.fnExactVectorSumSpec) :=
  OpenClaim.holds_of_wide 6 Try.f6 rfl rfl rfl rfl rfl rfl rfl ⟨rfl, rfl, rfl, rfl, rfl⟩ rfl rfl rfl rfl rfl (by kernel_rfl) Try.func6 (by kernel_rfl)
    (of_decide_eq_true (by kernel_rfl)) (by unfold Func.isWrapper; first | (rw [if_pos (by decide +kernel)]; kernel_rfl) | (rw [if_neg (by decide +kernel)]; exact ⟨rfl, rfl⟩))
    (fun os started H enc _ => lifted os started H enc)
theorem proved : Rows.FnExactVectorSumSaid := over
#print axioms proved
end LawVectorSum
end Go.Proofs.Ytmmbmgbochlggaa
