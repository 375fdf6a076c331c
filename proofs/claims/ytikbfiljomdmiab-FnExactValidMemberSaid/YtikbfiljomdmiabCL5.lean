/-
  That functions of the program compute what the Lean functions do. No condition but what each says. Written by a program (gen2.py).
-/
import Derived.Test.YtikbfiljomdmiabC10
import Derived.Test.YtikbfiljomdmiabPure
import Derived.Test.YtikbfiljomdmiabPL5
namespace Go.Proofs.Ytikbfiljomdmiab
open Go.Stp
set_option linter.unusedVariables false
set_option linter.unusedSimpArgs false
theorem f7 (w : World) (n : Nat) (hn : n + 0 ≤ 9) (aM : Member) (paMName : Option Addr) (caMName : Nat) (hpaMName : RdSl (hp w) paMName caMName aM.name.parts) (paMVector : Option Addr) (caMVector : Nat) (hpaMVector : RdSl (hp w) paMVector caMVector aM.vector.entries) (paMPublications : Option Addr) (caMPublications : Nat) (hpaMPublications : RdSl (hp w) paMPublications caMPublications aM.publications) (hokaM : GoT.ok 10 aM) :
    Does Try.prog 7 #[.agg #[.slice paMName ((aM.name.parts).length) caMName, .slice paMVector ((aM.vector.entries).length) caMVector, .slice paMPublications ((aM.publications).length) caMPublications]] w emp (fun (rv : Value) (_ : World) => rv = .bool (laws_FnExactValidMember aM) ∧ True) := by
  have hbP := bd_pos n
  have hbB := bd_big (n := n) (by omega)
  refine WX.enter (tt := tt) (Γ := [(0, MF.rs .stb paMName caMName aM.name.parts), (1, MF.rs .stb paMVector caMVector aM.vector.entries), (2, MF.rs .stb paMPublications caMPublications aM.publications)]) Try.func7 rfl (by kernel_rfl) rfl (allS_cons rfl hpaMName (allS_cons rfl hpaMVector (allS_cons rfl hpaMPublications allS_nil))) ?_
  refine WX.run ttOk rfl ?_
  refine WX.callV rfl rfl rfl rfl rfl (fun _ => rfl) rfl (fun w G bs hI hΓ => f36 w 10 aM paMName caMName (hΓ.get 0 rfl) paMVector caMVector (hΓ.get 1 rfl) paMPublications caMPublications (hΓ.get 2 rfl) 1048576 hokaM (show I64 1048576 from (by unfold I64; omega))) ?_
  intro hq1
  refine WX.run ttOk rfl ?_
  refine WX.cases 11 rfl (fun h1 => ?_) (fun h1 => ?_)
  · skip
    have h1d := B.dt h1
    refine WX.run ttOk rfl ?_
    have hP1 : laws_FnExactValidMember aM = true := by simp only [laws_FnExactValidMember, h1, cond_true, cond_false]
    refine WX.ret ttOk rfl ?_
    intro w1 G bs hI hΓ
    rw [hP1]
    exact ⟨rfl, trivial⟩
  · skip
    have h1d := B.df h1
    obtain ⟨hs1, ht1⟩ := (sz_Member_R aM 1048576 hokaM (by omega) (by omega)).pos (by omega)
    have hk1 : GoT.ok n aM := GoT.okm (Nat.zero_le n) (Sz.low hokaM (show sz aM ≤ 1048576 by omega))
    refine WX.run ttOk rfl ?_
    refine WX.callF 3 (fun _ _ h => GoT.ow_rd h) (fun _ f hf => GoT.fak f hf) rfl rfl rfl rfl rfl (fun _ => rfl) rfl (fun w G bs hI hΓ => f38 w n (by omega) aM paMName caMName (hΓ.get 0 rfl) paMVector caMVector (hΓ.get 1 rfl) paMPublications caMPublications (hΓ.get 2 rfl) hk1) (fun _ => rfl) (fun _ => rfl) ?_
    rintro ⟨⟨p1, c1⟩, ⟨p2, c2⟩, ⟨p3, c3⟩⟩ hq2
    refine WX.callV rfl rfl rfl rfl rfl (fun _ => rfl) rfl (fun w G bs hI hΓ => f37 w n (by omega) (laws_toMember aM) p1 c1 (hΓ.get 3 rfl) p2 c2 (hΓ.get 4 rfl) p3 c3 (hΓ.get 5 rfl) hq2) ?_
    intro hq3
    refine WX.run ttOk rfl ?_
    refine WX.callF 9 (fun _ _ h => GoT.ow_rd h) (fun _ f hf => GoT.fak f hf) rfl rfl rfl rfl rfl (fun _ => rfl) rfl (fun w G bs hI hΓ => f38 w n (by omega) aM paMName caMName (hΓ.get 0 rfl) paMVector caMVector (hΓ.get 1 rfl) paMPublications caMPublications (hΓ.get 2 rfl) hk1) (fun _ => rfl) (fun _ => rfl) ?_
    rintro ⟨⟨p4, c4⟩, ⟨p5, c5⟩, ⟨p6, c6⟩⟩ hq4
    refine WX.run ttOk rfl ?_
    refine WX.callV rfl rfl rfl rfl rfl (fun _ => rfl) rfl (fun w G bs hI hΓ => f39 w n (by omega) (laws_toMember aM) p4 c4 (hΓ.get 9 rfl) p5 c5 (hΓ.get 10 rfl) p6 c6 (hΓ.get 11 rfl) hq4) ?_
    intro hq5
    refine WX.run ttOk rfl ?_
    refine WX.see rfl rfl rfl (fun _ hΓ => looks_beq ttOk rfl rfl rfl rfl rfl rfl) ?_
    refine WX.run ttOk rfl ?_
    refine WX.cases 21 rfl (fun h2 => ?_) (fun h2 => ?_)
    · skip
      have h2d := (B.nt h2)
      refine WX.run ttOk rfl ?_
      have hP2 : laws_FnExactValidMember aM = false := by simp only [laws_FnExactValidMember, h1, h2, cond_true, cond_false]
      refine WX.ret ttOk rfl ?_
      intro w1 G bs hI hΓ
      rw [hP2]
      exact ⟨rfl, trivial⟩
    · skip
      have h2d := (B.nf h2)
      refine WX.run ttOk rfl ?_
      refine WX.draw [] mixed ?_
      intro bs G0 hΓ0
      refine DX.takes (fuel := 3) ttOk [(0, false), (1, false)] (by kernel_rfl) rfl ?_
      refine DX.callF 2 15 (fun _ _ h => GoT.ow_rd h) (fun _ f hf => GoT.fak f hf) rfl (by kernel_rfl) rfl rfl rfl rfl rfl rfl (fun _ => rfl) rfl (fun w G bs hI hΓ => f38 w n (by omega) aM paMName caMName (hΓ.get 0 rfl) paMVector caMVector (hΓ.get 1 rfl) paMPublications caMPublications (hΓ.get 2 rfl) hk1) (fun _ => rfl) (fun _ => rfl) ?_
      rintro ⟨⟨p7, c7⟩, ⟨p8, c8⟩, ⟨p9, c9⟩⟩ hq6
      refine DX.callV 3 rfl (by kernel_rfl) rfl rfl rfl rfl rfl rfl (fun _ => rfl) rfl (fun w G bs hI hΓ => f40 w n (by omega) (laws_toMember aM) p4 c4 (hΓ.get 9 rfl) p5 c5 (hΓ.get 10 rfl) p6 c6 (hΓ.get 11 rfl) (laws_toMember aM) p7 c7 (hΓ.get 15 rfl) p8 c8 (hΓ.get 16 rfl) p9 c9 (hΓ.get 17 rfl) hq4 hq6) ?_
      intro hq7
      refine DX.takes (fuel := 0) ttOk [(4, true)] (by kernel_rfl) rfl ?_
      refine DX.tail [] rfl rfl (by kernel_rfl) ?_
      refine WX.run ttOk rfl ?_
      refine WX.cases 26 rfl (fun h3 => ?_) (fun h3 => ?_)
      · skip
        have h3d := (B.nt h3)
        refine WX.run ttOk rfl ?_
        have hP3 : laws_FnExactValidMember aM = false := by simp only [laws_FnExactValidMember, h1, h2, h3, cond_true, cond_false]
        refine WX.ret ttOk rfl ?_
        intro w1 G bs hI hΓ
        rw [hP3]
        exact ⟨rfl, trivial⟩
      · skip
        have h3d := (B.nf h3)
        refine WX.run ttOk rfl ?_
        have hP4 : laws_FnExactValidMember aM = true := by simp only [laws_FnExactValidMember, h1, h2, h3, cond_true, cond_false]
        refine WX.ret ttOk rfl ?_
        intro w1 G bs hI hΓ
        rw [hP4]
        exact ⟨rfl, trivial⟩
end Go.Proofs.Ytikbfiljomdmiab
