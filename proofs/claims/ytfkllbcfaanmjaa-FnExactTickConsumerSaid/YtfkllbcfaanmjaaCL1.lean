/-
  That functions of the program compute what the Lean functions do. No condition but what each says. Written by a program (gen2.py).
-/
import Derived.Test.YtfkllbcfaanmjaaC4
import Derived.Test.YtfkllbcfaanmjaaPure
import Derived.Test.YtfkllbcfaanmjaaPL1
namespace Go.Proofs.Ytfkllbcfaanmjaa
open Go.Stp
set_option linter.unusedVariables false
set_option linter.unusedSimpArgs false
theorem f3 (w : World) (n : Nat) (hn : n + 0 ≤ 9) (aNode : Int) (aI : Int) (aN : Name) (paN : Option Addr) (caN : Nat) (hpaN : RdSl (hp w) paN caN aN.parts) (hokaNode : GoT.ok 10 aNode) (hokaI : GoT.ok 10 aI) (hokaN : GoT.ok 10 aN) :
    Does Try.prog 3 #[.int .i64 (aNode), .int .i64 (aI), .agg #[.slice paN ((aN.parts).length) caN]] w emp (fun (rv : Value) (_ : World) => rv = .bool (laws_FnExactNewConsumer aNode aI aN) ∧ True) := by
  have hbP := bd_pos n
  have hbB := bd_big (n := n) (by omega)
  refine WX.enter (tt := tt) (Γ := [(0, MF.rs .stb paN caN aN.parts)]) Try.func3 rfl (by kernel_rfl) rfl (allS_cons rfl hpaN allS_nil) ?_
  refine WX.run ttOk rfl ?_
  refine WX.callV rfl rfl rfl rfl rfl (fun _ => rfl) rfl (fun w G bs hI hΓ => f15 w 10 aN paN caN (hΓ.get 0 rfl) 1048576 hokaN (show I64 1048576 from (by unfold I64; omega))) ?_
  intro hq1
  refine WX.run ttOk rfl ?_
  refine WX.cases 19 rfl (fun h1 => ?_) (fun h1 => ?_)
  · skip
    have h1d := B.dt h1
    refine WX.run ttOk rfl ?_
    have hP1 : laws_FnExactNewConsumer aNode aI aN = true := by simp only [laws_FnExactNewConsumer, h1, cond_true, cond_false]
    refine WX.ret ttOk rfl ?_
    intro w1 G bs hI hΓ
    rw [hP1]
    exact ⟨rfl, trivial⟩
  · skip
    have h1d := B.df h1
    obtain ⟨hs1, ht1⟩ := (sz_Name_R aN 1048576 hokaN (by omega) (by omega)).pos (by omega)
    have hk1 : GoT.ok n aN := GoT.okm (Nat.zero_le n) (Sz.low hokaN (show sz aN ≤ 1048576 by omega))
    refine WX.run ttOk rfl ?_
    refine WX.callF 1 (fun _ _ h => GoT.ow_rd h) (fun _ f hf => GoT.fak f hf) rfl rfl rfl rfl rfl (fun _ => rfl) rfl (fun w G bs hI hΓ => f17 w n (by omega) aN paN caN (hΓ.get 0 rfl) hk1) (fun _ => rfl) (fun _ => rfl) ?_
    rintro ⟨p1, c1⟩ hq2
    refine WX.callF 3 (fun _ _ h => GoT.ow_rd h) (fun _ f hf => GoT.fak f hf) rfl rfl rfl rfl rfl (fun _ => rfl) rfl (fun w G bs hI hΓ => f16 w n (by omega) aNode aI (laws_toName aN) p1 c1 (hΓ.get 1 rfl) hokaNode hokaI hq2) (fun _ => rfl) (fun _ => rfl) ?_
    rintro ⟨⟨⟩, ⟨⟩, ⟨p2, c2⟩, ⟨⟩, ⟨⟩, ⟨⟩, ⟨⟨p3, c3⟩, ⟨p4, c4⟩, ⟨p5, c5⟩, ⟨⟩, ⟨⟩⟩⟩ hq3
    refine WX.run ttOk rfl ?_
    refine WX.callF 11 (fun _ _ h => GoT.ow_rd h) (fun _ f hf => GoT.fak f hf) rfl rfl rfl rfl rfl (fun _ => rfl) rfl (fun w G bs hI hΓ => f17 w n (by omega) aN paN caN (hΓ.get 0 rfl) hk1) (fun _ => rfl) (fun _ => rfl) ?_
    rintro ⟨p6, c6⟩ hq4
    refine WX.run ttOk rfl ?_
    refine WX.callF 13 (fun _ _ h => GoT.ow_rd h) (fun _ f hf => GoT.fak f hf) rfl rfl rfl rfl rfl (fun _ => rfl) rfl (fun w G bs hI hΓ => f18 w n (by omega) aNode aI (laws_toName aN) p6 c6 (hΓ.get 11 rfl) hokaNode hokaI hq4) (fun _ => rfl) (fun _ => rfl) ?_
    rintro ⟨⟨⟩, ⟨⟩, ⟨p7, c7⟩, ⟨⟩, ⟨⟩, ⟨⟩, ⟨⟨p8, c8⟩, ⟨p9, c9⟩, ⟨p10, c10⟩, ⟨⟩, ⟨⟩⟩⟩ hq5
    refine WX.run ttOk rfl ?_
    refine WX.callV rfl rfl rfl rfl rfl (fun _ => rfl) rfl (fun w G bs hI hΓ => f19 w n (by omega) (impl_NewConsumer aNode aI (laws_toName aN)) p7 c7 (hΓ.get 13 rfl) p8 c8 (hΓ.get 14 rfl) p9 c9 (hΓ.get 15 rfl) p10 c10 (hΓ.get 16 rfl) (spec_NewConsumer aNode aI (laws_toName aN)) p2 c2 (hΓ.get 3 rfl) p3 c3 (hΓ.get 4 rfl) p4 c4 (hΓ.get 5 rfl) p5 c5 (hΓ.get 6 rfl) hq5 hq3) ?_
    intro hq6
    refine WX.run ttOk rfl ?_
    refine WX.cases 34 rfl (fun h2 => ?_) (fun h2 => ?_)
    · skip
      have h2d := (B.nt h2)
      refine WX.run ttOk rfl ?_
      have hP2 : laws_FnExactNewConsumer aNode aI aN = false := by simp only [laws_FnExactNewConsumer, h1, h2, cond_true, cond_false]
      refine WX.ret ttOk rfl ?_
      intro w1 G bs hI hΓ
      rw [hP2]
      exact ⟨rfl, trivial⟩
    · skip
      have h2d := (B.nf h2)
      refine WX.run ttOk rfl ?_
      refine WX.draw [] mixed ?_
      intro bs G0 hΓ0
      refine DX.takes (fuel := 3) ttOk [(0, false), (1, false)] (by kernel_rfl) rfl ?_
      refine DX.callF 2 21 (fun _ _ h => GoT.ow_rd h) (fun _ f hf => GoT.fak f hf) rfl (by kernel_rfl) rfl rfl rfl rfl rfl rfl (fun _ => rfl) rfl (fun w G bs hI hΓ => f17 w n (by omega) aN paN caN (hΓ.get 0 rfl) hk1) (fun _ => rfl) (fun _ => rfl) ?_
      rintro ⟨p11, c11⟩ hq7
      refine DX.callV 3 rfl (by kernel_rfl) rfl rfl rfl rfl rfl rfl (fun _ => rfl) rfl (fun w G bs hI hΓ => f20 w n (by omega) (laws_toName aN) p6 c6 (hΓ.get 11 rfl) (laws_toName aN) p11 c11 (hΓ.get 21 rfl) hq4 hq7) ?_
      intro hq8
      refine DX.takes (fuel := 0) ttOk [(4, true)] (by kernel_rfl) rfl ?_
      refine DX.tail [] rfl rfl (by kernel_rfl) ?_
      refine WX.run ttOk rfl ?_
      refine WX.cases 39 rfl (fun h3 => ?_) (fun h3 => ?_)
      · skip
        have h3d := (B.nt h3)
        refine WX.run ttOk rfl ?_
        have hP3 : laws_FnExactNewConsumer aNode aI aN = false := by simp only [laws_FnExactNewConsumer, h1, h2, h3, cond_true, cond_false]
        refine WX.ret ttOk rfl ?_
        intro w1 G bs hI hΓ
        rw [hP3]
        exact ⟨rfl, trivial⟩
      · skip
        have h3d := (B.nf h3)
        refine WX.run ttOk rfl ?_
        refine WX.callM [12] 23 rfl (fun _ _ h => GoT.ow_rd h) (fun _ f hf => GoT.fak f hf) rfl rfl rfl rfl rfl (fun _ => rfl) rfl (fun w G bs H hI hH hs hΓ => f21 w n (by omega) (laws_toName aN) p6 c6 1 H hH hs hq4 (show I64 1 from (by unfold I64; omega))) (fun _ => rfl) (fun _ => rfl) ?_
        rintro ⟨⟩ hq9
        have hl1 : ((laws_markName (laws_toName aN) 1).2.parts).length = ((laws_toName aN).parts).length := hq9.2
        refine WX.run ttOk rfl ?_
        refine WX.cases 45 rfl (fun h4 => ?_) (fun h4 => ?_)
        · skip
          have h4d := B.dt h4
          refine WX.run ttOk rfl ?_
          have hP4 : laws_FnExactNewConsumer aNode aI aN = false := by simp only [laws_FnExactNewConsumer, h1, h2, h3, h4, cond_true, cond_false]
          refine WX.ret ttOk rfl ?_
          intro w1 G bs hI hΓ
          rw [hP4]
          exact ⟨rfl, trivial⟩
        · skip
          have h4d := B.df h4
          refine WX.run ttOk rfl ?_
          refine WX.der 25 (MF.rs .der p7 c7 ((impl_NewConsumer aNode aI (laws_toName aN)).name.parts)) rfl (fun _ hΓ => (hΓ.get 17 rfl : OwSl _ _ _ _).rd) ?_
          refine WX.der 26 (MF.rs .der p8 c8 ((impl_NewConsumer aNode aI (laws_toName aN)).data.name.parts)) rfl (fun _ hΓ => (hΓ.get 18 rfl : OwSl _ _ _ _).rd) ?_
          refine WX.der 27 (MF.rs .der p9 c9 ((impl_NewConsumer aNode aI (laws_toName aN)).data.content)) rfl (fun _ hΓ => (hΓ.get 19 rfl : OwSl _ _ _ _).rd) ?_
          refine WX.der 28 (MF.rs .der p10 c10 ((impl_NewConsumer aNode aI (laws_toName aN)).data.keyName.parts)) rfl (fun _ hΓ => (hΓ.get 20 rfl : OwSl _ _ _ _).rd) ?_
          refine WX.der 29 (MF.rs .der p2 c2 ((spec_NewConsumer aNode aI (laws_toName aN)).name.parts)) rfl (fun _ hΓ => (hΓ.get 7 rfl : OwSl _ _ _ _).rd) ?_
          refine WX.der 30 (MF.rs .der p3 c3 ((spec_NewConsumer aNode aI (laws_toName aN)).data.name.parts)) rfl (fun _ hΓ => (hΓ.get 8 rfl : OwSl _ _ _ _).rd) ?_
          refine WX.der 31 (MF.rs .der p4 c4 ((spec_NewConsumer aNode aI (laws_toName aN)).data.content)) rfl (fun _ hΓ => (hΓ.get 9 rfl : OwSl _ _ _ _).rd) ?_
          refine WX.der 32 (MF.rs .der p5 c5 ((spec_NewConsumer aNode aI (laws_toName aN)).data.keyName.parts)) rfl (fun _ hΓ => (hΓ.get 10 rfl : OwSl _ _ _ _).rd) ?_
          refine WX.callV rfl rfl rfl rfl rfl (fun _ => rfl) rfl (fun w G bs hI hΓ => f19 w n (by omega) (impl_NewConsumer aNode aI (laws_toName aN)) p7 c7 (hΓ.get 25 rfl) p8 c8 (hΓ.get 26 rfl) p9 c9 (hΓ.get 27 rfl) p10 c10 (hΓ.get 28 rfl) (spec_NewConsumer aNode aI (laws_toName aN)) p2 c2 (hΓ.get 29 rfl) p3 c3 (hΓ.get 30 rfl) p4 c4 (hΓ.get 31 rfl) p5 c5 (hΓ.get 32 rfl) hq5 hq3) ?_
          intro hq10
          refine WX.run ttOk rfl ?_
          refine WX.cases 50 rfl (fun h5 => ?_) (fun h5 => ?_)
          · skip
            have h5d := (B.nt h5)
            exact absurd (h2.symm.trans h5) Bool.false_ne_true
          · skip
            have h5d := (B.nf h5)
            refine WX.run ttOk rfl ?_
            refine WX.callM [17, 18, 19, 20] 33 rfl (fun _ _ h => GoT.ow_rd h) (fun _ f hf => GoT.fak f hf) rfl rfl rfl rfl rfl (fun _ => rfl) rfl (fun w G bs H hI hH hs hΓ => f22 w n (by omega) (impl_NewConsumer aNode aI (laws_toName aN)) p7 c7 p8 c8 p9 c9 p10 c10 1 H hH hs hq5 (show I64 1 from (by unfold I64; omega))) (fun _ => rfl) (fun _ => rfl) ?_
            rintro ⟨⟩ hq11
            have hl2 : ((laws_markConsumer (impl_NewConsumer aNode aI (laws_toName aN)) 1).2.name.parts).length = ((impl_NewConsumer aNode aI (laws_toName aN)).name.parts).length := hq11.2.2.2.1
            have hl3 : ((laws_markConsumer (impl_NewConsumer aNode aI (laws_toName aN)) 1).2.data.name.parts).length = ((impl_NewConsumer aNode aI (laws_toName aN)).data.name.parts).length := hq11.2.2.2.2.2.2.2.1
            have hl4 : ((laws_markConsumer (impl_NewConsumer aNode aI (laws_toName aN)) 1).2.data.content).length = ((impl_NewConsumer aNode aI (laws_toName aN)).data.content).length := hq11.2.2.2.2.2.2.2.2.1
            have hl5 : ((laws_markConsumer (impl_NewConsumer aNode aI (laws_toName aN)) 1).2.data.keyName.parts).length = ((impl_NewConsumer aNode aI (laws_toName aN)).data.keyName.parts).length := hq11.2.2.2.2.2.2.2.2.2.1
            refine WX.run ttOk rfl ?_
            have hi1 : (laws_markConsumer (impl_NewConsumer aNode aI (laws_toName aN)) 1).2.node = (impl_NewConsumer aNode aI (laws_toName aN)).node := hq11.2.1
            have hi2 : (laws_markConsumer (impl_NewConsumer aNode aI (laws_toName aN)) 1).2.index = (impl_NewConsumer aNode aI (laws_toName aN)).index := hq11.2.2.1
            have hi3 : (laws_markConsumer (impl_NewConsumer aNode aI (laws_toName aN)) 1).2.attempts = (impl_NewConsumer aNode aI (laws_toName aN)).attempts := hq11.2.2.2.2.1
            have hi4 : (laws_markConsumer (impl_NewConsumer aNode aI (laws_toName aN)) 1).2.wait = (impl_NewConsumer aNode aI (laws_toName aN)).wait := hq11.2.2.2.2.2.1
            have hi5 : (laws_markConsumer (impl_NewConsumer aNode aI (laws_toName aN)) 1).2.satisfied = (impl_NewConsumer aNode aI (laws_toName aN)).satisfied := hq11.2.2.2.2.2.2.1
            have hi6 : (laws_markConsumer (impl_NewConsumer aNode aI (laws_toName aN)) 1).2.data.freshUntil = (impl_NewConsumer aNode aI (laws_toName aN)).data.freshUntil := hq11.2.2.2.2.2.2.2.2.2.2.1
            have hi7 : (laws_markConsumer (impl_NewConsumer aNode aI (laws_toName aN)) 1).2.data.signature = (impl_NewConsumer aNode aI (laws_toName aN)).data.signature := hq11.2.2.2.2.2.2.2.2.2.2.2
            refine WX.slot 54 (y := .v (.agg #[.int .i64 ((laws_markConsumer (impl_NewConsumer aNode aI (laws_toName aN)) 1).2.node), .int .i64 ((laws_markConsumer (impl_NewConsumer aNode aI (laws_toName aN)) 1).2.index), .slice p7 (((laws_markConsumer (impl_NewConsumer aNode aI (laws_toName aN)) 1).2.name.parts).length) c7, .int .i64 ((laws_markConsumer (impl_NewConsumer aNode aI (laws_toName aN)) 1).2.attempts), .int .i64 ((laws_markConsumer (impl_NewConsumer aNode aI (laws_toName aN)) 1).2.wait), .bool ((laws_markConsumer (impl_NewConsumer aNode aI (laws_toName aN)) 1).2.satisfied), .slice p8 (((laws_markConsumer (impl_NewConsumer aNode aI (laws_toName aN)) 1).2.data.name.parts).length) c8, .slice p9 (((laws_markConsumer (impl_NewConsumer aNode aI (laws_toName aN)) 1).2.data.content).length) c9, .slice p10 (((laws_markConsumer (impl_NewConsumer aNode aI (laws_toName aN)) 1).2.data.keyName.parts).length) c10, .int .i64 ((laws_markConsumer (impl_NewConsumer aNode aI (laws_toName aN)) 1).2.data.freshUntil), .int .i64 ((laws_markConsumer (impl_NewConsumer aNode aI (laws_toName aN)) 1).2.data.signature)])) rfl (fun _ => by simp only [hl2, hl3, hl4, hl5, hi1, hi2, hi3, hi4, hi5, hi6, hi7]) ?_
            refine WX.callV rfl rfl rfl rfl rfl (fun _ => rfl) rfl (fun w G bs hI hΓ => f23 w n (by omega) ((laws_markConsumer (impl_NewConsumer aNode aI (laws_toName aN)) 1).2) p7 c7 (hΓ.get 33 rfl) p8 c8 (hΓ.get 34 rfl) p9 c9 (hΓ.get 35 rfl) p10 c10 (hΓ.get 36 rfl) 1 hq11.1.2 (show I64 1 from (by unfold I64; omega))) ?_
            intro hq12
            refine WX.run ttOk rfl ?_
            refine WX.cases 58 rfl (fun h6 => ?_) (fun h6 => ?_)
            · skip
              have h6d := B.dt h6
              refine WX.run ttOk rfl ?_
              have hP5 : laws_FnExactNewConsumer aNode aI aN = false := by simp only [laws_FnExactNewConsumer, h1, h2, h3, h4, h5, h6, cond_true, cond_false]
              refine WX.ret ttOk rfl ?_
              intro w1 G bs hI hΓ
              rw [hP5]
              exact ⟨rfl, trivial⟩
            · skip
              have h6d := B.df h6
              refine WX.run ttOk rfl ?_
              refine WX.cases 61 rfl (fun h7 => ?_) (fun h7 => ?_)
              · skip
                have h7d := B.nt' h7
                refine WX.run ttOk rfl ?_
                have hP6 : laws_FnExactNewConsumer aNode aI aN = false := by simp only [laws_FnExactNewConsumer, h1, h2, h3, h4, h5, h6, h7, cond_true, cond_false]
                refine WX.ret ttOk rfl ?_
                intro w1 G bs hI hΓ
                rw [hP6]
                exact ⟨rfl, trivial⟩
              · skip
                have h7d := B.nf' h7
                refine WX.run ttOk rfl ?_
                refine WX.callF 41 (fun _ _ h => GoT.ow_rd h) (fun _ f hf => GoT.fak f hf) rfl rfl rfl rfl rfl (fun _ => rfl) rfl (fun w G bs hI hΓ => f17 w n (by omega) aN paN caN (hΓ.get 0 rfl) hk1) (fun _ => rfl) (fun _ => rfl) ?_
                rintro ⟨p12, c12⟩ hq13
                refine WX.callF 43 (fun _ _ h => GoT.ow_rd h) (fun _ f hf => GoT.fak f hf) rfl rfl rfl rfl rfl (fun _ => rfl) rfl (fun w G bs hI hΓ => f18 w n (by omega) aNode aI (laws_toName aN) p12 c12 (hΓ.get 41 rfl) hokaNode hokaI hq13) (fun _ => rfl) (fun _ => rfl) ?_
                rintro ⟨⟨⟩, ⟨⟩, ⟨p13, c13⟩, ⟨⟩, ⟨⟩, ⟨⟩, ⟨⟨p14, c14⟩, ⟨p15, c15⟩, ⟨p16, c16⟩, ⟨⟩, ⟨⟩⟩⟩ hq14
                refine WX.run ttOk rfl ?_
                refine WX.der 51 (MF.rs .der p2 c2 ((spec_NewConsumer aNode aI (laws_toName aN)).name.parts)) rfl (fun _ hΓ => (hΓ.get 7 rfl : OwSl _ _ _ _).rd) ?_
                refine WX.der 52 (MF.rs .der p3 c3 ((spec_NewConsumer aNode aI (laws_toName aN)).data.name.parts)) rfl (fun _ hΓ => (hΓ.get 8 rfl : OwSl _ _ _ _).rd) ?_
                refine WX.der 53 (MF.rs .der p4 c4 ((spec_NewConsumer aNode aI (laws_toName aN)).data.content)) rfl (fun _ hΓ => (hΓ.get 9 rfl : OwSl _ _ _ _).rd) ?_
                refine WX.der 54 (MF.rs .der p5 c5 ((spec_NewConsumer aNode aI (laws_toName aN)).data.keyName.parts)) rfl (fun _ hΓ => (hΓ.get 10 rfl : OwSl _ _ _ _).rd) ?_
                refine WX.callV rfl rfl rfl rfl rfl (fun _ => rfl) rfl (fun w G bs hI hΓ => f19 w n (by omega) (impl_NewConsumer aNode aI (laws_toName aN)) p13 c13 (hΓ.get 43 rfl) p14 c14 (hΓ.get 44 rfl) p15 c15 (hΓ.get 45 rfl) p16 c16 (hΓ.get 46 rfl) (spec_NewConsumer aNode aI (laws_toName aN)) p2 c2 (hΓ.get 51 rfl) p3 c3 (hΓ.get 52 rfl) p4 c4 (hΓ.get 53 rfl) p5 c5 (hΓ.get 54 rfl) (And.intro (ok_Consumer hq5).1 (And.intro (ok_Consumer hq5).2.1 (And.intro (ok_Consumer hq14).2.2.1 (And.intro (ok_Consumer hq5).2.2.2.1 (And.intro (ok_Consumer hq5).2.2.2.2.1 (And.intro trivial (And.intro (ok_DataP (ok_Consumer hq14).2.2.2.2.2.2).1 (And.intro (ok_DataP (ok_Consumer hq14).2.2.2.2.2.2).2.1 (And.intro (ok_DataP (ok_Consumer hq14).2.2.2.2.2.2).2.2.1 (And.intro (ok_DataP (ok_Consumer hq5).2.2.2.2.2.2).2.2.2.1 (ok_DataP (ok_Consumer hq5).2.2.2.2.2.2).2.2.2.2)))))))))) hq3) ?_
                intro hq15
                refine WX.run ttOk rfl ?_
                refine WX.cases 70 rfl (fun h8 => ?_) (fun h8 => ?_)
                · skip
                  have h8d := (B.nt h8)
                  exact absurd (h2.symm.trans h8) Bool.false_ne_true
                · skip
                  have h8d := (B.nf h8)
                  refine WX.run ttOk rfl ?_
                  refine WX.slot 71 (y := .v (.agg #[.int .i64 ((laws_markConsumer (impl_NewConsumer aNode aI (laws_toName aN)) 1).2.node), .int .i64 ((laws_markConsumer (impl_NewConsumer aNode aI (laws_toName aN)) 1).2.index), .slice p7 (((laws_markConsumer (impl_NewConsumer aNode aI (laws_toName aN)) 1).2.name.parts).length) c7, .int .i64 ((laws_markConsumer (impl_NewConsumer aNode aI (laws_toName aN)) 1).2.attempts), .int .i64 ((laws_markConsumer (impl_NewConsumer aNode aI (laws_toName aN)) 1).2.wait), .bool ((laws_markConsumer (impl_NewConsumer aNode aI (laws_toName aN)) 1).2.satisfied), .slice p8 (((laws_markConsumer (impl_NewConsumer aNode aI (laws_toName aN)) 1).2.data.name.parts).length) c8, .slice p9 (((laws_markConsumer (impl_NewConsumer aNode aI (laws_toName aN)) 1).2.data.content).length) c9, .slice p10 (((laws_markConsumer (impl_NewConsumer aNode aI (laws_toName aN)) 1).2.data.keyName.parts).length) c10, .int .i64 ((laws_markConsumer (impl_NewConsumer aNode aI (laws_toName aN)) 1).2.data.freshUntil), .int .i64 ((laws_markConsumer (impl_NewConsumer aNode aI (laws_toName aN)) 1).2.data.signature)])) rfl (fun _ => by simp only [hl2, hl3, hl4, hl5, hi1, hi2, hi3, hi4, hi5, hi6, hi7]) ?_
                  refine WX.callV rfl rfl rfl rfl rfl (fun _ => rfl) rfl (fun w G bs hI hΓ => f23 w n (by omega) ((laws_markConsumer (impl_NewConsumer aNode aI (laws_toName aN)) 1).2) p7 c7 (hΓ.get 33 rfl) p8 c8 (hΓ.get 34 rfl) p9 c9 (hΓ.get 35 rfl) p10 c10 (hΓ.get 36 rfl) 1 hq11.1.2 (show I64 1 from (by unfold I64; omega))) ?_
                  intro hq16
                  refine WX.run ttOk rfl ?_
                  refine WX.cases 75 rfl (fun h9 => ?_) (fun h9 => ?_)
                  · skip
                    have h9d := B.dt h9
                    exact absurd (h6.symm.trans h9) Bool.false_ne_true
                  · skip
                    have h9d := B.df h9
                    refine WX.run ttOk rfl ?_
                    refine WX.cases 78 rfl (fun h10 => ?_) (fun h10 => ?_)
                    · skip
                      have h10d := B.nt' h10
                      exact absurd (h7.symm.trans h10) Bool.false_ne_true
                    · skip
                      have h10d := B.nf' h10
                      refine WX.run ttOk rfl ?_
                      have hP7 : laws_FnExactNewConsumer aNode aI aN = true := by simp only [laws_FnExactNewConsumer, h1, h2, h3, h4, h5, h6, h7, h8, h9, h10, cond_true, cond_false]
                      refine WX.ret ttOk rfl ?_
                      intro w1 G bs hI hΓ
                      rw [hP7]
                      exact ⟨rfl, trivial⟩
theorem f8 (w : World) (n : Nat) (hn : n + 0 ≤ 9) (aName : Name) (paName : Option Addr) (caName : Nat) (hpaName : RdSl (hp w) paName caName aName.parts) (hokaName : GoT.ok 10 aName) :
    Does Try.prog 8 #[.agg #[.slice paName ((aName.parts).length) caName]] w emp (fun (rv : Value) (_ : World) => rv = .bool (laws_FnExactNewMember aName) ∧ True) := by
  have hbP := bd_pos n
  have hbB := bd_big (n := n) (by omega)
  refine WX.enter (tt := tt) (Γ := [(0, MF.rs .stb paName caName aName.parts)]) Try.func8 rfl (by kernel_rfl) rfl (allS_cons rfl hpaName allS_nil) ?_
  refine WX.run ttOk rfl ?_
  refine WX.callV rfl rfl rfl rfl rfl (fun _ => rfl) rfl (fun w G bs hI hΓ => f15 w 10 aName paName caName (hΓ.get 0 rfl) 1048576 hokaName (show I64 1048576 from (by unfold I64; omega))) ?_
  intro hq1
  refine WX.run ttOk rfl ?_
  refine WX.cases 15 rfl (fun h1 => ?_) (fun h1 => ?_)
  · skip
    have h1d := B.dt h1
    refine WX.run ttOk rfl ?_
    have hP1 : laws_FnExactNewMember aName = true := by simp only [laws_FnExactNewMember, h1, cond_true, cond_false]
    refine WX.ret ttOk rfl ?_
    intro w1 G bs hI hΓ
    rw [hP1]
    exact ⟨rfl, trivial⟩
  · skip
    have h1d := B.df h1
    obtain ⟨hs1, ht1⟩ := (sz_Name_R aName 1048576 hokaName (by omega) (by omega)).pos (by omega)
    have hk1 : GoT.ok n aName := GoT.okm (Nat.zero_le n) (Sz.low hokaName (show sz aName ≤ 1048576 by omega))
    refine WX.run ttOk rfl ?_
    refine WX.callF 1 (fun _ _ h => GoT.ow_rd h) (fun _ f hf => GoT.fak f hf) rfl rfl rfl rfl rfl (fun _ => rfl) rfl (fun w G bs hI hΓ => f17 w n (by omega) aName paName caName (hΓ.get 0 rfl) hk1) (fun _ => rfl) (fun _ => rfl) ?_
    rintro ⟨p1, c1⟩ hq2
    refine WX.callF 3 (fun _ _ h => GoT.ow_rd h) (fun _ f hf => GoT.fak f hf) rfl rfl rfl rfl rfl (fun _ => rfl) rfl (fun w G bs hI hΓ => f43 w n (by omega) (laws_toName aName) p1 c1 (hΓ.get 1 rfl) hq2) (fun _ => rfl) (fun _ => rfl) ?_
    rintro ⟨⟨p2, c2⟩, ⟨p3, c3⟩, ⟨p4, c4⟩⟩ hq3
    refine WX.run ttOk rfl ?_
    refine WX.callF 9 (fun _ _ h => GoT.ow_rd h) (fun _ f hf => GoT.fak f hf) rfl rfl rfl rfl rfl (fun _ => rfl) rfl (fun w G bs hI hΓ => f17 w n (by omega) aName paName caName (hΓ.get 0 rfl) hk1) (fun _ => rfl) (fun _ => rfl) ?_
    rintro ⟨p5, c5⟩ hq4
    refine WX.run ttOk rfl ?_
    refine WX.callF 11 (fun _ _ h => GoT.ow_rd h) (fun _ f hf => GoT.fak f hf) rfl rfl rfl rfl rfl (fun _ => rfl) rfl (fun w G bs hI hΓ => f44 w n (by omega) (laws_toName aName) p5 c5 (hΓ.get 9 rfl) hq4) (fun _ => rfl) (fun _ => rfl) ?_
    rintro ⟨⟨p6, c6⟩, ⟨p7, c7⟩, ⟨p8, c8⟩⟩ hq5
    refine WX.run ttOk rfl ?_
    refine WX.callV rfl rfl rfl rfl rfl (fun _ => rfl) rfl (fun w G bs hI hΓ => f45 w n (by omega) (impl_NewMember (laws_toName aName)) p6 c6 (hΓ.get 11 rfl) p7 c7 (hΓ.get 12 rfl) p8 c8 (hΓ.get 13 rfl) (spec_NewMember (laws_toName aName)) p2 c2 (hΓ.get 3 rfl) p3 c3 (hΓ.get 4 rfl) p4 c4 (hΓ.get 5 rfl) hq5 hq3) ?_
    intro hq6
    refine WX.run ttOk rfl ?_
    refine WX.cases 26 rfl (fun h2 => ?_) (fun h2 => ?_)
    · skip
      have h2d := (B.nt h2)
      refine WX.run ttOk rfl ?_
      have hP2 : laws_FnExactNewMember aName = false := by simp only [laws_FnExactNewMember, h1, h2, cond_true, cond_false]
      refine WX.ret ttOk rfl ?_
      intro w1 G bs hI hΓ
      rw [hP2]
      exact ⟨rfl, trivial⟩
    · skip
      have h2d := (B.nf h2)
      refine WX.run ttOk rfl ?_
      refine WX.draw [] mixed ?_
      intro bs G0 hΓ0
      refine DX.takes (fuel := 3) ttOk [(0, false), (1, false)] (by kernel_rfl) rfl ?_
      refine DX.callF 2 17 (fun _ _ h => GoT.ow_rd h) (fun _ f hf => GoT.fak f hf) rfl (by kernel_rfl) rfl rfl rfl rfl rfl rfl (fun _ => rfl) rfl (fun w G bs hI hΓ => f17 w n (by omega) aName paName caName (hΓ.get 0 rfl) hk1) (fun _ => rfl) (fun _ => rfl) ?_
      rintro ⟨p9, c9⟩ hq7
      refine DX.callV 3 rfl (by kernel_rfl) rfl rfl rfl rfl rfl rfl (fun _ => rfl) rfl (fun w G bs hI hΓ => f20 w n (by omega) (laws_toName aName) p5 c5 (hΓ.get 9 rfl) (laws_toName aName) p9 c9 (hΓ.get 17 rfl) hq4 hq7) ?_
      intro hq8
      refine DX.takes (fuel := 0) ttOk [(4, true)] (by kernel_rfl) rfl ?_
      refine DX.tail [] rfl rfl (by kernel_rfl) ?_
      refine WX.run ttOk rfl ?_
      refine WX.cases 31 rfl (fun h3 => ?_) (fun h3 => ?_)
      · skip
        have h3d := (B.nt h3)
        refine WX.run ttOk rfl ?_
        have hP3 : laws_FnExactNewMember aName = false := by simp only [laws_FnExactNewMember, h1, h2, h3, cond_true, cond_false]
        refine WX.ret ttOk rfl ?_
        intro w1 G bs hI hΓ
        rw [hP3]
        exact ⟨rfl, trivial⟩
      · skip
        have h3d := (B.nf h3)
        refine WX.run ttOk rfl ?_
        refine WX.callM [10] 19 rfl (fun _ _ h => GoT.ow_rd h) (fun _ f hf => GoT.fak f hf) rfl rfl rfl rfl rfl (fun _ => rfl) rfl (fun w G bs H hI hH hs hΓ => f21 w n (by omega) (laws_toName aName) p5 c5 1 H hH hs hq4 (show I64 1 from (by unfold I64; omega))) (fun _ => rfl) (fun _ => rfl) ?_
        rintro ⟨⟩ hq9
        have hl1 : ((laws_markName (laws_toName aName) 1).2.parts).length = ((laws_toName aName).parts).length := hq9.2
        refine WX.run ttOk rfl ?_
        refine WX.cases 37 rfl (fun h4 => ?_) (fun h4 => ?_)
        · skip
          have h4d := B.dt h4
          refine WX.run ttOk rfl ?_
          have hP4 : laws_FnExactNewMember aName = false := by simp only [laws_FnExactNewMember, h1, h2, h3, h4, cond_true, cond_false]
          refine WX.ret ttOk rfl ?_
          intro w1 G bs hI hΓ
          rw [hP4]
          exact ⟨rfl, trivial⟩
        · skip
          have h4d := B.df h4
          refine WX.run ttOk rfl ?_
          refine WX.der 21 (MF.rs .der p6 c6 ((impl_NewMember (laws_toName aName)).name.parts)) rfl (fun _ hΓ => (hΓ.get 14 rfl : OwSl _ _ _ _).rd) ?_
          refine WX.der 22 (MF.rs .der p7 c7 ((impl_NewMember (laws_toName aName)).vector.entries)) rfl (fun _ hΓ => (hΓ.get 15 rfl : OwSl _ _ _ _).rd) ?_
          refine WX.der 23 (MF.rs .der p8 c8 ((impl_NewMember (laws_toName aName)).publications)) rfl (fun _ hΓ => (hΓ.get 16 rfl : OwSl _ _ _ _).rd) ?_
          refine WX.der 24 (MF.rs .der p2 c2 ((spec_NewMember (laws_toName aName)).name.parts)) rfl (fun _ hΓ => (hΓ.get 6 rfl : OwSl _ _ _ _).rd) ?_
          refine WX.der 25 (MF.rs .der p3 c3 ((spec_NewMember (laws_toName aName)).vector.entries)) rfl (fun _ hΓ => (hΓ.get 7 rfl : OwSl _ _ _ _).rd) ?_
          refine WX.der 26 (MF.rs .der p4 c4 ((spec_NewMember (laws_toName aName)).publications)) rfl (fun _ hΓ => (hΓ.get 8 rfl : OwSl _ _ _ _).rd) ?_
          refine WX.callV rfl rfl rfl rfl rfl (fun _ => rfl) rfl (fun w G bs hI hΓ => f45 w n (by omega) (impl_NewMember (laws_toName aName)) p6 c6 (hΓ.get 21 rfl) p7 c7 (hΓ.get 22 rfl) p8 c8 (hΓ.get 23 rfl) (spec_NewMember (laws_toName aName)) p2 c2 (hΓ.get 24 rfl) p3 c3 (hΓ.get 25 rfl) p4 c4 (hΓ.get 26 rfl) hq5 hq3) ?_
          intro hq10
          refine WX.run ttOk rfl ?_
          refine WX.cases 42 rfl (fun h5 => ?_) (fun h5 => ?_)
          · skip
            have h5d := (B.nt h5)
            exact absurd (h2.symm.trans h5) Bool.false_ne_true
          · skip
            have h5d := (B.nf h5)
            refine WX.run ttOk rfl ?_
            refine WX.callM [14, 15, 16] 27 rfl (fun _ _ h => GoT.ow_rd h) (fun _ f hf => GoT.fak f hf) rfl rfl rfl rfl rfl (fun _ => rfl) rfl (fun w G bs H hI hH hs hΓ => f46 w n (by omega) (impl_NewMember (laws_toName aName)) p6 c6 p7 c7 p8 c8 1 H hH hs hq5 (show I64 1 from (by unfold I64; omega))) (fun _ => rfl) (fun _ => rfl) ?_
            rintro ⟨⟩ hq11
            have hl2 : ((laws_markMember (impl_NewMember (laws_toName aName)) 1).2.name.parts).length = ((impl_NewMember (laws_toName aName)).name.parts).length := hq11.2.1
            have hl3 : ((laws_markMember (impl_NewMember (laws_toName aName)) 1).2.vector.entries).length = ((impl_NewMember (laws_toName aName)).vector.entries).length := hq11.2.2.1
            have hl4 : ((laws_markMember (impl_NewMember (laws_toName aName)) 1).2.publications).length = ((impl_NewMember (laws_toName aName)).publications).length := hq11.2.2.2
            refine WX.run ttOk rfl ?_
            refine WX.slot 46 (y := .v (.agg #[.slice p6 (((laws_markMember (impl_NewMember (laws_toName aName)) 1).2.name.parts).length) c6, .slice p7 (((laws_markMember (impl_NewMember (laws_toName aName)) 1).2.vector.entries).length) c7, .slice p8 (((laws_markMember (impl_NewMember (laws_toName aName)) 1).2.publications).length) c8])) rfl (fun _ => by simp only [hl2, hl3, hl4]) ?_
            refine WX.callV rfl rfl rfl rfl rfl (fun _ => rfl) rfl (fun w G bs hI hΓ => f47 w n (by omega) ((laws_markMember (impl_NewMember (laws_toName aName)) 1).2) p6 c6 (hΓ.get 27 rfl) p7 c7 (hΓ.get 28 rfl) p8 c8 (hΓ.get 29 rfl) 1 hq11.1.2 (show I64 1 from (by unfold I64; omega))) ?_
            intro hq12
            refine WX.run ttOk rfl ?_
            refine WX.cases 50 rfl (fun h6 => ?_) (fun h6 => ?_)
            · skip
              have h6d := B.dt h6
              refine WX.run ttOk rfl ?_
              have hP5 : laws_FnExactNewMember aName = false := by simp only [laws_FnExactNewMember, h1, h2, h3, h4, h5, h6, cond_true, cond_false]
              refine WX.ret ttOk rfl ?_
              intro w1 G bs hI hΓ
              rw [hP5]
              exact ⟨rfl, trivial⟩
            · skip
              have h6d := B.df h6
              refine WX.run ttOk rfl ?_
              refine WX.cases 53 rfl (fun h7 => ?_) (fun h7 => ?_)
              · skip
                have h7d := B.nt' h7
                refine WX.run ttOk rfl ?_
                have hP6 : laws_FnExactNewMember aName = false := by simp only [laws_FnExactNewMember, h1, h2, h3, h4, h5, h6, h7, cond_true, cond_false]
                refine WX.ret ttOk rfl ?_
                intro w1 G bs hI hΓ
                rw [hP6]
                exact ⟨rfl, trivial⟩
              · skip
                have h7d := B.nf' h7
                refine WX.run ttOk rfl ?_
                refine WX.callF 33 (fun _ _ h => GoT.ow_rd h) (fun _ f hf => GoT.fak f hf) rfl rfl rfl rfl rfl (fun _ => rfl) rfl (fun w G bs hI hΓ => f17 w n (by omega) aName paName caName (hΓ.get 0 rfl) hk1) (fun _ => rfl) (fun _ => rfl) ?_
                rintro ⟨p10, c10⟩ hq13
                refine WX.callF 35 (fun _ _ h => GoT.ow_rd h) (fun _ f hf => GoT.fak f hf) rfl rfl rfl rfl rfl (fun _ => rfl) rfl (fun w G bs hI hΓ => f44 w n (by omega) (laws_toName aName) p10 c10 (hΓ.get 33 rfl) hq13) (fun _ => rfl) (fun _ => rfl) ?_
                rintro ⟨⟨p11, c11⟩, ⟨p12, c12⟩, ⟨p13, c13⟩⟩ hq14
                refine WX.run ttOk rfl ?_
                refine WX.der 41 (MF.rs .der p2 c2 ((spec_NewMember (laws_toName aName)).name.parts)) rfl (fun _ hΓ => (hΓ.get 6 rfl : OwSl _ _ _ _).rd) ?_
                refine WX.der 42 (MF.rs .der p3 c3 ((spec_NewMember (laws_toName aName)).vector.entries)) rfl (fun _ hΓ => (hΓ.get 7 rfl : OwSl _ _ _ _).rd) ?_
                refine WX.der 43 (MF.rs .der p4 c4 ((spec_NewMember (laws_toName aName)).publications)) rfl (fun _ hΓ => (hΓ.get 8 rfl : OwSl _ _ _ _).rd) ?_
                refine WX.callV rfl rfl rfl rfl rfl (fun _ => rfl) rfl (fun w G bs hI hΓ => f45 w n (by omega) (impl_NewMember (laws_toName aName)) p11 c11 (hΓ.get 35 rfl) p12 c12 (hΓ.get 36 rfl) p13 c13 (hΓ.get 37 rfl) (spec_NewMember (laws_toName aName)) p2 c2 (hΓ.get 41 rfl) p3 c3 (hΓ.get 42 rfl) p4 c4 (hΓ.get 43 rfl) hq14 hq3) ?_
                intro hq15
                refine WX.run ttOk rfl ?_
                refine WX.cases 60 rfl (fun h8 => ?_) (fun h8 => ?_)
                · skip
                  have h8d := (B.nt h8)
                  exact absurd (h2.symm.trans h8) Bool.false_ne_true
                · skip
                  have h8d := (B.nf h8)
                  refine WX.run ttOk rfl ?_
                  refine WX.slot 61 (y := .v (.agg #[.slice p6 (((laws_markMember (impl_NewMember (laws_toName aName)) 1).2.name.parts).length) c6, .slice p7 (((laws_markMember (impl_NewMember (laws_toName aName)) 1).2.vector.entries).length) c7, .slice p8 (((laws_markMember (impl_NewMember (laws_toName aName)) 1).2.publications).length) c8])) rfl (fun _ => by simp only [hl2, hl3, hl4]) ?_
                  refine WX.callV rfl rfl rfl rfl rfl (fun _ => rfl) rfl (fun w G bs hI hΓ => f47 w n (by omega) ((laws_markMember (impl_NewMember (laws_toName aName)) 1).2) p6 c6 (hΓ.get 27 rfl) p7 c7 (hΓ.get 28 rfl) p8 c8 (hΓ.get 29 rfl) 1 hq11.1.2 (show I64 1 from (by unfold I64; omega))) ?_
                  intro hq16
                  refine WX.run ttOk rfl ?_
                  refine WX.cases 65 rfl (fun h9 => ?_) (fun h9 => ?_)
                  · skip
                    have h9d := B.dt h9
                    exact absurd (h6.symm.trans h9) Bool.false_ne_true
                  · skip
                    have h9d := B.df h9
                    refine WX.run ttOk rfl ?_
                    refine WX.cases 68 rfl (fun h10 => ?_) (fun h10 => ?_)
                    · skip
                      have h10d := B.nt' h10
                      exact absurd (h7.symm.trans h10) Bool.false_ne_true
                    · skip
                      have h10d := B.nf' h10
                      refine WX.run ttOk rfl ?_
                      have hP7 : laws_FnExactNewMember aName = true := by simp only [laws_FnExactNewMember, h1, h2, h3, h4, h5, h6, h7, h8, h9, h10, cond_true, cond_false]
                      refine WX.ret ttOk rfl ?_
                      intro w1 G bs hI hΓ
                      rw [hP7]
                      exact ⟨rfl, trivial⟩
theorem f4 (w : World) (n : Nat) (hn : n + 0 ≤ 9) (aQuota : Int) (hokaQuota : GoT.ok 10 aQuota) :
    Does Try.prog 4 #[.int .i64 (aQuota)] w emp (fun (rv : Value) (_ : World) => rv = .bool (laws_FnExactNewRepository aQuota) ∧ True) := by
  have hbP := bd_pos n
  have hbB := bd_big (n := n) (by omega)
  refine WX.enter (tt := tt) (Γ := []) Try.func4 rfl (by kernel_rfl) rfl allS_nil ?_
  refine WX.run ttOk rfl ?_
  refine WX.callF 0 (fun _ _ h => GoT.ow_rd h) (fun _ f hf => GoT.fak f hf) rfl rfl rfl rfl rfl (fun _ => rfl) rfl (fun w G bs hI hΓ => f24 w n (by omega) aQuota hokaQuota) (fun _ => rfl) (fun _ => rfl) ?_
  rintro ⟨⟨⟨p1, c1⟩, ⟨p2, c2⟩⟩, ⟨⟩⟩ hq1
  refine WX.run ttOk rfl ?_
  refine WX.callF 4 (fun _ _ h => GoT.ow_rd h) (fun _ f hf => GoT.fak f hf) rfl rfl rfl rfl rfl (fun _ => rfl) rfl (fun w G bs hI hΓ => f25 w n (by omega) aQuota hokaQuota) (fun _ => rfl) (fun _ => rfl) ?_
  rintro ⟨⟨⟨p3, c3⟩, ⟨p4, c4⟩⟩, ⟨⟩⟩ hq2
  refine WX.run ttOk rfl ?_
  refine WX.callV rfl rfl rfl rfl rfl (fun _ => rfl) rfl (fun w G bs hI hΓ => f26 w n (by omega) (impl_NewRepository aQuota) p3 c3 (hΓ.get 4 rfl) p4 c4 (hΓ.get 5 rfl) (spec_NewRepository aQuota) p1 c1 (hΓ.get 0 rfl) p2 c2 (hΓ.get 1 rfl) hq2 hq1) ?_
  intro hq3
  refine WX.run ttOk rfl ?_
  refine WX.cases 15 rfl (fun h1 => ?_) (fun h1 => ?_)
  · skip
    have h1d := (B.nt h1)
    refine WX.run ttOk rfl ?_
    have hP1 : laws_FnExactNewRepository aQuota = false := by simp only [laws_FnExactNewRepository, h1, cond_true, cond_false]
    refine WX.ret ttOk rfl ?_
    intro w1 G bs hI hΓ
    rw [hP1]
    exact ⟨rfl, trivial⟩
  · skip
    have h1d := (B.nf h1)
    refine WX.run ttOk rfl ?_
    refine WX.callM [6, 7] 8 rfl (fun _ _ h => GoT.ow_rd h) (fun _ f hf => GoT.fak f hf) rfl rfl rfl rfl rfl (fun _ => rfl) rfl (fun w G bs H hI hH hs hΓ => f27 w n (by omega) (impl_NewRepository aQuota) p3 c3 p4 c4 1 H hH hs hq2 (show I64 1 from (by unfold I64; omega))) (fun _ => rfl) (fun _ => rfl) ?_
    rintro ⟨⟩ hq4
    have hl1 : ((laws_markRepository (impl_NewRepository aQuota) 1).2.log.durable).length = ((impl_NewRepository aQuota).log.durable).length := hq4.2.1
    have hl2 : ((laws_markRepository (impl_NewRepository aQuota) 1).2.log.volatile).length = ((impl_NewRepository aQuota).log.volatile).length := hq4.2.2.1
    refine WX.run ttOk rfl ?_
    have hi1 : (laws_markRepository (impl_NewRepository aQuota) 1).2.quota = (impl_NewRepository aQuota).quota := hq4.2.2.2
    refine WX.slot 19 (y := .v (.agg #[.slice p3 (((laws_markRepository (impl_NewRepository aQuota) 1).2.log.durable).length) c3, .slice p4 (((laws_markRepository (impl_NewRepository aQuota) 1).2.log.volatile).length) c4, .int .i64 ((laws_markRepository (impl_NewRepository aQuota) 1).2.quota)])) rfl (fun _ => by simp only [hl1, hl2, hi1]) ?_
    refine WX.callV rfl rfl rfl rfl rfl (fun _ => rfl) rfl (fun w G bs hI hΓ => f28 w n (by omega) ((laws_markRepository (impl_NewRepository aQuota) 1).2) p3 c3 (hΓ.get 8 rfl) p4 c4 (hΓ.get 9 rfl) 1 hq4.1.2 (show I64 1 from (by unfold I64; omega))) ?_
    intro hq5
    refine WX.run ttOk rfl ?_
    refine WX.cases 23 rfl (fun h2 => ?_) (fun h2 => ?_)
    · skip
      have h2d := B.dt h2
      refine WX.run ttOk rfl ?_
      have hP2 : laws_FnExactNewRepository aQuota = false := by simp only [laws_FnExactNewRepository, h1, h2, cond_true, cond_false]
      refine WX.ret ttOk rfl ?_
      intro w1 G bs hI hΓ
      rw [hP2]
      exact ⟨rfl, trivial⟩
    · skip
      have h2d := B.df h2
      refine WX.run ttOk rfl ?_
      refine WX.cases 26 rfl (fun h3 => ?_) (fun h3 => ?_)
      · skip
        have h3d := B.nt' h3
        refine WX.run ttOk rfl ?_
        have hP3 : laws_FnExactNewRepository aQuota = false := by simp only [laws_FnExactNewRepository, h1, h2, h3, cond_true, cond_false]
        refine WX.ret ttOk rfl ?_
        intro w1 G bs hI hΓ
        rw [hP3]
        exact ⟨rfl, trivial⟩
      · skip
        have h3d := B.nf' h3
        refine WX.run ttOk rfl ?_
        refine WX.callF 12 (fun _ _ h => GoT.ow_rd h) (fun _ f hf => GoT.fak f hf) rfl rfl rfl rfl rfl (fun _ => rfl) rfl (fun w G bs hI hΓ => f25 w n (by omega) aQuota hokaQuota) (fun _ => rfl) (fun _ => rfl) ?_
        rintro ⟨⟨⟨p5, c5⟩, ⟨p6, c6⟩⟩, ⟨⟩⟩ hq6
        refine WX.run ttOk rfl ?_
        refine WX.der 16 (MF.rs .der p1 c1 ((spec_NewRepository aQuota).log.durable)) rfl (fun _ hΓ => (hΓ.get 2 rfl : OwSl _ _ _ _).rd) ?_
        refine WX.der 17 (MF.rs .der p2 c2 ((spec_NewRepository aQuota).log.volatile)) rfl (fun _ hΓ => (hΓ.get 3 rfl : OwSl _ _ _ _).rd) ?_
        refine WX.callV rfl rfl rfl rfl rfl (fun _ => rfl) rfl (fun w G bs hI hΓ => f26 w n (by omega) (impl_NewRepository aQuota) p5 c5 (hΓ.get 12 rfl) p6 c6 (hΓ.get 13 rfl) (spec_NewRepository aQuota) p1 c1 (hΓ.get 16 rfl) p2 c2 (hΓ.get 17 rfl) (And.intro (ok_Repository hq6).1 (ok_Repository hq2).2) hq1) ?_
        intro hq7
        refine WX.run ttOk rfl ?_
        refine WX.cases 32 rfl (fun h4 => ?_) (fun h4 => ?_)
        · skip
          have h4d := (B.nt h4)
          exact absurd (h1.symm.trans h4) Bool.false_ne_true
        · skip
          have h4d := (B.nf h4)
          refine WX.run ttOk rfl ?_
          refine WX.slot 33 (y := .v (.agg #[.slice p3 (((laws_markRepository (impl_NewRepository aQuota) 1).2.log.durable).length) c3, .slice p4 (((laws_markRepository (impl_NewRepository aQuota) 1).2.log.volatile).length) c4, .int .i64 ((laws_markRepository (impl_NewRepository aQuota) 1).2.quota)])) rfl (fun _ => by simp only [hl1, hl2, hi1]) ?_
          refine WX.callV rfl rfl rfl rfl rfl (fun _ => rfl) rfl (fun w G bs hI hΓ => f28 w n (by omega) ((laws_markRepository (impl_NewRepository aQuota) 1).2) p3 c3 (hΓ.get 8 rfl) p4 c4 (hΓ.get 9 rfl) 1 hq4.1.2 (show I64 1 from (by unfold I64; omega))) ?_
          intro hq8
          refine WX.run ttOk rfl ?_
          refine WX.cases 37 rfl (fun h5 => ?_) (fun h5 => ?_)
          · skip
            have h5d := B.dt h5
            exact absurd (h2.symm.trans h5) Bool.false_ne_true
          · skip
            have h5d := B.df h5
            refine WX.run ttOk rfl ?_
            refine WX.cases 40 rfl (fun h6 => ?_) (fun h6 => ?_)
            · skip
              have h6d := B.nt' h6
              exact absurd (h3.symm.trans h6) Bool.false_ne_true
            · skip
              have h6d := B.nf' h6
              refine WX.run ttOk rfl ?_
              have hP4 : laws_FnExactNewRepository aQuota = true := by simp only [laws_FnExactNewRepository, h1, h2, h3, h4, h5, h6, cond_true, cond_false]
              refine WX.ret ttOk rfl ?_
              intro w1 G bs hI hΓ
              rw [hP4]
              exact ⟨rfl, trivial⟩
theorem f13 (w : World) (n : Nat) (hn : n + 0 ≤ 9) (aA : Consumer) (paAName : Option Addr) (caAName : Nat) (hpaAName : RdSl (hp w) paAName caAName aA.name.parts) (paADataName : Option Addr) (caADataName : Nat) (hpaADataName : RdSl (hp w) paADataName caADataName aA.data.name.parts) (paADataContent : Option Addr) (caADataContent : Nat) (hpaADataContent : RdSl (hp w) paADataContent caADataContent aA.data.content) (paADataKeyName : Option Addr) (caADataKeyName : Nat) (hpaADataKeyName : RdSl (hp w) paADataKeyName caADataKeyName aA.data.keyName.parts) (hokaA : GoT.ok 10 aA) :
    Does Try.prog 13 #[.agg #[.int .i64 (aA.node), .int .i64 (aA.index), .slice paAName ((aA.name.parts).length) caAName, .int .i64 (aA.attempts), .int .i64 (aA.wait), .bool aA.satisfied, .slice paADataName ((aA.data.name.parts).length) caADataName, .slice paADataContent ((aA.data.content).length) caADataContent, .slice paADataKeyName ((aA.data.keyName.parts).length) caADataKeyName, .int .i64 (aA.data.freshUntil), .int .i64 (aA.data.signature)]] w emp (fun (rv : Value) (_ : World) => rv = .bool (laws_FnExactTickConsumer aA) ∧ True) := by
  have hbP := bd_pos n
  have hbB := bd_big (n := n) (by omega)
  refine WX.enter (tt := tt) (Γ := [(0, MF.rs .stb paAName caAName aA.name.parts), (1, MF.rs .stb paADataName caADataName aA.data.name.parts), (2, MF.rs .stb paADataContent caADataContent aA.data.content), (3, MF.rs .stb paADataKeyName caADataKeyName aA.data.keyName.parts)]) Try.func13 rfl (by kernel_rfl) rfl (allS_cons rfl hpaAName (allS_cons rfl hpaADataName (allS_cons rfl hpaADataContent (allS_cons rfl hpaADataKeyName allS_nil)))) ?_
  refine WX.run ttOk rfl ?_
  refine WX.callV rfl rfl rfl rfl rfl (fun _ => rfl) rfl (fun w G bs hI hΓ => f29 w 10 aA paAName caAName (hΓ.get 0 rfl) paADataName caADataName (hΓ.get 1 rfl) paADataContent caADataContent (hΓ.get 2 rfl) paADataKeyName caADataKeyName (hΓ.get 3 rfl) 1048576 hokaA (show I64 1048576 from (by unfold I64; omega))) ?_
  intro hq1
  refine WX.run ttOk rfl ?_
  refine WX.cases 21 rfl (fun h1 => ?_) (fun h1 => ?_)
  · skip
    have h1d := B.dt h1
    refine WX.run ttOk rfl ?_
    have hP1 : laws_FnExactTickConsumer aA = true := by simp only [laws_FnExactTickConsumer, h1, cond_true, cond_false]
    refine WX.ret ttOk rfl ?_
    intro w1 G bs hI hΓ
    rw [hP1]
    exact ⟨rfl, trivial⟩
  · skip
    have h1d := B.df h1
    obtain ⟨hs1, ht1⟩ := (sz_Consumer_R aA 1048576 hokaA (by omega) (by omega)).pos (by omega)
    have hk1 : GoT.ok n aA := GoT.okm (Nat.zero_le n) (Sz.low hokaA (show sz aA ≤ 1048576 by omega))
    refine WX.run ttOk rfl ?_
    refine WX.callF 4 (fun _ _ h => GoT.ow_rd h) (fun _ f hf => GoT.fak f hf) rfl rfl rfl rfl rfl (fun _ => rfl) rfl (fun w G bs hI hΓ => f31 w n (by omega) aA paAName caAName (hΓ.get 0 rfl) paADataName caADataName (hΓ.get 1 rfl) paADataContent caADataContent (hΓ.get 2 rfl) paADataKeyName caADataKeyName (hΓ.get 3 rfl) hk1) (fun _ => rfl) (fun _ => rfl) ?_
    rintro ⟨⟨⟩, ⟨⟩, ⟨p1, c1⟩, ⟨⟩, ⟨⟩, ⟨⟩, ⟨⟨p2, c2⟩, ⟨p3, c3⟩, ⟨p4, c4⟩, ⟨⟩, ⟨⟩⟩⟩ hq2
    refine WX.callF 12 (fun _ _ h => GoT.ow_rd h) (fun _ f hf => GoT.fak f hf) rfl rfl rfl rfl rfl (fun _ => rfl) rfl (fun w G bs hI hΓ => f65 w n (by omega) (laws_toConsumer aA) p1 c1 (hΓ.get 4 rfl) p2 c2 (hΓ.get 5 rfl) p3 c3 (hΓ.get 6 rfl) p4 c4 (hΓ.get 7 rfl) hq2) (fun _ => rfl) (fun _ => rfl) ?_
    rintro ⟨⟨⟨⟩, ⟨⟩, ⟨p5, c5⟩, ⟨⟩, ⟨⟩, ⟨⟩, ⟨⟨p6, c6⟩, ⟨p7, c7⟩, ⟨p8, c8⟩, ⟨⟩, ⟨⟩⟩⟩, ⟨⟨p9, c9⟩, ⟨⟩, ⟨⟩, ⟨⟩⟩⟩ hq3
    refine WX.run ttOk rfl ?_
    refine WX.callF 22 (fun _ _ h => GoT.ow_rd h) (fun _ f hf => GoT.fak f hf) rfl rfl rfl rfl rfl (fun _ => rfl) rfl (fun w G bs hI hΓ => f31 w n (by omega) aA paAName caAName (hΓ.get 0 rfl) paADataName caADataName (hΓ.get 1 rfl) paADataContent caADataContent (hΓ.get 2 rfl) paADataKeyName caADataKeyName (hΓ.get 3 rfl) hk1) (fun _ => rfl) (fun _ => rfl) ?_
    rintro ⟨⟨⟩, ⟨⟩, ⟨p10, c10⟩, ⟨⟩, ⟨⟩, ⟨⟩, ⟨⟨p11, c11⟩, ⟨p12, c12⟩, ⟨p13, c13⟩, ⟨⟩, ⟨⟩⟩⟩ hq4
    refine WX.run ttOk rfl ?_
    refine WX.callF 30 (fun _ _ h => GoT.ow_rd h) (fun _ f hf => GoT.fak f hf) rfl rfl rfl rfl rfl (fun _ => rfl) rfl (fun w G bs hI hΓ => f66 w n (by omega) (laws_toConsumer aA) p10 c10 (hΓ.get 22 rfl) p11 c11 (hΓ.get 23 rfl) p12 c12 (hΓ.get 24 rfl) p13 c13 (hΓ.get 25 rfl) (And.intro (ok_Consumer hq2).1 (And.intro (ok_Consumer hq2).2.1 (And.intro (ok_Consumer hq4).2.2.1 (And.intro (ok_Consumer hq2).2.2.2.1 (And.intro (ok_Consumer hq2).2.2.2.2.1 (And.intro trivial (And.intro (ok_DataP (ok_Consumer hq4).2.2.2.2.2.2).1 (And.intro (ok_DataP (ok_Consumer hq4).2.2.2.2.2.2).2.1 (And.intro (ok_DataP (ok_Consumer hq4).2.2.2.2.2.2).2.2.1 (And.intro (ok_DataP (ok_Consumer hq2).2.2.2.2.2.2).2.2.2.1 (ok_DataP (ok_Consumer hq2).2.2.2.2.2.2).2.2.2.2))))))))))) (fun _ => rfl) (fun _ => rfl) ?_
    rintro ⟨⟨⟨⟩, ⟨⟩, ⟨p14, c14⟩, ⟨⟩, ⟨⟩, ⟨⟩, ⟨⟨p15, c15⟩, ⟨p16, c16⟩, ⟨p17, c17⟩, ⟨⟩, ⟨⟩⟩⟩, ⟨⟨p18, c18⟩, ⟨⟩, ⟨⟩, ⟨⟩⟩⟩ hq5
    refine WX.run ttOk rfl ?_
    refine WX.callV rfl rfl rfl rfl rfl (fun _ => rfl) rfl (fun w G bs hI hΓ => f19 w n (by omega) ((impl_TickConsumer (laws_toConsumer aA)).1) p14 c14 (hΓ.get 30 rfl) p15 c15 (hΓ.get 31 rfl) p16 c16 (hΓ.get 32 rfl) p17 c17 (hΓ.get 33 rfl) ((spec_TickConsumer (laws_toConsumer aA)).1) p5 c5 (hΓ.get 12 rfl) p6 c6 (hΓ.get 13 rfl) p7 c7 (hΓ.get 14 rfl) p8 c8 (hΓ.get 15 rfl) hq5.1 hq3.1) ?_
    intro hq6
    refine WX.run ttOk rfl ?_
    refine WX.cases 41 rfl (fun h2 => ?_) (fun h2 => ?_)
    · skip
      have h2d := (B.nt h2)
      refine WX.run ttOk rfl ?_
      have hP2 : laws_FnExactTickConsumer aA = false := by simp only [laws_FnExactTickConsumer, h1, h2, cond_true, cond_false]
      refine WX.ret ttOk rfl ?_
      intro w1 G bs hI hΓ
      rw [hP2]
      exact ⟨rfl, trivial⟩
    · skip
      have h2d := (B.nf h2)
      refine WX.run ttOk rfl ?_
      refine WX.callV rfl rfl rfl rfl rfl (fun _ => rfl) rfl (fun w G bs hI hΓ => f67 w n (by omega) ((impl_TickConsumer (laws_toConsumer aA)).2.1) p18 c18 (hΓ.get 34 rfl) ((spec_TickConsumer (laws_toConsumer aA)).2.1) p9 c9 (hΓ.get 16 rfl) hq5.2 hq3.2) ?_
      intro hq7
      refine WX.run ttOk rfl ?_
      refine WX.cases 47 rfl (fun h3 => ?_) (fun h3 => ?_)
      · skip
        have h3d := (B.nt h3)
        refine WX.run ttOk rfl ?_
        have hP3 : laws_FnExactTickConsumer aA = false := by simp only [laws_FnExactTickConsumer, h1, h2, h3, cond_true, cond_false]
        refine WX.ret ttOk rfl ?_
        intro w1 G bs hI hΓ
        rw [hP3]
        exact ⟨rfl, trivial⟩
      · skip
        have h3d := (B.nf h3)
        refine WX.run ttOk rfl ?_
        refine WX.see rfl rfl rfl (fun _ hΓ => looks_beq ttOk rfl rfl rfl rfl rfl rfl) ?_
        refine WX.run ttOk rfl ?_
        refine WX.cases 51 rfl (fun h4 => ?_) (fun h4 => ?_)
        · skip
          have h4d := (B.nt h4)
          refine WX.run ttOk rfl ?_
          have hP4 : laws_FnExactTickConsumer aA = false := by simp only [laws_FnExactTickConsumer, h1, h2, h3, h4, cond_true, cond_false]
          refine WX.ret ttOk rfl ?_
          intro w1 G bs hI hΓ
          rw [hP4]
          exact ⟨rfl, trivial⟩
        · skip
          have h4d := (B.nf h4)
          refine WX.run ttOk rfl ?_
          refine WX.draw [] mixed ?_
          intro bs G0 hΓ0
          refine DX.takes (fuel := 3) ttOk [(0, false), (1, false)] (by kernel_rfl) rfl ?_
          refine DX.callF 2 40 (fun _ _ h => GoT.ow_rd h) (fun _ f hf => GoT.fak f hf) rfl (by kernel_rfl) rfl rfl rfl rfl rfl rfl (fun _ => rfl) rfl (fun w G bs hI hΓ => f31 w n (by omega) aA paAName caAName (hΓ.get 0 rfl) paADataName caADataName (hΓ.get 1 rfl) paADataContent caADataContent (hΓ.get 2 rfl) paADataKeyName caADataKeyName (hΓ.get 3 rfl) hk1) (fun _ => rfl) (fun _ => rfl) ?_
          rintro ⟨⟨⟩, ⟨⟩, ⟨p19, c19⟩, ⟨⟩, ⟨⟩, ⟨⟩, ⟨⟨p20, c20⟩, ⟨p21, c21⟩, ⟨p22, c22⟩, ⟨⟩, ⟨⟩⟩⟩ hq8
          refine DX.callV 3 rfl (by kernel_rfl) rfl rfl rfl rfl rfl rfl (fun _ => rfl) rfl (fun w G bs hI hΓ => f19 w n (by omega) (laws_toConsumer aA) p10 c10 (hΓ.get 22 rfl) p11 c11 (hΓ.get 23 rfl) p12 c12 (hΓ.get 24 rfl) p13 c13 (hΓ.get 25 rfl) (laws_toConsumer aA) p19 c19 (hΓ.get 40 rfl) p20 c20 (hΓ.get 41 rfl) p21 c21 (hΓ.get 42 rfl) p22 c22 (hΓ.get 43 rfl) (And.intro (ok_Consumer hq2).1 (And.intro (ok_Consumer hq2).2.1 (And.intro (ok_Consumer hq4).2.2.1 (And.intro (ok_Consumer hq2).2.2.2.1 (And.intro (ok_Consumer hq2).2.2.2.2.1 (And.intro trivial (And.intro (ok_DataP (ok_Consumer hq4).2.2.2.2.2.2).1 (And.intro (ok_DataP (ok_Consumer hq4).2.2.2.2.2.2).2.1 (And.intro (ok_DataP (ok_Consumer hq4).2.2.2.2.2.2).2.2.1 (And.intro (ok_DataP (ok_Consumer hq2).2.2.2.2.2.2).2.2.2.1 (ok_DataP (ok_Consumer hq2).2.2.2.2.2.2).2.2.2.2)))))))))) (And.intro (ok_Consumer hq2).1 (And.intro (ok_Consumer hq2).2.1 (And.intro (ok_Consumer hq8).2.2.1 (And.intro (ok_Consumer hq2).2.2.2.1 (And.intro (ok_Consumer hq2).2.2.2.2.1 (And.intro trivial (And.intro (ok_DataP (ok_Consumer hq8).2.2.2.2.2.2).1 (And.intro (ok_DataP (ok_Consumer hq8).2.2.2.2.2.2).2.1 (And.intro (ok_DataP (ok_Consumer hq8).2.2.2.2.2.2).2.2.1 (And.intro (ok_DataP (ok_Consumer hq2).2.2.2.2.2.2).2.2.2.1 (ok_DataP (ok_Consumer hq2).2.2.2.2.2.2).2.2.2.2))))))))))) ?_
          intro hq9
          refine DX.takes (fuel := 0) ttOk [(4, true)] (by kernel_rfl) rfl ?_
          refine DX.tail [] rfl rfl (by kernel_rfl) ?_
          refine WX.run ttOk rfl ?_
          refine WX.cases 56 rfl (fun h5 => ?_) (fun h5 => ?_)
          · skip
            have h5d := (B.nt h5)
            refine WX.run ttOk rfl ?_
            have hP5 : laws_FnExactTickConsumer aA = false := by simp only [laws_FnExactTickConsumer, h1, h2, h3, h4, h5, cond_true, cond_false]
            refine WX.ret ttOk rfl ?_
            intro w1 G bs hI hΓ
            rw [hP5]
            exact ⟨rfl, trivial⟩
          · skip
            have h5d := (B.nf h5)
            refine WX.run ttOk rfl ?_
            refine WX.callM [26, 27, 28, 29] 48 rfl (fun _ _ h => GoT.ow_rd h) (fun _ f hf => GoT.fak f hf) rfl rfl rfl rfl rfl (fun _ => rfl) rfl (fun w G bs H hI hH hs hΓ => f22 w n (by omega) (laws_toConsumer aA) p10 c10 p11 c11 p12 c12 p13 c13 1 H hH hs (And.intro (ok_Consumer hq2).1 (And.intro (ok_Consumer hq2).2.1 (And.intro (ok_Consumer hq4).2.2.1 (And.intro (ok_Consumer hq2).2.2.2.1 (And.intro (ok_Consumer hq2).2.2.2.2.1 (And.intro trivial (And.intro (ok_DataP (ok_Consumer hq4).2.2.2.2.2.2).1 (And.intro (ok_DataP (ok_Consumer hq4).2.2.2.2.2.2).2.1 (And.intro (ok_DataP (ok_Consumer hq4).2.2.2.2.2.2).2.2.1 (And.intro (ok_DataP (ok_Consumer hq2).2.2.2.2.2.2).2.2.2.1 (ok_DataP (ok_Consumer hq2).2.2.2.2.2.2).2.2.2.2)))))))))) (show I64 1 from (by unfold I64; omega))) (fun _ => rfl) (fun _ => rfl) ?_
            rintro ⟨⟩ hq10
            have hl1 : ((laws_markConsumer (laws_toConsumer aA) 1).2.name.parts).length = ((laws_toConsumer aA).name.parts).length := hq10.2.2.2.1
            have hl2 : ((laws_markConsumer (laws_toConsumer aA) 1).2.data.name.parts).length = ((laws_toConsumer aA).data.name.parts).length := hq10.2.2.2.2.2.2.2.1
            have hl3 : ((laws_markConsumer (laws_toConsumer aA) 1).2.data.content).length = ((laws_toConsumer aA).data.content).length := hq10.2.2.2.2.2.2.2.2.1
            have hl4 : ((laws_markConsumer (laws_toConsumer aA) 1).2.data.keyName.parts).length = ((laws_toConsumer aA).data.keyName.parts).length := hq10.2.2.2.2.2.2.2.2.2.1
            refine WX.run ttOk rfl ?_
            refine WX.cases 62 rfl (fun h6 => ?_) (fun h6 => ?_)
            · skip
              have h6d := B.dt h6
              refine WX.run ttOk rfl ?_
              have hP6 : laws_FnExactTickConsumer aA = false := by simp only [laws_FnExactTickConsumer, h1, h2, h3, h4, h5, h6, cond_true, cond_false]
              refine WX.ret ttOk rfl ?_
              intro w1 G bs hI hΓ
              rw [hP6]
              exact ⟨rfl, trivial⟩
            · skip
              have h6d := B.df h6
              refine WX.run ttOk rfl ?_
              refine WX.der 56 (MF.rs .der p14 c14 ((impl_TickConsumer (laws_toConsumer aA)).1.name.parts)) rfl (fun _ hΓ => (hΓ.get 35 rfl : OwSl _ _ _ _).rd) ?_
              refine WX.der 57 (MF.rs .der p15 c15 ((impl_TickConsumer (laws_toConsumer aA)).1.data.name.parts)) rfl (fun _ hΓ => (hΓ.get 36 rfl : OwSl _ _ _ _).rd) ?_
              refine WX.der 58 (MF.rs .der p16 c16 ((impl_TickConsumer (laws_toConsumer aA)).1.data.content)) rfl (fun _ hΓ => (hΓ.get 37 rfl : OwSl _ _ _ _).rd) ?_
              refine WX.der 59 (MF.rs .der p17 c17 ((impl_TickConsumer (laws_toConsumer aA)).1.data.keyName.parts)) rfl (fun _ hΓ => (hΓ.get 38 rfl : OwSl _ _ _ _).rd) ?_
              refine WX.der 60 (MF.rs .der p5 c5 ((spec_TickConsumer (laws_toConsumer aA)).1.name.parts)) rfl (fun _ hΓ => (hΓ.get 17 rfl : OwSl _ _ _ _).rd) ?_
              refine WX.der 61 (MF.rs .der p6 c6 ((spec_TickConsumer (laws_toConsumer aA)).1.data.name.parts)) rfl (fun _ hΓ => (hΓ.get 18 rfl : OwSl _ _ _ _).rd) ?_
              refine WX.der 62 (MF.rs .der p7 c7 ((spec_TickConsumer (laws_toConsumer aA)).1.data.content)) rfl (fun _ hΓ => (hΓ.get 19 rfl : OwSl _ _ _ _).rd) ?_
              refine WX.der 63 (MF.rs .der p8 c8 ((spec_TickConsumer (laws_toConsumer aA)).1.data.keyName.parts)) rfl (fun _ hΓ => (hΓ.get 20 rfl : OwSl _ _ _ _).rd) ?_
              refine WX.callV rfl rfl rfl rfl rfl (fun _ => rfl) rfl (fun w G bs hI hΓ => f19 w n (by omega) ((impl_TickConsumer (laws_toConsumer aA)).1) p14 c14 (hΓ.get 56 rfl) p15 c15 (hΓ.get 57 rfl) p16 c16 (hΓ.get 58 rfl) p17 c17 (hΓ.get 59 rfl) ((spec_TickConsumer (laws_toConsumer aA)).1) p5 c5 (hΓ.get 60 rfl) p6 c6 (hΓ.get 61 rfl) p7 c7 (hΓ.get 62 rfl) p8 c8 (hΓ.get 63 rfl) hq5.1 hq3.1) ?_
              intro hq11
              refine WX.run ttOk rfl ?_
              refine WX.cases 68 rfl (fun h7 => ?_) (fun h7 => ?_)
              · skip
                have h7d := (B.nt h7)
                exact absurd (h2.symm.trans h7) Bool.false_ne_true
              · skip
                have h7d := (B.nf h7)
                refine WX.run ttOk rfl ?_
                refine WX.der 64 (MF.rs .der p18 c18 ((impl_TickConsumer (laws_toConsumer aA)).2.1.name.parts)) rfl (fun _ hΓ => (hΓ.get 39 rfl : OwSl _ _ _ _).rd) ?_
                refine WX.der 65 (MF.rs .der p9 c9 ((spec_TickConsumer (laws_toConsumer aA)).2.1.name.parts)) rfl (fun _ hΓ => (hΓ.get 21 rfl : OwSl _ _ _ _).rd) ?_
                refine WX.callV rfl rfl rfl rfl rfl (fun _ => rfl) rfl (fun w G bs hI hΓ => f67 w n (by omega) ((impl_TickConsumer (laws_toConsumer aA)).2.1) p18 c18 (hΓ.get 64 rfl) ((spec_TickConsumer (laws_toConsumer aA)).2.1) p9 c9 (hΓ.get 65 rfl) hq5.2 hq3.2) ?_
                intro hq12
                refine WX.run ttOk rfl ?_
                refine WX.cases 74 rfl (fun h8 => ?_) (fun h8 => ?_)
                · skip
                  have h8d := (B.nt h8)
                  exact absurd (h3.symm.trans h8) Bool.false_ne_true
                · skip
                  have h8d := (B.nf h8)
                  refine WX.run ttOk rfl ?_
                  refine WX.see rfl rfl rfl (fun _ hΓ => looks_beq ttOk rfl rfl rfl rfl rfl rfl) ?_
                  refine WX.run ttOk rfl ?_
                  refine WX.cases 78 rfl (fun h9 => ?_) (fun h9 => ?_)
                  · skip
                    have h9d := (B.nt h9)
                    exact absurd (h4.symm.trans h9) Bool.false_ne_true
                  · skip
                    have h9d := (B.nf h9)
                    refine WX.run ttOk rfl ?_
                    refine WX.callM [35, 36, 37, 38] 66 rfl (fun _ _ h => GoT.ow_rd h) (fun _ f hf => GoT.fak f hf) rfl rfl rfl rfl rfl (fun _ => rfl) rfl (fun w G bs H hI hH hs hΓ => f22 w n (by omega) ((impl_TickConsumer (laws_toConsumer aA)).1) p14 c14 p15 c15 p16 c16 p17 c17 1 H hH hs hq5.1 (show I64 1 from (by unfold I64; omega))) (fun _ => rfl) (fun _ => rfl) ?_
                    rintro ⟨⟩ hq13
                    have hl5 : ((laws_markConsumer ((impl_TickConsumer (laws_toConsumer aA)).1) 1).2.name.parts).length = ((impl_TickConsumer (laws_toConsumer aA)).1.name.parts).length := hq13.2.2.2.1
                    have hl6 : ((laws_markConsumer ((impl_TickConsumer (laws_toConsumer aA)).1) 1).2.data.name.parts).length = ((impl_TickConsumer (laws_toConsumer aA)).1.data.name.parts).length := hq13.2.2.2.2.2.2.2.1
                    have hl7 : ((laws_markConsumer ((impl_TickConsumer (laws_toConsumer aA)).1) 1).2.data.content).length = ((impl_TickConsumer (laws_toConsumer aA)).1.data.content).length := hq13.2.2.2.2.2.2.2.2.1
                    have hl8 : ((laws_markConsumer ((impl_TickConsumer (laws_toConsumer aA)).1) 1).2.data.keyName.parts).length = ((impl_TickConsumer (laws_toConsumer aA)).1.data.keyName.parts).length := hq13.2.2.2.2.2.2.2.2.2.1
                    refine WX.run ttOk rfl ?_
                    refine WX.callM [39] 74 rfl (fun _ _ h => GoT.ow_rd h) (fun _ f hf => GoT.fak f hf) rfl rfl rfl rfl rfl (fun _ => rfl) rfl (fun w G bs H hI hH hs hΓ => f68 w n (by omega) ((impl_TickConsumer (laws_toConsumer aA)).2.1) p18 c18 ((laws_markConsumer ((impl_TickConsumer (laws_toConsumer aA)).1) 1).1) H hH hs hq5.2 hq13.1.1) (fun _ => rfl) (fun _ => rfl) ?_
                    rintro ⟨⟩ hq14
                    have hl9 : ((laws_markInterest ((impl_TickConsumer (laws_toConsumer aA)).2.1) ((laws_markConsumer ((impl_TickConsumer (laws_toConsumer aA)).1) 1).1)).2.name.parts).length = ((impl_TickConsumer (laws_toConsumer aA)).2.1.name.parts).length := hq14.2.1
                    refine WX.run ttOk rfl ?_
                    have hi8 : (laws_markConsumer ((impl_TickConsumer (laws_toConsumer aA)).1) 1).2.node = (impl_TickConsumer (laws_toConsumer aA)).1.node := hq13.2.1
                    have hi9 : (laws_markConsumer ((impl_TickConsumer (laws_toConsumer aA)).1) 1).2.index = (impl_TickConsumer (laws_toConsumer aA)).1.index := hq13.2.2.1
                    have hi10 : (laws_markConsumer ((impl_TickConsumer (laws_toConsumer aA)).1) 1).2.attempts = (impl_TickConsumer (laws_toConsumer aA)).1.attempts := hq13.2.2.2.2.1
                    have hi11 : (laws_markConsumer ((impl_TickConsumer (laws_toConsumer aA)).1) 1).2.wait = (impl_TickConsumer (laws_toConsumer aA)).1.wait := hq13.2.2.2.2.2.1
                    have hi12 : (laws_markConsumer ((impl_TickConsumer (laws_toConsumer aA)).1) 1).2.satisfied = (impl_TickConsumer (laws_toConsumer aA)).1.satisfied := hq13.2.2.2.2.2.2.1
                    have hi13 : (laws_markConsumer ((impl_TickConsumer (laws_toConsumer aA)).1) 1).2.data.freshUntil = (impl_TickConsumer (laws_toConsumer aA)).1.data.freshUntil := hq13.2.2.2.2.2.2.2.2.2.2.1
                    have hi14 : (laws_markConsumer ((impl_TickConsumer (laws_toConsumer aA)).1) 1).2.data.signature = (impl_TickConsumer (laws_toConsumer aA)).1.data.signature := hq13.2.2.2.2.2.2.2.2.2.2.2
                    refine WX.slot 85 (y := .v (.agg #[.int .i64 ((laws_markConsumer ((impl_TickConsumer (laws_toConsumer aA)).1) 1).2.node), .int .i64 ((laws_markConsumer ((impl_TickConsumer (laws_toConsumer aA)).1) 1).2.index), .slice p14 (((laws_markConsumer ((impl_TickConsumer (laws_toConsumer aA)).1) 1).2.name.parts).length) c14, .int .i64 ((laws_markConsumer ((impl_TickConsumer (laws_toConsumer aA)).1) 1).2.attempts), .int .i64 ((laws_markConsumer ((impl_TickConsumer (laws_toConsumer aA)).1) 1).2.wait), .bool ((laws_markConsumer ((impl_TickConsumer (laws_toConsumer aA)).1) 1).2.satisfied), .slice p15 (((laws_markConsumer ((impl_TickConsumer (laws_toConsumer aA)).1) 1).2.data.name.parts).length) c15, .slice p16 (((laws_markConsumer ((impl_TickConsumer (laws_toConsumer aA)).1) 1).2.data.content).length) c16, .slice p17 (((laws_markConsumer ((impl_TickConsumer (laws_toConsumer aA)).1) 1).2.data.keyName.parts).length) c17, .int .i64 ((laws_markConsumer ((impl_TickConsumer (laws_toConsumer aA)).1) 1).2.data.freshUntil), .int .i64 ((laws_markConsumer ((impl_TickConsumer (laws_toConsumer aA)).1) 1).2.data.signature)])) rfl (fun _ => by simp only [hl5, hl6, hl7, hl8, hi8, hi9, hi10, hi11, hi12, hi13, hi14]) ?_
                    refine WX.der 76 (MF.rs .der p14 c14 ((laws_markConsumer ((impl_TickConsumer (laws_toConsumer aA)).1) 1).2.name.parts)) rfl (fun _ hΓ => (hΓ.get 70 rfl : OwSl _ _ _ _).rd) ?_
                    refine WX.der 77 (MF.rs .der p15 c15 ((laws_markConsumer ((impl_TickConsumer (laws_toConsumer aA)).1) 1).2.data.name.parts)) rfl (fun _ hΓ => (hΓ.get 71 rfl : OwSl _ _ _ _).rd) ?_
                    refine WX.der 78 (MF.rs .der p16 c16 ((laws_markConsumer ((impl_TickConsumer (laws_toConsumer aA)).1) 1).2.data.content)) rfl (fun _ hΓ => (hΓ.get 72 rfl : OwSl _ _ _ _).rd) ?_
                    refine WX.der 79 (MF.rs .der p17 c17 ((laws_markConsumer ((impl_TickConsumer (laws_toConsumer aA)).1) 1).2.data.keyName.parts)) rfl (fun _ hΓ => (hΓ.get 73 rfl : OwSl _ _ _ _).rd) ?_
                    refine WX.callV rfl rfl rfl rfl rfl (fun _ => rfl) rfl (fun w G bs hI hΓ => f23 w n (by omega) ((laws_markConsumer ((impl_TickConsumer (laws_toConsumer aA)).1) 1).2) p14 c14 (hΓ.get 76 rfl) p15 c15 (hΓ.get 77 rfl) p16 c16 (hΓ.get 78 rfl) p17 c17 (hΓ.get 79 rfl) 1 hq13.1.2 (show I64 1 from (by unfold I64; omega))) ?_
                    intro hq15
                    refine WX.run ttOk rfl ?_
                    refine WX.cases 89 rfl (fun h10 => ?_) (fun h10 => ?_)
                    · skip
                      have h10d := B.dt h10
                      refine WX.run ttOk rfl ?_
                      have hP7 : laws_FnExactTickConsumer aA = false := by simp only [laws_FnExactTickConsumer, h1, h2, h3, h4, h5, h6, h7, h8, h9, h10, cond_true, cond_false]
                      refine WX.ret ttOk rfl ?_
                      intro w1 G bs hI hΓ
                      rw [hP7]
                      exact ⟨rfl, trivial⟩
                    · skip
                      have h10d := B.df h10
                      refine WX.run ttOk rfl ?_
                      have hi15 : (laws_markInterest ((impl_TickConsumer (laws_toConsumer aA)).2.1) ((laws_markConsumer ((impl_TickConsumer (laws_toConsumer aA)).1) 1).1)).2.nonce = (impl_TickConsumer (laws_toConsumer aA)).2.1.nonce := hq14.2.2.1
                      have hi16 : (laws_markInterest ((impl_TickConsumer (laws_toConsumer aA)).2.1) ((laws_markConsumer ((impl_TickConsumer (laws_toConsumer aA)).1) 1).1)).2.hopLimit = (impl_TickConsumer (laws_toConsumer aA)).2.1.hopLimit := hq14.2.2.2.1
                      have hi17 : (laws_markInterest ((impl_TickConsumer (laws_toConsumer aA)).2.1) ((laws_markConsumer ((impl_TickConsumer (laws_toConsumer aA)).1) 1).1)).2.lifetime = (impl_TickConsumer (laws_toConsumer aA)).2.1.lifetime := hq14.2.2.2.2
                      refine WX.slot 90 (y := .v (.agg #[.slice p18 (((laws_markInterest ((impl_TickConsumer (laws_toConsumer aA)).2.1) ((laws_markConsumer ((impl_TickConsumer (laws_toConsumer aA)).1) 1).1)).2.name.parts).length) c18, .int .i64 ((laws_markInterest ((impl_TickConsumer (laws_toConsumer aA)).2.1) ((laws_markConsumer ((impl_TickConsumer (laws_toConsumer aA)).1) 1).1)).2.nonce), .int .i64 ((laws_markInterest ((impl_TickConsumer (laws_toConsumer aA)).2.1) ((laws_markConsumer ((impl_TickConsumer (laws_toConsumer aA)).1) 1).1)).2.hopLimit), .int .i64 ((laws_markInterest ((impl_TickConsumer (laws_toConsumer aA)).2.1) ((laws_markConsumer ((impl_TickConsumer (laws_toConsumer aA)).1) 1).1)).2.lifetime)])) rfl (fun _ => by simp only [hl9, hi15, hi16, hi17]) ?_
                      refine WX.callV rfl rfl rfl rfl rfl (fun _ => rfl) rfl (fun w G bs hI hΓ => f69 w n (by omega) ((laws_markInterest ((impl_TickConsumer (laws_toConsumer aA)).2.1) ((laws_markConsumer ((impl_TickConsumer (laws_toConsumer aA)).1) 1).1)).2) p18 c18 (hΓ.get 74 rfl) (laws_heldConsumer ((laws_markConsumer ((impl_TickConsumer (laws_toConsumer aA)).1) 1).2) 1) hq14.1.2 hq15) ?_
                      intro hq16
                      refine WX.run ttOk rfl ?_
                      refine WX.cases 94 rfl (fun h11 => ?_) (fun h11 => ?_)
                      · skip
                        have h11d := B.dt h11
                        refine WX.run ttOk rfl ?_
                        have hP8 : laws_FnExactTickConsumer aA = false := by simp only [laws_FnExactTickConsumer, h1, h2, h3, h4, h5, h6, h7, h8, h9, h10, h11, cond_true, cond_false]
                        refine WX.ret ttOk rfl ?_
                        intro w1 G bs hI hΓ
                        rw [hP8]
                        exact ⟨rfl, trivial⟩
                      · skip
                        have h11d := B.df h11
                        refine WX.run ttOk rfl ?_
                        refine WX.cases 97 rfl (fun h12 => ?_) (fun h12 => ?_)
                        · skip
                          have h12d := B.nt' h12
                          refine WX.run ttOk rfl ?_
                          have hP9 : laws_FnExactTickConsumer aA = false := by simp only [laws_FnExactTickConsumer, h1, h2, h3, h4, h5, h6, h7, h8, h9, h10, h11, h12, cond_true, cond_false]
                          refine WX.ret ttOk rfl ?_
                          intro w1 G bs hI hΓ
                          rw [hP9]
                          exact ⟨rfl, trivial⟩
                        · skip
                          have h12d := B.nf' h12
                          refine WX.run ttOk rfl ?_
                          refine WX.callF 80 (fun _ _ h => GoT.ow_rd h) (fun _ f hf => GoT.fak f hf) rfl rfl rfl rfl rfl (fun _ => rfl) rfl (fun w G bs hI hΓ => f31 w n (by omega) aA paAName caAName (hΓ.get 0 rfl) paADataName caADataName (hΓ.get 1 rfl) paADataContent caADataContent (hΓ.get 2 rfl) paADataKeyName caADataKeyName (hΓ.get 3 rfl) hk1) (fun _ => rfl) (fun _ => rfl) ?_
                          rintro ⟨⟨⟩, ⟨⟩, ⟨p23, c23⟩, ⟨⟩, ⟨⟩, ⟨⟩, ⟨⟨p24, c24⟩, ⟨p25, c25⟩, ⟨p26, c26⟩, ⟨⟩, ⟨⟩⟩⟩ hq17
                          refine WX.callF 88 (fun _ _ h => GoT.ow_rd h) (fun _ f hf => GoT.fak f hf) rfl rfl rfl rfl rfl (fun _ => rfl) rfl (fun w G bs hI hΓ => f66 w n (by omega) (laws_toConsumer aA) p23 c23 (hΓ.get 80 rfl) p24 c24 (hΓ.get 81 rfl) p25 c25 (hΓ.get 82 rfl) p26 c26 (hΓ.get 83 rfl) (And.intro (ok_Consumer hq2).1 (And.intro (ok_Consumer hq2).2.1 (And.intro (ok_Consumer hq17).2.2.1 (And.intro (ok_Consumer hq2).2.2.2.1 (And.intro (ok_Consumer hq2).2.2.2.2.1 (And.intro trivial (And.intro (ok_DataP (ok_Consumer hq17).2.2.2.2.2.2).1 (And.intro (ok_DataP (ok_Consumer hq17).2.2.2.2.2.2).2.1 (And.intro (ok_DataP (ok_Consumer hq17).2.2.2.2.2.2).2.2.1 (And.intro (ok_DataP (ok_Consumer hq2).2.2.2.2.2.2).2.2.2.1 (ok_DataP (ok_Consumer hq2).2.2.2.2.2.2).2.2.2.2))))))))))) (fun _ => rfl) (fun _ => rfl) ?_
                          rintro ⟨⟨⟨⟩, ⟨⟩, ⟨p27, c27⟩, ⟨⟩, ⟨⟩, ⟨⟩, ⟨⟨p28, c28⟩, ⟨p29, c29⟩, ⟨p30, c30⟩, ⟨⟩, ⟨⟩⟩⟩, ⟨⟨p31, c31⟩, ⟨⟩, ⟨⟩, ⟨⟩⟩⟩ hq18
                          refine WX.run ttOk rfl ?_
                          refine WX.der 98 (MF.rs .der p5 c5 ((spec_TickConsumer (laws_toConsumer aA)).1.name.parts)) rfl (fun _ hΓ => (hΓ.get 17 rfl : OwSl _ _ _ _).rd) ?_
                          refine WX.der 99 (MF.rs .der p6 c6 ((spec_TickConsumer (laws_toConsumer aA)).1.data.name.parts)) rfl (fun _ hΓ => (hΓ.get 18 rfl : OwSl _ _ _ _).rd) ?_
                          refine WX.der 100 (MF.rs .der p7 c7 ((spec_TickConsumer (laws_toConsumer aA)).1.data.content)) rfl (fun _ hΓ => (hΓ.get 19 rfl : OwSl _ _ _ _).rd) ?_
                          refine WX.der 101 (MF.rs .der p8 c8 ((spec_TickConsumer (laws_toConsumer aA)).1.data.keyName.parts)) rfl (fun _ hΓ => (hΓ.get 20 rfl : OwSl _ _ _ _).rd) ?_
                          refine WX.callV rfl rfl rfl rfl rfl (fun _ => rfl) rfl (fun w G bs hI hΓ => f19 w n (by omega) ((impl_TickConsumer (laws_toConsumer aA)).1) p27 c27 (hΓ.get 88 rfl) p28 c28 (hΓ.get 89 rfl) p29 c29 (hΓ.get 90 rfl) p30 c30 (hΓ.get 91 rfl) ((spec_TickConsumer (laws_toConsumer aA)).1) p5 c5 (hΓ.get 98 rfl) p6 c6 (hΓ.get 99 rfl) p7 c7 (hΓ.get 100 rfl) p8 c8 (hΓ.get 101 rfl) (And.intro (ok_Consumer hq5.1).1 (And.intro (ok_Consumer hq5.1).2.1 (And.intro (ok_Consumer hq18.1).2.2.1 (And.intro (ok_Consumer hq5.1).2.2.2.1 (And.intro (ok_Consumer hq5.1).2.2.2.2.1 (And.intro trivial (And.intro (ok_DataP (ok_Consumer hq18.1).2.2.2.2.2.2).1 (And.intro (ok_DataP (ok_Consumer hq18.1).2.2.2.2.2.2).2.1 (And.intro (ok_DataP (ok_Consumer hq18.1).2.2.2.2.2.2).2.2.1 (And.intro (ok_DataP (ok_Consumer hq5.1).2.2.2.2.2.2).2.2.2.1 (ok_DataP (ok_Consumer hq5.1).2.2.2.2.2.2).2.2.2.2)))))))))) hq3.1) ?_
                          intro hq19
                          refine WX.run ttOk rfl ?_
                          refine WX.cases 109 rfl (fun h13 => ?_) (fun h13 => ?_)
                          · skip
                            have h13d := (B.nt h13)
                            exact absurd (h2.symm.trans h13) Bool.false_ne_true
                          · skip
                            have h13d := (B.nf h13)
                            refine WX.run ttOk rfl ?_
                            refine WX.der 102 (MF.rs .der p9 c9 ((spec_TickConsumer (laws_toConsumer aA)).2.1.name.parts)) rfl (fun _ hΓ => (hΓ.get 21 rfl : OwSl _ _ _ _).rd) ?_
                            refine WX.callV rfl rfl rfl rfl rfl (fun _ => rfl) rfl (fun w G bs hI hΓ => f67 w n (by omega) ((impl_TickConsumer (laws_toConsumer aA)).2.1) p31 c31 (hΓ.get 92 rfl) ((spec_TickConsumer (laws_toConsumer aA)).2.1) p9 c9 (hΓ.get 102 rfl) (And.intro (ok_Interest hq18.2).1 (And.intro (ok_Interest hq5.2).2.1 (And.intro (ok_Interest hq5.2).2.2.1 (ok_Interest hq5.2).2.2.2))) hq3.2) ?_
                            intro hq20
                            refine WX.run ttOk rfl ?_
                            refine WX.cases 115 rfl (fun h14 => ?_) (fun h14 => ?_)
                            · skip
                              have h14d := (B.nt h14)
                              exact absurd (h3.symm.trans h14) Bool.false_ne_true
                            · skip
                              have h14d := (B.nf h14)
                              refine WX.run ttOk rfl ?_
                              refine WX.see rfl rfl rfl (fun _ hΓ => looks_beq ttOk rfl rfl rfl rfl rfl rfl) ?_
                              refine WX.run ttOk rfl ?_
                              refine WX.cases 119 rfl (fun h15 => ?_) (fun h15 => ?_)
                              · skip
                                have h15d := (B.nt h15)
                                exact absurd (h4.symm.trans h15) Bool.false_ne_true
                              · skip
                                have h15d := (B.nf h15)
                                refine WX.run ttOk rfl ?_
                                refine WX.slot 120 (y := .v (.agg #[.int .i64 ((laws_markConsumer ((impl_TickConsumer (laws_toConsumer aA)).1) 1).2.node), .int .i64 ((laws_markConsumer ((impl_TickConsumer (laws_toConsumer aA)).1) 1).2.index), .slice p14 (((laws_markConsumer ((impl_TickConsumer (laws_toConsumer aA)).1) 1).2.name.parts).length) c14, .int .i64 ((laws_markConsumer ((impl_TickConsumer (laws_toConsumer aA)).1) 1).2.attempts), .int .i64 ((laws_markConsumer ((impl_TickConsumer (laws_toConsumer aA)).1) 1).2.wait), .bool ((laws_markConsumer ((impl_TickConsumer (laws_toConsumer aA)).1) 1).2.satisfied), .slice p15 (((laws_markConsumer ((impl_TickConsumer (laws_toConsumer aA)).1) 1).2.data.name.parts).length) c15, .slice p16 (((laws_markConsumer ((impl_TickConsumer (laws_toConsumer aA)).1) 1).2.data.content).length) c16, .slice p17 (((laws_markConsumer ((impl_TickConsumer (laws_toConsumer aA)).1) 1).2.data.keyName.parts).length) c17, .int .i64 ((laws_markConsumer ((impl_TickConsumer (laws_toConsumer aA)).1) 1).2.data.freshUntil), .int .i64 ((laws_markConsumer ((impl_TickConsumer (laws_toConsumer aA)).1) 1).2.data.signature)])) rfl (fun _ => by simp only [hl5, hl6, hl7, hl8, hi8, hi9, hi10, hi11, hi12, hi13, hi14]) ?_
                                refine WX.callV rfl rfl rfl rfl rfl (fun _ => rfl) rfl (fun w G bs hI hΓ => f23 w n (by omega) ((laws_markConsumer ((impl_TickConsumer (laws_toConsumer aA)).1) 1).2) p14 c14 (hΓ.get 76 rfl) p15 c15 (hΓ.get 77 rfl) p16 c16 (hΓ.get 78 rfl) p17 c17 (hΓ.get 79 rfl) 1 hq13.1.2 (show I64 1 from (by unfold I64; omega))) ?_
                                intro hq21
                                refine WX.run ttOk rfl ?_
                                refine WX.cases 124 rfl (fun h16 => ?_) (fun h16 => ?_)
                                · skip
                                  have h16d := B.dt h16
                                  exact absurd (h10.symm.trans h16) Bool.false_ne_true
                                · skip
                                  have h16d := B.df h16
                                  refine WX.run ttOk rfl ?_
                                  refine WX.slot 125 (y := .v (.agg #[.slice p18 (((laws_markInterest ((impl_TickConsumer (laws_toConsumer aA)).2.1) ((laws_markConsumer ((impl_TickConsumer (laws_toConsumer aA)).1) 1).1)).2.name.parts).length) c18, .int .i64 ((laws_markInterest ((impl_TickConsumer (laws_toConsumer aA)).2.1) ((laws_markConsumer ((impl_TickConsumer (laws_toConsumer aA)).1) 1).1)).2.nonce), .int .i64 ((laws_markInterest ((impl_TickConsumer (laws_toConsumer aA)).2.1) ((laws_markConsumer ((impl_TickConsumer (laws_toConsumer aA)).1) 1).1)).2.hopLimit), .int .i64 ((laws_markInterest ((impl_TickConsumer (laws_toConsumer aA)).2.1) ((laws_markConsumer ((impl_TickConsumer (laws_toConsumer aA)).1) 1).1)).2.lifetime)])) rfl (fun _ => by simp only [hl9, hi15, hi16, hi17]) ?_
                                  refine WX.callV rfl rfl rfl rfl rfl (fun _ => rfl) rfl (fun w G bs hI hΓ => f69 w n (by omega) ((laws_markInterest ((impl_TickConsumer (laws_toConsumer aA)).2.1) ((laws_markConsumer ((impl_TickConsumer (laws_toConsumer aA)).1) 1).1)).2) p18 c18 (hΓ.get 74 rfl) (laws_heldConsumer ((laws_markConsumer ((impl_TickConsumer (laws_toConsumer aA)).1) 1).2) 1) hq14.1.2 hq15) ?_
                                  intro hq22
                                  refine WX.run ttOk rfl ?_
                                  refine WX.cases 129 rfl (fun h17 => ?_) (fun h17 => ?_)
                                  · skip
                                    have h17d := B.dt h17
                                    exact absurd (h11.symm.trans h17) Bool.false_ne_true
                                  · skip
                                    have h17d := B.df h17
                                    refine WX.run ttOk rfl ?_
                                    refine WX.cases 132 rfl (fun h18 => ?_) (fun h18 => ?_)
                                    · skip
                                      have h18d := B.nt' h18
                                      exact absurd (h12.symm.trans h18) Bool.false_ne_true
                                    · skip
                                      have h18d := B.nf' h18
                                      refine WX.run ttOk rfl ?_
                                      have hP10 : laws_FnExactTickConsumer aA = true := by simp only [laws_FnExactTickConsumer, h1, h2, h3, h4, h5, h6, h7, h8, h9, h10, h11, h12, h13, h14, h15, h16, h17, h18, cond_true, cond_false]
                                      refine WX.ret ttOk rfl ?_
                                      intro w1 G bs hI hΓ
                                      rw [hP10]
                                      exact ⟨rfl, trivial⟩
end Go.Proofs.Ytfkllbcfaanmjaa
