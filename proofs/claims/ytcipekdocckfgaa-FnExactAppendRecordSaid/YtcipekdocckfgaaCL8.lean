/-
  That functions of the program compute what the Lean functions do. No condition but what each says. Written by a program (gen2.py).
-/
import Derived.Test.YtcipekdocckfgaaC15
import Derived.Test.YtcipekdocckfgaaPure
import Derived.Test.YtcipekdocckfgaaPL8
namespace Go.Proofs.Ytcipekdocckfgaa
open Go.Stp
set_option linter.unusedVariables false
set_option linter.unusedSimpArgs false
theorem f3 (w : World) (n : Nat) (hn : n + 0 ≤ 9) (aL : (List Record)) (paL : Option Addr) (caL : Nat) (hpaL : RdSl (hp w) paL caL aL) (hokaL : GoT.ok 10 aL) :
    Does Try.prog 3 #[.slice paL ((aL).length) caL] w emp (fun (rv : Value) (_ : World) => rv = .bool (laws_FnExactReplay aL) ∧ True) := by
  have hbP := bd_pos n
  have hbB := bd_big (n := n) (by omega)
  refine WX.enter (tt := tt) (Γ := [(0, MF.rs .stb paL caL aL)]) Try.func3 rfl (by kernel_rfl) rfl (allS_cons rfl hpaL allS_nil) ?_
  refine WX.run ttOk rfl ?_
  refine WX.callV rfl rfl rfl rfl rfl (fun _ => rfl) rfl (fun w G bs hI hΓ => f12 w 10 aL paL caL (hΓ.get 0 rfl) 1048576 hokaL (show I64 1048576 from (by unfold I64; omega))) ?_
  intro hq1
  refine WX.run ttOk rfl ?_
  refine WX.cases 15 rfl (fun h1 => ?_) (fun h1 => ?_)
  · skip
    have h1d := B.dt h1
    refine WX.run ttOk rfl ?_
    have hP1 : laws_FnExactReplay aL = true := by simp only [laws_FnExactReplay, h1, cond_true, cond_false]
    refine WX.ret ttOk rfl ?_
    intro w1 G bs hI hΓ
    rw [hP1]
    exact ⟨rfl, trivial⟩
  · skip
    have h1d := B.df h1
    obtain ⟨hs1, ht1⟩ := (sz_RecordS_R aL 1048576 hokaL (by omega) (by omega)).pos (by omega)
    have hk1 : GoT.ok n aL := GoT.okm (Nat.zero_le n) (Sz.low hokaL (show sz aL ≤ 1048576 by omega))
    refine WX.run ttOk rfl ?_
    refine WX.callF 1 (fun _ _ h => GoT.ow_rd h) (fun _ f hf => GoT.fak f hf) rfl rfl rfl rfl rfl (fun _ => rfl) rfl (fun w G bs hI hΓ => f14 w n (by omega) aL paL caL (hΓ.get 0 rfl) hk1) (fun _ => rfl) (fun _ => rfl) ?_
    rintro ⟨p1, c1⟩ hq2
    refine WX.callF 3 (fun _ _ h => GoT.ow_rd h) (fun _ f hf => GoT.fak f hf) rfl rfl rfl rfl rfl (fun _ => rfl) rfl (fun w G bs hI hΓ => f13 w n (by omega) (laws_toRecordS aL) p1 c1 (hΓ.get 1 rfl) hq2) (fun _ => rfl) (fun _ => rfl) ?_
    rintro ⟨p2, c2⟩ hq3
    refine WX.run ttOk rfl ?_
    refine WX.callF 5 (fun _ _ h => GoT.ow_rd h) (fun _ f hf => GoT.fak f hf) rfl rfl rfl rfl rfl (fun _ => rfl) rfl (fun w G bs hI hΓ => f14 w n (by omega) aL paL caL (hΓ.get 0 rfl) hk1) (fun _ => rfl) (fun _ => rfl) ?_
    rintro ⟨p3, c3⟩ hq4
    refine WX.run ttOk rfl ?_
    refine WX.callF 7 (fun _ _ h => GoT.ow_rd h) (fun _ f hf => GoT.fak f hf) rfl rfl rfl rfl rfl (fun _ => rfl) rfl (fun w G bs hI hΓ => f15 w n (by omega) (laws_toRecordS aL) p3 c3 (hΓ.get 5 rfl) hq4) (fun _ => rfl) (fun _ => rfl) ?_
    rintro ⟨p4, c4⟩ hq5
    refine WX.run ttOk rfl ?_
    refine WX.callV rfl rfl rfl rfl rfl (fun _ => rfl) rfl (fun w G bs hI hΓ => f16 w n (by omega) (impl_Replay (laws_toRecordS aL)) p4 c4 (hΓ.get 7 rfl) (spec_Replay (laws_toRecordS aL)) p2 c2 (hΓ.get 3 rfl) hq5 hq3) ?_
    intro hq6
    refine WX.run ttOk rfl ?_
    refine WX.cases 26 rfl (fun h2 => ?_) (fun h2 => ?_)
    · skip
      have h2d := (B.nt h2)
      refine WX.run ttOk rfl ?_
      have hP2 : laws_FnExactReplay aL = false := by simp only [laws_FnExactReplay, h1, h2, cond_true, cond_false]
      refine WX.ret ttOk rfl ?_
      intro w1 G bs hI hΓ
      rw [hP2]
      exact ⟨rfl, trivial⟩
    · skip
      have h2d := (B.nf h2)
      refine WX.run ttOk rfl ?_
      refine WX.callF 9 (fun _ _ h => GoT.ow_rd h) (fun _ f hf => GoT.fak f hf) rfl rfl rfl rfl rfl (fun _ => rfl) rfl (fun w G bs hI hΓ => f14 w n (by omega) aL paL caL (hΓ.get 0 rfl) hk1) (fun _ => rfl) (fun _ => rfl) ?_
      rintro ⟨p5, c5⟩ hq7
      refine WX.callV rfl rfl rfl rfl rfl (fun _ => rfl) rfl (fun w G bs hI hΓ => f17 w n (by omega) (laws_toRecordS aL) p3 c3 (hΓ.get 5 rfl) (laws_toRecordS aL) p5 c5 (hΓ.get 9 rfl) hq4 hq7) ?_
      intro hq8
      refine WX.run ttOk rfl ?_
      refine WX.cases 31 rfl (fun h3 => ?_) (fun h3 => ?_)
      · skip
        have h3d := (B.nt h3)
        refine WX.run ttOk rfl ?_
        have hP3 : laws_FnExactReplay aL = false := by simp only [laws_FnExactReplay, h1, h2, h3, cond_true, cond_false]
        refine WX.ret ttOk rfl ?_
        intro w1 G bs hI hΓ
        rw [hP3]
        exact ⟨rfl, trivial⟩
      · skip
        have h3d := (B.nf h3)
        refine WX.run ttOk rfl ?_
        refine WX.callM [6] 11 rfl (fun _ _ h => GoT.ow_rd h) (fun _ f hf => GoT.fak f hf) rfl rfl rfl rfl rfl (fun _ => rfl) rfl (fun w G bs H hI hH hs hΓ => f18 w n (by omega) (laws_toRecordS aL) p3 c3 1 H hH hs hq4 (show I64 1 from (by unfold I64; omega))) (fun _ => rfl) (fun _ => rfl) ?_
        rintro ⟨⟩ hq9
        have hl1 : ((laws_markRecordS (laws_toRecordS aL) 1).2).length = ((laws_toRecordS aL)).length := hq9.2
        refine WX.run ttOk rfl ?_
        refine WX.cases 37 rfl (fun h4 => ?_) (fun h4 => ?_)
        · skip
          have h4d := B.dt h4
          refine WX.run ttOk rfl ?_
          have hP4 : laws_FnExactReplay aL = false := by simp only [laws_FnExactReplay, h1, h2, h3, h4, cond_true, cond_false]
          refine WX.ret ttOk rfl ?_
          intro w1 G bs hI hΓ
          rw [hP4]
          exact ⟨rfl, trivial⟩
        · skip
          have h4d := B.df h4
          refine WX.run ttOk rfl ?_
          refine WX.der 13 (MF.rs .der p4 c4 (impl_Replay (laws_toRecordS aL))) rfl (fun _ hΓ => (hΓ.get 8 rfl : OwSl _ _ _ _).rd) ?_
          refine WX.der 14 (MF.rs .der p2 c2 (spec_Replay (laws_toRecordS aL))) rfl (fun _ hΓ => (hΓ.get 4 rfl : OwSl _ _ _ _).rd) ?_
          refine WX.callV rfl rfl rfl rfl rfl (fun _ => rfl) rfl (fun w G bs hI hΓ => f16 w n (by omega) (impl_Replay (laws_toRecordS aL)) p4 c4 (hΓ.get 13 rfl) (spec_Replay (laws_toRecordS aL)) p2 c2 (hΓ.get 14 rfl) hq5 hq3) ?_
          intro hq10
          refine WX.run ttOk rfl ?_
          refine WX.cases 42 rfl (fun h5 => ?_) (fun h5 => ?_)
          · skip
            have h5d := (B.nt h5)
            exact absurd (h2.symm.trans h5) Bool.false_ne_true
          · skip
            have h5d := (B.nf h5)
            refine WX.run ttOk rfl ?_
            refine WX.callM [8] 15 rfl (fun _ _ h => GoT.ow_rd h) (fun _ f hf => GoT.fak f hf) rfl rfl rfl rfl rfl (fun _ => rfl) rfl (fun w G bs H hI hH hs hΓ => f19 w n (by omega) (impl_Replay (laws_toRecordS aL)) p4 c4 1 H hH hs hq5 (show I64 1 from (by unfold I64; omega))) (fun _ => rfl) (fun _ => rfl) ?_
            rintro ⟨⟩ hq11
            have hl2 : ((laws_markDataS (impl_Replay (laws_toRecordS aL)) 1).2).length = ((impl_Replay (laws_toRecordS aL))).length := hq11.2
            refine WX.run ttOk rfl ?_
            refine WX.slot 46 (y := .v (.slice p4 (((laws_markDataS (impl_Replay (laws_toRecordS aL)) 1).2).length) c4)) rfl (fun _ => by show (.slice p4 (((impl_Replay (laws_toRecordS aL))).length) c4 : Value) = .slice p4 (((laws_markDataS (impl_Replay (laws_toRecordS aL)) 1).2).length) c4; simp only [hl2]) ?_
            refine WX.callV rfl rfl rfl rfl rfl (fun _ => rfl) rfl (fun w G bs hI hΓ => f20 w n (by omega) ((laws_markDataS (impl_Replay (laws_toRecordS aL)) 1).2) p4 c4 (hΓ.get 15 rfl) 1 hq11.1.2 (show I64 1 from (by unfold I64; omega))) ?_
            intro hq12
            refine WX.run ttOk rfl ?_
            refine WX.cases 50 rfl (fun h6 => ?_) (fun h6 => ?_)
            · skip
              have h6d := B.dt h6
              refine WX.run ttOk rfl ?_
              have hP5 : laws_FnExactReplay aL = false := by simp only [laws_FnExactReplay, h1, h2, h3, h4, h5, h6, cond_true, cond_false]
              refine WX.ret ttOk rfl ?_
              intro w1 G bs hI hΓ
              rw [hP5]
              exact ⟨rfl, trivial⟩
            · skip
              have h6d := B.df h6
              refine WX.run ttOk rfl ?_
              refine WX.cases 53 rfl (fun h7 => ?_) (fun h7 => ?_)
              · skip
                have h7d := B.nt' h7
                refine WX.run ttOk rfl ?_
                have hP6 : laws_FnExactReplay aL = false := by simp only [laws_FnExactReplay, h1, h2, h3, h4, h5, h6, h7, cond_true, cond_false]
                refine WX.ret ttOk rfl ?_
                intro w1 G bs hI hΓ
                rw [hP6]
                exact ⟨rfl, trivial⟩
              · skip
                have h7d := B.nf' h7
                refine WX.run ttOk rfl ?_
                refine WX.callF 17 (fun _ _ h => GoT.ow_rd h) (fun _ f hf => GoT.fak f hf) rfl rfl rfl rfl rfl (fun _ => rfl) rfl (fun w G bs hI hΓ => f14 w n (by omega) aL paL caL (hΓ.get 0 rfl) hk1) (fun _ => rfl) (fun _ => rfl) ?_
                rintro ⟨p6, c6⟩ hq13
                refine WX.callF 19 (fun _ _ h => GoT.ow_rd h) (fun _ f hf => GoT.fak f hf) rfl rfl rfl rfl rfl (fun _ => rfl) rfl (fun w G bs hI hΓ => f15 w n (by omega) (laws_toRecordS aL) p6 c6 (hΓ.get 17 rfl) hq13) (fun _ => rfl) (fun _ => rfl) ?_
                rintro ⟨p7, c7⟩ hq14
                refine WX.run ttOk rfl ?_
                refine WX.der 21 (MF.rs .der p2 c2 (spec_Replay (laws_toRecordS aL))) rfl (fun _ hΓ => (hΓ.get 4 rfl : OwSl _ _ _ _).rd) ?_
                refine WX.callV rfl rfl rfl rfl rfl (fun _ => rfl) rfl (fun w G bs hI hΓ => f16 w n (by omega) (impl_Replay (laws_toRecordS aL)) p7 c7 (hΓ.get 19 rfl) (spec_Replay (laws_toRecordS aL)) p2 c2 (hΓ.get 21 rfl) hq14 hq3) ?_
                intro hq15
                refine WX.run ttOk rfl ?_
                refine WX.cases 60 rfl (fun h8 => ?_) (fun h8 => ?_)
                · skip
                  have h8d := (B.nt h8)
                  exact absurd (h2.symm.trans h8) Bool.false_ne_true
                · skip
                  have h8d := (B.nf h8)
                  refine WX.run ttOk rfl ?_
                  refine WX.slot 61 (y := .v (.slice p4 (((laws_markDataS (impl_Replay (laws_toRecordS aL)) 1).2).length) c4)) rfl (fun _ => by show (.slice p4 (((impl_Replay (laws_toRecordS aL))).length) c4 : Value) = .slice p4 (((laws_markDataS (impl_Replay (laws_toRecordS aL)) 1).2).length) c4; simp only [hl2]) ?_
                  refine WX.callV rfl rfl rfl rfl rfl (fun _ => rfl) rfl (fun w G bs hI hΓ => f20 w n (by omega) ((laws_markDataS (impl_Replay (laws_toRecordS aL)) 1).2) p4 c4 (hΓ.get 15 rfl) 1 hq11.1.2 (show I64 1 from (by unfold I64; omega))) ?_
                  intro hq16
                  refine WX.run ttOk rfl ?_
                  refine WX.cases 65 rfl (fun h9 => ?_) (fun h9 => ?_)
                  · skip
                    have h9d := B.dt h9
                    exact absurd (h6.symm.trans h9) Bool.false_ne_true
                  · skip
                    have h9d := B.df h9
                    refine WX.run ttOk rfl ?_
                    refine WX.cases 68 rfl (fun h10 => ?_) (fun h10 => ?_)
                    · skip
                      have h10d := B.nt' h10
                      exact absurd (h7.symm.trans h10) Bool.false_ne_true
                    · skip
                      have h10d := B.nf' h10
                      refine WX.run ttOk rfl ?_
                      have hP7 : laws_FnExactReplay aL = true := by simp only [laws_FnExactReplay, h1, h2, h3, h4, h5, h6, h7, h8, h9, h10, cond_true, cond_false]
                      refine WX.ret ttOk rfl ?_
                      intro w1 G bs hI hΓ
                      rw [hP7]
                      exact ⟨rfl, trivial⟩
theorem f4 (w : World) (n : Nat) (hn : n + 1 ≤ 9) (aL : Log) (paLDurable : Option Addr) (caLDurable : Nat) (hpaLDurable : RdSl (hp w) paLDurable caLDurable aL.durable) (paLVolatile : Option Addr) (caLVolatile : Nat) (hpaLVolatile : RdSl (hp w) paLVolatile caLVolatile aL.volatile) (hokaL : GoT.ok 10 aL) :
    Does Try.prog 4 #[.agg #[.slice paLDurable ((aL.durable).length) caLDurable, .slice paLVolatile ((aL.volatile).length) caLVolatile]] w emp (fun (rv : Value) (_ : World) => rv = .bool (laws_FnExactLogContents aL) ∧ True) := by
  have hbP := bd_pos n
  have hbS0 := bd_succ (n := n) (by omega)
  have hbB := bd_big (n := (n + 1)) (by omega)
  have hbM := bd_mono (show n ≤ n + 1 by omega)
  refine WX.enter (tt := tt) (Γ := [(0, MF.rs .stb paLDurable caLDurable aL.durable), (1, MF.rs .stb paLVolatile caLVolatile aL.volatile)]) Try.func4 rfl (by kernel_rfl) rfl (allS_cons rfl hpaLDurable (allS_cons rfl hpaLVolatile allS_nil)) ?_
  refine WX.run ttOk rfl ?_
  refine WX.callV rfl rfl rfl rfl rfl (fun _ => rfl) rfl (fun w G bs hI hΓ => f21 w 10 aL paLDurable caLDurable (hΓ.get 0 rfl) paLVolatile caLVolatile (hΓ.get 1 rfl) 1048576 hokaL (show I64 1048576 from (by unfold I64; omega))) ?_
  intro hq1
  refine WX.run ttOk rfl ?_
  refine WX.cases 15 rfl (fun h1 => ?_) (fun h1 => ?_)
  · skip
    have h1d := B.dt h1
    refine WX.run ttOk rfl ?_
    have hP1 : laws_FnExactLogContents aL = true := by simp only [laws_FnExactLogContents, h1, cond_true, cond_false]
    refine WX.ret ttOk rfl ?_
    intro w1 G bs hI hΓ
    rw [hP1]
    exact ⟨rfl, trivial⟩
  · skip
    have h1d := B.df h1
    obtain ⟨hs1, ht1⟩ := (sz_Log_R aL 1048576 hokaL (by omega) (by omega)).pos (by omega)
    have hk1 : GoT.ok n aL := GoT.okm (Nat.zero_le n) (Sz.low hokaL (show sz aL ≤ 1048576 by omega))
    refine WX.run ttOk rfl ?_
    refine WX.callF 2 (fun _ _ h => GoT.ow_rd h) (fun _ f hf => GoT.fak f hf) rfl rfl rfl rfl rfl (fun _ => rfl) rfl (fun w G bs hI hΓ => f23 w n (by omega) aL paLDurable caLDurable (hΓ.get 0 rfl) paLVolatile caLVolatile (hΓ.get 1 rfl) hk1) (fun _ => rfl) (fun _ => rfl) ?_
    rintro ⟨⟨p1, c1⟩, ⟨p2, c2⟩⟩ hq2
    refine WX.callF 6 (fun _ _ h => GoT.ow_rd h) (fun _ f hf => GoT.fak f hf) rfl rfl rfl rfl rfl (fun _ => rfl) rfl (fun w G bs hI hΓ => f22 w n (by omega) (laws_toLog aL) p1 c1 (hΓ.get 2 rfl) p2 c2 (hΓ.get 3 rfl) hq2) (fun _ => rfl) (fun _ => rfl) ?_
    rintro ⟨p3, c3⟩ hq3
    refine WX.run ttOk rfl ?_
    refine WX.callF 8 (fun _ _ h => GoT.ow_rd h) (fun _ f hf => GoT.fak f hf) rfl rfl rfl rfl rfl (fun _ => rfl) rfl (fun w G bs hI hΓ => f23 w n (by omega) aL paLDurable caLDurable (hΓ.get 0 rfl) paLVolatile caLVolatile (hΓ.get 1 rfl) hk1) (fun _ => rfl) (fun _ => rfl) ?_
    rintro ⟨⟨p4, c4⟩, ⟨p5, c5⟩⟩ hq4
    refine WX.run ttOk rfl ?_
    refine WX.callF 12 (fun _ _ h => GoT.ow_rd h) (fun _ f hf => GoT.fak f hf) rfl rfl rfl rfl rfl (fun _ => rfl) rfl (fun w G bs hI hΓ => f24 w n (by omega) (laws_toLog aL) p4 c4 (hΓ.get 8 rfl) p5 c5 (hΓ.get 9 rfl) hq4) (fun _ => rfl) (fun _ => rfl) ?_
    rintro ⟨p6, c6⟩ hq5
    refine WX.run ttOk rfl ?_
    refine WX.callV rfl rfl rfl rfl rfl (fun _ => rfl) rfl (fun w G bs hI hΓ => f16 w (n + 1) (by omega) (impl_LogContents (laws_toLog aL)) p6 c6 (hΓ.get 12 rfl) (spec_LogContents (laws_toLog aL)) p3 c3 (hΓ.get 6 rfl) hq5 hq3) ?_
    intro hq6
    refine WX.run ttOk rfl ?_
    refine WX.cases 26 rfl (fun h2 => ?_) (fun h2 => ?_)
    · skip
      have h2d := (B.nt h2)
      refine WX.run ttOk rfl ?_
      have hP2 : laws_FnExactLogContents aL = false := by simp only [laws_FnExactLogContents, h1, h2, cond_true, cond_false]
      refine WX.ret ttOk rfl ?_
      intro w1 G bs hI hΓ
      rw [hP2]
      exact ⟨rfl, trivial⟩
    · skip
      have h2d := (B.nf h2)
      refine WX.run ttOk rfl ?_
      refine WX.draw [] mixed ?_
      intro bs G0 hΓ0
      refine DX.takes (fuel := 3) ttOk [(0, false), (1, false)] (by kernel_rfl) rfl ?_
      refine DX.callF 2 14 (fun _ _ h => GoT.ow_rd h) (fun _ f hf => GoT.fak f hf) rfl (by kernel_rfl) rfl rfl rfl rfl rfl rfl (fun _ => rfl) rfl (fun w G bs hI hΓ => f23 w n (by omega) aL paLDurable caLDurable (hΓ.get 0 rfl) paLVolatile caLVolatile (hΓ.get 1 rfl) hk1) (fun _ => rfl) (fun _ => rfl) ?_
      rintro ⟨⟨p7, c7⟩, ⟨p8, c8⟩⟩ hq7
      refine DX.callV 3 rfl (by kernel_rfl) rfl rfl rfl rfl rfl rfl (fun _ => rfl) rfl (fun w G bs hI hΓ => f25 w n (by omega) (laws_toLog aL) p4 c4 (hΓ.get 8 rfl) p5 c5 (hΓ.get 9 rfl) (laws_toLog aL) p7 c7 (hΓ.get 14 rfl) p8 c8 (hΓ.get 15 rfl) hq4 hq7) ?_
      intro hq8
      refine DX.takes (fuel := 0) ttOk [(4, true)] (by kernel_rfl) rfl ?_
      refine DX.tail2 [] rfl rfl (by kernel_rfl) ?_
      refine WX.run ttOk rfl ?_
      refine WX.cases 31 rfl (fun h3 => ?_) (fun h3 => ?_)
      · skip
        have h3d := (B.nt h3)
        refine WX.run ttOk rfl ?_
        have hP3 : laws_FnExactLogContents aL = false := by simp only [laws_FnExactLogContents, h1, h2, h3, cond_true, cond_false]
        refine WX.ret ttOk rfl ?_
        intro w1 G bs hI hΓ
        rw [hP3]
        exact ⟨rfl, trivial⟩
      · skip
        have h3d := (B.nf h3)
        refine WX.run ttOk rfl ?_
        refine WX.callM [10, 11] 18 rfl (fun _ _ h => GoT.ow_rd h) (fun _ f hf => GoT.fak f hf) rfl rfl rfl rfl rfl (fun _ => rfl) rfl (fun w G bs H hI hH hs hΓ => f26 w n (by omega) (laws_toLog aL) p4 c4 p5 c5 1 H hH hs hq4 (show I64 1 from (by unfold I64; omega))) (fun _ => rfl) (fun _ => rfl) ?_
        rintro ⟨⟩ hq9
        have hl1 : ((laws_markLog (laws_toLog aL) 1).2.durable).length = ((laws_toLog aL).durable).length := hq9.2.1
        have hl2 : ((laws_markLog (laws_toLog aL) 1).2.volatile).length = ((laws_toLog aL).volatile).length := hq9.2.2
        refine WX.run ttOk rfl ?_
        refine WX.cases 37 rfl (fun h4 => ?_) (fun h4 => ?_)
        · skip
          have h4d := B.dt h4
          refine WX.run ttOk rfl ?_
          have hP4 : laws_FnExactLogContents aL = false := by simp only [laws_FnExactLogContents, h1, h2, h3, h4, cond_true, cond_false]
          refine WX.ret ttOk rfl ?_
          intro w1 G bs hI hΓ
          rw [hP4]
          exact ⟨rfl, trivial⟩
        · skip
          have h4d := B.df h4
          refine WX.run ttOk rfl ?_
          refine WX.der 22 (MF.rs .der p6 c6 (impl_LogContents (laws_toLog aL))) rfl (fun _ hΓ => (hΓ.get 13 rfl : OwSl _ _ _ _).rd) ?_
          refine WX.der 23 (MF.rs .der p3 c3 (spec_LogContents (laws_toLog aL))) rfl (fun _ hΓ => (hΓ.get 7 rfl : OwSl _ _ _ _).rd) ?_
          refine WX.callV rfl rfl rfl rfl rfl (fun _ => rfl) rfl (fun w G bs hI hΓ => f16 w (n + 1) (by omega) (impl_LogContents (laws_toLog aL)) p6 c6 (hΓ.get 22 rfl) (spec_LogContents (laws_toLog aL)) p3 c3 (hΓ.get 23 rfl) hq5 hq3) ?_
          intro hq10
          refine WX.run ttOk rfl ?_
          refine WX.cases 42 rfl (fun h5 => ?_) (fun h5 => ?_)
          · skip
            have h5d := (B.nt h5)
            exact absurd (h2.symm.trans h5) Bool.false_ne_true
          · skip
            have h5d := (B.nf h5)
            refine WX.run ttOk rfl ?_
            refine WX.callM [13] 24 rfl (fun _ _ h => GoT.ow_rd h) (fun _ f hf => GoT.fak f hf) rfl rfl rfl rfl rfl (fun _ => rfl) rfl (fun w G bs H hI hH hs hΓ => f19 w (n + 1) (by omega) (impl_LogContents (laws_toLog aL)) p6 c6 1 H hH hs hq5 (show I64 1 from (by unfold I64; omega))) (fun _ => rfl) (fun _ => rfl) ?_
            rintro ⟨⟩ hq11
            have hl3 : ((laws_markDataS (impl_LogContents (laws_toLog aL)) 1).2).length = ((impl_LogContents (laws_toLog aL))).length := hq11.2
            refine WX.run ttOk rfl ?_
            refine WX.slot 46 (y := .v (.slice p6 (((laws_markDataS (impl_LogContents (laws_toLog aL)) 1).2).length) c6)) rfl (fun _ => by show (.slice p6 (((impl_LogContents (laws_toLog aL))).length) c6 : Value) = .slice p6 (((laws_markDataS (impl_LogContents (laws_toLog aL)) 1).2).length) c6; simp only [hl3]) ?_
            refine WX.callV rfl rfl rfl rfl rfl (fun _ => rfl) rfl (fun w G bs hI hΓ => f20 w (n + 1) (by omega) ((laws_markDataS (impl_LogContents (laws_toLog aL)) 1).2) p6 c6 (hΓ.get 24 rfl) 1 hq11.1.2 (show I64 1 from (by unfold I64; omega))) ?_
            intro hq12
            refine WX.run ttOk rfl ?_
            refine WX.cases 50 rfl (fun h6 => ?_) (fun h6 => ?_)
            · skip
              have h6d := B.dt h6
              refine WX.run ttOk rfl ?_
              have hP5 : laws_FnExactLogContents aL = false := by simp only [laws_FnExactLogContents, h1, h2, h3, h4, h5, h6, cond_true, cond_false]
              refine WX.ret ttOk rfl ?_
              intro w1 G bs hI hΓ
              rw [hP5]
              exact ⟨rfl, trivial⟩
            · skip
              have h6d := B.df h6
              refine WX.run ttOk rfl ?_
              refine WX.cases 53 rfl (fun h7 => ?_) (fun h7 => ?_)
              · skip
                have h7d := B.nt' h7
                refine WX.run ttOk rfl ?_
                have hP6 : laws_FnExactLogContents aL = false := by simp only [laws_FnExactLogContents, h1, h2, h3, h4, h5, h6, h7, cond_true, cond_false]
                refine WX.ret ttOk rfl ?_
                intro w1 G bs hI hΓ
                rw [hP6]
                exact ⟨rfl, trivial⟩
              · skip
                have h7d := B.nf' h7
                refine WX.run ttOk rfl ?_
                refine WX.callF 26 (fun _ _ h => GoT.ow_rd h) (fun _ f hf => GoT.fak f hf) rfl rfl rfl rfl rfl (fun _ => rfl) rfl (fun w G bs hI hΓ => f23 w n (by omega) aL paLDurable caLDurable (hΓ.get 0 rfl) paLVolatile caLVolatile (hΓ.get 1 rfl) hk1) (fun _ => rfl) (fun _ => rfl) ?_
                rintro ⟨⟨p9, c9⟩, ⟨p10, c10⟩⟩ hq13
                refine WX.callF 30 (fun _ _ h => GoT.ow_rd h) (fun _ f hf => GoT.fak f hf) rfl rfl rfl rfl rfl (fun _ => rfl) rfl (fun w G bs hI hΓ => f24 w n (by omega) (laws_toLog aL) p9 c9 (hΓ.get 26 rfl) p10 c10 (hΓ.get 27 rfl) hq13) (fun _ => rfl) (fun _ => rfl) ?_
                rintro ⟨p11, c11⟩ hq14
                refine WX.run ttOk rfl ?_
                refine WX.der 32 (MF.rs .der p3 c3 (spec_LogContents (laws_toLog aL))) rfl (fun _ hΓ => (hΓ.get 7 rfl : OwSl _ _ _ _).rd) ?_
                refine WX.callV rfl rfl rfl rfl rfl (fun _ => rfl) rfl (fun w G bs hI hΓ => f16 w (n + 1) (by omega) (impl_LogContents (laws_toLog aL)) p11 c11 (hΓ.get 30 rfl) (spec_LogContents (laws_toLog aL)) p3 c3 (hΓ.get 32 rfl) hq14 hq3) ?_
                intro hq15
                refine WX.run ttOk rfl ?_
                refine WX.cases 60 rfl (fun h8 => ?_) (fun h8 => ?_)
                · skip
                  have h8d := (B.nt h8)
                  exact absurd (h2.symm.trans h8) Bool.false_ne_true
                · skip
                  have h8d := (B.nf h8)
                  refine WX.run ttOk rfl ?_
                  refine WX.slot 61 (y := .v (.slice p6 (((laws_markDataS (impl_LogContents (laws_toLog aL)) 1).2).length) c6)) rfl (fun _ => by show (.slice p6 (((impl_LogContents (laws_toLog aL))).length) c6 : Value) = .slice p6 (((laws_markDataS (impl_LogContents (laws_toLog aL)) 1).2).length) c6; simp only [hl3]) ?_
                  refine WX.callV rfl rfl rfl rfl rfl (fun _ => rfl) rfl (fun w G bs hI hΓ => f20 w (n + 1) (by omega) ((laws_markDataS (impl_LogContents (laws_toLog aL)) 1).2) p6 c6 (hΓ.get 24 rfl) 1 hq11.1.2 (show I64 1 from (by unfold I64; omega))) ?_
                  intro hq16
                  refine WX.run ttOk rfl ?_
                  refine WX.cases 65 rfl (fun h9 => ?_) (fun h9 => ?_)
                  · skip
                    have h9d := B.dt h9
                    exact absurd (h6.symm.trans h9) Bool.false_ne_true
                  · skip
                    have h9d := B.df h9
                    refine WX.run ttOk rfl ?_
                    refine WX.cases 68 rfl (fun h10 => ?_) (fun h10 => ?_)
                    · skip
                      have h10d := B.nt' h10
                      exact absurd (h7.symm.trans h10) Bool.false_ne_true
                    · skip
                      have h10d := B.nf' h10
                      refine WX.run ttOk rfl ?_
                      have hP7 : laws_FnExactLogContents aL = true := by simp only [laws_FnExactLogContents, h1, h2, h3, h4, h5, h6, h7, h8, h9, h10, cond_true, cond_false]
                      refine WX.ret ttOk rfl ?_
                      intro w1 G bs hI hΓ
                      rw [hP7]
                      exact ⟨rfl, trivial⟩
theorem f5 (w : World) (n : Nat) (hn : n + 1 ≤ 9) (aS : Repository) (paSLogDurable : Option Addr) (caSLogDurable : Nat) (hpaSLogDurable : RdSl (hp w) paSLogDurable caSLogDurable aS.log.durable) (paSLogVolatile : Option Addr) (caSLogVolatile : Nat) (hpaSLogVolatile : RdSl (hp w) paSLogVolatile caSLogVolatile aS.log.volatile) (hokaS : GoT.ok 10 aS) :
    Does Try.prog 5 #[.agg #[.slice paSLogDurable ((aS.log.durable).length) caSLogDurable, .slice paSLogVolatile ((aS.log.volatile).length) caSLogVolatile, .int .i64 (aS.quota)]] w emp (fun (rv : Value) (_ : World) => rv = .bool (laws_FnExactValidRepository aS) ∧ True) := by
  have hbP := bd_pos n
  have hbS0 := bd_succ (n := n) (by omega)
  have hbB := bd_big (n := (n + 1)) (by omega)
  have hbM := bd_mono (show n ≤ n + 1 by omega)
  refine WX.enter (tt := tt) (Γ := [(0, MF.rs .stb paSLogDurable caSLogDurable aS.log.durable), (1, MF.rs .stb paSLogVolatile caSLogVolatile aS.log.volatile)]) Try.func5 rfl (by kernel_rfl) rfl (allS_cons rfl hpaSLogDurable (allS_cons rfl hpaSLogVolatile allS_nil)) ?_
  refine WX.run ttOk rfl ?_
  refine WX.callV rfl rfl rfl rfl rfl (fun _ => rfl) rfl (fun w G bs hI hΓ => f27 w 10 aS paSLogDurable caSLogDurable (hΓ.get 0 rfl) paSLogVolatile caSLogVolatile (hΓ.get 1 rfl) 1048576 hokaS (show I64 1048576 from (by unfold I64; omega))) ?_
  intro hq1
  refine WX.run ttOk rfl ?_
  refine WX.cases 11 rfl (fun h1 => ?_) (fun h1 => ?_)
  · skip
    have h1d := B.dt h1
    refine WX.run ttOk rfl ?_
    have hP1 : laws_FnExactValidRepository aS = true := by simp only [laws_FnExactValidRepository, h1, cond_true, cond_false]
    refine WX.ret ttOk rfl ?_
    intro w1 G bs hI hΓ
    rw [hP1]
    exact ⟨rfl, trivial⟩
  · skip
    have h1d := B.df h1
    obtain ⟨hs1, ht1⟩ := (sz_Repository_R aS 1048576 hokaS (by omega) (by omega)).pos (by omega)
    have hk1 : GoT.ok n aS := GoT.okm (Nat.zero_le n) (Sz.low hokaS (show sz aS ≤ 1048576 by omega))
    refine WX.run ttOk rfl ?_
    refine WX.callF 2 (fun _ _ h => GoT.ow_rd h) (fun _ f hf => GoT.fak f hf) rfl rfl rfl rfl rfl (fun _ => rfl) rfl (fun w G bs hI hΓ => f29 w n (by omega) aS paSLogDurable caSLogDurable (hΓ.get 0 rfl) paSLogVolatile caSLogVolatile (hΓ.get 1 rfl) hk1) (fun _ => rfl) (fun _ => rfl) ?_
    rintro ⟨⟨⟨p1, c1⟩, ⟨p2, c2⟩⟩, ⟨⟩⟩ hq2
    refine WX.callV rfl rfl rfl rfl rfl (fun _ => rfl) rfl (fun w G bs hI hΓ => f28 w n (by omega) (laws_toRepository aS) p1 c1 (hΓ.get 2 rfl) p2 c2 (hΓ.get 3 rfl) hq2) ?_
    intro hq3
    refine WX.run ttOk rfl ?_
    refine WX.callF 6 (fun _ _ h => GoT.ow_rd h) (fun _ f hf => GoT.fak f hf) rfl rfl rfl rfl rfl (fun _ => rfl) rfl (fun w G bs hI hΓ => f29 w n (by omega) aS paSLogDurable caSLogDurable (hΓ.get 0 rfl) paSLogVolatile caSLogVolatile (hΓ.get 1 rfl) hk1) (fun _ => rfl) (fun _ => rfl) ?_
    rintro ⟨⟨⟨p3, c3⟩, ⟨p4, c4⟩⟩, ⟨⟩⟩ hq4
    refine WX.run ttOk rfl ?_
    refine WX.callV rfl rfl rfl rfl rfl (fun _ => rfl) rfl (fun w G bs hI hΓ => f30 w n (by omega) (laws_toRepository aS) p3 c3 (hΓ.get 6 rfl) p4 c4 (hΓ.get 7 rfl) (And.intro (ok_Repository hq4).1 (ok_Repository hq2).2)) ?_
    intro hq5
    refine WX.run ttOk rfl ?_
    refine WX.see rfl rfl rfl (fun _ hΓ => looks_beq ttOk rfl rfl rfl rfl rfl rfl) ?_
    refine WX.run ttOk rfl ?_
    refine WX.cases 21 rfl (fun h2 => ?_) (fun h2 => ?_)
    · skip
      have h2d := (B.nt h2)
      refine WX.run ttOk rfl ?_
      have hP2 : laws_FnExactValidRepository aS = false := by simp only [laws_FnExactValidRepository, h1, h2, cond_true, cond_false]
      refine WX.ret ttOk rfl ?_
      intro w1 G bs hI hΓ
      rw [hP2]
      exact ⟨rfl, trivial⟩
    · skip
      have h2d := (B.nf h2)
      refine WX.run ttOk rfl ?_
      refine WX.draw [] mixed ?_
      intro bs G0 hΓ0
      refine DX.takes (fuel := 3) ttOk [(0, false), (1, false)] (by kernel_rfl) rfl ?_
      refine DX.callF 2 10 (fun _ _ h => GoT.ow_rd h) (fun _ f hf => GoT.fak f hf) rfl (by kernel_rfl) rfl rfl rfl rfl rfl rfl (fun _ => rfl) rfl (fun w G bs hI hΓ => f29 w n (by omega) aS paSLogDurable caSLogDurable (hΓ.get 0 rfl) paSLogVolatile caSLogVolatile (hΓ.get 1 rfl) hk1) (fun _ => rfl) (fun _ => rfl) ?_
      rintro ⟨⟨⟨p5, c5⟩, ⟨p6, c6⟩⟩, ⟨⟩⟩ hq6
      refine DX.callV 3 rfl (by kernel_rfl) rfl rfl rfl rfl rfl rfl (fun _ => rfl) rfl (fun w G bs hI hΓ => f31 w n (by omega) (laws_toRepository aS) p3 c3 (hΓ.get 6 rfl) p4 c4 (hΓ.get 7 rfl) (laws_toRepository aS) p5 c5 (hΓ.get 10 rfl) p6 c6 (hΓ.get 11 rfl) (And.intro (ok_Repository hq4).1 (ok_Repository hq2).2) (And.intro (ok_Repository hq6).1 (ok_Repository hq2).2)) ?_
      intro hq7
      refine DX.takes (fuel := 0) ttOk [(4, true)] (by kernel_rfl) rfl ?_
      refine DX.tail2 [] rfl rfl (by kernel_rfl) ?_
      refine WX.run ttOk rfl ?_
      refine WX.cases 26 rfl (fun h3 => ?_) (fun h3 => ?_)
      · skip
        have h3d := (B.nt h3)
        refine WX.run ttOk rfl ?_
        have hP3 : laws_FnExactValidRepository aS = false := by simp only [laws_FnExactValidRepository, h1, h2, h3, cond_true, cond_false]
        refine WX.ret ttOk rfl ?_
        intro w1 G bs hI hΓ
        rw [hP3]
        exact ⟨rfl, trivial⟩
      · skip
        have h3d := (B.nf h3)
        refine WX.run ttOk rfl ?_
        have hP4 : laws_FnExactValidRepository aS = true := by simp only [laws_FnExactValidRepository, h1, h2, h3, cond_true, cond_false]
        refine WX.ret ttOk rfl ?_
        intro w1 G bs hI hΓ
        rw [hP4]
        exact ⟨rfl, trivial⟩
theorem f6 (w : World) (n : Nat) (hn : n + 1 ≤ 9) (aL : Log) (paLDurable : Option Addr) (caLDurable : Nat) (hpaLDurable : RdSl (hp w) paLDurable caLDurable aL.durable) (paLVolatile : Option Addr) (caLVolatile : Nat) (hpaLVolatile : RdSl (hp w) paLVolatile caLVolatile aL.volatile) (hokaL : GoT.ok 10 aL) :
    Does Try.prog 6 #[.agg #[.slice paLDurable ((aL.durable).length) caLDurable, .slice paLVolatile ((aL.volatile).length) caLVolatile]] w emp (fun (rv : Value) (_ : World) => rv = .bool (laws_FnExactCompactLog aL) ∧ True) := by
  have hbP := bd_pos n
  have hbS0 := bd_succ (n := n) (by omega)
  have hbB := bd_big (n := (n + 1)) (by omega)
  have hbM := bd_mono (show n ≤ n + 1 by omega)
  refine WX.enter (tt := tt) (Γ := [(0, MF.rs .stb paLDurable caLDurable aL.durable), (1, MF.rs .stb paLVolatile caLVolatile aL.volatile)]) Try.func6 rfl (by kernel_rfl) rfl (allS_cons rfl hpaLDurable (allS_cons rfl hpaLVolatile allS_nil)) ?_
  refine WX.run ttOk rfl ?_
  refine WX.callV rfl rfl rfl rfl rfl (fun _ => rfl) rfl (fun w G bs hI hΓ => f21 w 10 aL paLDurable caLDurable (hΓ.get 0 rfl) paLVolatile caLVolatile (hΓ.get 1 rfl) 1048576 hokaL (show I64 1048576 from (by unfold I64; omega))) ?_
  intro hq1
  refine WX.run ttOk rfl ?_
  refine WX.cases 15 rfl (fun h1 => ?_) (fun h1 => ?_)
  · skip
    have h1d := B.dt h1
    refine WX.run ttOk rfl ?_
    have hP1 : laws_FnExactCompactLog aL = true := by simp only [laws_FnExactCompactLog, h1, cond_true, cond_false]
    refine WX.ret ttOk rfl ?_
    intro w1 G bs hI hΓ
    rw [hP1]
    exact ⟨rfl, trivial⟩
  · skip
    have h1d := B.df h1
    obtain ⟨hs1, ht1⟩ := (sz_Log_R aL 1048576 hokaL (by omega) (by omega)).pos (by omega)
    have hk1 : GoT.ok n aL := GoT.okm (Nat.zero_le n) (Sz.low hokaL (show sz aL ≤ 1048576 by omega))
    refine WX.run ttOk rfl ?_
    refine WX.callF 2 (fun _ _ h => GoT.ow_rd h) (fun _ f hf => GoT.fak f hf) rfl rfl rfl rfl rfl (fun _ => rfl) rfl (fun w G bs hI hΓ => f23 w n (by omega) aL paLDurable caLDurable (hΓ.get 0 rfl) paLVolatile caLVolatile (hΓ.get 1 rfl) hk1) (fun _ => rfl) (fun _ => rfl) ?_
    rintro ⟨⟨p1, c1⟩, ⟨p2, c2⟩⟩ hq2
    refine WX.callF 6 (fun _ _ h => GoT.ow_rd h) (fun _ f hf => GoT.fak f hf) rfl rfl rfl rfl rfl (fun _ => rfl) rfl (fun w G bs hI hΓ => f32 w n (by omega) (laws_toLog aL) p1 c1 (hΓ.get 2 rfl) p2 c2 (hΓ.get 3 rfl) hq2) (fun _ => rfl) (fun _ => rfl) ?_
    rintro ⟨⟨p3, c3⟩, ⟨p4, c4⟩⟩ hq3
    refine WX.run ttOk rfl ?_
    refine WX.callF 10 (fun _ _ h => GoT.ow_rd h) (fun _ f hf => GoT.fak f hf) rfl rfl rfl rfl rfl (fun _ => rfl) rfl (fun w G bs hI hΓ => f23 w n (by omega) aL paLDurable caLDurable (hΓ.get 0 rfl) paLVolatile caLVolatile (hΓ.get 1 rfl) hk1) (fun _ => rfl) (fun _ => rfl) ?_
    rintro ⟨⟨p5, c5⟩, ⟨p6, c6⟩⟩ hq4
    refine WX.run ttOk rfl ?_
    refine WX.callF 14 (fun _ _ h => GoT.ow_rd h) (fun _ f hf => GoT.fak f hf) rfl rfl rfl rfl rfl (fun _ => rfl) rfl (fun w G bs hI hΓ => f33 w n (by omega) (laws_toLog aL) p5 c5 (hΓ.get 10 rfl) p6 c6 (hΓ.get 11 rfl) hq4) (fun _ => rfl) (fun _ => rfl) ?_
    rintro ⟨⟨p7, c7⟩, ⟨p8, c8⟩⟩ hq5
    refine WX.run ttOk rfl ?_
    refine WX.callV rfl rfl rfl rfl rfl (fun _ => rfl) rfl (fun w G bs hI hΓ => f25 w (n + 1) (by omega) (impl_CompactLog (laws_toLog aL)) p7 c7 (hΓ.get 14 rfl) p8 c8 (hΓ.get 15 rfl) (spec_CompactLog (laws_toLog aL)) p3 c3 (hΓ.get 6 rfl) p4 c4 (hΓ.get 7 rfl) hq5 hq3) ?_
    intro hq6
    refine WX.run ttOk rfl ?_
    refine WX.cases 26 rfl (fun h2 => ?_) (fun h2 => ?_)
    · skip
      have h2d := (B.nt h2)
      refine WX.run ttOk rfl ?_
      have hP2 : laws_FnExactCompactLog aL = false := by simp only [laws_FnExactCompactLog, h1, h2, cond_true, cond_false]
      refine WX.ret ttOk rfl ?_
      intro w1 G bs hI hΓ
      rw [hP2]
      exact ⟨rfl, trivial⟩
    · skip
      have h2d := (B.nf h2)
      refine WX.run ttOk rfl ?_
      refine WX.draw [] mixed ?_
      intro bs G0 hΓ0
      refine DX.takes (fuel := 3) ttOk [(0, false), (1, false)] (by kernel_rfl) rfl ?_
      refine DX.callF 2 18 (fun _ _ h => GoT.ow_rd h) (fun _ f hf => GoT.fak f hf) rfl (by kernel_rfl) rfl rfl rfl rfl rfl rfl (fun _ => rfl) rfl (fun w G bs hI hΓ => f23 w n (by omega) aL paLDurable caLDurable (hΓ.get 0 rfl) paLVolatile caLVolatile (hΓ.get 1 rfl) hk1) (fun _ => rfl) (fun _ => rfl) ?_
      rintro ⟨⟨p9, c9⟩, ⟨p10, c10⟩⟩ hq7
      refine DX.callV 3 rfl (by kernel_rfl) rfl rfl rfl rfl rfl rfl (fun _ => rfl) rfl (fun w G bs hI hΓ => f25 w n (by omega) (laws_toLog aL) p5 c5 (hΓ.get 10 rfl) p6 c6 (hΓ.get 11 rfl) (laws_toLog aL) p9 c9 (hΓ.get 18 rfl) p10 c10 (hΓ.get 19 rfl) hq4 hq7) ?_
      intro hq8
      refine DX.takes (fuel := 0) ttOk [(4, true)] (by kernel_rfl) rfl ?_
      refine DX.tail2 [] rfl rfl (by kernel_rfl) ?_
      refine WX.run ttOk rfl ?_
      refine WX.cases 31 rfl (fun h3 => ?_) (fun h3 => ?_)
      · skip
        have h3d := (B.nt h3)
        refine WX.run ttOk rfl ?_
        have hP3 : laws_FnExactCompactLog aL = false := by simp only [laws_FnExactCompactLog, h1, h2, h3, cond_true, cond_false]
        refine WX.ret ttOk rfl ?_
        intro w1 G bs hI hΓ
        rw [hP3]
        exact ⟨rfl, trivial⟩
      · skip
        have h3d := (B.nf h3)
        refine WX.run ttOk rfl ?_
        refine WX.callM [12, 13] 22 rfl (fun _ _ h => GoT.ow_rd h) (fun _ f hf => GoT.fak f hf) rfl rfl rfl rfl rfl (fun _ => rfl) rfl (fun w G bs H hI hH hs hΓ => f26 w n (by omega) (laws_toLog aL) p5 c5 p6 c6 1 H hH hs hq4 (show I64 1 from (by unfold I64; omega))) (fun _ => rfl) (fun _ => rfl) ?_
        rintro ⟨⟩ hq9
        have hl1 : ((laws_markLog (laws_toLog aL) 1).2.durable).length = ((laws_toLog aL).durable).length := hq9.2.1
        have hl2 : ((laws_markLog (laws_toLog aL) 1).2.volatile).length = ((laws_toLog aL).volatile).length := hq9.2.2
        refine WX.run ttOk rfl ?_
        refine WX.cases 37 rfl (fun h4 => ?_) (fun h4 => ?_)
        · skip
          have h4d := B.dt h4
          refine WX.run ttOk rfl ?_
          have hP4 : laws_FnExactCompactLog aL = false := by simp only [laws_FnExactCompactLog, h1, h2, h3, h4, cond_true, cond_false]
          refine WX.ret ttOk rfl ?_
          intro w1 G bs hI hΓ
          rw [hP4]
          exact ⟨rfl, trivial⟩
        · skip
          have h4d := B.df h4
          refine WX.run ttOk rfl ?_
          refine WX.der 26 (MF.rs .der p7 c7 ((impl_CompactLog (laws_toLog aL)).durable)) rfl (fun _ hΓ => (hΓ.get 16 rfl : OwSl _ _ _ _).rd) ?_
          refine WX.der 27 (MF.rs .der p8 c8 ((impl_CompactLog (laws_toLog aL)).volatile)) rfl (fun _ hΓ => (hΓ.get 17 rfl : OwSl _ _ _ _).rd) ?_
          refine WX.der 28 (MF.rs .der p3 c3 ((spec_CompactLog (laws_toLog aL)).durable)) rfl (fun _ hΓ => (hΓ.get 8 rfl : OwSl _ _ _ _).rd) ?_
          refine WX.der 29 (MF.rs .der p4 c4 ((spec_CompactLog (laws_toLog aL)).volatile)) rfl (fun _ hΓ => (hΓ.get 9 rfl : OwSl _ _ _ _).rd) ?_
          refine WX.callV rfl rfl rfl rfl rfl (fun _ => rfl) rfl (fun w G bs hI hΓ => f25 w (n + 1) (by omega) (impl_CompactLog (laws_toLog aL)) p7 c7 (hΓ.get 26 rfl) p8 c8 (hΓ.get 27 rfl) (spec_CompactLog (laws_toLog aL)) p3 c3 (hΓ.get 28 rfl) p4 c4 (hΓ.get 29 rfl) hq5 hq3) ?_
          intro hq10
          refine WX.run ttOk rfl ?_
          refine WX.cases 42 rfl (fun h5 => ?_) (fun h5 => ?_)
          · skip
            have h5d := (B.nt h5)
            exact absurd (h2.symm.trans h5) Bool.false_ne_true
          · skip
            have h5d := (B.nf h5)
            refine WX.run ttOk rfl ?_
            refine WX.callM [16, 17] 30 rfl (fun _ _ h => GoT.ow_rd h) (fun _ f hf => GoT.fak f hf) rfl rfl rfl rfl rfl (fun _ => rfl) rfl (fun w G bs H hI hH hs hΓ => f26 w (n + 1) (by omega) (impl_CompactLog (laws_toLog aL)) p7 c7 p8 c8 1 H hH hs hq5 (show I64 1 from (by unfold I64; omega))) (fun _ => rfl) (fun _ => rfl) ?_
            rintro ⟨⟩ hq11
            have hl3 : ((laws_markLog (impl_CompactLog (laws_toLog aL)) 1).2.durable).length = ((impl_CompactLog (laws_toLog aL)).durable).length := hq11.2.1
            have hl4 : ((laws_markLog (impl_CompactLog (laws_toLog aL)) 1).2.volatile).length = ((impl_CompactLog (laws_toLog aL)).volatile).length := hq11.2.2
            refine WX.run ttOk rfl ?_
            refine WX.slot 46 (y := .v (.agg #[.slice p7 (((laws_markLog (impl_CompactLog (laws_toLog aL)) 1).2.durable).length) c7, .slice p8 (((laws_markLog (impl_CompactLog (laws_toLog aL)) 1).2.volatile).length) c8])) rfl (fun _ => by show (.agg #[.slice p7 (((impl_CompactLog (laws_toLog aL)).durable).length) c7, .slice p8 (((impl_CompactLog (laws_toLog aL)).volatile).length) c8] : Value) = .agg #[.slice p7 (((laws_markLog (impl_CompactLog (laws_toLog aL)) 1).2.durable).length) c7, .slice p8 (((laws_markLog (impl_CompactLog (laws_toLog aL)) 1).2.volatile).length) c8]; simp only [hl3, hl4]) ?_
            refine WX.callV rfl rfl rfl rfl rfl (fun _ => rfl) rfl (fun w G bs hI hΓ => f34 w (n + 1) (by omega) ((laws_markLog (impl_CompactLog (laws_toLog aL)) 1).2) p7 c7 (hΓ.get 30 rfl) p8 c8 (hΓ.get 31 rfl) 1 hq11.1.2 (show I64 1 from (by unfold I64; omega))) ?_
            intro hq12
            refine WX.run ttOk rfl ?_
            refine WX.cases 50 rfl (fun h6 => ?_) (fun h6 => ?_)
            · skip
              have h6d := B.dt h6
              refine WX.run ttOk rfl ?_
              have hP5 : laws_FnExactCompactLog aL = false := by simp only [laws_FnExactCompactLog, h1, h2, h3, h4, h5, h6, cond_true, cond_false]
              refine WX.ret ttOk rfl ?_
              intro w1 G bs hI hΓ
              rw [hP5]
              exact ⟨rfl, trivial⟩
            · skip
              have h6d := B.df h6
              refine WX.run ttOk rfl ?_
              refine WX.cases 53 rfl (fun h7 => ?_) (fun h7 => ?_)
              · skip
                have h7d := B.nt' h7
                refine WX.run ttOk rfl ?_
                have hP6 : laws_FnExactCompactLog aL = false := by simp only [laws_FnExactCompactLog, h1, h2, h3, h4, h5, h6, h7, cond_true, cond_false]
                refine WX.ret ttOk rfl ?_
                intro w1 G bs hI hΓ
                rw [hP6]
                exact ⟨rfl, trivial⟩
              · skip
                have h7d := B.nf' h7
                refine WX.run ttOk rfl ?_
                refine WX.callF 34 (fun _ _ h => GoT.ow_rd h) (fun _ f hf => GoT.fak f hf) rfl rfl rfl rfl rfl (fun _ => rfl) rfl (fun w G bs hI hΓ => f23 w n (by omega) aL paLDurable caLDurable (hΓ.get 0 rfl) paLVolatile caLVolatile (hΓ.get 1 rfl) hk1) (fun _ => rfl) (fun _ => rfl) ?_
                rintro ⟨⟨p11, c11⟩, ⟨p12, c12⟩⟩ hq13
                refine WX.callF 38 (fun _ _ h => GoT.ow_rd h) (fun _ f hf => GoT.fak f hf) rfl rfl rfl rfl rfl (fun _ => rfl) rfl (fun w G bs hI hΓ => f33 w n (by omega) (laws_toLog aL) p11 c11 (hΓ.get 34 rfl) p12 c12 (hΓ.get 35 rfl) hq13) (fun _ => rfl) (fun _ => rfl) ?_
                rintro ⟨⟨p13, c13⟩, ⟨p14, c14⟩⟩ hq14
                refine WX.run ttOk rfl ?_
                refine WX.der 42 (MF.rs .der p3 c3 ((spec_CompactLog (laws_toLog aL)).durable)) rfl (fun _ hΓ => (hΓ.get 8 rfl : OwSl _ _ _ _).rd) ?_
                refine WX.der 43 (MF.rs .der p4 c4 ((spec_CompactLog (laws_toLog aL)).volatile)) rfl (fun _ hΓ => (hΓ.get 9 rfl : OwSl _ _ _ _).rd) ?_
                refine WX.callV rfl rfl rfl rfl rfl (fun _ => rfl) rfl (fun w G bs hI hΓ => f25 w (n + 1) (by omega) (impl_CompactLog (laws_toLog aL)) p13 c13 (hΓ.get 38 rfl) p14 c14 (hΓ.get 39 rfl) (spec_CompactLog (laws_toLog aL)) p3 c3 (hΓ.get 42 rfl) p4 c4 (hΓ.get 43 rfl) hq14 hq3) ?_
                intro hq15
                refine WX.run ttOk rfl ?_
                refine WX.cases 60 rfl (fun h8 => ?_) (fun h8 => ?_)
                · skip
                  have h8d := (B.nt h8)
                  exact absurd (h2.symm.trans h8) Bool.false_ne_true
                · skip
                  have h8d := (B.nf h8)
                  refine WX.run ttOk rfl ?_
                  refine WX.slot 61 (y := .v (.agg #[.slice p7 (((laws_markLog (impl_CompactLog (laws_toLog aL)) 1).2.durable).length) c7, .slice p8 (((laws_markLog (impl_CompactLog (laws_toLog aL)) 1).2.volatile).length) c8])) rfl (fun _ => by show (.agg #[.slice p7 (((impl_CompactLog (laws_toLog aL)).durable).length) c7, .slice p8 (((impl_CompactLog (laws_toLog aL)).volatile).length) c8] : Value) = .agg #[.slice p7 (((laws_markLog (impl_CompactLog (laws_toLog aL)) 1).2.durable).length) c7, .slice p8 (((laws_markLog (impl_CompactLog (laws_toLog aL)) 1).2.volatile).length) c8]; simp only [hl3, hl4]) ?_
                  refine WX.callV rfl rfl rfl rfl rfl (fun _ => rfl) rfl (fun w G bs hI hΓ => f34 w (n + 1) (by omega) ((laws_markLog (impl_CompactLog (laws_toLog aL)) 1).2) p7 c7 (hΓ.get 30 rfl) p8 c8 (hΓ.get 31 rfl) 1 hq11.1.2 (show I64 1 from (by unfold I64; omega))) ?_
                  intro hq16
                  refine WX.run ttOk rfl ?_
                  refine WX.cases 65 rfl (fun h9 => ?_) (fun h9 => ?_)
                  · skip
                    have h9d := B.dt h9
                    exact absurd (h6.symm.trans h9) Bool.false_ne_true
                  · skip
                    have h9d := B.df h9
                    refine WX.run ttOk rfl ?_
                    refine WX.cases 68 rfl (fun h10 => ?_) (fun h10 => ?_)
                    · skip
                      have h10d := B.nt' h10
                      exact absurd (h7.symm.trans h10) Bool.false_ne_true
                    · skip
                      have h10d := B.nf' h10
                      refine WX.run ttOk rfl ?_
                      have hP7 : laws_FnExactCompactLog aL = true := by simp only [laws_FnExactCompactLog, h1, h2, h3, h4, h5, h6, h7, h8, h9, h10, cond_true, cond_false]
                      refine WX.ret ttOk rfl ?_
                      intro w1 G bs hI hΓ
                      rw [hP7]
                      exact ⟨rfl, trivial⟩
theorem f7 (w : World) (n : Nat) (hn : n + 1 ≤ 9) (aS : Repository) (paSLogDurable : Option Addr) (caSLogDurable : Nat) (hpaSLogDurable : RdSl (hp w) paSLogDurable caSLogDurable aS.log.durable) (paSLogVolatile : Option Addr) (caSLogVolatile : Nat) (hpaSLogVolatile : RdSl (hp w) paSLogVolatile caSLogVolatile aS.log.volatile) (hokaS : GoT.ok 10 aS) :
    Does Try.prog 7 #[.agg #[.slice paSLogDurable ((aS.log.durable).length) caSLogDurable, .slice paSLogVolatile ((aS.log.volatile).length) caSLogVolatile, .int .i64 (aS.quota)]] w emp (fun (rv : Value) (_ : World) => rv = .bool (laws_FnExactRepositoryNames aS) ∧ True) := by
  have hbP := bd_pos n
  have hbS0 := bd_succ (n := n) (by omega)
  have hbB := bd_big (n := (n + 1)) (by omega)
  have hbM := bd_mono (show n ≤ n + 1 by omega)
  refine WX.enter (tt := tt) (Γ := [(0, MF.rs .stb paSLogDurable caSLogDurable aS.log.durable), (1, MF.rs .stb paSLogVolatile caSLogVolatile aS.log.volatile)]) Try.func7 rfl (by kernel_rfl) rfl (allS_cons rfl hpaSLogDurable (allS_cons rfl hpaSLogVolatile allS_nil)) ?_
  refine WX.run ttOk rfl ?_
  refine WX.callV rfl rfl rfl rfl rfl (fun _ => rfl) rfl (fun w G bs hI hΓ => f27 w 10 aS paSLogDurable caSLogDurable (hΓ.get 0 rfl) paSLogVolatile caSLogVolatile (hΓ.get 1 rfl) 1048576 hokaS (show I64 1048576 from (by unfold I64; omega))) ?_
  intro hq1
  refine WX.run ttOk rfl ?_
  refine WX.cases 15 rfl (fun h1 => ?_) (fun h1 => ?_)
  · skip
    have h1d := B.dt h1
    refine WX.run ttOk rfl ?_
    have hP1 : laws_FnExactRepositoryNames aS = true := by simp only [laws_FnExactRepositoryNames, h1, cond_true, cond_false]
    refine WX.ret ttOk rfl ?_
    intro w1 G bs hI hΓ
    rw [hP1]
    exact ⟨rfl, trivial⟩
  · skip
    have h1d := B.df h1
    obtain ⟨hs1, ht1⟩ := (sz_Repository_R aS 1048576 hokaS (by omega) (by omega)).pos (by omega)
    have hk1 : GoT.ok n aS := GoT.okm (Nat.zero_le n) (Sz.low hokaS (show sz aS ≤ 1048576 by omega))
    refine WX.run ttOk rfl ?_
    refine WX.callF 2 (fun _ _ h => GoT.ow_rd h) (fun _ f hf => GoT.fak f hf) rfl rfl rfl rfl rfl (fun _ => rfl) rfl (fun w G bs hI hΓ => f29 w n (by omega) aS paSLogDurable caSLogDurable (hΓ.get 0 rfl) paSLogVolatile caSLogVolatile (hΓ.get 1 rfl) hk1) (fun _ => rfl) (fun _ => rfl) ?_
    rintro ⟨⟨⟨p1, c1⟩, ⟨p2, c2⟩⟩, ⟨⟩⟩ hq2
    refine WX.callF 6 (fun _ _ h => GoT.ow_rd h) (fun _ f hf => GoT.fak f hf) rfl rfl rfl rfl rfl (fun _ => rfl) rfl (fun w G bs hI hΓ => f35 w n (by omega) (laws_toRepository aS) p1 c1 (hΓ.get 2 rfl) p2 c2 (hΓ.get 3 rfl) hq2) (fun _ => rfl) (fun _ => rfl) ?_
    rintro ⟨p3, c3⟩ hq3
    refine WX.run ttOk rfl ?_
    refine WX.callF 8 (fun _ _ h => GoT.ow_rd h) (fun _ f hf => GoT.fak f hf) rfl rfl rfl rfl rfl (fun _ => rfl) rfl (fun w G bs hI hΓ => f29 w n (by omega) aS paSLogDurable caSLogDurable (hΓ.get 0 rfl) paSLogVolatile caSLogVolatile (hΓ.get 1 rfl) hk1) (fun _ => rfl) (fun _ => rfl) ?_
    rintro ⟨⟨⟨p4, c4⟩, ⟨p5, c5⟩⟩, ⟨⟩⟩ hq4
    refine WX.run ttOk rfl ?_
    refine WX.callF 12 (fun _ _ h => GoT.ow_rd h) (fun _ f hf => GoT.fak f hf) rfl rfl rfl rfl rfl (fun _ => rfl) rfl (fun w G bs hI hΓ => f36 w n (by omega) (laws_toRepository aS) p4 c4 (hΓ.get 8 rfl) p5 c5 (hΓ.get 9 rfl) (And.intro (ok_Repository hq4).1 (ok_Repository hq2).2)) (fun _ => rfl) (fun _ => rfl) ?_
    rintro ⟨p6, c6⟩ hq5
    refine WX.run ttOk rfl ?_
    refine WX.callV rfl rfl rfl rfl rfl (fun _ => rfl) rfl (fun w G bs hI hΓ => f37 w (n + 1) (by omega) (impl_RepositoryNames (laws_toRepository aS)) p6 c6 (hΓ.get 12 rfl) (spec_RepositoryNames (laws_toRepository aS)) p3 c3 (hΓ.get 6 rfl) hq5 hq3) ?_
    intro hq6
    refine WX.run ttOk rfl ?_
    refine WX.cases 26 rfl (fun h2 => ?_) (fun h2 => ?_)
    · skip
      have h2d := (B.nt h2)
      refine WX.run ttOk rfl ?_
      have hP2 : laws_FnExactRepositoryNames aS = false := by simp only [laws_FnExactRepositoryNames, h1, h2, cond_true, cond_false]
      refine WX.ret ttOk rfl ?_
      intro w1 G bs hI hΓ
      rw [hP2]
      exact ⟨rfl, trivial⟩
    · skip
      have h2d := (B.nf h2)
      refine WX.run ttOk rfl ?_
      refine WX.draw [] mixed ?_
      intro bs G0 hΓ0
      refine DX.takes (fuel := 3) ttOk [(0, false), (1, false)] (by kernel_rfl) rfl ?_
      refine DX.callF 2 14 (fun _ _ h => GoT.ow_rd h) (fun _ f hf => GoT.fak f hf) rfl (by kernel_rfl) rfl rfl rfl rfl rfl rfl (fun _ => rfl) rfl (fun w G bs hI hΓ => f29 w n (by omega) aS paSLogDurable caSLogDurable (hΓ.get 0 rfl) paSLogVolatile caSLogVolatile (hΓ.get 1 rfl) hk1) (fun _ => rfl) (fun _ => rfl) ?_
      rintro ⟨⟨⟨p7, c7⟩, ⟨p8, c8⟩⟩, ⟨⟩⟩ hq7
      refine DX.callV 3 rfl (by kernel_rfl) rfl rfl rfl rfl rfl rfl (fun _ => rfl) rfl (fun w G bs hI hΓ => f31 w n (by omega) (laws_toRepository aS) p4 c4 (hΓ.get 8 rfl) p5 c5 (hΓ.get 9 rfl) (laws_toRepository aS) p7 c7 (hΓ.get 14 rfl) p8 c8 (hΓ.get 15 rfl) (And.intro (ok_Repository hq4).1 (ok_Repository hq2).2) (And.intro (ok_Repository hq7).1 (ok_Repository hq2).2)) ?_
      intro hq8
      refine DX.takes (fuel := 0) ttOk [(4, true)] (by kernel_rfl) rfl ?_
      refine DX.tail2 [] rfl rfl (by kernel_rfl) ?_
      refine WX.run ttOk rfl ?_
      refine WX.cases 31 rfl (fun h3 => ?_) (fun h3 => ?_)
      · skip
        have h3d := (B.nt h3)
        refine WX.run ttOk rfl ?_
        have hP3 : laws_FnExactRepositoryNames aS = false := by simp only [laws_FnExactRepositoryNames, h1, h2, h3, cond_true, cond_false]
        refine WX.ret ttOk rfl ?_
        intro w1 G bs hI hΓ
        rw [hP3]
        exact ⟨rfl, trivial⟩
      · skip
        have h3d := (B.nf h3)
        refine WX.run ttOk rfl ?_
        refine WX.callM [10, 11] 18 rfl (fun _ _ h => GoT.ow_rd h) (fun _ f hf => GoT.fak f hf) rfl rfl rfl rfl rfl (fun _ => rfl) rfl (fun w G bs H hI hH hs hΓ => f38 w n (by omega) (laws_toRepository aS) p4 c4 p5 c5 1 H hH hs (And.intro (ok_Repository hq4).1 (ok_Repository hq2).2) (show I64 1 from (by unfold I64; omega))) (fun _ => rfl) (fun _ => rfl) ?_
        rintro ⟨⟩ hq9
        have hl1 : ((laws_markRepository (laws_toRepository aS) 1).2.log.durable).length = ((laws_toRepository aS).log.durable).length := hq9.2.1
        have hl2 : ((laws_markRepository (laws_toRepository aS) 1).2.log.volatile).length = ((laws_toRepository aS).log.volatile).length := hq9.2.2.1
        refine WX.run ttOk rfl ?_
        refine WX.cases 37 rfl (fun h4 => ?_) (fun h4 => ?_)
        · skip
          have h4d := B.dt h4
          refine WX.run ttOk rfl ?_
          have hP4 : laws_FnExactRepositoryNames aS = false := by simp only [laws_FnExactRepositoryNames, h1, h2, h3, h4, cond_true, cond_false]
          refine WX.ret ttOk rfl ?_
          intro w1 G bs hI hΓ
          rw [hP4]
          exact ⟨rfl, trivial⟩
        · skip
          have h4d := B.df h4
          refine WX.run ttOk rfl ?_
          refine WX.der 22 (MF.rs .der p6 c6 (impl_RepositoryNames (laws_toRepository aS))) rfl (fun _ hΓ => (hΓ.get 13 rfl : OwSl _ _ _ _).rd) ?_
          refine WX.der 23 (MF.rs .der p3 c3 (spec_RepositoryNames (laws_toRepository aS))) rfl (fun _ hΓ => (hΓ.get 7 rfl : OwSl _ _ _ _).rd) ?_
          refine WX.callV rfl rfl rfl rfl rfl (fun _ => rfl) rfl (fun w G bs hI hΓ => f37 w (n + 1) (by omega) (impl_RepositoryNames (laws_toRepository aS)) p6 c6 (hΓ.get 22 rfl) (spec_RepositoryNames (laws_toRepository aS)) p3 c3 (hΓ.get 23 rfl) hq5 hq3) ?_
          intro hq10
          refine WX.run ttOk rfl ?_
          refine WX.cases 42 rfl (fun h5 => ?_) (fun h5 => ?_)
          · skip
            have h5d := (B.nt h5)
            exact absurd (h2.symm.trans h5) Bool.false_ne_true
          · skip
            have h5d := (B.nf h5)
            refine WX.run ttOk rfl ?_
            refine WX.callM [13] 24 rfl (fun _ _ h => GoT.ow_rd h) (fun _ f hf => GoT.fak f hf) rfl rfl rfl rfl rfl (fun _ => rfl) rfl (fun w G bs H hI hH hs hΓ => f39 w (n + 1) (by omega) (impl_RepositoryNames (laws_toRepository aS)) p6 c6 1 H hH hs hq5 (show I64 1 from (by unfold I64; omega))) (fun _ => rfl) (fun _ => rfl) ?_
            rintro ⟨⟩ hq11
            have hl3 : ((laws_markNameS (impl_RepositoryNames (laws_toRepository aS)) 1).2).length = ((impl_RepositoryNames (laws_toRepository aS))).length := hq11.2
            refine WX.run ttOk rfl ?_
            refine WX.slot 46 (y := .v (.slice p6 (((laws_markNameS (impl_RepositoryNames (laws_toRepository aS)) 1).2).length) c6)) rfl (fun _ => by show (.slice p6 (((impl_RepositoryNames (laws_toRepository aS))).length) c6 : Value) = .slice p6 (((laws_markNameS (impl_RepositoryNames (laws_toRepository aS)) 1).2).length) c6; simp only [hl3]) ?_
            refine WX.callV rfl rfl rfl rfl rfl (fun _ => rfl) rfl (fun w G bs hI hΓ => f40 w (n + 1) (by omega) ((laws_markNameS (impl_RepositoryNames (laws_toRepository aS)) 1).2) p6 c6 (hΓ.get 24 rfl) 1 hq11.1.2 (show I64 1 from (by unfold I64; omega))) ?_
            intro hq12
            refine WX.run ttOk rfl ?_
            refine WX.cases 50 rfl (fun h6 => ?_) (fun h6 => ?_)
            · skip
              have h6d := B.dt h6
              refine WX.run ttOk rfl ?_
              have hP5 : laws_FnExactRepositoryNames aS = false := by simp only [laws_FnExactRepositoryNames, h1, h2, h3, h4, h5, h6, cond_true, cond_false]
              refine WX.ret ttOk rfl ?_
              intro w1 G bs hI hΓ
              rw [hP5]
              exact ⟨rfl, trivial⟩
            · skip
              have h6d := B.df h6
              refine WX.run ttOk rfl ?_
              refine WX.cases 53 rfl (fun h7 => ?_) (fun h7 => ?_)
              · skip
                have h7d := B.nt' h7
                refine WX.run ttOk rfl ?_
                have hP6 : laws_FnExactRepositoryNames aS = false := by simp only [laws_FnExactRepositoryNames, h1, h2, h3, h4, h5, h6, h7, cond_true, cond_false]
                refine WX.ret ttOk rfl ?_
                intro w1 G bs hI hΓ
                rw [hP6]
                exact ⟨rfl, trivial⟩
              · skip
                have h7d := B.nf' h7
                refine WX.run ttOk rfl ?_
                refine WX.callF 26 (fun _ _ h => GoT.ow_rd h) (fun _ f hf => GoT.fak f hf) rfl rfl rfl rfl rfl (fun _ => rfl) rfl (fun w G bs hI hΓ => f29 w n (by omega) aS paSLogDurable caSLogDurable (hΓ.get 0 rfl) paSLogVolatile caSLogVolatile (hΓ.get 1 rfl) hk1) (fun _ => rfl) (fun _ => rfl) ?_
                rintro ⟨⟨⟨p9, c9⟩, ⟨p10, c10⟩⟩, ⟨⟩⟩ hq13
                refine WX.callF 30 (fun _ _ h => GoT.ow_rd h) (fun _ f hf => GoT.fak f hf) rfl rfl rfl rfl rfl (fun _ => rfl) rfl (fun w G bs hI hΓ => f36 w n (by omega) (laws_toRepository aS) p9 c9 (hΓ.get 26 rfl) p10 c10 (hΓ.get 27 rfl) (And.intro (ok_Repository hq13).1 (ok_Repository hq2).2)) (fun _ => rfl) (fun _ => rfl) ?_
                rintro ⟨p11, c11⟩ hq14
                refine WX.run ttOk rfl ?_
                refine WX.der 32 (MF.rs .der p3 c3 (spec_RepositoryNames (laws_toRepository aS))) rfl (fun _ hΓ => (hΓ.get 7 rfl : OwSl _ _ _ _).rd) ?_
                refine WX.callV rfl rfl rfl rfl rfl (fun _ => rfl) rfl (fun w G bs hI hΓ => f37 w (n + 1) (by omega) (impl_RepositoryNames (laws_toRepository aS)) p11 c11 (hΓ.get 30 rfl) (spec_RepositoryNames (laws_toRepository aS)) p3 c3 (hΓ.get 32 rfl) hq14 hq3) ?_
                intro hq15
                refine WX.run ttOk rfl ?_
                refine WX.cases 60 rfl (fun h8 => ?_) (fun h8 => ?_)
                · skip
                  have h8d := (B.nt h8)
                  exact absurd (h2.symm.trans h8) Bool.false_ne_true
                · skip
                  have h8d := (B.nf h8)
                  refine WX.run ttOk rfl ?_
                  refine WX.slot 61 (y := .v (.slice p6 (((laws_markNameS (impl_RepositoryNames (laws_toRepository aS)) 1).2).length) c6)) rfl (fun _ => by show (.slice p6 (((impl_RepositoryNames (laws_toRepository aS))).length) c6 : Value) = .slice p6 (((laws_markNameS (impl_RepositoryNames (laws_toRepository aS)) 1).2).length) c6; simp only [hl3]) ?_
                  refine WX.callV rfl rfl rfl rfl rfl (fun _ => rfl) rfl (fun w G bs hI hΓ => f40 w (n + 1) (by omega) ((laws_markNameS (impl_RepositoryNames (laws_toRepository aS)) 1).2) p6 c6 (hΓ.get 24 rfl) 1 hq11.1.2 (show I64 1 from (by unfold I64; omega))) ?_
                  intro hq16
                  refine WX.run ttOk rfl ?_
                  refine WX.cases 65 rfl (fun h9 => ?_) (fun h9 => ?_)
                  · skip
                    have h9d := B.dt h9
                    exact absurd (h6.symm.trans h9) Bool.false_ne_true
                  · skip
                    have h9d := B.df h9
                    refine WX.run ttOk rfl ?_
                    refine WX.cases 68 rfl (fun h10 => ?_) (fun h10 => ?_)
                    · skip
                      have h10d := B.nt' h10
                      exact absurd (h7.symm.trans h10) Bool.false_ne_true
                    · skip
                      have h10d := B.nf' h10
                      refine WX.run ttOk rfl ?_
                      have hP7 : laws_FnExactRepositoryNames aS = true := by simp only [laws_FnExactRepositoryNames, h1, h2, h3, h4, h5, h6, h7, h8, h9, h10, cond_true, cond_false]
                      refine WX.ret ttOk rfl ?_
                      intro w1 G bs hI hΓ
                      rw [hP7]
                      exact ⟨rfl, trivial⟩
theorem f8 (w : World) (n : Nat) (hn : n + 1 ≤ 9) (aS : Repository) (paSLogDurable : Option Addr) (caSLogDurable : Nat) (hpaSLogDurable : RdSl (hp w) paSLogDurable caSLogDurable aS.log.durable) (paSLogVolatile : Option Addr) (caSLogVolatile : Nat) (hpaSLogVolatile : RdSl (hp w) paSLogVolatile caSLogVolatile aS.log.volatile) (aN : Name) (paN : Option Addr) (caN : Nat) (hpaN : RdSl (hp w) paN caN aN.parts) (hokaS : GoT.ok 10 aS) (hokaN : GoT.ok 10 aN) :
    Does Try.prog 8 #[.agg #[.slice paSLogDurable ((aS.log.durable).length) caSLogDurable, .slice paSLogVolatile ((aS.log.volatile).length) caSLogVolatile, .int .i64 (aS.quota)], .agg #[.slice paN ((aN.parts).length) caN]] w emp (fun (rv : Value) (_ : World) => rv = .bool (laws_FnExactLookupData aS aN) ∧ True) := by
  have hbP := bd_pos n
  have hbS0 := bd_succ (n := n) (by omega)
  have hbB := bd_big (n := (n + 1)) (by omega)
  have hbM := bd_mono (show n ≤ n + 1 by omega)
  refine WX.enter (tt := tt) (Γ := [(0, MF.rs .stb paSLogDurable caSLogDurable aS.log.durable), (1, MF.rs .stb paSLogVolatile caSLogVolatile aS.log.volatile), (2, MF.rs .stb paN caN aN.parts)]) Try.func8 rfl (by kernel_rfl) rfl (allS_cons rfl hpaSLogDurable (allS_cons rfl hpaSLogVolatile (allS_cons rfl hpaN allS_nil))) ?_
  refine WX.run ttOk rfl ?_
  refine WX.callV rfl rfl rfl rfl rfl (fun _ => rfl) rfl (fun w G bs hI hΓ => f27 w 10 aS paSLogDurable caSLogDurable (hΓ.get 0 rfl) paSLogVolatile caSLogVolatile (hΓ.get 1 rfl) 1048576 hokaS (show I64 1048576 from (by unfold I64; omega))) ?_
  intro hq1
  refine WX.run ttOk rfl ?_
  refine WX.cases 21 rfl (fun h1 => ?_) (fun h1 => ?_)
  · skip
    have h1d := B.dt h1
    refine WX.run ttOk rfl ?_
    have hP1 : laws_FnExactLookupData aS aN = true := by simp only [laws_FnExactLookupData, h1, cond_true, cond_false]
    refine WX.ret ttOk rfl ?_
    intro w1 G bs hI hΓ
    rw [hP1]
    exact ⟨rfl, trivial⟩
  · skip
    have h1d := B.df h1
    obtain ⟨hs1, ht1⟩ := (sz_Repository_R aS 1048576 hokaS (by omega) (by omega)).pos (by omega)
    have hk1 : GoT.ok n aS := GoT.okm (Nat.zero_le n) (Sz.low hokaS (show sz aS ≤ 1048576 by omega))
    refine WX.run ttOk rfl ?_
    refine WX.callV rfl rfl rfl rfl rfl (fun _ => rfl) rfl (fun w G bs hI hΓ => f41 w 10 aN paN caN (hΓ.get 2 rfl) (laws_szRepository aS 1048576) hokaN hq1) ?_
    intro hq2
    refine WX.run ttOk rfl ?_
    refine WX.cases 26 rfl (fun h2 => ?_) (fun h2 => ?_)
    · skip
      have h2d := B.dt h2
      refine WX.run ttOk rfl ?_
      have hP2 : laws_FnExactLookupData aS aN = true := by simp only [laws_FnExactLookupData, h1, h2, cond_true, cond_false]
      refine WX.ret ttOk rfl ?_
      intro w1 G bs hI hΓ
      rw [hP2]
      exact ⟨rfl, trivial⟩
    · skip
      have h2d := B.df h2
      obtain ⟨hs2, ht2⟩ := (sz_Name_R aN (laws_szRepository aS 1048576) hokaN (by omega) (by omega)).pos (by omega)
      have hk2 : GoT.ok n aN := GoT.okm (Nat.zero_le n) (Sz.low hokaN (show sz aN ≤ 1048576 by omega))
      refine WX.run ttOk rfl ?_
      refine WX.draw [9, 10] mixed ?_
      intro bs G0 hΓ0
      refine DX.takes (fuel := 9) ttOk [(0, false), (2, false)] (by kernel_rfl) rfl ?_
      refine DX.pend 8 6 ⟨65, [.slice none (0) 0, .slice none (0) 0, .slice none (0) 0, .int .i64 (0), .int .i64 (0)]⟩ ?_
      refine DXA.callF 1 3 (fun _ _ h => GoT.ow_rd h) (fun _ f hf => GoT.fak f hf) ttOk rfl rfl rfl rfl rfl rfl rfl (by kernel_rfl) (by kernel_rfl) (by kernel_rfl) rfl rfl rfl rfl rfl rfl rfl rfl rfl rfl (fun _ => rfl) rfl rfl (fun w G bs hI hΓ => f29 w n (by omega) aS paSLogDurable caSLogDurable (hΓ.get 0 rfl) paSLogVolatile caSLogVolatile (hΓ.get 1 rfl) hk1) (fun _ => rfl) (fun _ => rfl) ?_
      rintro ⟨⟨⟨p1, c1⟩, ⟨p2, c2⟩⟩, ⟨⟩⟩ hq3
      refine DXA.callF 3 7 (fun _ _ h => GoT.ow_rd h) (fun _ f hf => GoT.fak f hf) ttOk rfl rfl rfl rfl rfl rfl rfl (by kernel_rfl) (by kernel_rfl) (by kernel_rfl) rfl rfl rfl rfl rfl rfl rfl rfl rfl rfl (fun _ => rfl) rfl rfl (fun w G bs hI hΓ => f43 w n (by omega) aN paN caN (hΓ.get 2 rfl) hk2) (fun _ => rfl) (fun _ => rfl) ?_
      rintro ⟨p3, c3⟩ hq4
      refine DXA.callF 4 9 (fun _ _ h => GoT.ow_rd h) (fun _ f hf => GoT.fak f hf) ttOk rfl rfl rfl rfl rfl rfl rfl (by kernel_rfl) (by kernel_rfl) (by kernel_rfl) rfl rfl rfl rfl rfl rfl rfl rfl rfl rfl (fun _ => rfl) rfl rfl (fun w G bs hI hΓ => f42 w n (by omega) (laws_toRepository aS) p1 c1 (hΓ.get 3 rfl) p2 c2 (hΓ.get 4 rfl) (laws_toName aN) p3 c3 (hΓ.get 7 rfl) hq3 hq4) (fun _ => rfl) (fun _ => rfl) ?_
      rintro ⟨⟨p4, c4⟩, ⟨p5, c5⟩, ⟨p6, c6⟩, ⟨⟩, ⟨⟩⟩ hq5
      refine DXA.take 5 (by kernel_rfl) (by kernel_rfl) rfl rfl rfl rfl rfl rfl rfl rfl (looksP_pure ttOk rfl) ?_
      refine DXA.take 6 (by kernel_rfl) (by kernel_rfl) rfl rfl rfl rfl rfl rfl rfl rfl (looksP_pure ttOk rfl) ?_
      refine DXA.take 7 (by kernel_rfl) (by kernel_rfl) rfl rfl rfl rfl rfl rfl rfl rfl (looksP_pure ttOk rfl) ?_
      refine DXA.tail [9, 10] ttOk rfl rfl rfl rfl rfl rfl (by kernel_rfl) rfl rfl (by kernel_rfl) ?_
      refine WX.run ttOk rfl ?_
      refine WX.callF 15 (fun _ _ h => GoT.ow_rd h) (fun _ f hf => GoT.fak f hf) rfl rfl rfl rfl rfl (fun _ => rfl) rfl (fun w G bs hI hΓ => f29 w n (by omega) aS paSLogDurable caSLogDurable (hΓ.get 0 rfl) paSLogVolatile caSLogVolatile (hΓ.get 1 rfl) hk1) (fun _ => rfl) (fun _ => rfl) ?_
      rintro ⟨⟨⟨p7, c7⟩, ⟨p8, c8⟩⟩, ⟨⟩⟩ hq6
      refine WX.run ttOk rfl ?_
      refine WX.callF 19 (fun _ _ h => GoT.ow_rd h) (fun _ f hf => GoT.fak f hf) rfl rfl rfl rfl rfl (fun _ => rfl) rfl (fun w G bs hI hΓ => f43 w n (by omega) aN paN caN (hΓ.get 2 rfl) hk2) (fun _ => rfl) (fun _ => rfl) ?_
      rintro ⟨p9, c9⟩ hq7
      refine WX.run ttOk rfl ?_
      refine WX.callF 21 (fun _ _ h => GoT.ow_rd h) (fun _ f hf => GoT.fak f hf) rfl rfl rfl rfl rfl (fun _ => rfl) rfl (fun w G bs hI hΓ => f44 w n (by omega) (laws_toRepository aS) p7 c7 (hΓ.get 15 rfl) p8 c8 (hΓ.get 16 rfl) (laws_toName aN) p9 c9 (hΓ.get 19 rfl) (And.intro (ok_Repository hq6).1 (ok_Repository hq3).2) hq7) (fun _ => rfl) (fun _ => rfl) ?_
      rintro ⟨⟨p10, c10⟩, ⟨p11, c11⟩, ⟨p12, c12⟩, ⟨⟩, ⟨⟩⟩ hq8
      refine WX.run ttOk rfl ?_
      refine WX.callV rfl rfl rfl rfl rfl (fun _ => rfl) rfl (fun w G bs hI hΓ => f45 w (n + 1) (by omega) ((impl_LookupData (laws_toRepository aS) (laws_toName aN)).1) p10 c10 (hΓ.get 21 rfl) p11 c11 (hΓ.get 22 rfl) p12 c12 (hΓ.get 23 rfl) ((spec_LookupData (laws_toRepository aS) (laws_toName aN)).1) p4 c4 (hΓ.get 9 rfl) p5 c5 (hΓ.get 10 rfl) p6 c6 (hΓ.get 11 rfl) hq8 hq5) ?_
      intro hq9
      refine WX.run ttOk rfl ?_
      refine WX.cases 49 rfl (fun h3 => ?_) (fun h3 => ?_)
      · skip
        have h3d := (B.nt h3)
        refine WX.run ttOk rfl ?_
        have hP3 : laws_FnExactLookupData aS aN = false := by simp only [laws_FnExactLookupData, h1, h2, h3, cond_true, cond_false]
        refine WX.ret ttOk rfl ?_
        intro w1 G bs hI hΓ
        rw [hP3]
        exact ⟨rfl, trivial⟩
      · skip
        have h3d := (B.nf h3)
        refine WX.run ttOk rfl ?_
        refine WX.see rfl rfl rfl (fun _ hΓ => looks_beq ttOk rfl rfl rfl rfl rfl rfl) ?_
        refine WX.run ttOk rfl ?_
        refine WX.cases 53 rfl (fun h4 => ?_) (fun h4 => ?_)
        · skip
          have h4d := (B.nt h4)
          refine WX.run ttOk rfl ?_
          have hP4 : laws_FnExactLookupData aS aN = false := by simp only [laws_FnExactLookupData, h1, h2, h3, h4, cond_true, cond_false]
          refine WX.ret ttOk rfl ?_
          intro w1 G bs hI hΓ
          rw [hP4]
          exact ⟨rfl, trivial⟩
        · skip
          have h4d := (B.nf h4)
          refine WX.run ttOk rfl ?_
          refine WX.draw [] mixed ?_
          intro bs G0 hΓ0
          refine DX.takes (fuel := 3) ttOk [(0, false), (1, false)] (by kernel_rfl) rfl ?_
          refine DX.callF 2 27 (fun _ _ h => GoT.ow_rd h) (fun _ f hf => GoT.fak f hf) rfl (by kernel_rfl) rfl rfl rfl rfl rfl rfl (fun _ => rfl) rfl (fun w G bs hI hΓ => f29 w n (by omega) aS paSLogDurable caSLogDurable (hΓ.get 0 rfl) paSLogVolatile caSLogVolatile (hΓ.get 1 rfl) hk1) (fun _ => rfl) (fun _ => rfl) ?_
          rintro ⟨⟨⟨p13, c13⟩, ⟨p14, c14⟩⟩, ⟨⟩⟩ hq10
          refine DX.callV 3 rfl (by kernel_rfl) rfl rfl rfl rfl rfl rfl (fun _ => rfl) rfl (fun w G bs hI hΓ => f31 w n (by omega) (laws_toRepository aS) p7 c7 (hΓ.get 15 rfl) p8 c8 (hΓ.get 16 rfl) (laws_toRepository aS) p13 c13 (hΓ.get 27 rfl) p14 c14 (hΓ.get 28 rfl) (And.intro (ok_Repository hq6).1 (ok_Repository hq3).2) (And.intro (ok_Repository hq10).1 (ok_Repository hq3).2)) ?_
          intro hq11
          refine DX.takes (fuel := 0) ttOk [(4, true)] (by kernel_rfl) rfl ?_
          refine DX.tail2 [] rfl rfl (by kernel_rfl) ?_
          refine WX.run ttOk rfl ?_
          refine WX.cases 58 rfl (fun h5 => ?_) (fun h5 => ?_)
          · skip
            have h5d := (B.nt h5)
            refine WX.run ttOk rfl ?_
            have hP5 : laws_FnExactLookupData aS aN = false := by simp only [laws_FnExactLookupData, h1, h2, h3, h4, h5, cond_true, cond_false]
            refine WX.ret ttOk rfl ?_
            intro w1 G bs hI hΓ
            rw [hP5]
            exact ⟨rfl, trivial⟩
          · skip
            have h5d := (B.nf h5)
            refine WX.run ttOk rfl ?_
            refine WX.draw [] mixed ?_
            intro bs G0 hΓ0
            refine DX.takes (fuel := 3) ttOk [(0, false), (1, false)] (by kernel_rfl) rfl ?_
            refine DX.callF 2 31 (fun _ _ h => GoT.ow_rd h) (fun _ f hf => GoT.fak f hf) rfl (by kernel_rfl) rfl rfl rfl rfl rfl rfl (fun _ => rfl) rfl (fun w G bs hI hΓ => f43 w n (by omega) aN paN caN (hΓ.get 2 rfl) hk2) (fun _ => rfl) (fun _ => rfl) ?_
            rintro ⟨p15, c15⟩ hq12
            refine DX.callV 3 rfl (by kernel_rfl) rfl rfl rfl rfl rfl rfl (fun _ => rfl) rfl (fun w G bs hI hΓ => f46 w n (by omega) (laws_toName aN) p9 c9 (hΓ.get 19 rfl) (laws_toName aN) p15 c15 (hΓ.get 31 rfl) hq7 hq12) ?_
            intro hq13
            refine DX.takes (fuel := 0) ttOk [(4, true)] (by kernel_rfl) rfl ?_
            refine DX.tail2 [] rfl rfl (by kernel_rfl) ?_
            refine WX.run ttOk rfl ?_
            refine WX.cases 63 rfl (fun h6 => ?_) (fun h6 => ?_)
            · skip
              have h6d := (B.nt h6)
              refine WX.run ttOk rfl ?_
              have hP6 : laws_FnExactLookupData aS aN = false := by simp only [laws_FnExactLookupData, h1, h2, h3, h4, h5, h6, cond_true, cond_false]
              refine WX.ret ttOk rfl ?_
              intro w1 G bs hI hΓ
              rw [hP6]
              exact ⟨rfl, trivial⟩
            · skip
              have h6d := (B.nf h6)
              refine WX.run ttOk rfl ?_
              refine WX.callM [17, 18] 33 rfl (fun _ _ h => GoT.ow_rd h) (fun _ f hf => GoT.fak f hf) rfl rfl rfl rfl rfl (fun _ => rfl) rfl (fun w G bs H hI hH hs hΓ => f38 w n (by omega) (laws_toRepository aS) p7 c7 p8 c8 1 H hH hs (And.intro (ok_Repository hq6).1 (ok_Repository hq3).2) (show I64 1 from (by unfold I64; omega))) (fun _ => rfl) (fun _ => rfl) ?_
              rintro ⟨⟩ hq14
              have hl1 : ((laws_markRepository (laws_toRepository aS) 1).2.log.durable).length = ((laws_toRepository aS).log.durable).length := hq14.2.1
              have hl2 : ((laws_markRepository (laws_toRepository aS) 1).2.log.volatile).length = ((laws_toRepository aS).log.volatile).length := hq14.2.2.1
              refine WX.run ttOk rfl ?_
              refine WX.callM [20] 37 rfl (fun _ _ h => GoT.ow_rd h) (fun _ f hf => GoT.fak f hf) rfl rfl rfl rfl rfl (fun _ => rfl) rfl (fun w G bs H hI hH hs hΓ => f47 w n (by omega) (laws_toName aN) p9 c9 ((laws_markRepository (laws_toRepository aS) 1).1) H hH hs hq7 hq14.1.1) (fun _ => rfl) (fun _ => rfl) ?_
              rintro ⟨⟩ hq15
              have hl3 : ((laws_markName (laws_toName aN) ((laws_markRepository (laws_toRepository aS) 1).1)).2.parts).length = ((laws_toName aN).parts).length := hq15.2
              refine WX.run ttOk rfl ?_
              refine WX.cases 72 rfl (fun h7 => ?_) (fun h7 => ?_)
              · skip
                have h7d := B.dt h7
                refine WX.run ttOk rfl ?_
                have hP7 : laws_FnExactLookupData aS aN = false := by simp only [laws_FnExactLookupData, h1, h2, h3, h4, h5, h6, h7, cond_true, cond_false]
                refine WX.ret ttOk rfl ?_
                intro w1 G bs hI hΓ
                rw [hP7]
                exact ⟨rfl, trivial⟩
              · skip
                have h7d := B.df h7
                refine WX.run ttOk rfl ?_
                refine WX.der 39 (MF.rs .der p10 c10 ((impl_LookupData (laws_toRepository aS) (laws_toName aN)).1.name.parts)) rfl (fun _ hΓ => (hΓ.get 24 rfl : OwSl _ _ _ _).rd) ?_
                refine WX.der 40 (MF.rs .der p11 c11 ((impl_LookupData (laws_toRepository aS) (laws_toName aN)).1.content)) rfl (fun _ hΓ => (hΓ.get 25 rfl : OwSl _ _ _ _).rd) ?_
                refine WX.der 41 (MF.rs .der p12 c12 ((impl_LookupData (laws_toRepository aS) (laws_toName aN)).1.keyName.parts)) rfl (fun _ hΓ => (hΓ.get 26 rfl : OwSl _ _ _ _).rd) ?_
                refine WX.der 42 (MF.rs .der p4 c4 ((spec_LookupData (laws_toRepository aS) (laws_toName aN)).1.name.parts)) rfl (fun _ hΓ => (hΓ.get 12 rfl : OwSl _ _ _ _).rd) ?_
                refine WX.der 43 (MF.rs .der p5 c5 ((spec_LookupData (laws_toRepository aS) (laws_toName aN)).1.content)) rfl (fun _ hΓ => (hΓ.get 13 rfl : OwSl _ _ _ _).rd) ?_
                refine WX.der 44 (MF.rs .der p6 c6 ((spec_LookupData (laws_toRepository aS) (laws_toName aN)).1.keyName.parts)) rfl (fun _ hΓ => (hΓ.get 14 rfl : OwSl _ _ _ _).rd) ?_
                refine WX.callV rfl rfl rfl rfl rfl (fun _ => rfl) rfl (fun w G bs hI hΓ => f45 w (n + 1) (by omega) ((impl_LookupData (laws_toRepository aS) (laws_toName aN)).1) p10 c10 (hΓ.get 39 rfl) p11 c11 (hΓ.get 40 rfl) p12 c12 (hΓ.get 41 rfl) ((spec_LookupData (laws_toRepository aS) (laws_toName aN)).1) p4 c4 (hΓ.get 42 rfl) p5 c5 (hΓ.get 43 rfl) p6 c6 (hΓ.get 44 rfl) hq8 hq5) ?_
                intro hq16
                refine WX.run ttOk rfl ?_
                refine WX.cases 78 rfl (fun h8 => ?_) (fun h8 => ?_)
                · skip
                  have h8d := (B.nt h8)
                  exact absurd (h3.symm.trans h8) Bool.false_ne_true
                · skip
                  have h8d := (B.nf h8)
                  refine WX.run ttOk rfl ?_
                  refine WX.see rfl rfl rfl (fun _ hΓ => looks_beq ttOk rfl rfl rfl rfl rfl rfl) ?_
                  refine WX.run ttOk rfl ?_
                  refine WX.cases 82 rfl (fun h9 => ?_) (fun h9 => ?_)
                  · skip
                    have h9d := (B.nt h9)
                    exact absurd (h4.symm.trans h9) Bool.false_ne_true
                  · skip
                    have h9d := (B.nf h9)
                    refine WX.run ttOk rfl ?_
                    refine WX.callM [24, 25, 26] 45 rfl (fun _ _ h => GoT.ow_rd h) (fun _ f hf => GoT.fak f hf) rfl rfl rfl rfl rfl (fun _ => rfl) rfl (fun w G bs H hI hH hs hΓ => f48 w (n + 1) (by omega) ((impl_LookupData (laws_toRepository aS) (laws_toName aN)).1) p10 c10 p11 c11 p12 c12 1 H hH hs hq8 (show I64 1 from (by unfold I64; omega))) (fun _ => rfl) (fun _ => rfl) ?_
                    rintro ⟨⟩ hq17
                    have hl4 : ((laws_markData ((impl_LookupData (laws_toRepository aS) (laws_toName aN)).1) 1).2.name.parts).length = ((impl_LookupData (laws_toRepository aS) (laws_toName aN)).1.name.parts).length := hq17.2.1
                    have hl5 : ((laws_markData ((impl_LookupData (laws_toRepository aS) (laws_toName aN)).1) 1).2.content).length = ((impl_LookupData (laws_toRepository aS) (laws_toName aN)).1.content).length := hq17.2.2.1
                    have hl6 : ((laws_markData ((impl_LookupData (laws_toRepository aS) (laws_toName aN)).1) 1).2.keyName.parts).length = ((impl_LookupData (laws_toRepository aS) (laws_toName aN)).1.keyName.parts).length := hq17.2.2.2.1
                    refine WX.run ttOk rfl ?_
                    have hi2 : (laws_markData ((impl_LookupData (laws_toRepository aS) (laws_toName aN)).1) 1).2.freshUntil = (impl_LookupData (laws_toRepository aS) (laws_toName aN)).1.freshUntil := hq17.2.2.2.2.1
                    have hi3 : (laws_markData ((impl_LookupData (laws_toRepository aS) (laws_toName aN)).1) 1).2.signature = (impl_LookupData (laws_toRepository aS) (laws_toName aN)).1.signature := hq17.2.2.2.2.2
                    refine WX.slot 86 (y := .v (.agg #[.slice p10 (((laws_markData ((impl_LookupData (laws_toRepository aS) (laws_toName aN)).1) 1).2.name.parts).length) c10, .slice p11 (((laws_markData ((impl_LookupData (laws_toRepository aS) (laws_toName aN)).1) 1).2.content).length) c11, .slice p12 (((laws_markData ((impl_LookupData (laws_toRepository aS) (laws_toName aN)).1) 1).2.keyName.parts).length) c12, .int .i64 ((laws_markData ((impl_LookupData (laws_toRepository aS) (laws_toName aN)).1) 1).2.freshUntil), .int .i64 ((laws_markData ((impl_LookupData (laws_toRepository aS) (laws_toName aN)).1) 1).2.signature)])) rfl (fun _ => by show (.agg #[.slice p10 (((impl_LookupData (laws_toRepository aS) (laws_toName aN)).1.name.parts).length) c10, .slice p11 (((impl_LookupData (laws_toRepository aS) (laws_toName aN)).1.content).length) c11, .slice p12 (((impl_LookupData (laws_toRepository aS) (laws_toName aN)).1.keyName.parts).length) c12, .int .i64 ((impl_LookupData (laws_toRepository aS) (laws_toName aN)).1.freshUntil), .int .i64 ((impl_LookupData (laws_toRepository aS) (laws_toName aN)).1.signature)] : Value) = .agg #[.slice p10 (((laws_markData ((impl_LookupData (laws_toRepository aS) (laws_toName aN)).1) 1).2.name.parts).length) c10, .slice p11 (((laws_markData ((impl_LookupData (laws_toRepository aS) (laws_toName aN)).1) 1).2.content).length) c11, .slice p12 (((laws_markData ((impl_LookupData (laws_toRepository aS) (laws_toName aN)).1) 1).2.keyName.parts).length) c12, .int .i64 ((laws_markData ((impl_LookupData (laws_toRepository aS) (laws_toName aN)).1) 1).2.freshUntil), .int .i64 ((laws_markData ((impl_LookupData (laws_toRepository aS) (laws_toName aN)).1) 1).2.signature)]; simp only [hl4, hl5, hl6, hi2, hi3]) ?_
                    refine WX.callV rfl rfl rfl rfl rfl (fun _ => rfl) rfl (fun w G bs hI hΓ => f49 w (n + 1) (by omega) ((laws_markData ((impl_LookupData (laws_toRepository aS) (laws_toName aN)).1) 1).2) p10 c10 (hΓ.get 45 rfl) p11 c11 (hΓ.get 46 rfl) p12 c12 (hΓ.get 47 rfl) 1 hq17.1.2 (show I64 1 from (by unfold I64; omega))) ?_
                    intro hq18
                    refine WX.run ttOk rfl ?_
                    refine WX.cases 90 rfl (fun h10 => ?_) (fun h10 => ?_)
                    · skip
                      have h10d := B.dt h10
                      refine WX.run ttOk rfl ?_
                      have hP8 : laws_FnExactLookupData aS aN = false := by simp only [laws_FnExactLookupData, h1, h2, h3, h4, h5, h6, h7, h8, h9, h10, cond_true, cond_false]
                      refine WX.ret ttOk rfl ?_
                      intro w1 G bs hI hΓ
                      rw [hP8]
                      exact ⟨rfl, trivial⟩
                    · skip
                      have h10d := B.df h10
                      refine WX.run ttOk rfl ?_
                      refine WX.cases 93 rfl (fun h11 => ?_) (fun h11 => ?_)
                      · skip
                        have h11d := B.nt' h11
                        refine WX.run ttOk rfl ?_
                        have hP9 : laws_FnExactLookupData aS aN = false := by simp only [laws_FnExactLookupData, h1, h2, h3, h4, h5, h6, h7, h8, h9, h10, h11, cond_true, cond_false]
                        refine WX.ret ttOk rfl ?_
                        intro w1 G bs hI hΓ
                        rw [hP9]
                        exact ⟨rfl, trivial⟩
                      · skip
                        have h11d := B.nf' h11
                        refine WX.run ttOk rfl ?_
                        refine WX.der 51 (MF.rs .der p9 c9 ((laws_markName (laws_toName aN) ((laws_markRepository (laws_toRepository aS) 1).1)).2.parts)) rfl (fun _ hΓ => (hΓ.get 38 rfl : OwSl _ _ _ _).rd) ?_
                        refine WX.der 52 (MF.rs .der p7 c7 ((laws_markRepository (laws_toRepository aS) 1).2.log.durable)) rfl (fun _ hΓ => (hΓ.get 35 rfl : OwSl _ _ _ _).rd) ?_
                        refine WX.der 53 (MF.rs .der p8 c8 ((laws_markRepository (laws_toRepository aS) 1).2.log.volatile)) rfl (fun _ hΓ => (hΓ.get 36 rfl : OwSl _ _ _ _).rd) ?_
                        refine WX.der 54 (MF.rs .der p4 c4 ((spec_LookupData (laws_toRepository aS) (laws_toName aN)).1.name.parts)) rfl (fun _ hΓ => (hΓ.get 12 rfl : OwSl _ _ _ _).rd) ?_
                        refine WX.der 55 (MF.rs .der p5 c5 ((spec_LookupData (laws_toRepository aS) (laws_toName aN)).1.content)) rfl (fun _ hΓ => (hΓ.get 13 rfl : OwSl _ _ _ _).rd) ?_
                        refine WX.der 56 (MF.rs .der p6 c6 ((spec_LookupData (laws_toRepository aS) (laws_toName aN)).1.keyName.parts)) rfl (fun _ hΓ => (hΓ.get 14 rfl : OwSl _ _ _ _).rd) ?_
                        refine WX.draw [9, 10] mixed ?_
                        intro bs G0 hΓ0
                        refine DX.takes (fuel := 9) ttOk [(0, false), (2, false)] (by kernel_rfl) rfl ?_
                        refine DX.pend 8 15 ⟨65, [.slice none (0) 0, .slice none (0) 0, .slice none (0) 0, .int .i64 (0), .int .i64 (0)]⟩ ?_
                        refine DXA.callF 1 57 (fun _ _ h => GoT.ow_rd h) (fun _ f hf => GoT.fak f hf) ttOk rfl rfl rfl rfl rfl rfl rfl (by kernel_rfl) (by kernel_rfl) (by kernel_rfl) rfl rfl rfl rfl rfl rfl rfl rfl rfl rfl (fun _ => rfl) rfl rfl (fun w G bs hI hΓ => f29 w n (by omega) aS paSLogDurable caSLogDurable (hΓ.get 0 rfl) paSLogVolatile caSLogVolatile (hΓ.get 1 rfl) hk1) (fun _ => rfl) (fun _ => rfl) ?_
                        rintro ⟨⟨⟨p16, c16⟩, ⟨p17, c17⟩⟩, ⟨⟩⟩ hq19
                        refine DXA.callF 3 61 (fun _ _ h => GoT.ow_rd h) (fun _ f hf => GoT.fak f hf) ttOk rfl rfl rfl rfl rfl rfl rfl (by kernel_rfl) (by kernel_rfl) (by kernel_rfl) rfl rfl rfl rfl rfl rfl rfl rfl rfl rfl (fun _ => rfl) rfl rfl (fun w G bs hI hΓ => f43 w n (by omega) aN paN caN (hΓ.get 2 rfl) hk2) (fun _ => rfl) (fun _ => rfl) ?_
                        rintro ⟨p18, c18⟩ hq20
                        refine DXA.callF 4 63 (fun _ _ h => GoT.ow_rd h) (fun _ f hf => GoT.fak f hf) ttOk rfl rfl rfl rfl rfl rfl rfl (by kernel_rfl) (by kernel_rfl) (by kernel_rfl) rfl rfl rfl rfl rfl rfl rfl rfl rfl rfl (fun _ => rfl) rfl rfl (fun w G bs hI hΓ => f44 w n (by omega) (laws_toRepository aS) p16 c16 (hΓ.get 57 rfl) p17 c17 (hΓ.get 58 rfl) (laws_toName aN) p18 c18 (hΓ.get 61 rfl) (And.intro (ok_Repository hq19).1 (ok_Repository hq3).2) hq20) (fun _ => rfl) (fun _ => rfl) ?_
                        rintro ⟨⟨p19, c19⟩, ⟨p20, c20⟩, ⟨p21, c21⟩, ⟨⟩, ⟨⟩⟩ hq21
                        refine DXA.take 5 (by kernel_rfl) (by kernel_rfl) rfl rfl rfl rfl rfl rfl rfl rfl (looksP_pure ttOk rfl) ?_
                        refine DXA.take 6 (by kernel_rfl) (by kernel_rfl) rfl rfl rfl rfl rfl rfl rfl rfl (looksP_pure ttOk rfl) ?_
                        refine DXA.take 7 (by kernel_rfl) (by kernel_rfl) rfl rfl rfl rfl rfl rfl rfl rfl (looksP_pure ttOk rfl) ?_
                        refine DXA.tail [9, 10] ttOk rfl rfl rfl rfl rfl rfl (by kernel_rfl) rfl rfl (by kernel_rfl) ?_
                        refine WX.run ttOk rfl ?_
                        refine WX.callV rfl rfl rfl rfl rfl (fun _ => rfl) rfl (fun w G bs hI hΓ => f45 w (n + 1) (by omega) ((impl_LookupData (laws_toRepository aS) (laws_toName aN)).1) p19 c19 (hΓ.get 63 rfl) p20 c20 (hΓ.get 64 rfl) p21 c21 (hΓ.get 65 rfl) ((spec_LookupData (laws_toRepository aS) (laws_toName aN)).1) p4 c4 (hΓ.get 54 rfl) p5 c5 (hΓ.get 55 rfl) p6 c6 (hΓ.get 56 rfl) (And.intro (ok_DataP hq21).1 (And.intro (ok_DataP hq21).2.1 (And.intro (ok_DataP hq21).2.2.1 (And.intro (ok_DataP hq8).2.2.2.1 (ok_DataP hq8).2.2.2.2)))) hq5) ?_
                        intro hq22
                        refine WX.run ttOk rfl ?_
                        refine WX.cases 106 rfl (fun h12 => ?_) (fun h12 => ?_)
                        · skip
                          have h12d := (B.nt h12)
                          exact absurd (h3.symm.trans h12) Bool.false_ne_true
                        · skip
                          have h12d := (B.nf h12)
                          refine WX.run ttOk rfl ?_
                          refine WX.see rfl rfl rfl (fun _ hΓ => looks_beq ttOk rfl rfl rfl rfl rfl rfl) ?_
                          refine WX.run ttOk rfl ?_
                          refine WX.cases 110 rfl (fun h13 => ?_) (fun h13 => ?_)
                          · skip
                            have h13d := (B.nt h13)
                            exact absurd (h4.symm.trans h13) Bool.false_ne_true
                          · skip
                            have h13d := (B.nf h13)
                            refine WX.run ttOk rfl ?_
                            refine WX.slot 111 (y := .v (.agg #[.slice p10 (((laws_markData ((impl_LookupData (laws_toRepository aS) (laws_toName aN)).1) 1).2.name.parts).length) c10, .slice p11 (((laws_markData ((impl_LookupData (laws_toRepository aS) (laws_toName aN)).1) 1).2.content).length) c11, .slice p12 (((laws_markData ((impl_LookupData (laws_toRepository aS) (laws_toName aN)).1) 1).2.keyName.parts).length) c12, .int .i64 ((laws_markData ((impl_LookupData (laws_toRepository aS) (laws_toName aN)).1) 1).2.freshUntil), .int .i64 ((laws_markData ((impl_LookupData (laws_toRepository aS) (laws_toName aN)).1) 1).2.signature)])) rfl (fun _ => by show (.agg #[.slice p10 (((impl_LookupData (laws_toRepository aS) (laws_toName aN)).1.name.parts).length) c10, .slice p11 (((impl_LookupData (laws_toRepository aS) (laws_toName aN)).1.content).length) c11, .slice p12 (((impl_LookupData (laws_toRepository aS) (laws_toName aN)).1.keyName.parts).length) c12, .int .i64 ((impl_LookupData (laws_toRepository aS) (laws_toName aN)).1.freshUntil), .int .i64 ((impl_LookupData (laws_toRepository aS) (laws_toName aN)).1.signature)] : Value) = .agg #[.slice p10 (((laws_markData ((impl_LookupData (laws_toRepository aS) (laws_toName aN)).1) 1).2.name.parts).length) c10, .slice p11 (((laws_markData ((impl_LookupData (laws_toRepository aS) (laws_toName aN)).1) 1).2.content).length) c11, .slice p12 (((laws_markData ((impl_LookupData (laws_toRepository aS) (laws_toName aN)).1) 1).2.keyName.parts).length) c12, .int .i64 ((laws_markData ((impl_LookupData (laws_toRepository aS) (laws_toName aN)).1) 1).2.freshUntil), .int .i64 ((laws_markData ((impl_LookupData (laws_toRepository aS) (laws_toName aN)).1) 1).2.signature)]; simp only [hl4, hl5, hl6, hi2, hi3]) ?_
                            refine WX.callV rfl rfl rfl rfl rfl (fun _ => rfl) rfl (fun w G bs hI hΓ => f49 w (n + 1) (by omega) ((laws_markData ((impl_LookupData (laws_toRepository aS) (laws_toName aN)).1) 1).2) p10 c10 (hΓ.get 45 rfl) p11 c11 (hΓ.get 46 rfl) p12 c12 (hΓ.get 47 rfl) 1 hq17.1.2 (show I64 1 from (by unfold I64; omega))) ?_
                            intro hq23
                            refine WX.run ttOk rfl ?_
                            refine WX.cases 115 rfl (fun h14 => ?_) (fun h14 => ?_)
                            · skip
                              have h14d := B.dt h14
                              exact absurd (h10.symm.trans h14) Bool.false_ne_true
                            · skip
                              have h14d := B.df h14
                              refine WX.run ttOk rfl ?_
                              refine WX.cases 118 rfl (fun h15 => ?_) (fun h15 => ?_)
                              · skip
                                have h15d := B.nt' h15
                                exact absurd (h11.symm.trans h15) Bool.false_ne_true
                              · skip
                                have h15d := B.nf' h15
                                refine WX.run ttOk rfl ?_
                                have hP10 : laws_FnExactLookupData aS aN = true := by simp only [laws_FnExactLookupData, h1, h2, h3, h4, h5, h6, h7, h8, h9, h10, h11, h12, h13, h14, h15, cond_true, cond_false]
                                refine WX.ret ttOk rfl ?_
                                intro w1 G bs hI hΓ
                                rw [hP10]
                                exact ⟨rfl, trivial⟩
theorem f9 (w : World) (n : Nat) (hn : n + 2 ≤ 9) (aA : Repository) (paALogDurable : Option Addr) (caALogDurable : Nat) (hpaALogDurable : RdSl (hp w) paALogDurable caALogDurable aA.log.durable) (paALogVolatile : Option Addr) (caALogVolatile : Nat) (hpaALogVolatile : RdSl (hp w) paALogVolatile caALogVolatile aA.log.volatile) (aB : Repository) (paBLogDurable : Option Addr) (caBLogDurable : Nat) (hpaBLogDurable : RdSl (hp w) paBLogDurable caBLogDurable aB.log.durable) (paBLogVolatile : Option Addr) (caBLogVolatile : Nat) (hpaBLogVolatile : RdSl (hp w) paBLogVolatile caBLogVolatile aB.log.volatile) (hokaA : GoT.ok 10 aA) (hokaB : GoT.ok 10 aB) :
    Does Try.prog 9 #[.agg #[.slice paALogDurable ((aA.log.durable).length) caALogDurable, .slice paALogVolatile ((aA.log.volatile).length) caALogVolatile, .int .i64 (aA.quota)], .agg #[.slice paBLogDurable ((aB.log.durable).length) caBLogDurable, .slice paBLogVolatile ((aB.log.volatile).length) caBLogVolatile, .int .i64 (aB.quota)]] w emp (fun (rv : Value) (_ : World) => rv = .bool (laws_FnExactLostNames aA aB) ∧ True) := by
  have hbP := bd_pos n
  have hbS0 := bd_succ (n := n) (by omega)
  have hbS1 := bd_succ (n := n + 1) (by omega)
  have hbB := bd_big (n := (n + 2)) (by omega)
  have hbM := bd_mono (show n ≤ n + 2 by omega)
  refine WX.enter (tt := tt) (Γ := [(0, MF.rs .stb paALogDurable caALogDurable aA.log.durable), (1, MF.rs .stb paALogVolatile caALogVolatile aA.log.volatile), (2, MF.rs .stb paBLogDurable caBLogDurable aB.log.durable), (3, MF.rs .stb paBLogVolatile caBLogVolatile aB.log.volatile)]) Try.func9 rfl (by kernel_rfl) rfl (allS_cons rfl hpaALogDurable (allS_cons rfl hpaALogVolatile (allS_cons rfl hpaBLogDurable (allS_cons rfl hpaBLogVolatile allS_nil)))) ?_
  refine WX.run ttOk rfl ?_
  refine WX.callV rfl rfl rfl rfl rfl (fun _ => rfl) rfl (fun w G bs hI hΓ => f27 w 10 aA paALogDurable caALogDurable (hΓ.get 0 rfl) paALogVolatile caALogVolatile (hΓ.get 1 rfl) 1048576 hokaA (show I64 1048576 from (by unfold I64; omega))) ?_
  intro hq1
  refine WX.run ttOk rfl ?_
  refine WX.cases 18 rfl (fun h1 => ?_) (fun h1 => ?_)
  · skip
    have h1d := B.dt h1
    refine WX.run ttOk rfl ?_
    have hP1 : laws_FnExactLostNames aA aB = true := by simp only [laws_FnExactLostNames, h1, cond_true, cond_false]
    refine WX.ret ttOk rfl ?_
    intro w1 G bs hI hΓ
    rw [hP1]
    exact ⟨rfl, trivial⟩
  · skip
    have h1d := B.df h1
    obtain ⟨hs1, ht1⟩ := (sz_Repository_R aA 1048576 hokaA (by omega) (by omega)).pos (by omega)
    have hk1 : GoT.ok n aA := GoT.okm (Nat.zero_le n) (Sz.low hokaA (show sz aA ≤ 1048576 by omega))
    refine WX.run ttOk rfl ?_
    refine WX.callV rfl rfl rfl rfl rfl (fun _ => rfl) rfl (fun w G bs hI hΓ => f27 w 10 aB paBLogDurable caBLogDurable (hΓ.get 2 rfl) paBLogVolatile caBLogVolatile (hΓ.get 3 rfl) (laws_szRepository aA 1048576) hokaB hq1) ?_
    intro hq2
    refine WX.run ttOk rfl ?_
    refine WX.cases 23 rfl (fun h2 => ?_) (fun h2 => ?_)
    · skip
      have h2d := B.dt h2
      refine WX.run ttOk rfl ?_
      have hP2 : laws_FnExactLostNames aA aB = true := by simp only [laws_FnExactLostNames, h1, h2, cond_true, cond_false]
      refine WX.ret ttOk rfl ?_
      intro w1 G bs hI hΓ
      rw [hP2]
      exact ⟨rfl, trivial⟩
    · skip
      have h2d := B.df h2
      obtain ⟨hs2, ht2⟩ := (sz_Repository_R aB (laws_szRepository aA 1048576) hokaB (by omega) (by omega)).pos (by omega)
      have hk2 : GoT.ok n aB := GoT.okm (Nat.zero_le n) (Sz.low hokaB (show sz aB ≤ 1048576 by omega))
      refine WX.run ttOk rfl ?_
      refine WX.draw [] mixed ?_
      intro bs G0 hΓ0
      refine DX.takes (fuel := 4) ttOk [(0, false), (2, false)] (by kernel_rfl) rfl ?_
      refine DX.callF 1 4 (fun _ _ h => GoT.ow_rd h) (fun _ f hf => GoT.fak f hf) rfl (by kernel_rfl) rfl rfl rfl rfl rfl rfl (fun _ => rfl) rfl (fun w G bs hI hΓ => f29 w n (by omega) aA paALogDurable caALogDurable (hΓ.get 0 rfl) paALogVolatile caALogVolatile (hΓ.get 1 rfl) hk1) (fun _ => rfl) (fun _ => rfl) ?_
      rintro ⟨⟨⟨p1, c1⟩, ⟨p2, c2⟩⟩, ⟨⟩⟩ hq3
      refine DX.callF 3 8 (fun _ _ h => GoT.ow_rd h) (fun _ f hf => GoT.fak f hf) rfl (by kernel_rfl) rfl rfl rfl rfl rfl rfl (fun _ => rfl) rfl (fun w G bs hI hΓ => f29 w n (by omega) aB paBLogDurable caBLogDurable (hΓ.get 2 rfl) paBLogVolatile caBLogVolatile (hΓ.get 3 rfl) hk2) (fun _ => rfl) (fun _ => rfl) ?_
      rintro ⟨⟨⟨p3, c3⟩, ⟨p4, c4⟩⟩, ⟨⟩⟩ hq4
      refine DX.callF 4 12 (fun _ _ h => GoT.ow_rd h) (fun _ f hf => GoT.fak f hf) rfl (by kernel_rfl) rfl rfl rfl rfl rfl rfl (fun _ => rfl) rfl (fun w G bs hI hΓ => f50 w n (by omega) (laws_toRepository aA) p1 c1 (hΓ.get 4 rfl) p2 c2 (hΓ.get 5 rfl) (laws_toRepository aB) p3 c3 (hΓ.get 8 rfl) p4 c4 (hΓ.get 9 rfl) hq3 hq4) (fun _ => rfl) (fun _ => rfl) ?_
      rintro ⟨p5, c5⟩ hq5
      refine DX.takes (fuel := 0) ttOk [(5, true)] (by kernel_rfl) rfl ?_
      refine DX.tail2 [] rfl rfl (by kernel_rfl) ?_
      refine WX.run ttOk rfl ?_
      refine WX.callF 14 (fun _ _ h => GoT.ow_rd h) (fun _ f hf => GoT.fak f hf) rfl rfl rfl rfl rfl (fun _ => rfl) rfl (fun w G bs hI hΓ => f29 w n (by omega) aA paALogDurable caALogDurable (hΓ.get 0 rfl) paALogVolatile caALogVolatile (hΓ.get 1 rfl) hk1) (fun _ => rfl) (fun _ => rfl) ?_
      rintro ⟨⟨⟨p6, c6⟩, ⟨p7, c7⟩⟩, ⟨⟩⟩ hq6
      refine WX.run ttOk rfl ?_
      refine WX.callF 18 (fun _ _ h => GoT.ow_rd h) (fun _ f hf => GoT.fak f hf) rfl rfl rfl rfl rfl (fun _ => rfl) rfl (fun w G bs hI hΓ => f29 w n (by omega) aB paBLogDurable caBLogDurable (hΓ.get 2 rfl) paBLogVolatile caBLogVolatile (hΓ.get 3 rfl) hk2) (fun _ => rfl) (fun _ => rfl) ?_
      rintro ⟨⟨⟨p8, c8⟩, ⟨p9, c9⟩⟩, ⟨⟩⟩ hq7
      refine WX.run ttOk rfl ?_
      refine WX.callF 22 (fun _ _ h => GoT.ow_rd h) (fun _ f hf => GoT.fak f hf) rfl rfl rfl rfl rfl (fun _ => rfl) rfl (fun w G bs hI hΓ => f51 w n (by omega) (laws_toRepository aA) p6 c6 (hΓ.get 14 rfl) p7 c7 (hΓ.get 15 rfl) (laws_toRepository aB) p8 c8 (hΓ.get 18 rfl) p9 c9 (hΓ.get 19 rfl) (And.intro (ok_Repository hq6).1 (ok_Repository hq3).2) (And.intro (ok_Repository hq7).1 (ok_Repository hq4).2)) (fun _ => rfl) (fun _ => rfl) ?_
      rintro ⟨p10, c10⟩ hq8
      refine WX.run ttOk rfl ?_
      refine WX.callV rfl rfl rfl rfl rfl (fun _ => rfl) rfl (fun w G bs hI hΓ => f37 w (n + 1) (by omega) (impl_LostNames (laws_toRepository aA) (laws_toRepository aB)) p10 c10 (hΓ.get 22 rfl) (spec_LostNames (laws_toRepository aA) (laws_toRepository aB)) p5 c5 (hΓ.get 12 rfl) hq8 hq5) ?_
      intro hq9
      refine WX.run ttOk rfl ?_
      refine WX.cases 39 rfl (fun h3 => ?_) (fun h3 => ?_)
      · skip
        have h3d := (B.nt h3)
        refine WX.run ttOk rfl ?_
        have hP3 : laws_FnExactLostNames aA aB = false := by simp only [laws_FnExactLostNames, h1, h2, h3, cond_true, cond_false]
        refine WX.ret ttOk rfl ?_
        intro w1 G bs hI hΓ
        rw [hP3]
        exact ⟨rfl, trivial⟩
      · skip
        have h3d := (B.nf h3)
        refine WX.run ttOk rfl ?_
        refine WX.draw [] mixed ?_
        intro bs G0 hΓ0
        refine DX.takes (fuel := 3) ttOk [(0, false), (1, false)] (by kernel_rfl) rfl ?_
        refine DX.callF 2 24 (fun _ _ h => GoT.ow_rd h) (fun _ f hf => GoT.fak f hf) rfl (by kernel_rfl) rfl rfl rfl rfl rfl rfl (fun _ => rfl) rfl (fun w G bs hI hΓ => f29 w n (by omega) aA paALogDurable caALogDurable (hΓ.get 0 rfl) paALogVolatile caALogVolatile (hΓ.get 1 rfl) hk1) (fun _ => rfl) (fun _ => rfl) ?_
        rintro ⟨⟨⟨p11, c11⟩, ⟨p12, c12⟩⟩, ⟨⟩⟩ hq10
        refine DX.callV 3 rfl (by kernel_rfl) rfl rfl rfl rfl rfl rfl (fun _ => rfl) rfl (fun w G bs hI hΓ => f31 w n (by omega) (laws_toRepository aA) p6 c6 (hΓ.get 14 rfl) p7 c7 (hΓ.get 15 rfl) (laws_toRepository aA) p11 c11 (hΓ.get 24 rfl) p12 c12 (hΓ.get 25 rfl) (And.intro (ok_Repository hq6).1 (ok_Repository hq3).2) (And.intro (ok_Repository hq10).1 (ok_Repository hq3).2)) ?_
        intro hq11
        refine DX.takes (fuel := 0) ttOk [(4, true)] (by kernel_rfl) rfl ?_
        refine DX.tail2 [] rfl rfl (by kernel_rfl) ?_
        refine WX.run ttOk rfl ?_
        refine WX.cases 44 rfl (fun h4 => ?_) (fun h4 => ?_)
        · skip
          have h4d := (B.nt h4)
          refine WX.run ttOk rfl ?_
          have hP4 : laws_FnExactLostNames aA aB = false := by simp only [laws_FnExactLostNames, h1, h2, h3, h4, cond_true, cond_false]
          refine WX.ret ttOk rfl ?_
          intro w1 G bs hI hΓ
          rw [hP4]
          exact ⟨rfl, trivial⟩
        · skip
          have h4d := (B.nf h4)
          refine WX.run ttOk rfl ?_
          refine WX.draw [] mixed ?_
          intro bs G0 hΓ0
          refine DX.takes (fuel := 3) ttOk [(0, false), (1, false)] (by kernel_rfl) rfl ?_
          refine DX.callF 2 28 (fun _ _ h => GoT.ow_rd h) (fun _ f hf => GoT.fak f hf) rfl (by kernel_rfl) rfl rfl rfl rfl rfl rfl (fun _ => rfl) rfl (fun w G bs hI hΓ => f29 w n (by omega) aB paBLogDurable caBLogDurable (hΓ.get 2 rfl) paBLogVolatile caBLogVolatile (hΓ.get 3 rfl) hk2) (fun _ => rfl) (fun _ => rfl) ?_
          rintro ⟨⟨⟨p13, c13⟩, ⟨p14, c14⟩⟩, ⟨⟩⟩ hq12
          refine DX.callV 3 rfl (by kernel_rfl) rfl rfl rfl rfl rfl rfl (fun _ => rfl) rfl (fun w G bs hI hΓ => f31 w n (by omega) (laws_toRepository aB) p8 c8 (hΓ.get 18 rfl) p9 c9 (hΓ.get 19 rfl) (laws_toRepository aB) p13 c13 (hΓ.get 28 rfl) p14 c14 (hΓ.get 29 rfl) (And.intro (ok_Repository hq7).1 (ok_Repository hq4).2) (And.intro (ok_Repository hq12).1 (ok_Repository hq4).2)) ?_
          intro hq13
          refine DX.takes (fuel := 0) ttOk [(4, true)] (by kernel_rfl) rfl ?_
          refine DX.tail2 [] rfl rfl (by kernel_rfl) ?_
          refine WX.run ttOk rfl ?_
          refine WX.cases 49 rfl (fun h5 => ?_) (fun h5 => ?_)
          · skip
            have h5d := (B.nt h5)
            refine WX.run ttOk rfl ?_
            have hP5 : laws_FnExactLostNames aA aB = false := by simp only [laws_FnExactLostNames, h1, h2, h3, h4, h5, cond_true, cond_false]
            refine WX.ret ttOk rfl ?_
            intro w1 G bs hI hΓ
            rw [hP5]
            exact ⟨rfl, trivial⟩
          · skip
            have h5d := (B.nf h5)
            refine WX.run ttOk rfl ?_
            refine WX.callM [16, 17] 32 rfl (fun _ _ h => GoT.ow_rd h) (fun _ f hf => GoT.fak f hf) rfl rfl rfl rfl rfl (fun _ => rfl) rfl (fun w G bs H hI hH hs hΓ => f38 w n (by omega) (laws_toRepository aA) p6 c6 p7 c7 1 H hH hs (And.intro (ok_Repository hq6).1 (ok_Repository hq3).2) (show I64 1 from (by unfold I64; omega))) (fun _ => rfl) (fun _ => rfl) ?_
            rintro ⟨⟩ hq14
            have hl1 : ((laws_markRepository (laws_toRepository aA) 1).2.log.durable).length = ((laws_toRepository aA).log.durable).length := hq14.2.1
            have hl2 : ((laws_markRepository (laws_toRepository aA) 1).2.log.volatile).length = ((laws_toRepository aA).log.volatile).length := hq14.2.2.1
            refine WX.run ttOk rfl ?_
            refine WX.callM [20, 21] 36 rfl (fun _ _ h => GoT.ow_rd h) (fun _ f hf => GoT.fak f hf) rfl rfl rfl rfl rfl (fun _ => rfl) rfl (fun w G bs H hI hH hs hΓ => f38 w n (by omega) (laws_toRepository aB) p8 c8 p9 c9 ((laws_markRepository (laws_toRepository aA) 1).1) H hH hs (And.intro (ok_Repository hq7).1 (ok_Repository hq4).2) hq14.1.1) (fun _ => rfl) (fun _ => rfl) ?_
            rintro ⟨⟩ hq15
            have hl3 : ((laws_markRepository (laws_toRepository aB) ((laws_markRepository (laws_toRepository aA) 1).1)).2.log.durable).length = ((laws_toRepository aB).log.durable).length := hq15.2.1
            have hl4 : ((laws_markRepository (laws_toRepository aB) ((laws_markRepository (laws_toRepository aA) 1).1)).2.log.volatile).length = ((laws_toRepository aB).log.volatile).length := hq15.2.2.1
            refine WX.run ttOk rfl ?_
            refine WX.cases 58 rfl (fun h6 => ?_) (fun h6 => ?_)
            · skip
              have h6d := B.dt h6
              refine WX.run ttOk rfl ?_
              have hP6 : laws_FnExactLostNames aA aB = false := by simp only [laws_FnExactLostNames, h1, h2, h3, h4, h5, h6, cond_true, cond_false]
              refine WX.ret ttOk rfl ?_
              intro w1 G bs hI hΓ
              rw [hP6]
              exact ⟨rfl, trivial⟩
            · skip
              have h6d := B.df h6
              refine WX.run ttOk rfl ?_
              refine WX.der 40 (MF.rs .der p10 c10 (impl_LostNames (laws_toRepository aA) (laws_toRepository aB))) rfl (fun _ hΓ => (hΓ.get 23 rfl : OwSl _ _ _ _).rd) ?_
              refine WX.der 41 (MF.rs .der p5 c5 (spec_LostNames (laws_toRepository aA) (laws_toRepository aB))) rfl (fun _ hΓ => (hΓ.get 13 rfl : OwSl _ _ _ _).rd) ?_
              refine WX.callV rfl rfl rfl rfl rfl (fun _ => rfl) rfl (fun w G bs hI hΓ => f37 w (n + 1) (by omega) (impl_LostNames (laws_toRepository aA) (laws_toRepository aB)) p10 c10 (hΓ.get 40 rfl) (spec_LostNames (laws_toRepository aA) (laws_toRepository aB)) p5 c5 (hΓ.get 41 rfl) hq8 hq5) ?_
              intro hq16
              refine WX.run ttOk rfl ?_
              refine WX.cases 63 rfl (fun h7 => ?_) (fun h7 => ?_)
              · skip
                have h7d := (B.nt h7)
                exact absurd (h3.symm.trans h7) Bool.false_ne_true
              · skip
                have h7d := (B.nf h7)
                refine WX.run ttOk rfl ?_
                refine WX.callM [23] 42 rfl (fun _ _ h => GoT.ow_rd h) (fun _ f hf => GoT.fak f hf) rfl rfl rfl rfl rfl (fun _ => rfl) rfl (fun w G bs H hI hH hs hΓ => f39 w (n + 1) (by omega) (impl_LostNames (laws_toRepository aA) (laws_toRepository aB)) p10 c10 1 H hH hs hq8 (show I64 1 from (by unfold I64; omega))) (fun _ => rfl) (fun _ => rfl) ?_
                rintro ⟨⟩ hq17
                have hl5 : ((laws_markNameS (impl_LostNames (laws_toRepository aA) (laws_toRepository aB)) 1).2).length = ((impl_LostNames (laws_toRepository aA) (laws_toRepository aB))).length := hq17.2
                refine WX.run ttOk rfl ?_
                refine WX.slot 67 (y := .v (.slice p10 (((laws_markNameS (impl_LostNames (laws_toRepository aA) (laws_toRepository aB)) 1).2).length) c10)) rfl (fun _ => by show (.slice p10 (((impl_LostNames (laws_toRepository aA) (laws_toRepository aB))).length) c10 : Value) = .slice p10 (((laws_markNameS (impl_LostNames (laws_toRepository aA) (laws_toRepository aB)) 1).2).length) c10; simp only [hl5]) ?_
                refine WX.callV rfl rfl rfl rfl rfl (fun _ => rfl) rfl (fun w G bs hI hΓ => f40 w (n + 1) (by omega) ((laws_markNameS (impl_LostNames (laws_toRepository aA) (laws_toRepository aB)) 1).2) p10 c10 (hΓ.get 42 rfl) 1 hq17.1.2 (show I64 1 from (by unfold I64; omega))) ?_
                intro hq18
                refine WX.run ttOk rfl ?_
                refine WX.cases 71 rfl (fun h8 => ?_) (fun h8 => ?_)
                · skip
                  have h8d := B.dt h8
                  refine WX.run ttOk rfl ?_
                  have hP7 : laws_FnExactLostNames aA aB = false := by simp only [laws_FnExactLostNames, h1, h2, h3, h4, h5, h6, h7, h8, cond_true, cond_false]
                  refine WX.ret ttOk rfl ?_
                  intro w1 G bs hI hΓ
                  rw [hP7]
                  exact ⟨rfl, trivial⟩
                · skip
                  have h8d := B.df h8
                  refine WX.run ttOk rfl ?_
                  refine WX.cases 74 rfl (fun h9 => ?_) (fun h9 => ?_)
                  · skip
                    have h9d := B.nt' h9
                    refine WX.run ttOk rfl ?_
                    have hP8 : laws_FnExactLostNames aA aB = false := by simp only [laws_FnExactLostNames, h1, h2, h3, h4, h5, h6, h7, h8, h9, cond_true, cond_false]
                    refine WX.ret ttOk rfl ?_
                    intro w1 G bs hI hΓ
                    rw [hP8]
                    exact ⟨rfl, trivial⟩
                  · skip
                    have h9d := B.nf' h9
                    refine WX.run ttOk rfl ?_
                    refine WX.der 44 (MF.rs .der p8 c8 ((laws_markRepository (laws_toRepository aB) ((laws_markRepository (laws_toRepository aA) 1).1)).2.log.durable)) rfl (fun _ hΓ => (hΓ.get 38 rfl : OwSl _ _ _ _).rd) ?_
                    refine WX.der 45 (MF.rs .der p9 c9 ((laws_markRepository (laws_toRepository aB) ((laws_markRepository (laws_toRepository aA) 1).1)).2.log.volatile)) rfl (fun _ hΓ => (hΓ.get 39 rfl : OwSl _ _ _ _).rd) ?_
                    refine WX.der 46 (MF.rs .der p6 c6 ((laws_markRepository (laws_toRepository aA) 1).2.log.durable)) rfl (fun _ hΓ => (hΓ.get 34 rfl : OwSl _ _ _ _).rd) ?_
                    refine WX.der 47 (MF.rs .der p7 c7 ((laws_markRepository (laws_toRepository aA) 1).2.log.volatile)) rfl (fun _ hΓ => (hΓ.get 35 rfl : OwSl _ _ _ _).rd) ?_
                    refine WX.draw [] mixed ?_
                    intro bs G0 hΓ0
                    refine DX.takes (fuel := 4) ttOk [(0, false), (2, false)] (by kernel_rfl) rfl ?_
                    refine DX.callF 1 48 (fun _ _ h => GoT.ow_rd h) (fun _ f hf => GoT.fak f hf) rfl (by kernel_rfl) rfl rfl rfl rfl rfl rfl (fun _ => rfl) rfl (fun w G bs hI hΓ => f29 w n (by omega) aA paALogDurable caALogDurable (hΓ.get 0 rfl) paALogVolatile caALogVolatile (hΓ.get 1 rfl) hk1) (fun _ => rfl) (fun _ => rfl) ?_
                    rintro ⟨⟨⟨p15, c15⟩, ⟨p16, c16⟩⟩, ⟨⟩⟩ hq19
                    refine DX.callF 3 52 (fun _ _ h => GoT.ow_rd h) (fun _ f hf => GoT.fak f hf) rfl (by kernel_rfl) rfl rfl rfl rfl rfl rfl (fun _ => rfl) rfl (fun w G bs hI hΓ => f29 w n (by omega) aB paBLogDurable caBLogDurable (hΓ.get 2 rfl) paBLogVolatile caBLogVolatile (hΓ.get 3 rfl) hk2) (fun _ => rfl) (fun _ => rfl) ?_
                    rintro ⟨⟨⟨p17, c17⟩, ⟨p18, c18⟩⟩, ⟨⟩⟩ hq20
                    refine DX.callF 4 56 (fun _ _ h => GoT.ow_rd h) (fun _ f hf => GoT.fak f hf) rfl (by kernel_rfl) rfl rfl rfl rfl rfl rfl (fun _ => rfl) rfl (fun w G bs hI hΓ => f51 w n (by omega) (laws_toRepository aA) p15 c15 (hΓ.get 48 rfl) p16 c16 (hΓ.get 49 rfl) (laws_toRepository aB) p17 c17 (hΓ.get 52 rfl) p18 c18 (hΓ.get 53 rfl) (And.intro (ok_Repository hq19).1 (ok_Repository hq3).2) (And.intro (ok_Repository hq20).1 (ok_Repository hq4).2)) (fun _ => rfl) (fun _ => rfl) ?_
                    rintro ⟨p19, c19⟩ hq21
                    refine DX.takes (fuel := 0) ttOk [(5, true)] (by kernel_rfl) rfl ?_
                    refine DX.tail2 [] rfl rfl (by kernel_rfl) ?_
                    refine WX.run ttOk rfl ?_
                    refine WX.der 58 (MF.rs .der p5 c5 (spec_LostNames (laws_toRepository aA) (laws_toRepository aB))) rfl (fun _ hΓ => (hΓ.get 13 rfl : OwSl _ _ _ _).rd) ?_
                    refine WX.callV rfl rfl rfl rfl rfl (fun _ => rfl) rfl (fun w G bs hI hΓ => f37 w (n + 1) (by omega) (impl_LostNames (laws_toRepository aA) (laws_toRepository aB)) p19 c19 (hΓ.get 56 rfl) (spec_LostNames (laws_toRepository aA) (laws_toRepository aB)) p5 c5 (hΓ.get 58 rfl) hq21 hq5) ?_
                    intro hq22
                    refine WX.run ttOk rfl ?_
                    refine WX.cases 83 rfl (fun h10 => ?_) (fun h10 => ?_)
                    · skip
                      have h10d := (B.nt h10)
                      exact absurd (h3.symm.trans h10) Bool.false_ne_true
                    · skip
                      have h10d := (B.nf h10)
                      refine WX.run ttOk rfl ?_
                      refine WX.slot 84 (y := .v (.slice p10 (((laws_markNameS (impl_LostNames (laws_toRepository aA) (laws_toRepository aB)) 1).2).length) c10)) rfl (fun _ => by show (.slice p10 (((impl_LostNames (laws_toRepository aA) (laws_toRepository aB))).length) c10 : Value) = .slice p10 (((laws_markNameS (impl_LostNames (laws_toRepository aA) (laws_toRepository aB)) 1).2).length) c10; simp only [hl5]) ?_
                      refine WX.callV rfl rfl rfl rfl rfl (fun _ => rfl) rfl (fun w G bs hI hΓ => f40 w (n + 1) (by omega) ((laws_markNameS (impl_LostNames (laws_toRepository aA) (laws_toRepository aB)) 1).2) p10 c10 (hΓ.get 42 rfl) 1 hq17.1.2 (show I64 1 from (by unfold I64; omega))) ?_
                      intro hq23
                      refine WX.run ttOk rfl ?_
                      refine WX.cases 88 rfl (fun h11 => ?_) (fun h11 => ?_)
                      · skip
                        have h11d := B.dt h11
                        exact absurd (h8.symm.trans h11) Bool.false_ne_true
                      · skip
                        have h11d := B.df h11
                        refine WX.run ttOk rfl ?_
                        refine WX.cases 91 rfl (fun h12 => ?_) (fun h12 => ?_)
                        · skip
                          have h12d := B.nt' h12
                          exact absurd (h9.symm.trans h12) Bool.false_ne_true
                        · skip
                          have h12d := B.nf' h12
                          refine WX.run ttOk rfl ?_
                          have hP9 : laws_FnExactLostNames aA aB = true := by simp only [laws_FnExactLostNames, h1, h2, h3, h4, h5, h6, h7, h8, h9, h10, h11, h12, cond_true, cond_false]
                          refine WX.ret ttOk rfl ?_
                          intro w1 G bs hI hΓ
                          rw [hP9]
                          exact ⟨rfl, trivial⟩
theorem f10 (w : World) (n : Nat) (hn : n + 1 ≤ 9) (aL : Log) (paLDurable : Option Addr) (caLDurable : Nat) (hpaLDurable : RdSl (hp w) paLDurable caLDurable aL.durable) (paLVolatile : Option Addr) (caLVolatile : Nat) (hpaLVolatile : RdSl (hp w) paLVolatile caLVolatile aL.volatile) (aR : Record) (paRDataName : Option Addr) (caRDataName : Nat) (hpaRDataName : RdSl (hp w) paRDataName caRDataName aR.data.name.parts) (paRDataContent : Option Addr) (caRDataContent : Nat) (hpaRDataContent : RdSl (hp w) paRDataContent caRDataContent aR.data.content) (paRDataKeyName : Option Addr) (caRDataKeyName : Nat) (hpaRDataKeyName : RdSl (hp w) paRDataKeyName caRDataKeyName aR.data.keyName.parts) (hokaL : GoT.ok 10 aL) (hokaR : GoT.ok 10 aR) :
    Does Try.prog 10 #[.agg #[.slice paLDurable ((aL.durable).length) caLDurable, .slice paLVolatile ((aL.volatile).length) caLVolatile], .agg #[.int .i64 (aR.kind), .slice paRDataName ((aR.data.name.parts).length) caRDataName, .slice paRDataContent ((aR.data.content).length) caRDataContent, .slice paRDataKeyName ((aR.data.keyName.parts).length) caRDataKeyName, .int .i64 (aR.data.freshUntil), .int .i64 (aR.data.signature)]] w emp (fun (rv : Value) (_ : World) => rv = .bool (laws_FnExactAppendRecord aL aR) ∧ True) := by
  have hbP := bd_pos n
  have hbS0 := bd_succ (n := n) (by omega)
  have hbB := bd_big (n := (n + 1)) (by omega)
  have hbM := bd_mono (show n ≤ n + 1 by omega)
  refine WX.enter (tt := tt) (Γ := [(0, MF.rs .stb paLDurable caLDurable aL.durable), (1, MF.rs .stb paLVolatile caLVolatile aL.volatile), (2, MF.rs .stb paRDataName caRDataName aR.data.name.parts), (3, MF.rs .stb paRDataContent caRDataContent aR.data.content), (4, MF.rs .stb paRDataKeyName caRDataKeyName aR.data.keyName.parts)]) Try.func10 rfl (by kernel_rfl) rfl (allS_cons rfl hpaLDurable (allS_cons rfl hpaLVolatile (allS_cons rfl hpaRDataName (allS_cons rfl hpaRDataContent (allS_cons rfl hpaRDataKeyName allS_nil))))) ?_
  refine WX.run ttOk rfl ?_
  refine WX.callV rfl rfl rfl rfl rfl (fun _ => rfl) rfl (fun w G bs hI hΓ => f21 w 10 aL paLDurable caLDurable (hΓ.get 0 rfl) paLVolatile caLVolatile (hΓ.get 1 rfl) 1048576 hokaL (show I64 1048576 from (by unfold I64; omega))) ?_
  intro hq1
  refine WX.run ttOk rfl ?_
  refine WX.cases 21 rfl (fun h1 => ?_) (fun h1 => ?_)
  · skip
    have h1d := B.dt h1
    refine WX.run ttOk rfl ?_
    have hP1 : laws_FnExactAppendRecord aL aR = true := by simp only [laws_FnExactAppendRecord, h1, cond_true, cond_false]
    refine WX.ret ttOk rfl ?_
    intro w1 G bs hI hΓ
    rw [hP1]
    exact ⟨rfl, trivial⟩
  · skip
    have h1d := B.df h1
    obtain ⟨hs1, ht1⟩ := (sz_Log_R aL 1048576 hokaL (by omega) (by omega)).pos (by omega)
    have hk1 : GoT.ok n aL := GoT.okm (Nat.zero_le n) (Sz.low hokaL (show sz aL ≤ 1048576 by omega))
    refine WX.run ttOk rfl ?_
    refine WX.callV rfl rfl rfl rfl rfl (fun _ => rfl) rfl (fun w G bs hI hΓ => f52 w 10 aR paRDataName caRDataName (hΓ.get 2 rfl) paRDataContent caRDataContent (hΓ.get 3 rfl) paRDataKeyName caRDataKeyName (hΓ.get 4 rfl) (laws_szLog aL 1048576) hokaR hq1) ?_
    intro hq2
    refine WX.run ttOk rfl ?_
    refine WX.cases 26 rfl (fun h2 => ?_) (fun h2 => ?_)
    · skip
      have h2d := B.dt h2
      refine WX.run ttOk rfl ?_
      have hP2 : laws_FnExactAppendRecord aL aR = true := by simp only [laws_FnExactAppendRecord, h1, h2, cond_true, cond_false]
      refine WX.ret ttOk rfl ?_
      intro w1 G bs hI hΓ
      rw [hP2]
      exact ⟨rfl, trivial⟩
    · skip
      have h2d := B.df h2
      obtain ⟨hs2, ht2⟩ := (sz_Record_R aR (laws_szLog aL 1048576) hokaR (by omega) (by omega)).pos (by omega)
      have hk2 : GoT.ok n aR := GoT.okm (Nat.zero_le n) (Sz.low hokaR (show sz aR ≤ 1048576 by omega))
      refine WX.run ttOk rfl ?_
      refine WX.draw [9, 10] mixed ?_
      intro bs G0 hΓ0
      refine DX.takes (fuel := 9) ttOk [(0, false), (2, false)] (by kernel_rfl) rfl ?_
      refine DX.pend 8 6 ⟨38, [.slice none (0) 0, .slice none (0) 0]⟩ ?_
      refine DXA.callF 1 5 (fun _ _ h => GoT.ow_rd h) (fun _ f hf => GoT.fak f hf) ttOk rfl rfl rfl rfl rfl rfl rfl (by kernel_rfl) (by kernel_rfl) (by kernel_rfl) rfl rfl rfl rfl rfl rfl rfl rfl rfl rfl (fun _ => rfl) rfl rfl (fun w G bs hI hΓ => f23 w n (by omega) aL paLDurable caLDurable (hΓ.get 0 rfl) paLVolatile caLVolatile (hΓ.get 1 rfl) hk1) (fun _ => rfl) (fun _ => rfl) ?_
      rintro ⟨⟨p1, c1⟩, ⟨p2, c2⟩⟩ hq3
      refine DXA.callF 3 9 (fun _ _ h => GoT.ow_rd h) (fun _ f hf => GoT.fak f hf) ttOk rfl rfl rfl rfl rfl rfl rfl (by kernel_rfl) (by kernel_rfl) (by kernel_rfl) rfl rfl rfl rfl rfl rfl rfl rfl rfl rfl (fun _ => rfl) rfl rfl (fun w G bs hI hΓ => f54 w n (by omega) aR paRDataName caRDataName (hΓ.get 2 rfl) paRDataContent caRDataContent (hΓ.get 3 rfl) paRDataKeyName caRDataKeyName (hΓ.get 4 rfl) hk2) (fun _ => rfl) (fun _ => rfl) ?_
      rintro ⟨⟨⟩, ⟨⟨p3, c3⟩, ⟨p4, c4⟩, ⟨p5, c5⟩, ⟨⟩, ⟨⟩⟩⟩ hq4
      refine DXA.callF 4 15 (fun _ _ h => GoT.ow_rd h) (fun _ f hf => GoT.fak f hf) ttOk rfl rfl rfl rfl rfl rfl rfl (by kernel_rfl) (by kernel_rfl) (by kernel_rfl) rfl rfl rfl rfl rfl rfl rfl rfl rfl rfl (fun _ => rfl) rfl rfl (fun w G bs hI hΓ => f53 w n (by omega) (laws_toLog aL) p1 c1 (hΓ.get 5 rfl) p2 c2 (hΓ.get 6 rfl) (laws_toRecord aR) p3 c3 (hΓ.get 9 rfl) p4 c4 (hΓ.get 10 rfl) p5 c5 (hΓ.get 11 rfl) hq3 hq4) (fun _ => rfl) (fun _ => rfl) ?_
      rintro ⟨⟨p6, c6⟩, ⟨p7, c7⟩⟩ hq5
      refine DXA.take 5 (by kernel_rfl) (by kernel_rfl) rfl rfl rfl rfl rfl rfl rfl rfl (looksP_pure ttOk rfl) ?_
      refine DXA.take 6 (by kernel_rfl) (by kernel_rfl) rfl rfl rfl rfl rfl rfl rfl rfl (looksP_pure ttOk rfl) ?_
      refine DXA.take 7 (by kernel_rfl) (by kernel_rfl) rfl rfl rfl rfl rfl rfl rfl rfl (looksP_pure ttOk rfl) ?_
      refine DXA.tail [9, 10] ttOk rfl rfl rfl rfl rfl rfl (by kernel_rfl) rfl rfl (by kernel_rfl) ?_
      refine WX.run ttOk rfl ?_
      refine WX.callF 19 (fun _ _ h => GoT.ow_rd h) (fun _ f hf => GoT.fak f hf) rfl rfl rfl rfl rfl (fun _ => rfl) rfl (fun w G bs hI hΓ => f23 w n (by omega) aL paLDurable caLDurable (hΓ.get 0 rfl) paLVolatile caLVolatile (hΓ.get 1 rfl) hk1) (fun _ => rfl) (fun _ => rfl) ?_
      rintro ⟨⟨p8, c8⟩, ⟨p9, c9⟩⟩ hq6
      refine WX.run ttOk rfl ?_
      refine WX.callF 23 (fun _ _ h => GoT.ow_rd h) (fun _ f hf => GoT.fak f hf) rfl rfl rfl rfl rfl (fun _ => rfl) rfl (fun w G bs hI hΓ => f54 w n (by omega) aR paRDataName caRDataName (hΓ.get 2 rfl) paRDataContent caRDataContent (hΓ.get 3 rfl) paRDataKeyName caRDataKeyName (hΓ.get 4 rfl) hk2) (fun _ => rfl) (fun _ => rfl) ?_
      rintro ⟨⟨⟩, ⟨⟨p10, c10⟩, ⟨p11, c11⟩, ⟨p12, c12⟩, ⟨⟩, ⟨⟩⟩⟩ hq7
      refine WX.run ttOk rfl ?_
      refine WX.callF 29 (fun _ _ h => GoT.ow_rd h) (fun _ f hf => GoT.fak f hf) rfl rfl rfl rfl rfl (fun _ => rfl) rfl (fun w G bs hI hΓ => f55 w n (by omega) (laws_toLog aL) p8 c8 (hΓ.get 19 rfl) p9 c9 (hΓ.get 20 rfl) (laws_toRecord aR) p10 c10 (hΓ.get 23 rfl) p11 c11 (hΓ.get 24 rfl) p12 c12 (hΓ.get 25 rfl) hq6 (And.intro (ok_Record hq4).1 (And.intro (ok_DataP (ok_Record hq7).2).1 (And.intro (ok_DataP (ok_Record hq7).2).2.1 (And.intro (ok_DataP (ok_Record hq7).2).2.2.1 (And.intro (ok_DataP (ok_Record hq4).2).2.2.2.1 (ok_DataP (ok_Record hq4).2).2.2.2.2)))))) (fun _ => rfl) (fun _ => rfl) ?_
      rintro ⟨⟨p13, c13⟩, ⟨p14, c14⟩⟩ hq8
      refine WX.run ttOk rfl ?_
      refine WX.callV rfl rfl rfl rfl rfl (fun _ => rfl) rfl (fun w G bs hI hΓ => f25 w (n + 1) (by omega) ((impl_AppendRecord (laws_toLog aL) (laws_toRecord aR)).1) p13 c13 (hΓ.get 29 rfl) p14 c14 (hΓ.get 30 rfl) ((spec_AppendRecord (laws_toLog aL) (laws_toRecord aR)).1) p6 c6 (hΓ.get 15 rfl) p7 c7 (hΓ.get 16 rfl) hq8 hq5) ?_
      intro hq9
      refine WX.run ttOk rfl ?_
      refine WX.cases 49 rfl (fun h3 => ?_) (fun h3 => ?_)
      · skip
        have h3d := (B.nt h3)
        refine WX.run ttOk rfl ?_
        have hP3 : laws_FnExactAppendRecord aL aR = false := by simp only [laws_FnExactAppendRecord, h1, h2, h3, cond_true, cond_false]
        refine WX.ret ttOk rfl ?_
        intro w1 G bs hI hΓ
        rw [hP3]
        exact ⟨rfl, trivial⟩
      · skip
        have h3d := (B.nf h3)
        refine WX.run ttOk rfl ?_
        refine WX.see rfl rfl rfl (fun _ hΓ => looks_beq ttOk rfl rfl rfl rfl rfl rfl) ?_
        refine WX.run ttOk rfl ?_
        refine WX.cases 53 rfl (fun h4 => ?_) (fun h4 => ?_)
        · skip
          have h4d := (B.nt h4)
          refine WX.run ttOk rfl ?_
          have hP4 : laws_FnExactAppendRecord aL aR = false := by simp only [laws_FnExactAppendRecord, h1, h2, h3, h4, cond_true, cond_false]
          refine WX.ret ttOk rfl ?_
          intro w1 G bs hI hΓ
          rw [hP4]
          exact ⟨rfl, trivial⟩
        · skip
          have h4d := (B.nf h4)
          refine WX.run ttOk rfl ?_
          refine WX.draw [] mixed ?_
          intro bs G0 hΓ0
          refine DX.takes (fuel := 3) ttOk [(0, false), (1, false)] (by kernel_rfl) rfl ?_
          refine DX.callF 2 33 (fun _ _ h => GoT.ow_rd h) (fun _ f hf => GoT.fak f hf) rfl (by kernel_rfl) rfl rfl rfl rfl rfl rfl (fun _ => rfl) rfl (fun w G bs hI hΓ => f23 w n (by omega) aL paLDurable caLDurable (hΓ.get 0 rfl) paLVolatile caLVolatile (hΓ.get 1 rfl) hk1) (fun _ => rfl) (fun _ => rfl) ?_
          rintro ⟨⟨p15, c15⟩, ⟨p16, c16⟩⟩ hq10
          refine DX.callV 3 rfl (by kernel_rfl) rfl rfl rfl rfl rfl rfl (fun _ => rfl) rfl (fun w G bs hI hΓ => f25 w n (by omega) (laws_toLog aL) p8 c8 (hΓ.get 19 rfl) p9 c9 (hΓ.get 20 rfl) (laws_toLog aL) p15 c15 (hΓ.get 33 rfl) p16 c16 (hΓ.get 34 rfl) hq6 hq10) ?_
          intro hq11
          refine DX.takes (fuel := 0) ttOk [(4, true)] (by kernel_rfl) rfl ?_
          refine DX.tail2 [] rfl rfl (by kernel_rfl) ?_
          refine WX.run ttOk rfl ?_
          refine WX.cases 58 rfl (fun h5 => ?_) (fun h5 => ?_)
          · skip
            have h5d := (B.nt h5)
            refine WX.run ttOk rfl ?_
            have hP5 : laws_FnExactAppendRecord aL aR = false := by simp only [laws_FnExactAppendRecord, h1, h2, h3, h4, h5, cond_true, cond_false]
            refine WX.ret ttOk rfl ?_
            intro w1 G bs hI hΓ
            rw [hP5]
            exact ⟨rfl, trivial⟩
          · skip
            have h5d := (B.nf h5)
            refine WX.run ttOk rfl ?_
            refine WX.draw [] mixed ?_
            intro bs G0 hΓ0
            refine DX.takes (fuel := 3) ttOk [(0, false), (1, false)] (by kernel_rfl) rfl ?_
            refine DX.callF 2 37 (fun _ _ h => GoT.ow_rd h) (fun _ f hf => GoT.fak f hf) rfl (by kernel_rfl) rfl rfl rfl rfl rfl rfl (fun _ => rfl) rfl (fun w G bs hI hΓ => f54 w n (by omega) aR paRDataName caRDataName (hΓ.get 2 rfl) paRDataContent caRDataContent (hΓ.get 3 rfl) paRDataKeyName caRDataKeyName (hΓ.get 4 rfl) hk2) (fun _ => rfl) (fun _ => rfl) ?_
            rintro ⟨⟨⟩, ⟨⟨p17, c17⟩, ⟨p18, c18⟩, ⟨p19, c19⟩, ⟨⟩, ⟨⟩⟩⟩ hq12
            refine DX.callV 3 rfl (by kernel_rfl) rfl rfl rfl rfl rfl rfl (fun _ => rfl) rfl (fun w G bs hI hΓ => f56 w n (by omega) (laws_toRecord aR) p10 c10 (hΓ.get 23 rfl) p11 c11 (hΓ.get 24 rfl) p12 c12 (hΓ.get 25 rfl) (laws_toRecord aR) p17 c17 (hΓ.get 37 rfl) p18 c18 (hΓ.get 38 rfl) p19 c19 (hΓ.get 39 rfl) (And.intro (ok_Record hq4).1 (And.intro (ok_DataP (ok_Record hq7).2).1 (And.intro (ok_DataP (ok_Record hq7).2).2.1 (And.intro (ok_DataP (ok_Record hq7).2).2.2.1 (And.intro (ok_DataP (ok_Record hq4).2).2.2.2.1 (ok_DataP (ok_Record hq4).2).2.2.2.2))))) (And.intro (ok_Record hq4).1 (And.intro (ok_DataP (ok_Record hq12).2).1 (And.intro (ok_DataP (ok_Record hq12).2).2.1 (And.intro (ok_DataP (ok_Record hq12).2).2.2.1 (And.intro (ok_DataP (ok_Record hq4).2).2.2.2.1 (ok_DataP (ok_Record hq4).2).2.2.2.2)))))) ?_
            intro hq13
            refine DX.takes (fuel := 0) ttOk [(4, true)] (by kernel_rfl) rfl ?_
            refine DX.tail2 [] rfl rfl (by kernel_rfl) ?_
            refine WX.run ttOk rfl ?_
            refine WX.cases 63 rfl (fun h6 => ?_) (fun h6 => ?_)
            · skip
              have h6d := (B.nt h6)
              refine WX.run ttOk rfl ?_
              have hP6 : laws_FnExactAppendRecord aL aR = false := by simp only [laws_FnExactAppendRecord, h1, h2, h3, h4, h5, h6, cond_true, cond_false]
              refine WX.ret ttOk rfl ?_
              intro w1 G bs hI hΓ
              rw [hP6]
              exact ⟨rfl, trivial⟩
            · skip
              have h6d := (B.nf h6)
              refine WX.run ttOk rfl ?_
              refine WX.callM [21, 22] 43 rfl (fun _ _ h => GoT.ow_rd h) (fun _ f hf => GoT.fak f hf) rfl rfl rfl rfl rfl (fun _ => rfl) rfl (fun w G bs H hI hH hs hΓ => f26 w n (by omega) (laws_toLog aL) p8 c8 p9 c9 1 H hH hs hq6 (show I64 1 from (by unfold I64; omega))) (fun _ => rfl) (fun _ => rfl) ?_
              rintro ⟨⟩ hq14
              have hl1 : ((laws_markLog (laws_toLog aL) 1).2.durable).length = ((laws_toLog aL).durable).length := hq14.2.1
              have hl2 : ((laws_markLog (laws_toLog aL) 1).2.volatile).length = ((laws_toLog aL).volatile).length := hq14.2.2
              refine WX.run ttOk rfl ?_
              refine WX.callM [26, 27, 28] 47 rfl (fun _ _ h => GoT.ow_rd h) (fun _ f hf => GoT.fak f hf) rfl rfl rfl rfl rfl (fun _ => rfl) rfl (fun w G bs H hI hH hs hΓ => f57 w n (by omega) (laws_toRecord aR) p10 c10 p11 c11 p12 c12 ((laws_markLog (laws_toLog aL) 1).1) H hH hs (And.intro (ok_Record hq4).1 (And.intro (ok_DataP (ok_Record hq7).2).1 (And.intro (ok_DataP (ok_Record hq7).2).2.1 (And.intro (ok_DataP (ok_Record hq7).2).2.2.1 (And.intro (ok_DataP (ok_Record hq4).2).2.2.2.1 (ok_DataP (ok_Record hq4).2).2.2.2.2))))) hq14.1.1) (fun _ => rfl) (fun _ => rfl) ?_
              rintro ⟨⟩ hq15
              have hl3 : ((laws_markRecord (laws_toRecord aR) ((laws_markLog (laws_toLog aL) 1).1)).2.data.name.parts).length = ((laws_toRecord aR).data.name.parts).length := hq15.2.2.1
              have hl4 : ((laws_markRecord (laws_toRecord aR) ((laws_markLog (laws_toLog aL) 1).1)).2.data.content).length = ((laws_toRecord aR).data.content).length := hq15.2.2.2.1
              have hl5 : ((laws_markRecord (laws_toRecord aR) ((laws_markLog (laws_toLog aL) 1).1)).2.data.keyName.parts).length = ((laws_toRecord aR).data.keyName.parts).length := hq15.2.2.2.2.1
              refine WX.run ttOk rfl ?_
              refine WX.cases 72 rfl (fun h7 => ?_) (fun h7 => ?_)
              · skip
                have h7d := B.dt h7
                refine WX.run ttOk rfl ?_
                have hP7 : laws_FnExactAppendRecord aL aR = false := by simp only [laws_FnExactAppendRecord, h1, h2, h3, h4, h5, h6, h7, cond_true, cond_false]
                refine WX.ret ttOk rfl ?_
                intro w1 G bs hI hΓ
                rw [hP7]
                exact ⟨rfl, trivial⟩
              · skip
                have h7d := B.df h7
                refine WX.run ttOk rfl ?_
                refine WX.der 53 (MF.rs .der p13 c13 ((impl_AppendRecord (laws_toLog aL) (laws_toRecord aR)).1.durable)) rfl (fun _ hΓ => (hΓ.get 31 rfl : OwSl _ _ _ _).rd) ?_
                refine WX.der 54 (MF.rs .der p14 c14 ((impl_AppendRecord (laws_toLog aL) (laws_toRecord aR)).1.volatile)) rfl (fun _ hΓ => (hΓ.get 32 rfl : OwSl _ _ _ _).rd) ?_
                refine WX.der 55 (MF.rs .der p6 c6 ((spec_AppendRecord (laws_toLog aL) (laws_toRecord aR)).1.durable)) rfl (fun _ hΓ => (hΓ.get 17 rfl : OwSl _ _ _ _).rd) ?_
                refine WX.der 56 (MF.rs .der p7 c7 ((spec_AppendRecord (laws_toLog aL) (laws_toRecord aR)).1.volatile)) rfl (fun _ hΓ => (hΓ.get 18 rfl : OwSl _ _ _ _).rd) ?_
                refine WX.callV rfl rfl rfl rfl rfl (fun _ => rfl) rfl (fun w G bs hI hΓ => f25 w (n + 1) (by omega) ((impl_AppendRecord (laws_toLog aL) (laws_toRecord aR)).1) p13 c13 (hΓ.get 53 rfl) p14 c14 (hΓ.get 54 rfl) ((spec_AppendRecord (laws_toLog aL) (laws_toRecord aR)).1) p6 c6 (hΓ.get 55 rfl) p7 c7 (hΓ.get 56 rfl) hq8 hq5) ?_
                intro hq16
                refine WX.run ttOk rfl ?_
                refine WX.cases 78 rfl (fun h8 => ?_) (fun h8 => ?_)
                · skip
                  have h8d := (B.nt h8)
                  exact absurd (h3.symm.trans h8) Bool.false_ne_true
                · skip
                  have h8d := (B.nf h8)
                  refine WX.run ttOk rfl ?_
                  refine WX.see rfl rfl rfl (fun _ hΓ => looks_beq ttOk rfl rfl rfl rfl rfl rfl) ?_
                  refine WX.run ttOk rfl ?_
                  refine WX.cases 82 rfl (fun h9 => ?_) (fun h9 => ?_)
                  · skip
                    have h9d := (B.nt h9)
                    exact absurd (h4.symm.trans h9) Bool.false_ne_true
                  · skip
                    have h9d := (B.nf h9)
                    refine WX.run ttOk rfl ?_
                    refine WX.callM [31, 32] 57 rfl (fun _ _ h => GoT.ow_rd h) (fun _ f hf => GoT.fak f hf) rfl rfl rfl rfl rfl (fun _ => rfl) rfl (fun w G bs H hI hH hs hΓ => f26 w (n + 1) (by omega) ((impl_AppendRecord (laws_toLog aL) (laws_toRecord aR)).1) p13 c13 p14 c14 1 H hH hs hq8 (show I64 1 from (by unfold I64; omega))) (fun _ => rfl) (fun _ => rfl) ?_
                    rintro ⟨⟩ hq17
                    have hl6 : ((laws_markLog ((impl_AppendRecord (laws_toLog aL) (laws_toRecord aR)).1) 1).2.durable).length = ((impl_AppendRecord (laws_toLog aL) (laws_toRecord aR)).1.durable).length := hq17.2.1
                    have hl7 : ((laws_markLog ((impl_AppendRecord (laws_toLog aL) (laws_toRecord aR)).1) 1).2.volatile).length = ((impl_AppendRecord (laws_toLog aL) (laws_toRecord aR)).1.volatile).length := hq17.2.2
                    refine WX.run ttOk rfl ?_
                    refine WX.slot 86 (y := .v (.agg #[.slice p13 (((laws_markLog ((impl_AppendRecord (laws_toLog aL) (laws_toRecord aR)).1) 1).2.durable).length) c13, .slice p14 (((laws_markLog ((impl_AppendRecord (laws_toLog aL) (laws_toRecord aR)).1) 1).2.volatile).length) c14])) rfl (fun _ => by show (.agg #[.slice p13 (((impl_AppendRecord (laws_toLog aL) (laws_toRecord aR)).1.durable).length) c13, .slice p14 (((impl_AppendRecord (laws_toLog aL) (laws_toRecord aR)).1.volatile).length) c14] : Value) = .agg #[.slice p13 (((laws_markLog ((impl_AppendRecord (laws_toLog aL) (laws_toRecord aR)).1) 1).2.durable).length) c13, .slice p14 (((laws_markLog ((impl_AppendRecord (laws_toLog aL) (laws_toRecord aR)).1) 1).2.volatile).length) c14]; simp only [hl6, hl7]) ?_
                    refine WX.callV rfl rfl rfl rfl rfl (fun _ => rfl) rfl (fun w G bs hI hΓ => f34 w (n + 1) (by omega) ((laws_markLog ((impl_AppendRecord (laws_toLog aL) (laws_toRecord aR)).1) 1).2) p13 c13 (hΓ.get 57 rfl) p14 c14 (hΓ.get 58 rfl) 1 hq17.1.2 (show I64 1 from (by unfold I64; omega))) ?_
                    intro hq18
                    refine WX.run ttOk rfl ?_
                    refine WX.cases 90 rfl (fun h10 => ?_) (fun h10 => ?_)
                    · skip
                      have h10d := B.dt h10
                      refine WX.run ttOk rfl ?_
                      have hP8 : laws_FnExactAppendRecord aL aR = false := by simp only [laws_FnExactAppendRecord, h1, h2, h3, h4, h5, h6, h7, h8, h9, h10, cond_true, cond_false]
                      refine WX.ret ttOk rfl ?_
                      intro w1 G bs hI hΓ
                      rw [hP8]
                      exact ⟨rfl, trivial⟩
                    · skip
                      have h10d := B.df h10
                      refine WX.run ttOk rfl ?_
                      refine WX.cases 93 rfl (fun h11 => ?_) (fun h11 => ?_)
                      · skip
                        have h11d := B.nt' h11
                        refine WX.run ttOk rfl ?_
                        have hP9 : laws_FnExactAppendRecord aL aR = false := by simp only [laws_FnExactAppendRecord, h1, h2, h3, h4, h5, h6, h7, h8, h9, h10, h11, cond_true, cond_false]
                        refine WX.ret ttOk rfl ?_
                        intro w1 G bs hI hΓ
                        rw [hP9]
                        exact ⟨rfl, trivial⟩
                      · skip
                        have h11d := B.nf' h11
                        refine WX.run ttOk rfl ?_
                        refine WX.der 61 (MF.rs .der p10 c10 ((laws_markRecord (laws_toRecord aR) ((laws_markLog (laws_toLog aL) 1).1)).2.data.name.parts)) rfl (fun _ hΓ => (hΓ.get 50 rfl : OwSl _ _ _ _).rd) ?_
                        refine WX.der 62 (MF.rs .der p11 c11 ((laws_markRecord (laws_toRecord aR) ((laws_markLog (laws_toLog aL) 1).1)).2.data.content)) rfl (fun _ hΓ => (hΓ.get 51 rfl : OwSl _ _ _ _).rd) ?_
                        refine WX.der 63 (MF.rs .der p12 c12 ((laws_markRecord (laws_toRecord aR) ((laws_markLog (laws_toLog aL) 1).1)).2.data.keyName.parts)) rfl (fun _ hΓ => (hΓ.get 52 rfl : OwSl _ _ _ _).rd) ?_
                        refine WX.der 64 (MF.rs .der p8 c8 ((laws_markLog (laws_toLog aL) 1).2.durable)) rfl (fun _ hΓ => (hΓ.get 45 rfl : OwSl _ _ _ _).rd) ?_
                        refine WX.der 65 (MF.rs .der p9 c9 ((laws_markLog (laws_toLog aL) 1).2.volatile)) rfl (fun _ hΓ => (hΓ.get 46 rfl : OwSl _ _ _ _).rd) ?_
                        refine WX.der 66 (MF.rs .der p6 c6 ((spec_AppendRecord (laws_toLog aL) (laws_toRecord aR)).1.durable)) rfl (fun _ hΓ => (hΓ.get 17 rfl : OwSl _ _ _ _).rd) ?_
                        refine WX.der 67 (MF.rs .der p7 c7 ((spec_AppendRecord (laws_toLog aL) (laws_toRecord aR)).1.volatile)) rfl (fun _ hΓ => (hΓ.get 18 rfl : OwSl _ _ _ _).rd) ?_
                        refine WX.draw [9, 10] mixed ?_
                        intro bs G0 hΓ0
                        refine DX.takes (fuel := 9) ttOk [(0, false), (2, false)] (by kernel_rfl) rfl ?_
                        refine DX.pend 8 15 ⟨38, [.slice none (0) 0, .slice none (0) 0]⟩ ?_
                        refine DXA.callF 1 68 (fun _ _ h => GoT.ow_rd h) (fun _ f hf => GoT.fak f hf) ttOk rfl rfl rfl rfl rfl rfl rfl (by kernel_rfl) (by kernel_rfl) (by kernel_rfl) rfl rfl rfl rfl rfl rfl rfl rfl rfl rfl (fun _ => rfl) rfl rfl (fun w G bs hI hΓ => f23 w n (by omega) aL paLDurable caLDurable (hΓ.get 0 rfl) paLVolatile caLVolatile (hΓ.get 1 rfl) hk1) (fun _ => rfl) (fun _ => rfl) ?_
                        rintro ⟨⟨p20, c20⟩, ⟨p21, c21⟩⟩ hq19
                        refine DXA.callF 3 72 (fun _ _ h => GoT.ow_rd h) (fun _ f hf => GoT.fak f hf) ttOk rfl rfl rfl rfl rfl rfl rfl (by kernel_rfl) (by kernel_rfl) (by kernel_rfl) rfl rfl rfl rfl rfl rfl rfl rfl rfl rfl (fun _ => rfl) rfl rfl (fun w G bs hI hΓ => f54 w n (by omega) aR paRDataName caRDataName (hΓ.get 2 rfl) paRDataContent caRDataContent (hΓ.get 3 rfl) paRDataKeyName caRDataKeyName (hΓ.get 4 rfl) hk2) (fun _ => rfl) (fun _ => rfl) ?_
                        rintro ⟨⟨⟩, ⟨⟨p22, c22⟩, ⟨p23, c23⟩, ⟨p24, c24⟩, ⟨⟩, ⟨⟩⟩⟩ hq20
                        refine DXA.callF 4 78 (fun _ _ h => GoT.ow_rd h) (fun _ f hf => GoT.fak f hf) ttOk rfl rfl rfl rfl rfl rfl rfl (by kernel_rfl) (by kernel_rfl) (by kernel_rfl) rfl rfl rfl rfl rfl rfl rfl rfl rfl rfl (fun _ => rfl) rfl rfl (fun w G bs hI hΓ => f55 w n (by omega) (laws_toLog aL) p20 c20 (hΓ.get 68 rfl) p21 c21 (hΓ.get 69 rfl) (laws_toRecord aR) p22 c22 (hΓ.get 72 rfl) p23 c23 (hΓ.get 73 rfl) p24 c24 (hΓ.get 74 rfl) hq19 (And.intro (ok_Record hq4).1 (And.intro (ok_DataP (ok_Record hq20).2).1 (And.intro (ok_DataP (ok_Record hq20).2).2.1 (And.intro (ok_DataP (ok_Record hq20).2).2.2.1 (And.intro (ok_DataP (ok_Record hq4).2).2.2.2.1 (ok_DataP (ok_Record hq4).2).2.2.2.2)))))) (fun _ => rfl) (fun _ => rfl) ?_
                        rintro ⟨⟨p25, c25⟩, ⟨p26, c26⟩⟩ hq21
                        refine DXA.take 5 (by kernel_rfl) (by kernel_rfl) rfl rfl rfl rfl rfl rfl rfl rfl (looksP_pure ttOk rfl) ?_
                        refine DXA.take 6 (by kernel_rfl) (by kernel_rfl) rfl rfl rfl rfl rfl rfl rfl rfl (looksP_pure ttOk rfl) ?_
                        refine DXA.take 7 (by kernel_rfl) (by kernel_rfl) rfl rfl rfl rfl rfl rfl rfl rfl (looksP_pure ttOk rfl) ?_
                        refine DXA.tail [9, 10] ttOk rfl rfl rfl rfl rfl rfl (by kernel_rfl) rfl rfl (by kernel_rfl) ?_
                        refine WX.run ttOk rfl ?_
                        refine WX.callV rfl rfl rfl rfl rfl (fun _ => rfl) rfl (fun w G bs hI hΓ => f25 w (n + 1) (by omega) ((impl_AppendRecord (laws_toLog aL) (laws_toRecord aR)).1) p25 c25 (hΓ.get 78 rfl) p26 c26 (hΓ.get 79 rfl) ((spec_AppendRecord (laws_toLog aL) (laws_toRecord aR)).1) p6 c6 (hΓ.get 66 rfl) p7 c7 (hΓ.get 67 rfl) hq21 hq5) ?_
                        intro hq22
                        refine WX.run ttOk rfl ?_
                        refine WX.cases 106 rfl (fun h12 => ?_) (fun h12 => ?_)
                        · skip
                          have h12d := (B.nt h12)
                          exact absurd (h3.symm.trans h12) Bool.false_ne_true
                        · skip
                          have h12d := (B.nf h12)
                          refine WX.run ttOk rfl ?_
                          refine WX.see rfl rfl rfl (fun _ hΓ => looks_beq ttOk rfl rfl rfl rfl rfl rfl) ?_
                          refine WX.run ttOk rfl ?_
                          refine WX.cases 110 rfl (fun h13 => ?_) (fun h13 => ?_)
                          · skip
                            have h13d := (B.nt h13)
                            exact absurd (h4.symm.trans h13) Bool.false_ne_true
                          · skip
                            have h13d := (B.nf h13)
                            refine WX.run ttOk rfl ?_
                            refine WX.slot 111 (y := .v (.agg #[.slice p13 (((laws_markLog ((impl_AppendRecord (laws_toLog aL) (laws_toRecord aR)).1) 1).2.durable).length) c13, .slice p14 (((laws_markLog ((impl_AppendRecord (laws_toLog aL) (laws_toRecord aR)).1) 1).2.volatile).length) c14])) rfl (fun _ => by show (.agg #[.slice p13 (((impl_AppendRecord (laws_toLog aL) (laws_toRecord aR)).1.durable).length) c13, .slice p14 (((impl_AppendRecord (laws_toLog aL) (laws_toRecord aR)).1.volatile).length) c14] : Value) = .agg #[.slice p13 (((laws_markLog ((impl_AppendRecord (laws_toLog aL) (laws_toRecord aR)).1) 1).2.durable).length) c13, .slice p14 (((laws_markLog ((impl_AppendRecord (laws_toLog aL) (laws_toRecord aR)).1) 1).2.volatile).length) c14]; simp only [hl6, hl7]) ?_
                            refine WX.callV rfl rfl rfl rfl rfl (fun _ => rfl) rfl (fun w G bs hI hΓ => f34 w (n + 1) (by omega) ((laws_markLog ((impl_AppendRecord (laws_toLog aL) (laws_toRecord aR)).1) 1).2) p13 c13 (hΓ.get 57 rfl) p14 c14 (hΓ.get 58 rfl) 1 hq17.1.2 (show I64 1 from (by unfold I64; omega))) ?_
                            intro hq23
                            refine WX.run ttOk rfl ?_
                            refine WX.cases 115 rfl (fun h14 => ?_) (fun h14 => ?_)
                            · skip
                              have h14d := B.dt h14
                              exact absurd (h10.symm.trans h14) Bool.false_ne_true
                            · skip
                              have h14d := B.df h14
                              refine WX.run ttOk rfl ?_
                              refine WX.cases 118 rfl (fun h15 => ?_) (fun h15 => ?_)
                              · skip
                                have h15d := B.nt' h15
                                exact absurd (h11.symm.trans h15) Bool.false_ne_true
                              · skip
                                have h15d := B.nf' h15
                                refine WX.run ttOk rfl ?_
                                have hP10 : laws_FnExactAppendRecord aL aR = true := by simp only [laws_FnExactAppendRecord, h1, h2, h3, h4, h5, h6, h7, h8, h9, h10, h11, h12, h13, h14, h15, cond_true, cond_false]
                                refine WX.ret ttOk rfl ?_
                                intro w1 G bs hI hΓ
                                rw [hP10]
                                exact ⟨rfl, trivial⟩
end Go.Proofs.Ytcipekdocckfgaa
