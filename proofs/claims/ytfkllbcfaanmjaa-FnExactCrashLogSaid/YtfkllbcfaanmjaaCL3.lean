/-
  That functions of the program compute what the Lean functions do. No condition but what each says. Written by a program (gen2.py).
-/
import Derived.Test.YtfkllbcfaanmjaaC8
import Derived.Test.YtfkllbcfaanmjaaPure
import Derived.Test.YtfkllbcfaanmjaaPL3
namespace Go.Proofs.Ytfkllbcfaanmjaa
open Go.Stp
set_option linter.unusedVariables false
set_option linter.unusedSimpArgs false
theorem f12 (w : World) (n : Nat) (hn : n + 1 ≤ 9) (aL : Log) (paLDurable : Option Addr) (caLDurable : Nat) (hpaLDurable : RdSl (hp w) paLDurable caLDurable aL.durable) (paLVolatile : Option Addr) (caLVolatile : Nat) (hpaLVolatile : RdSl (hp w) paLVolatile caLVolatile aL.volatile) (hokaL : GoT.ok 10 aL) :
    Does Try.prog 12 #[.agg #[.slice paLDurable ((aL.durable).length) caLDurable, .slice paLVolatile ((aL.volatile).length) caLVolatile]] w emp (fun (rv : Value) (_ : World) => rv = .bool (laws_FnExactFlushLog aL) ∧ True) := by
  have hbP := bd_pos n
  have hbS0 := bd_succ (n := n) (by omega)
  have hbB := bd_big (n := (n + 1)) (by omega)
  have hbM := bd_mono (show n ≤ n + 1 by omega)
  refine WX.enter (tt := tt) (Γ := [(0, MF.rs .stb paLDurable caLDurable aL.durable), (1, MF.rs .stb paLVolatile caLVolatile aL.volatile)]) Try.func12 rfl (by kernel_rfl) rfl (allS_cons rfl hpaLDurable (allS_cons rfl hpaLVolatile allS_nil)) ?_
  refine WX.run ttOk rfl ?_
  refine WX.callV rfl rfl rfl rfl rfl (fun _ => rfl) rfl (fun w G bs hI hΓ => f56 w 10 aL paLDurable caLDurable (hΓ.get 0 rfl) paLVolatile caLVolatile (hΓ.get 1 rfl) 1048576 hokaL (show I64 1048576 from (by unfold I64; omega))) ?_
  intro hq1
  refine WX.run ttOk rfl ?_
  refine WX.cases 15 rfl (fun h1 => ?_) (fun h1 => ?_)
  · skip
    have h1d := B.dt h1
    refine WX.run ttOk rfl ?_
    have hP1 : laws_FnExactFlushLog aL = true := by simp only [laws_FnExactFlushLog, h1, cond_true, cond_false]
    refine WX.ret ttOk rfl ?_
    intro w1 G bs hI hΓ
    rw [hP1]
    exact ⟨rfl, trivial⟩
  · skip
    have h1d := B.df h1
    obtain ⟨hs1, ht1⟩ := (sz_Log_R aL 1048576 hokaL (by omega) (by omega)).pos (by omega)
    have hk1 : GoT.ok n aL := GoT.okm (Nat.zero_le n) (Sz.low hokaL (show sz aL ≤ 1048576 by omega))
    refine WX.run ttOk rfl ?_
    refine WX.callF 2 (fun _ _ h => GoT.ow_rd h) (fun _ f hf => GoT.fak f hf) rfl rfl rfl rfl rfl (fun _ => rfl) rfl (fun w G bs hI hΓ => f58 w n (by omega) aL paLDurable caLDurable (hΓ.get 0 rfl) paLVolatile caLVolatile (hΓ.get 1 rfl) hk1) (fun _ => rfl) (fun _ => rfl) ?_
    rintro ⟨⟨p1, c1⟩, ⟨p2, c2⟩⟩ hq2
    refine WX.callF 6 (fun _ _ h => GoT.ow_rd h) (fun _ f hf => GoT.fak f hf) rfl rfl rfl rfl rfl (fun _ => rfl) rfl (fun w G bs hI hΓ => f61 w n (by omega) (laws_toLog aL) p1 c1 (hΓ.get 2 rfl) p2 c2 (hΓ.get 3 rfl) hq2) (fun _ => rfl) (fun _ => rfl) ?_
    rintro ⟨⟨p3, c3⟩, ⟨p4, c4⟩⟩ hq3
    refine WX.run ttOk rfl ?_
    refine WX.callF 10 (fun _ _ h => GoT.ow_rd h) (fun _ f hf => GoT.fak f hf) rfl rfl rfl rfl rfl (fun _ => rfl) rfl (fun w G bs hI hΓ => f58 w n (by omega) aL paLDurable caLDurable (hΓ.get 0 rfl) paLVolatile caLVolatile (hΓ.get 1 rfl) hk1) (fun _ => rfl) (fun _ => rfl) ?_
    rintro ⟨⟨p5, c5⟩, ⟨p6, c6⟩⟩ hq4
    refine WX.run ttOk rfl ?_
    refine WX.callF 14 (fun _ _ h => GoT.ow_rd h) (fun _ f hf => GoT.fak f hf) rfl rfl rfl rfl rfl (fun _ => rfl) rfl (fun w G bs hI hΓ => f62 w n (by omega) (laws_toLog aL) p5 c5 (hΓ.get 10 rfl) p6 c6 (hΓ.get 11 rfl) hq4) (fun _ => rfl) (fun _ => rfl) ?_
    rintro ⟨⟨p7, c7⟩, ⟨p8, c8⟩⟩ hq5
    refine WX.run ttOk rfl ?_
    refine WX.callV rfl rfl rfl rfl rfl (fun _ => rfl) rfl (fun w G bs hI hΓ => f60 w (n + 1) (by omega) (impl_FlushLog (laws_toLog aL)) p7 c7 (hΓ.get 14 rfl) p8 c8 (hΓ.get 15 rfl) (spec_FlushLog (laws_toLog aL)) p3 c3 (hΓ.get 6 rfl) p4 c4 (hΓ.get 7 rfl) hq5 hq3) ?_
    intro hq6
    refine WX.run ttOk rfl ?_
    refine WX.cases 26 rfl (fun h2 => ?_) (fun h2 => ?_)
    · skip
      have h2d := (B.nt h2)
      refine WX.run ttOk rfl ?_
      have hP2 : laws_FnExactFlushLog aL = false := by simp only [laws_FnExactFlushLog, h1, h2, cond_true, cond_false]
      refine WX.ret ttOk rfl ?_
      intro w1 G bs hI hΓ
      rw [hP2]
      exact ⟨rfl, trivial⟩
    · skip
      have h2d := (B.nf h2)
      refine WX.run ttOk rfl ?_
      refine WX.draw [] mixed ?_
      intro bs G0 hΓ0
      refine DX.takes (fuel := 3) ttOk [(0, false), (1, false)] (by kernel_rfl) rfl ?_
      refine DX.callF 2 18 (fun _ _ h => GoT.ow_rd h) (fun _ f hf => GoT.fak f hf) rfl (by kernel_rfl) rfl rfl rfl rfl rfl rfl (fun _ => rfl) rfl (fun w G bs hI hΓ => f58 w n (by omega) aL paLDurable caLDurable (hΓ.get 0 rfl) paLVolatile caLVolatile (hΓ.get 1 rfl) hk1) (fun _ => rfl) (fun _ => rfl) ?_
      rintro ⟨⟨p9, c9⟩, ⟨p10, c10⟩⟩ hq7
      refine DX.callV 3 rfl (by kernel_rfl) rfl rfl rfl rfl rfl rfl (fun _ => rfl) rfl (fun w G bs hI hΓ => f60 w n (by omega) (laws_toLog aL) p5 c5 (hΓ.get 10 rfl) p6 c6 (hΓ.get 11 rfl) (laws_toLog aL) p9 c9 (hΓ.get 18 rfl) p10 c10 (hΓ.get 19 rfl) hq4 hq7) ?_
      intro hq8
      refine DX.takes (fuel := 0) ttOk [(4, true)] (by kernel_rfl) rfl ?_
      refine DX.tail [] rfl rfl (by kernel_rfl) ?_
      refine WX.run ttOk rfl ?_
      refine WX.cases 31 rfl (fun h3 => ?_) (fun h3 => ?_)
      · skip
        have h3d := (B.nt h3)
        refine WX.run ttOk rfl ?_
        have hP3 : laws_FnExactFlushLog aL = false := by simp only [laws_FnExactFlushLog, h1, h2, h3, cond_true, cond_false]
        refine WX.ret ttOk rfl ?_
        intro w1 G bs hI hΓ
        rw [hP3]
        exact ⟨rfl, trivial⟩
      · skip
        have h3d := (B.nf h3)
        refine WX.run ttOk rfl ?_
        refine WX.callM [12, 13] 22 rfl (fun _ _ h => GoT.ow_rd h) (fun _ f hf => GoT.fak f hf) rfl rfl rfl rfl rfl (fun _ => rfl) rfl (fun w G bs H hI hH hs hΓ => f63 w n (by omega) (laws_toLog aL) p5 c5 p6 c6 1 H hH hs hq4 (show I64 1 from (by unfold I64; omega))) (fun _ => rfl) (fun _ => rfl) ?_
        rintro ⟨⟩ hq9
        have hl1 : ((laws_markLog (laws_toLog aL) 1).2.durable).length = ((laws_toLog aL).durable).length := hq9.2.1
        have hl2 : ((laws_markLog (laws_toLog aL) 1).2.volatile).length = ((laws_toLog aL).volatile).length := hq9.2.2
        refine WX.run ttOk rfl ?_
        refine WX.cases 37 rfl (fun h4 => ?_) (fun h4 => ?_)
        · skip
          have h4d := B.dt h4
          refine WX.run ttOk rfl ?_
          have hP4 : laws_FnExactFlushLog aL = false := by simp only [laws_FnExactFlushLog, h1, h2, h3, h4, cond_true, cond_false]
          refine WX.ret ttOk rfl ?_
          intro w1 G bs hI hΓ
          rw [hP4]
          exact ⟨rfl, trivial⟩
        · skip
          have h4d := B.df h4
          refine WX.run ttOk rfl ?_
          refine WX.der 26 (MF.rs .der p7 c7 ((impl_FlushLog (laws_toLog aL)).durable)) rfl (fun _ hΓ => (hΓ.get 16 rfl : OwSl _ _ _ _).rd) ?_
          refine WX.der 27 (MF.rs .der p8 c8 ((impl_FlushLog (laws_toLog aL)).volatile)) rfl (fun _ hΓ => (hΓ.get 17 rfl : OwSl _ _ _ _).rd) ?_
          refine WX.der 28 (MF.rs .der p3 c3 ((spec_FlushLog (laws_toLog aL)).durable)) rfl (fun _ hΓ => (hΓ.get 8 rfl : OwSl _ _ _ _).rd) ?_
          refine WX.der 29 (MF.rs .der p4 c4 ((spec_FlushLog (laws_toLog aL)).volatile)) rfl (fun _ hΓ => (hΓ.get 9 rfl : OwSl _ _ _ _).rd) ?_
          refine WX.callV rfl rfl rfl rfl rfl (fun _ => rfl) rfl (fun w G bs hI hΓ => f60 w (n + 1) (by omega) (impl_FlushLog (laws_toLog aL)) p7 c7 (hΓ.get 26 rfl) p8 c8 (hΓ.get 27 rfl) (spec_FlushLog (laws_toLog aL)) p3 c3 (hΓ.get 28 rfl) p4 c4 (hΓ.get 29 rfl) hq5 hq3) ?_
          intro hq10
          refine WX.run ttOk rfl ?_
          refine WX.cases 42 rfl (fun h5 => ?_) (fun h5 => ?_)
          · skip
            have h5d := (B.nt h5)
            exact absurd (h2.symm.trans h5) Bool.false_ne_true
          · skip
            have h5d := (B.nf h5)
            refine WX.run ttOk rfl ?_
            refine WX.callM [16, 17] 30 rfl (fun _ _ h => GoT.ow_rd h) (fun _ f hf => GoT.fak f hf) rfl rfl rfl rfl rfl (fun _ => rfl) rfl (fun w G bs H hI hH hs hΓ => f63 w (n + 1) (by omega) (impl_FlushLog (laws_toLog aL)) p7 c7 p8 c8 1 H hH hs hq5 (show I64 1 from (by unfold I64; omega))) (fun _ => rfl) (fun _ => rfl) ?_
            rintro ⟨⟩ hq11
            have hl3 : ((laws_markLog (impl_FlushLog (laws_toLog aL)) 1).2.durable).length = ((impl_FlushLog (laws_toLog aL)).durable).length := hq11.2.1
            have hl4 : ((laws_markLog (impl_FlushLog (laws_toLog aL)) 1).2.volatile).length = ((impl_FlushLog (laws_toLog aL)).volatile).length := hq11.2.2
            refine WX.run ttOk rfl ?_
            refine WX.slot 46 (y := .v (.agg #[.slice p7 (((laws_markLog (impl_FlushLog (laws_toLog aL)) 1).2.durable).length) c7, .slice p8 (((laws_markLog (impl_FlushLog (laws_toLog aL)) 1).2.volatile).length) c8])) rfl (fun _ => by show (.agg #[.slice p7 (((impl_FlushLog (laws_toLog aL)).durable).length) c7, .slice p8 (((impl_FlushLog (laws_toLog aL)).volatile).length) c8] : Value) = .agg #[.slice p7 (((laws_markLog (impl_FlushLog (laws_toLog aL)) 1).2.durable).length) c7, .slice p8 (((laws_markLog (impl_FlushLog (laws_toLog aL)) 1).2.volatile).length) c8]; simp only [hl3, hl4]) ?_
            refine WX.callV rfl rfl rfl rfl rfl (fun _ => rfl) rfl (fun w G bs hI hΓ => f64 w (n + 1) (by omega) ((laws_markLog (impl_FlushLog (laws_toLog aL)) 1).2) p7 c7 (hΓ.get 30 rfl) p8 c8 (hΓ.get 31 rfl) 1 hq11.1.2 (show I64 1 from (by unfold I64; omega))) ?_
            intro hq12
            refine WX.run ttOk rfl ?_
            refine WX.cases 50 rfl (fun h6 => ?_) (fun h6 => ?_)
            · skip
              have h6d := B.dt h6
              refine WX.run ttOk rfl ?_
              have hP5 : laws_FnExactFlushLog aL = false := by simp only [laws_FnExactFlushLog, h1, h2, h3, h4, h5, h6, cond_true, cond_false]
              refine WX.ret ttOk rfl ?_
              intro w1 G bs hI hΓ
              rw [hP5]
              exact ⟨rfl, trivial⟩
            · skip
              have h6d := B.df h6
              refine WX.run ttOk rfl ?_
              refine WX.cases 53 rfl (fun h7 => ?_) (fun h7 => ?_)
              · skip
                have h7d := B.nt' h7
                refine WX.run ttOk rfl ?_
                have hP6 : laws_FnExactFlushLog aL = false := by simp only [laws_FnExactFlushLog, h1, h2, h3, h4, h5, h6, h7, cond_true, cond_false]
                refine WX.ret ttOk rfl ?_
                intro w1 G bs hI hΓ
                rw [hP6]
                exact ⟨rfl, trivial⟩
              · skip
                have h7d := B.nf' h7
                refine WX.run ttOk rfl ?_
                refine WX.callF 34 (fun _ _ h => GoT.ow_rd h) (fun _ f hf => GoT.fak f hf) rfl rfl rfl rfl rfl (fun _ => rfl) rfl (fun w G bs hI hΓ => f58 w n (by omega) aL paLDurable caLDurable (hΓ.get 0 rfl) paLVolatile caLVolatile (hΓ.get 1 rfl) hk1) (fun _ => rfl) (fun _ => rfl) ?_
                rintro ⟨⟨p11, c11⟩, ⟨p12, c12⟩⟩ hq13
                refine WX.callF 38 (fun _ _ h => GoT.ow_rd h) (fun _ f hf => GoT.fak f hf) rfl rfl rfl rfl rfl (fun _ => rfl) rfl (fun w G bs hI hΓ => f62 w n (by omega) (laws_toLog aL) p11 c11 (hΓ.get 34 rfl) p12 c12 (hΓ.get 35 rfl) hq13) (fun _ => rfl) (fun _ => rfl) ?_
                rintro ⟨⟨p13, c13⟩, ⟨p14, c14⟩⟩ hq14
                refine WX.run ttOk rfl ?_
                refine WX.der 42 (MF.rs .der p3 c3 ((spec_FlushLog (laws_toLog aL)).durable)) rfl (fun _ hΓ => (hΓ.get 8 rfl : OwSl _ _ _ _).rd) ?_
                refine WX.der 43 (MF.rs .der p4 c4 ((spec_FlushLog (laws_toLog aL)).volatile)) rfl (fun _ hΓ => (hΓ.get 9 rfl : OwSl _ _ _ _).rd) ?_
                refine WX.callV rfl rfl rfl rfl rfl (fun _ => rfl) rfl (fun w G bs hI hΓ => f60 w (n + 1) (by omega) (impl_FlushLog (laws_toLog aL)) p13 c13 (hΓ.get 38 rfl) p14 c14 (hΓ.get 39 rfl) (spec_FlushLog (laws_toLog aL)) p3 c3 (hΓ.get 42 rfl) p4 c4 (hΓ.get 43 rfl) hq14 hq3) ?_
                intro hq15
                refine WX.run ttOk rfl ?_
                refine WX.cases 60 rfl (fun h8 => ?_) (fun h8 => ?_)
                · skip
                  have h8d := (B.nt h8)
                  exact absurd (h2.symm.trans h8) Bool.false_ne_true
                · skip
                  have h8d := (B.nf h8)
                  refine WX.run ttOk rfl ?_
                  refine WX.slot 61 (y := .v (.agg #[.slice p7 (((laws_markLog (impl_FlushLog (laws_toLog aL)) 1).2.durable).length) c7, .slice p8 (((laws_markLog (impl_FlushLog (laws_toLog aL)) 1).2.volatile).length) c8])) rfl (fun _ => by show (.agg #[.slice p7 (((impl_FlushLog (laws_toLog aL)).durable).length) c7, .slice p8 (((impl_FlushLog (laws_toLog aL)).volatile).length) c8] : Value) = .agg #[.slice p7 (((laws_markLog (impl_FlushLog (laws_toLog aL)) 1).2.durable).length) c7, .slice p8 (((laws_markLog (impl_FlushLog (laws_toLog aL)) 1).2.volatile).length) c8]; simp only [hl3, hl4]) ?_
                  refine WX.callV rfl rfl rfl rfl rfl (fun _ => rfl) rfl (fun w G bs hI hΓ => f64 w (n + 1) (by omega) ((laws_markLog (impl_FlushLog (laws_toLog aL)) 1).2) p7 c7 (hΓ.get 30 rfl) p8 c8 (hΓ.get 31 rfl) 1 hq11.1.2 (show I64 1 from (by unfold I64; omega))) ?_
                  intro hq16
                  refine WX.run ttOk rfl ?_
                  refine WX.cases 65 rfl (fun h9 => ?_) (fun h9 => ?_)
                  · skip
                    have h9d := B.dt h9
                    exact absurd (h6.symm.trans h9) Bool.false_ne_true
                  · skip
                    have h9d := B.df h9
                    refine WX.run ttOk rfl ?_
                    refine WX.cases 68 rfl (fun h10 => ?_) (fun h10 => ?_)
                    · skip
                      have h10d := B.nt' h10
                      exact absurd (h7.symm.trans h10) Bool.false_ne_true
                    · skip
                      have h10d := B.nf' h10
                      refine WX.run ttOk rfl ?_
                      have hP7 : laws_FnExactFlushLog aL = true := by simp only [laws_FnExactFlushLog, h1, h2, h3, h4, h5, h6, h7, h8, h9, h10, cond_true, cond_false]
                      refine WX.ret ttOk rfl ?_
                      intro w1 G bs hI hΓ
                      rw [hP7]
                      exact ⟨rfl, trivial⟩
theorem f14 (w : World) (n : Nat) (hn : n + 1 ≤ 9) (aL : Log) (paLDurable : Option Addr) (caLDurable : Nat) (hpaLDurable : RdSl (hp w) paLDurable caLDurable aL.durable) (paLVolatile : Option Addr) (caLVolatile : Nat) (hpaLVolatile : RdSl (hp w) paLVolatile caLVolatile aL.volatile) (aN : Int) (hokaL : GoT.ok 10 aL) (hokaN : GoT.ok 10 aN) :
    Does Try.prog 14 #[.agg #[.slice paLDurable ((aL.durable).length) caLDurable, .slice paLVolatile ((aL.volatile).length) caLVolatile], .int .i64 (aN)] w emp (fun (rv : Value) (_ : World) => rv = .bool (laws_FnExactCrashLog aL aN) ∧ True) := by
  have hbP := bd_pos n
  have hbS0 := bd_succ (n := n) (by omega)
  have hbB := bd_big (n := (n + 1)) (by omega)
  have hbM := bd_mono (show n ≤ n + 1 by omega)
  refine WX.enter (tt := tt) (Γ := [(0, MF.rs .stb paLDurable caLDurable aL.durable), (1, MF.rs .stb paLVolatile caLVolatile aL.volatile)]) Try.func14 rfl (by kernel_rfl) rfl (allS_cons rfl hpaLDurable (allS_cons rfl hpaLVolatile allS_nil)) ?_
  refine WX.run ttOk rfl ?_
  refine WX.callV rfl rfl rfl rfl rfl (fun _ => rfl) rfl (fun w G bs hI hΓ => f56 w 10 aL paLDurable caLDurable (hΓ.get 0 rfl) paLVolatile caLVolatile (hΓ.get 1 rfl) 1048576 hokaL (show I64 1048576 from (by unfold I64; omega))) ?_
  intro hq1
  refine WX.run ttOk rfl ?_
  refine WX.cases 17 rfl (fun h1 => ?_) (fun h1 => ?_)
  · skip
    have h1d := B.dt h1
    refine WX.run ttOk rfl ?_
    have hP1 : laws_FnExactCrashLog aL aN = true := by simp only [laws_FnExactCrashLog, h1, cond_true, cond_false]
    refine WX.ret ttOk rfl ?_
    intro w1 G bs hI hΓ
    rw [hP1]
    exact ⟨rfl, trivial⟩
  · skip
    have h1d := B.df h1
    obtain ⟨hs1, ht1⟩ := (sz_Log_R aL 1048576 hokaL (by omega) (by omega)).pos (by omega)
    have hk1 : GoT.ok n aL := GoT.okm (Nat.zero_le n) (Sz.low hokaL (show sz aL ≤ 1048576 by omega))
    refine WX.run ttOk rfl ?_
    refine WX.callF 2 (fun _ _ h => GoT.ow_rd h) (fun _ f hf => GoT.fak f hf) rfl rfl rfl rfl rfl (fun _ => rfl) rfl (fun w G bs hI hΓ => f58 w n (by omega) aL paLDurable caLDurable (hΓ.get 0 rfl) paLVolatile caLVolatile (hΓ.get 1 rfl) hk1) (fun _ => rfl) (fun _ => rfl) ?_
    rintro ⟨⟨p1, c1⟩, ⟨p2, c2⟩⟩ hq2
    refine WX.run ttOk rfl ?_
    refine WX.callF 6 (fun _ _ h => GoT.ow_rd h) (fun _ f hf => GoT.fak f hf) rfl rfl rfl rfl rfl (fun _ => rfl) rfl (fun w G bs hI hΓ => f70 w n (by omega) (laws_toLog aL) p1 c1 (hΓ.get 2 rfl) p2 c2 (hΓ.get 3 rfl) aN hq2 hokaN) (fun _ => rfl) (fun _ => rfl) ?_
    rintro ⟨⟨p3, c3⟩, ⟨p4, c4⟩⟩ hq3
    refine WX.run ttOk rfl ?_
    refine WX.callF 10 (fun _ _ h => GoT.ow_rd h) (fun _ f hf => GoT.fak f hf) rfl rfl rfl rfl rfl (fun _ => rfl) rfl (fun w G bs hI hΓ => f58 w n (by omega) aL paLDurable caLDurable (hΓ.get 0 rfl) paLVolatile caLVolatile (hΓ.get 1 rfl) hk1) (fun _ => rfl) (fun _ => rfl) ?_
    rintro ⟨⟨p5, c5⟩, ⟨p6, c6⟩⟩ hq4
    refine WX.run ttOk rfl ?_
    refine WX.callF 14 (fun _ _ h => GoT.ow_rd h) (fun _ f hf => GoT.fak f hf) rfl rfl rfl rfl rfl (fun _ => rfl) rfl (fun w G bs hI hΓ => f71 w n (by omega) (laws_toLog aL) p5 c5 (hΓ.get 10 rfl) p6 c6 (hΓ.get 11 rfl) aN hq4 hokaN) (fun _ => rfl) (fun _ => rfl) ?_
    rintro ⟨⟨p7, c7⟩, ⟨p8, c8⟩⟩ hq5
    refine WX.run ttOk rfl ?_
    refine WX.callV rfl rfl rfl rfl rfl (fun _ => rfl) rfl (fun w G bs hI hΓ => f60 w (n + 1) (by omega) (impl_CrashLog (laws_toLog aL) aN) p7 c7 (hΓ.get 14 rfl) p8 c8 (hΓ.get 15 rfl) (spec_CrashLog (laws_toLog aL) aN) p3 c3 (hΓ.get 6 rfl) p4 c4 (hΓ.get 7 rfl) hq5 hq3) ?_
    intro hq6
    refine WX.run ttOk rfl ?_
    refine WX.cases 30 rfl (fun h2 => ?_) (fun h2 => ?_)
    · skip
      have h2d := (B.nt h2)
      refine WX.run ttOk rfl ?_
      have hP2 : laws_FnExactCrashLog aL aN = false := by simp only [laws_FnExactCrashLog, h1, h2, cond_true, cond_false]
      refine WX.ret ttOk rfl ?_
      intro w1 G bs hI hΓ
      rw [hP2]
      exact ⟨rfl, trivial⟩
    · skip
      have h2d := (B.nf h2)
      refine WX.run ttOk rfl ?_
      refine WX.draw [] mixed ?_
      intro bs G0 hΓ0
      refine DX.takes (fuel := 3) ttOk [(0, false), (1, false)] (by kernel_rfl) rfl ?_
      refine DX.callF 2 18 (fun _ _ h => GoT.ow_rd h) (fun _ f hf => GoT.fak f hf) rfl (by kernel_rfl) rfl rfl rfl rfl rfl rfl (fun _ => rfl) rfl (fun w G bs hI hΓ => f58 w n (by omega) aL paLDurable caLDurable (hΓ.get 0 rfl) paLVolatile caLVolatile (hΓ.get 1 rfl) hk1) (fun _ => rfl) (fun _ => rfl) ?_
      rintro ⟨⟨p9, c9⟩, ⟨p10, c10⟩⟩ hq7
      refine DX.callV 3 rfl (by kernel_rfl) rfl rfl rfl rfl rfl rfl (fun _ => rfl) rfl (fun w G bs hI hΓ => f60 w n (by omega) (laws_toLog aL) p5 c5 (hΓ.get 10 rfl) p6 c6 (hΓ.get 11 rfl) (laws_toLog aL) p9 c9 (hΓ.get 18 rfl) p10 c10 (hΓ.get 19 rfl) hq4 hq7) ?_
      intro hq8
      refine DX.takes (fuel := 0) ttOk [(4, true)] (by kernel_rfl) rfl ?_
      refine DX.tail [] rfl rfl (by kernel_rfl) ?_
      refine WX.run ttOk rfl ?_
      refine WX.cases 35 rfl (fun h3 => ?_) (fun h3 => ?_)
      · skip
        have h3d := (B.nt h3)
        refine WX.run ttOk rfl ?_
        have hP3 : laws_FnExactCrashLog aL aN = false := by simp only [laws_FnExactCrashLog, h1, h2, h3, cond_true, cond_false]
        refine WX.ret ttOk rfl ?_
        intro w1 G bs hI hΓ
        rw [hP3]
        exact ⟨rfl, trivial⟩
      · skip
        have h3d := (B.nf h3)
        refine WX.run ttOk rfl ?_
        refine WX.callM [12, 13] 22 rfl (fun _ _ h => GoT.ow_rd h) (fun _ f hf => GoT.fak f hf) rfl rfl rfl rfl rfl (fun _ => rfl) rfl (fun w G bs H hI hH hs hΓ => f63 w n (by omega) (laws_toLog aL) p5 c5 p6 c6 1 H hH hs hq4 (show I64 1 from (by unfold I64; omega))) (fun _ => rfl) (fun _ => rfl) ?_
        rintro ⟨⟩ hq9
        have hl1 : ((laws_markLog (laws_toLog aL) 1).2.durable).length = ((laws_toLog aL).durable).length := hq9.2.1
        have hl2 : ((laws_markLog (laws_toLog aL) 1).2.volatile).length = ((laws_toLog aL).volatile).length := hq9.2.2
        refine WX.run ttOk rfl ?_
        refine WX.cases 41 rfl (fun h4 => ?_) (fun h4 => ?_)
        · skip
          have h4d := B.dt h4
          refine WX.run ttOk rfl ?_
          have hP4 : laws_FnExactCrashLog aL aN = false := by simp only [laws_FnExactCrashLog, h1, h2, h3, h4, cond_true, cond_false]
          refine WX.ret ttOk rfl ?_
          intro w1 G bs hI hΓ
          rw [hP4]
          exact ⟨rfl, trivial⟩
        · skip
          have h4d := B.df h4
          refine WX.run ttOk rfl ?_
          refine WX.der 26 (MF.rs .der p7 c7 ((impl_CrashLog (laws_toLog aL) aN).durable)) rfl (fun _ hΓ => (hΓ.get 16 rfl : OwSl _ _ _ _).rd) ?_
          refine WX.der 27 (MF.rs .der p8 c8 ((impl_CrashLog (laws_toLog aL) aN).volatile)) rfl (fun _ hΓ => (hΓ.get 17 rfl : OwSl _ _ _ _).rd) ?_
          refine WX.der 28 (MF.rs .der p3 c3 ((spec_CrashLog (laws_toLog aL) aN).durable)) rfl (fun _ hΓ => (hΓ.get 8 rfl : OwSl _ _ _ _).rd) ?_
          refine WX.der 29 (MF.rs .der p4 c4 ((spec_CrashLog (laws_toLog aL) aN).volatile)) rfl (fun _ hΓ => (hΓ.get 9 rfl : OwSl _ _ _ _).rd) ?_
          refine WX.callV rfl rfl rfl rfl rfl (fun _ => rfl) rfl (fun w G bs hI hΓ => f60 w (n + 1) (by omega) (impl_CrashLog (laws_toLog aL) aN) p7 c7 (hΓ.get 26 rfl) p8 c8 (hΓ.get 27 rfl) (spec_CrashLog (laws_toLog aL) aN) p3 c3 (hΓ.get 28 rfl) p4 c4 (hΓ.get 29 rfl) hq5 hq3) ?_
          intro hq10
          refine WX.run ttOk rfl ?_
          refine WX.cases 46 rfl (fun h5 => ?_) (fun h5 => ?_)
          · skip
            have h5d := (B.nt h5)
            exact absurd (h2.symm.trans h5) Bool.false_ne_true
          · skip
            have h5d := (B.nf h5)
            refine WX.run ttOk rfl ?_
            refine WX.callM [16, 17] 30 rfl (fun _ _ h => GoT.ow_rd h) (fun _ f hf => GoT.fak f hf) rfl rfl rfl rfl rfl (fun _ => rfl) rfl (fun w G bs H hI hH hs hΓ => f63 w (n + 1) (by omega) (impl_CrashLog (laws_toLog aL) aN) p7 c7 p8 c8 1 H hH hs hq5 (show I64 1 from (by unfold I64; omega))) (fun _ => rfl) (fun _ => rfl) ?_
            rintro ⟨⟩ hq11
            have hl3 : ((laws_markLog (impl_CrashLog (laws_toLog aL) aN) 1).2.durable).length = ((impl_CrashLog (laws_toLog aL) aN).durable).length := hq11.2.1
            have hl4 : ((laws_markLog (impl_CrashLog (laws_toLog aL) aN) 1).2.volatile).length = ((impl_CrashLog (laws_toLog aL) aN).volatile).length := hq11.2.2
            refine WX.run ttOk rfl ?_
            refine WX.slot 50 (y := .v (.agg #[.slice p7 (((laws_markLog (impl_CrashLog (laws_toLog aL) aN) 1).2.durable).length) c7, .slice p8 (((laws_markLog (impl_CrashLog (laws_toLog aL) aN) 1).2.volatile).length) c8])) rfl (fun _ => by show (.agg #[.slice p7 (((impl_CrashLog (laws_toLog aL) aN).durable).length) c7, .slice p8 (((impl_CrashLog (laws_toLog aL) aN).volatile).length) c8] : Value) = .agg #[.slice p7 (((laws_markLog (impl_CrashLog (laws_toLog aL) aN) 1).2.durable).length) c7, .slice p8 (((laws_markLog (impl_CrashLog (laws_toLog aL) aN) 1).2.volatile).length) c8]; simp only [hl3, hl4]) ?_
            refine WX.callV rfl rfl rfl rfl rfl (fun _ => rfl) rfl (fun w G bs hI hΓ => f64 w (n + 1) (by omega) ((laws_markLog (impl_CrashLog (laws_toLog aL) aN) 1).2) p7 c7 (hΓ.get 30 rfl) p8 c8 (hΓ.get 31 rfl) 1 hq11.1.2 (show I64 1 from (by unfold I64; omega))) ?_
            intro hq12
            refine WX.run ttOk rfl ?_
            refine WX.cases 54 rfl (fun h6 => ?_) (fun h6 => ?_)
            · skip
              have h6d := B.dt h6
              refine WX.run ttOk rfl ?_
              have hP5 : laws_FnExactCrashLog aL aN = false := by simp only [laws_FnExactCrashLog, h1, h2, h3, h4, h5, h6, cond_true, cond_false]
              refine WX.ret ttOk rfl ?_
              intro w1 G bs hI hΓ
              rw [hP5]
              exact ⟨rfl, trivial⟩
            · skip
              have h6d := B.df h6
              refine WX.run ttOk rfl ?_
              refine WX.cases 57 rfl (fun h7 => ?_) (fun h7 => ?_)
              · skip
                have h7d := B.nt' h7
                refine WX.run ttOk rfl ?_
                have hP6 : laws_FnExactCrashLog aL aN = false := by simp only [laws_FnExactCrashLog, h1, h2, h3, h4, h5, h6, h7, cond_true, cond_false]
                refine WX.ret ttOk rfl ?_
                intro w1 G bs hI hΓ
                rw [hP6]
                exact ⟨rfl, trivial⟩
              · skip
                have h7d := B.nf' h7
                refine WX.run ttOk rfl ?_
                refine WX.callF 34 (fun _ _ h => GoT.ow_rd h) (fun _ f hf => GoT.fak f hf) rfl rfl rfl rfl rfl (fun _ => rfl) rfl (fun w G bs hI hΓ => f58 w n (by omega) aL paLDurable caLDurable (hΓ.get 0 rfl) paLVolatile caLVolatile (hΓ.get 1 rfl) hk1) (fun _ => rfl) (fun _ => rfl) ?_
                rintro ⟨⟨p11, c11⟩, ⟨p12, c12⟩⟩ hq13
                refine WX.run ttOk rfl ?_
                refine WX.callF 38 (fun _ _ h => GoT.ow_rd h) (fun _ f hf => GoT.fak f hf) rfl rfl rfl rfl rfl (fun _ => rfl) rfl (fun w G bs hI hΓ => f71 w n (by omega) (laws_toLog aL) p11 c11 (hΓ.get 34 rfl) p12 c12 (hΓ.get 35 rfl) aN hq13 hokaN) (fun _ => rfl) (fun _ => rfl) ?_
                rintro ⟨⟨p13, c13⟩, ⟨p14, c14⟩⟩ hq14
                refine WX.run ttOk rfl ?_
                refine WX.der 42 (MF.rs .der p3 c3 ((spec_CrashLog (laws_toLog aL) aN).durable)) rfl (fun _ hΓ => (hΓ.get 8 rfl : OwSl _ _ _ _).rd) ?_
                refine WX.der 43 (MF.rs .der p4 c4 ((spec_CrashLog (laws_toLog aL) aN).volatile)) rfl (fun _ hΓ => (hΓ.get 9 rfl : OwSl _ _ _ _).rd) ?_
                refine WX.callV rfl rfl rfl rfl rfl (fun _ => rfl) rfl (fun w G bs hI hΓ => f60 w (n + 1) (by omega) (impl_CrashLog (laws_toLog aL) aN) p13 c13 (hΓ.get 38 rfl) p14 c14 (hΓ.get 39 rfl) (spec_CrashLog (laws_toLog aL) aN) p3 c3 (hΓ.get 42 rfl) p4 c4 (hΓ.get 43 rfl) hq14 hq3) ?_
                intro hq15
                refine WX.run ttOk rfl ?_
                refine WX.cases 65 rfl (fun h8 => ?_) (fun h8 => ?_)
                · skip
                  have h8d := (B.nt h8)
                  exact absurd (h2.symm.trans h8) Bool.false_ne_true
                · skip
                  have h8d := (B.nf h8)
                  refine WX.run ttOk rfl ?_
                  refine WX.slot 66 (y := .v (.agg #[.slice p7 (((laws_markLog (impl_CrashLog (laws_toLog aL) aN) 1).2.durable).length) c7, .slice p8 (((laws_markLog (impl_CrashLog (laws_toLog aL) aN) 1).2.volatile).length) c8])) rfl (fun _ => by show (.agg #[.slice p7 (((impl_CrashLog (laws_toLog aL) aN).durable).length) c7, .slice p8 (((impl_CrashLog (laws_toLog aL) aN).volatile).length) c8] : Value) = .agg #[.slice p7 (((laws_markLog (impl_CrashLog (laws_toLog aL) aN) 1).2.durable).length) c7, .slice p8 (((laws_markLog (impl_CrashLog (laws_toLog aL) aN) 1).2.volatile).length) c8]; simp only [hl3, hl4]) ?_
                  refine WX.callV rfl rfl rfl rfl rfl (fun _ => rfl) rfl (fun w G bs hI hΓ => f64 w (n + 1) (by omega) ((laws_markLog (impl_CrashLog (laws_toLog aL) aN) 1).2) p7 c7 (hΓ.get 30 rfl) p8 c8 (hΓ.get 31 rfl) 1 hq11.1.2 (show I64 1 from (by unfold I64; omega))) ?_
                  intro hq16
                  refine WX.run ttOk rfl ?_
                  refine WX.cases 70 rfl (fun h9 => ?_) (fun h9 => ?_)
                  · skip
                    have h9d := B.dt h9
                    exact absurd (h6.symm.trans h9) Bool.false_ne_true
                  · skip
                    have h9d := B.df h9
                    refine WX.run ttOk rfl ?_
                    refine WX.cases 73 rfl (fun h10 => ?_) (fun h10 => ?_)
                    · skip
                      have h10d := B.nt' h10
                      exact absurd (h7.symm.trans h10) Bool.false_ne_true
                    · skip
                      have h10d := B.nf' h10
                      refine WX.run ttOk rfl ?_
                      have hP7 : laws_FnExactCrashLog aL aN = true := by simp only [laws_FnExactCrashLog, h1, h2, h3, h4, h5, h6, h7, h8, h9, h10, cond_true, cond_false]
                      refine WX.ret ttOk rfl ?_
                      intro w1 G bs hI hΓ
                      rw [hP7]
                      exact ⟨rfl, trivial⟩
theorem f10 (w : World) (n : Nat) (hn : n + 0 ≤ 9) (aA : StateVector) (paA : Option Addr) (caA : Nat) (hpaA : RdSl (hp w) paA caA aA.entries) (aB : StateVector) (paB : Option Addr) (caB : Nat) (hpaB : RdSl (hp w) paB caB aB.entries) (hokaA : GoT.ok 10 aA) (hokaB : GoT.ok 10 aB) :
    Does Try.prog 10 #[.agg #[.slice paA ((aA.entries).length) caA], .agg #[.slice paB ((aB.entries).length) caB]] w emp (fun (rv : Value) (_ : World) => rv = .bool (laws_FnExactNewerThan aA aB) ∧ True) := by
  have hbP := bd_pos n
  have hbB := bd_big (n := n) (by omega)
  refine WX.enter (tt := tt) (Γ := [(0, MF.rs .stb paA caA aA.entries), (1, MF.rs .stb paB caB aB.entries)]) Try.func10 rfl (by kernel_rfl) rfl (allS_cons rfl hpaA (allS_cons rfl hpaB allS_nil)) ?_
  refine WX.run ttOk rfl ?_
  refine WX.callV rfl rfl rfl rfl rfl (fun _ => rfl) rfl (fun w G bs hI hΓ => f38 w 10 aA paA caA (hΓ.get 0 rfl) 1048576 hokaA (show I64 1048576 from (by unfold I64; omega))) ?_
  intro hq1
  refine WX.run ttOk rfl ?_
  refine WX.cases 18 rfl (fun h1 => ?_) (fun h1 => ?_)
  · skip
    have h1d := B.dt h1
    refine WX.run ttOk rfl ?_
    have hP1 : laws_FnExactNewerThan aA aB = true := by simp only [laws_FnExactNewerThan, h1, cond_true, cond_false]
    refine WX.ret ttOk rfl ?_
    intro w1 G bs hI hΓ
    rw [hP1]
    exact ⟨rfl, trivial⟩
  · skip
    have h1d := B.df h1
    obtain ⟨hs1, ht1⟩ := (sz_StateVector_R aA 1048576 hokaA (by omega) (by omega)).pos (by omega)
    have hk1 : GoT.ok n aA := GoT.okm (Nat.zero_le n) (Sz.low hokaA (show sz aA ≤ 1048576 by omega))
    refine WX.run ttOk rfl ?_
    refine WX.callV rfl rfl rfl rfl rfl (fun _ => rfl) rfl (fun w G bs hI hΓ => f38 w 10 aB paB caB (hΓ.get 1 rfl) (laws_szStateVector aA 1048576) hokaB hq1) ?_
    intro hq2
    refine WX.run ttOk rfl ?_
    refine WX.cases 23 rfl (fun h2 => ?_) (fun h2 => ?_)
    · skip
      have h2d := B.dt h2
      refine WX.run ttOk rfl ?_
      have hP2 : laws_FnExactNewerThan aA aB = true := by simp only [laws_FnExactNewerThan, h1, h2, cond_true, cond_false]
      refine WX.ret ttOk rfl ?_
      intro w1 G bs hI hΓ
      rw [hP2]
      exact ⟨rfl, trivial⟩
    · skip
      have h2d := B.df h2
      obtain ⟨hs2, ht2⟩ := (sz_StateVector_R aB (laws_szStateVector aA 1048576) hokaB (by omega) (by omega)).pos (by omega)
      have hk2 : GoT.ok n aB := GoT.okm (Nat.zero_le n) (Sz.low hokaB (show sz aB ≤ 1048576 by omega))
      refine WX.run ttOk rfl ?_
      refine WX.draw [] mixed ?_
      intro bs G0 hΓ0
      refine DX.takes (fuel := 4) ttOk [(0, false), (2, false)] (by kernel_rfl) rfl ?_
      refine DX.callF 1 2 (fun _ _ h => GoT.ow_rd h) (fun _ f hf => GoT.fak f hf) rfl (by kernel_rfl) rfl rfl rfl rfl rfl rfl (fun _ => rfl) rfl (fun w G bs hI hΓ => f40 w n (by omega) aA paA caA (hΓ.get 0 rfl) hk1) (fun _ => rfl) (fun _ => rfl) ?_
      rintro ⟨p1, c1⟩ hq3
      refine DX.callF 3 4 (fun _ _ h => GoT.ow_rd h) (fun _ f hf => GoT.fak f hf) rfl (by kernel_rfl) rfl rfl rfl rfl rfl rfl (fun _ => rfl) rfl (fun w G bs hI hΓ => f40 w n (by omega) aB paB caB (hΓ.get 1 rfl) hk2) (fun _ => rfl) (fun _ => rfl) ?_
      rintro ⟨p2, c2⟩ hq4
      refine DX.callF 4 6 (fun _ _ h => GoT.ow_rd h) (fun _ f hf => GoT.fak f hf) rfl (by kernel_rfl) rfl rfl rfl rfl rfl rfl (fun _ => rfl) rfl (fun w G bs hI hΓ => f50 w n (by omega) (laws_toStateVector aA) p1 c1 (hΓ.get 2 rfl) (laws_toStateVector aB) p2 c2 (hΓ.get 4 rfl) hq3 hq4) (fun _ => rfl) (fun _ => rfl) ?_
      rintro ⟨p3, c3⟩ hq5
      refine DX.takes (fuel := 0) ttOk [(5, true)] (by kernel_rfl) rfl ?_
      refine DX.tail [] rfl rfl (by kernel_rfl) ?_
      refine WX.run ttOk rfl ?_
      refine WX.callF 8 (fun _ _ h => GoT.ow_rd h) (fun _ f hf => GoT.fak f hf) rfl rfl rfl rfl rfl (fun _ => rfl) rfl (fun w G bs hI hΓ => f40 w n (by omega) aA paA caA (hΓ.get 0 rfl) hk1) (fun _ => rfl) (fun _ => rfl) ?_
      rintro ⟨p4, c4⟩ hq6
      refine WX.run ttOk rfl ?_
      refine WX.callF 10 (fun _ _ h => GoT.ow_rd h) (fun _ f hf => GoT.fak f hf) rfl rfl rfl rfl rfl (fun _ => rfl) rfl (fun w G bs hI hΓ => f40 w n (by omega) aB paB caB (hΓ.get 1 rfl) hk2) (fun _ => rfl) (fun _ => rfl) ?_
      rintro ⟨p5, c5⟩ hq7
      refine WX.run ttOk rfl ?_
      refine WX.callF 12 (fun _ _ h => GoT.ow_rd h) (fun _ f hf => GoT.fak f hf) rfl rfl rfl rfl rfl (fun _ => rfl) rfl (fun w G bs hI hΓ => f51 w n (by omega) (laws_toStateVector aA) p4 c4 (hΓ.get 8 rfl) (laws_toStateVector aB) p5 c5 (hΓ.get 10 rfl) hq6 hq7) (fun _ => rfl) (fun _ => rfl) ?_
      rintro ⟨p6, c6⟩ hq8
      refine WX.run ttOk rfl ?_
      refine WX.callV rfl rfl rfl rfl rfl (fun _ => rfl) rfl (fun w G bs hI hΓ => f52 w n (by omega) (impl_NewerThan (laws_toStateVector aA) (laws_toStateVector aB)) p6 c6 (hΓ.get 12 rfl) (spec_NewerThan (laws_toStateVector aA) (laws_toStateVector aB)) p3 c3 (hΓ.get 6 rfl) hq8 hq5) ?_
      intro hq9
      refine WX.run ttOk rfl ?_
      refine WX.cases 39 rfl (fun h3 => ?_) (fun h3 => ?_)
      · skip
        have h3d := (B.nt h3)
        refine WX.run ttOk rfl ?_
        have hP3 : laws_FnExactNewerThan aA aB = false := by simp only [laws_FnExactNewerThan, h1, h2, h3, cond_true, cond_false]
        refine WX.ret ttOk rfl ?_
        intro w1 G bs hI hΓ
        rw [hP3]
        exact ⟨rfl, trivial⟩
      · skip
        have h3d := (B.nf h3)
        refine WX.run ttOk rfl ?_
        refine WX.draw [] mixed ?_
        intro bs G0 hΓ0
        refine DX.takes (fuel := 3) ttOk [(0, false), (1, false)] (by kernel_rfl) rfl ?_
        refine DX.callF 2 14 (fun _ _ h => GoT.ow_rd h) (fun _ f hf => GoT.fak f hf) rfl (by kernel_rfl) rfl rfl rfl rfl rfl rfl (fun _ => rfl) rfl (fun w G bs hI hΓ => f40 w n (by omega) aA paA caA (hΓ.get 0 rfl) hk1) (fun _ => rfl) (fun _ => rfl) ?_
        rintro ⟨p7, c7⟩ hq10
        refine DX.callV 3 rfl (by kernel_rfl) rfl rfl rfl rfl rfl rfl (fun _ => rfl) rfl (fun w G bs hI hΓ => f42 w n (by omega) (laws_toStateVector aA) p4 c4 (hΓ.get 8 rfl) (laws_toStateVector aA) p7 c7 (hΓ.get 14 rfl) hq6 hq10) ?_
        intro hq11
        refine DX.takes (fuel := 0) ttOk [(4, true)] (by kernel_rfl) rfl ?_
        refine DX.tail [] rfl rfl (by kernel_rfl) ?_
        refine WX.run ttOk rfl ?_
        refine WX.cases 44 rfl (fun h4 => ?_) (fun h4 => ?_)
        · skip
          have h4d := (B.nt h4)
          refine WX.run ttOk rfl ?_
          have hP4 : laws_FnExactNewerThan aA aB = false := by simp only [laws_FnExactNewerThan, h1, h2, h3, h4, cond_true, cond_false]
          refine WX.ret ttOk rfl ?_
          intro w1 G bs hI hΓ
          rw [hP4]
          exact ⟨rfl, trivial⟩
        · skip
          have h4d := (B.nf h4)
          refine WX.run ttOk rfl ?_
          refine WX.draw [] mixed ?_
          intro bs G0 hΓ0
          refine DX.takes (fuel := 3) ttOk [(0, false), (1, false)] (by kernel_rfl) rfl ?_
          refine DX.callF 2 16 (fun _ _ h => GoT.ow_rd h) (fun _ f hf => GoT.fak f hf) rfl (by kernel_rfl) rfl rfl rfl rfl rfl rfl (fun _ => rfl) rfl (fun w G bs hI hΓ => f40 w n (by omega) aB paB caB (hΓ.get 1 rfl) hk2) (fun _ => rfl) (fun _ => rfl) ?_
          rintro ⟨p8, c8⟩ hq12
          refine DX.callV 3 rfl (by kernel_rfl) rfl rfl rfl rfl rfl rfl (fun _ => rfl) rfl (fun w G bs hI hΓ => f42 w n (by omega) (laws_toStateVector aB) p5 c5 (hΓ.get 10 rfl) (laws_toStateVector aB) p8 c8 (hΓ.get 16 rfl) hq7 hq12) ?_
          intro hq13
          refine DX.takes (fuel := 0) ttOk [(4, true)] (by kernel_rfl) rfl ?_
          refine DX.tail [] rfl rfl (by kernel_rfl) ?_
          refine WX.run ttOk rfl ?_
          refine WX.cases 49 rfl (fun h5 => ?_) (fun h5 => ?_)
          · skip
            have h5d := (B.nt h5)
            refine WX.run ttOk rfl ?_
            have hP5 : laws_FnExactNewerThan aA aB = false := by simp only [laws_FnExactNewerThan, h1, h2, h3, h4, h5, cond_true, cond_false]
            refine WX.ret ttOk rfl ?_
            intro w1 G bs hI hΓ
            rw [hP5]
            exact ⟨rfl, trivial⟩
          · skip
            have h5d := (B.nf h5)
            refine WX.run ttOk rfl ?_
            refine WX.callM [9] 18 rfl (fun _ _ h => GoT.ow_rd h) (fun _ f hf => GoT.fak f hf) rfl rfl rfl rfl rfl (fun _ => rfl) rfl (fun w G bs H hI hH hs hΓ => f53 w n (by omega) (laws_toStateVector aA) p4 c4 1 H hH hs hq6 (show I64 1 from (by unfold I64; omega))) (fun _ => rfl) (fun _ => rfl) ?_
            rintro ⟨⟩ hq14
            have hl1 : ((laws_markStateVector (laws_toStateVector aA) 1).2.entries).length = ((laws_toStateVector aA).entries).length := hq14.2
            refine WX.run ttOk rfl ?_
            refine WX.callM [11] 20 rfl (fun _ _ h => GoT.ow_rd h) (fun _ f hf => GoT.fak f hf) rfl rfl rfl rfl rfl (fun _ => rfl) rfl (fun w G bs H hI hH hs hΓ => f53 w n (by omega) (laws_toStateVector aB) p5 c5 ((laws_markStateVector (laws_toStateVector aA) 1).1) H hH hs hq7 hq14.1.1) (fun _ => rfl) (fun _ => rfl) ?_
            rintro ⟨⟩ hq15
            have hl2 : ((laws_markStateVector (laws_toStateVector aB) ((laws_markStateVector (laws_toStateVector aA) 1).1)).2.entries).length = ((laws_toStateVector aB).entries).length := hq15.2
            refine WX.run ttOk rfl ?_
            refine WX.cases 58 rfl (fun h6 => ?_) (fun h6 => ?_)
            · skip
              have h6d := B.dt h6
              refine WX.run ttOk rfl ?_
              have hP6 : laws_FnExactNewerThan aA aB = false := by simp only [laws_FnExactNewerThan, h1, h2, h3, h4, h5, h6, cond_true, cond_false]
              refine WX.ret ttOk rfl ?_
              intro w1 G bs hI hΓ
              rw [hP6]
              exact ⟨rfl, trivial⟩
            · skip
              have h6d := B.df h6
              refine WX.run ttOk rfl ?_
              refine WX.der 22 (MF.rs .der p6 c6 (impl_NewerThan (laws_toStateVector aA) (laws_toStateVector aB))) rfl (fun _ hΓ => (hΓ.get 13 rfl : OwSl _ _ _ _).rd) ?_
              refine WX.der 23 (MF.rs .der p3 c3 (spec_NewerThan (laws_toStateVector aA) (laws_toStateVector aB))) rfl (fun _ hΓ => (hΓ.get 7 rfl : OwSl _ _ _ _).rd) ?_
              refine WX.callV rfl rfl rfl rfl rfl (fun _ => rfl) rfl (fun w G bs hI hΓ => f52 w n (by omega) (impl_NewerThan (laws_toStateVector aA) (laws_toStateVector aB)) p6 c6 (hΓ.get 22 rfl) (spec_NewerThan (laws_toStateVector aA) (laws_toStateVector aB)) p3 c3 (hΓ.get 23 rfl) hq8 hq5) ?_
              intro hq16
              refine WX.run ttOk rfl ?_
              refine WX.cases 63 rfl (fun h7 => ?_) (fun h7 => ?_)
              · skip
                have h7d := (B.nt h7)
                exact absurd (h3.symm.trans h7) Bool.false_ne_true
              · skip
                have h7d := (B.nf h7)
                refine WX.run ttOk rfl ?_
                refine WX.callM [13] 24 rfl (fun _ _ h => GoT.ow_rd h) (fun _ f hf => GoT.fak f hf) rfl rfl rfl rfl rfl (fun _ => rfl) rfl (fun w G bs H hI hH hs hΓ => f54 w n (by omega) (impl_NewerThan (laws_toStateVector aA) (laws_toStateVector aB)) p6 c6 1 H hH hs hq8 (show I64 1 from (by unfold I64; omega))) (fun _ => rfl) (fun _ => rfl) ?_
                rintro ⟨⟩ hq17
                have hl3 : ((laws_markTableEntryS (impl_NewerThan (laws_toStateVector aA) (laws_toStateVector aB)) 1).2).length = ((impl_NewerThan (laws_toStateVector aA) (laws_toStateVector aB))).length := hq17.2
                refine WX.run ttOk rfl ?_
                refine WX.slot 67 (y := .v (.slice p6 (((laws_markTableEntryS (impl_NewerThan (laws_toStateVector aA) (laws_toStateVector aB)) 1).2).length) c6)) rfl (fun _ => by show (.slice p6 (((impl_NewerThan (laws_toStateVector aA) (laws_toStateVector aB))).length) c6 : Value) = .slice p6 (((laws_markTableEntryS (impl_NewerThan (laws_toStateVector aA) (laws_toStateVector aB)) 1).2).length) c6; simp only [hl3]) ?_
                refine WX.callV rfl rfl rfl rfl rfl (fun _ => rfl) rfl (fun w G bs hI hΓ => f55 w n (by omega) ((laws_markTableEntryS (impl_NewerThan (laws_toStateVector aA) (laws_toStateVector aB)) 1).2) p6 c6 (hΓ.get 24 rfl) 1 hq17.1.2 (show I64 1 from (by unfold I64; omega))) ?_
                intro hq18
                refine WX.run ttOk rfl ?_
                refine WX.cases 71 rfl (fun h8 => ?_) (fun h8 => ?_)
                · skip
                  have h8d := B.dt h8
                  refine WX.run ttOk rfl ?_
                  have hP7 : laws_FnExactNewerThan aA aB = false := by simp only [laws_FnExactNewerThan, h1, h2, h3, h4, h5, h6, h7, h8, cond_true, cond_false]
                  refine WX.ret ttOk rfl ?_
                  intro w1 G bs hI hΓ
                  rw [hP7]
                  exact ⟨rfl, trivial⟩
                · skip
                  have h8d := B.df h8
                  refine WX.run ttOk rfl ?_
                  refine WX.cases 74 rfl (fun h9 => ?_) (fun h9 => ?_)
                  · skip
                    have h9d := B.nt' h9
                    refine WX.run ttOk rfl ?_
                    have hP8 : laws_FnExactNewerThan aA aB = false := by simp only [laws_FnExactNewerThan, h1, h2, h3, h4, h5, h6, h7, h8, h9, cond_true, cond_false]
                    refine WX.ret ttOk rfl ?_
                    intro w1 G bs hI hΓ
                    rw [hP8]
                    exact ⟨rfl, trivial⟩
                  · skip
                    have h9d := B.nf' h9
                    refine WX.run ttOk rfl ?_
                    refine WX.der 26 (MF.rs .der p5 c5 ((laws_markStateVector (laws_toStateVector aB) ((laws_markStateVector (laws_toStateVector aA) 1).1)).2.entries)) rfl (fun _ hΓ => (hΓ.get 21 rfl : OwSl _ _ _ _).rd) ?_
                    refine WX.der 27 (MF.rs .der p4 c4 ((laws_markStateVector (laws_toStateVector aA) 1).2.entries)) rfl (fun _ hΓ => (hΓ.get 19 rfl : OwSl _ _ _ _).rd) ?_
                    refine WX.draw [] mixed ?_
                    intro bs G0 hΓ0
                    refine DX.takes (fuel := 4) ttOk [(0, false), (2, false)] (by kernel_rfl) rfl ?_
                    refine DX.callF 1 28 (fun _ _ h => GoT.ow_rd h) (fun _ f hf => GoT.fak f hf) rfl (by kernel_rfl) rfl rfl rfl rfl rfl rfl (fun _ => rfl) rfl (fun w G bs hI hΓ => f40 w n (by omega) aA paA caA (hΓ.get 0 rfl) hk1) (fun _ => rfl) (fun _ => rfl) ?_
                    rintro ⟨p9, c9⟩ hq19
                    refine DX.callF 3 30 (fun _ _ h => GoT.ow_rd h) (fun _ f hf => GoT.fak f hf) rfl (by kernel_rfl) rfl rfl rfl rfl rfl rfl (fun _ => rfl) rfl (fun w G bs hI hΓ => f40 w n (by omega) aB paB caB (hΓ.get 1 rfl) hk2) (fun _ => rfl) (fun _ => rfl) ?_
                    rintro ⟨p10, c10⟩ hq20
                    refine DX.callF 4 32 (fun _ _ h => GoT.ow_rd h) (fun _ f hf => GoT.fak f hf) rfl (by kernel_rfl) rfl rfl rfl rfl rfl rfl (fun _ => rfl) rfl (fun w G bs hI hΓ => f51 w n (by omega) (laws_toStateVector aA) p9 c9 (hΓ.get 28 rfl) (laws_toStateVector aB) p10 c10 (hΓ.get 30 rfl) hq19 hq20) (fun _ => rfl) (fun _ => rfl) ?_
                    rintro ⟨p11, c11⟩ hq21
                    refine DX.takes (fuel := 0) ttOk [(5, true)] (by kernel_rfl) rfl ?_
                    refine DX.tail [] rfl rfl (by kernel_rfl) ?_
                    refine WX.run ttOk rfl ?_
                    refine WX.der 34 (MF.rs .der p3 c3 (spec_NewerThan (laws_toStateVector aA) (laws_toStateVector aB))) rfl (fun _ hΓ => (hΓ.get 7 rfl : OwSl _ _ _ _).rd) ?_
                    refine WX.callV rfl rfl rfl rfl rfl (fun _ => rfl) rfl (fun w G bs hI hΓ => f52 w n (by omega) (impl_NewerThan (laws_toStateVector aA) (laws_toStateVector aB)) p11 c11 (hΓ.get 32 rfl) (spec_NewerThan (laws_toStateVector aA) (laws_toStateVector aB)) p3 c3 (hΓ.get 34 rfl) hq21 hq5) ?_
                    intro hq22
                    refine WX.run ttOk rfl ?_
                    refine WX.cases 83 rfl (fun h10 => ?_) (fun h10 => ?_)
                    · skip
                      have h10d := (B.nt h10)
                      exact absurd (h3.symm.trans h10) Bool.false_ne_true
                    · skip
                      have h10d := (B.nf h10)
                      refine WX.run ttOk rfl ?_
                      refine WX.slot 84 (y := .v (.slice p6 (((laws_markTableEntryS (impl_NewerThan (laws_toStateVector aA) (laws_toStateVector aB)) 1).2).length) c6)) rfl (fun _ => by show (.slice p6 (((impl_NewerThan (laws_toStateVector aA) (laws_toStateVector aB))).length) c6 : Value) = .slice p6 (((laws_markTableEntryS (impl_NewerThan (laws_toStateVector aA) (laws_toStateVector aB)) 1).2).length) c6; simp only [hl3]) ?_
                      refine WX.callV rfl rfl rfl rfl rfl (fun _ => rfl) rfl (fun w G bs hI hΓ => f55 w n (by omega) ((laws_markTableEntryS (impl_NewerThan (laws_toStateVector aA) (laws_toStateVector aB)) 1).2) p6 c6 (hΓ.get 24 rfl) 1 hq17.1.2 (show I64 1 from (by unfold I64; omega))) ?_
                      intro hq23
                      refine WX.run ttOk rfl ?_
                      refine WX.cases 88 rfl (fun h11 => ?_) (fun h11 => ?_)
                      · skip
                        have h11d := B.dt h11
                        exact absurd (h8.symm.trans h11) Bool.false_ne_true
                      · skip
                        have h11d := B.df h11
                        refine WX.run ttOk rfl ?_
                        refine WX.cases 91 rfl (fun h12 => ?_) (fun h12 => ?_)
                        · skip
                          have h12d := B.nt' h12
                          exact absurd (h9.symm.trans h12) Bool.false_ne_true
                        · skip
                          have h12d := B.nf' h12
                          refine WX.run ttOk rfl ?_
                          have hP9 : laws_FnExactNewerThan aA aB = true := by simp only [laws_FnExactNewerThan, h1, h2, h3, h4, h5, h6, h7, h8, h9, h10, h11, h12, cond_true, cond_false]
                          refine WX.ret ttOk rfl ?_
                          intro w1 G bs hI hΓ
                          rw [hP9]
                          exact ⟨rfl, trivial⟩
end Go.Proofs.Ytfkllbcfaanmjaa
