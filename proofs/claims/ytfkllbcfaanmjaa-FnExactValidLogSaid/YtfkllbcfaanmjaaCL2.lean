/-
  That functions of the program compute what the Lean functions do. No condition but what each says. Written by a program (gen2.py).
-/
import Derived.Test.YtfkllbcfaanmjaaC7
import Derived.Test.YtfkllbcfaanmjaaPure
import Derived.Test.YtfkllbcfaanmjaaPL2
namespace Go.Proofs.Ytfkllbcfaanmjaa
open Go.Stp
set_option linter.unusedVariables false
set_option linter.unusedSimpArgs false
theorem f5 (w : World) (n : Nat) (hn : n + 0 ≤ 9) (aA : Consumer) (paAName : Option Addr) (caAName : Nat) (hpaAName : RdSl (hp w) paAName caAName aA.name.parts) (paADataName : Option Addr) (caADataName : Nat) (hpaADataName : RdSl (hp w) paADataName caADataName aA.data.name.parts) (paADataContent : Option Addr) (caADataContent : Nat) (hpaADataContent : RdSl (hp w) paADataContent caADataContent aA.data.content) (paADataKeyName : Option Addr) (caADataKeyName : Nat) (hpaADataKeyName : RdSl (hp w) paADataKeyName caADataKeyName aA.data.keyName.parts) (aB : Consumer) (paBName : Option Addr) (caBName : Nat) (hpaBName : RdSl (hp w) paBName caBName aB.name.parts) (paBDataName : Option Addr) (caBDataName : Nat) (hpaBDataName : RdSl (hp w) paBDataName caBDataName aB.data.name.parts) (paBDataContent : Option Addr) (caBDataContent : Nat) (hpaBDataContent : RdSl (hp w) paBDataContent caBDataContent aB.data.content) (paBDataKeyName : Option Addr) (caBDataKeyName : Nat) (hpaBDataKeyName : RdSl (hp w) paBDataKeyName caBDataKeyName aB.data.keyName.parts) (hokaA : GoT.ok 10 aA) (hokaB : GoT.ok 10 aB) :
    Does Try.prog 5 #[.agg #[.int .i64 (aA.node), .int .i64 (aA.index), .slice paAName ((aA.name.parts).length) caAName, .int .i64 (aA.attempts), .int .i64 (aA.wait), .bool aA.satisfied, .slice paADataName ((aA.data.name.parts).length) caADataName, .slice paADataContent ((aA.data.content).length) caADataContent, .slice paADataKeyName ((aA.data.keyName.parts).length) caADataKeyName, .int .i64 (aA.data.freshUntil), .int .i64 (aA.data.signature)], .agg #[.int .i64 (aB.node), .int .i64 (aB.index), .slice paBName ((aB.name.parts).length) caBName, .int .i64 (aB.attempts), .int .i64 (aB.wait), .bool aB.satisfied, .slice paBDataName ((aB.data.name.parts).length) caBDataName, .slice paBDataContent ((aB.data.content).length) caBDataContent, .slice paBDataKeyName ((aB.data.keyName.parts).length) caBDataKeyName, .int .i64 (aB.data.freshUntil), .int .i64 (aB.data.signature)]] w emp (fun (rv : Value) (_ : World) => rv = .bool (laws_FnExactEqualConsumers aA aB) ∧ True) := by
  have hbP := bd_pos n
  have hbB := bd_big (n := n) (by omega)
  refine WX.enter (tt := tt) (Γ := [(0, MF.rs .stb paAName caAName aA.name.parts), (1, MF.rs .stb paADataName caADataName aA.data.name.parts), (2, MF.rs .stb paADataContent caADataContent aA.data.content), (3, MF.rs .stb paADataKeyName caADataKeyName aA.data.keyName.parts), (4, MF.rs .stb paBName caBName aB.name.parts), (5, MF.rs .stb paBDataName caBDataName aB.data.name.parts), (6, MF.rs .stb paBDataContent caBDataContent aB.data.content), (7, MF.rs .stb paBDataKeyName caBDataKeyName aB.data.keyName.parts)]) Try.func5 rfl (by kernel_rfl) rfl (allS_cons rfl hpaAName (allS_cons rfl hpaADataName (allS_cons rfl hpaADataContent (allS_cons rfl hpaADataKeyName (allS_cons rfl hpaBName (allS_cons rfl hpaBDataName (allS_cons rfl hpaBDataContent (allS_cons rfl hpaBDataKeyName allS_nil)))))))) ?_
  refine WX.run ttOk rfl ?_
  refine WX.callV rfl rfl rfl rfl rfl (fun _ => rfl) rfl (fun w G bs hI hΓ => f29 w 10 aA paAName caAName (hΓ.get 0 rfl) paADataName caADataName (hΓ.get 1 rfl) paADataContent caADataContent (hΓ.get 2 rfl) paADataKeyName caADataKeyName (hΓ.get 3 rfl) 1048576 hokaA (show I64 1048576 from (by unfold I64; omega))) ?_
  intro hq1
  refine WX.run ttOk rfl ?_
  refine WX.cases 14 rfl (fun h1 => ?_) (fun h1 => ?_)
  · skip
    have h1d := B.dt h1
    refine WX.run ttOk rfl ?_
    have hP1 : laws_FnExactEqualConsumers aA aB = true := by simp only [laws_FnExactEqualConsumers, h1, cond_true, cond_false]
    refine WX.ret ttOk rfl ?_
    intro w1 G bs hI hΓ
    rw [hP1]
    exact ⟨rfl, trivial⟩
  · skip
    have h1d := B.df h1
    obtain ⟨hs1, ht1⟩ := (sz_Consumer_R aA 1048576 hokaA (by omega) (by omega)).pos (by omega)
    have hk1 : GoT.ok n aA := GoT.okm (Nat.zero_le n) (Sz.low hokaA (show sz aA ≤ 1048576 by omega))
    refine WX.run ttOk rfl ?_
    refine WX.callV rfl rfl rfl rfl rfl (fun _ => rfl) rfl (fun w G bs hI hΓ => f29 w 10 aB paBName caBName (hΓ.get 4 rfl) paBDataName caBDataName (hΓ.get 5 rfl) paBDataContent caBDataContent (hΓ.get 6 rfl) paBDataKeyName caBDataKeyName (hΓ.get 7 rfl) (laws_szConsumer aA 1048576) hokaB hq1) ?_
    intro hq2
    refine WX.run ttOk rfl ?_
    refine WX.cases 19 rfl (fun h2 => ?_) (fun h2 => ?_)
    · skip
      have h2d := B.dt h2
      refine WX.run ttOk rfl ?_
      have hP2 : laws_FnExactEqualConsumers aA aB = true := by simp only [laws_FnExactEqualConsumers, h1, h2, cond_true, cond_false]
      refine WX.ret ttOk rfl ?_
      intro w1 G bs hI hΓ
      rw [hP2]
      exact ⟨rfl, trivial⟩
    · skip
      have h2d := B.df h2
      obtain ⟨hs2, ht2⟩ := (sz_Consumer_R aB (laws_szConsumer aA 1048576) hokaB (by omega) (by omega)).pos (by omega)
      have hk2 : GoT.ok n aB := GoT.okm (Nat.zero_le n) (Sz.low hokaB (show sz aB ≤ 1048576 by omega))
      refine WX.run ttOk rfl ?_
      refine WX.draw [] mixed ?_
      intro bs G0 hΓ0
      refine DX.takes (fuel := 4) ttOk [(0, false), (2, false)] (by kernel_rfl) rfl ?_
      refine DX.callF 1 8 (fun _ _ h => GoT.ow_rd h) (fun _ f hf => GoT.fak f hf) rfl (by kernel_rfl) rfl rfl rfl rfl rfl rfl (fun _ => rfl) rfl (fun w G bs hI hΓ => f31 w n (by omega) aA paAName caAName (hΓ.get 0 rfl) paADataName caADataName (hΓ.get 1 rfl) paADataContent caADataContent (hΓ.get 2 rfl) paADataKeyName caADataKeyName (hΓ.get 3 rfl) hk1) (fun _ => rfl) (fun _ => rfl) ?_
      rintro ⟨⟨⟩, ⟨⟩, ⟨p1, c1⟩, ⟨⟩, ⟨⟩, ⟨⟩, ⟨⟨p2, c2⟩, ⟨p3, c3⟩, ⟨p4, c4⟩, ⟨⟩, ⟨⟩⟩⟩ hq3
      refine DX.callF 3 16 (fun _ _ h => GoT.ow_rd h) (fun _ f hf => GoT.fak f hf) rfl (by kernel_rfl) rfl rfl rfl rfl rfl rfl (fun _ => rfl) rfl (fun w G bs hI hΓ => f31 w n (by omega) aB paBName caBName (hΓ.get 4 rfl) paBDataName caBDataName (hΓ.get 5 rfl) paBDataContent caBDataContent (hΓ.get 6 rfl) paBDataKeyName caBDataKeyName (hΓ.get 7 rfl) hk2) (fun _ => rfl) (fun _ => rfl) ?_
      rintro ⟨⟨⟩, ⟨⟩, ⟨p5, c5⟩, ⟨⟩, ⟨⟩, ⟨⟩, ⟨⟨p6, c6⟩, ⟨p7, c7⟩, ⟨p8, c8⟩, ⟨⟩, ⟨⟩⟩⟩ hq4
      refine DX.callV 4 rfl (by kernel_rfl) rfl rfl rfl rfl rfl rfl (fun _ => rfl) rfl (fun w G bs hI hΓ => f30 w n (by omega) (laws_toConsumer aA) p1 c1 (hΓ.get 8 rfl) p2 c2 (hΓ.get 9 rfl) p3 c3 (hΓ.get 10 rfl) p4 c4 (hΓ.get 11 rfl) (laws_toConsumer aB) p5 c5 (hΓ.get 16 rfl) p6 c6 (hΓ.get 17 rfl) p7 c7 (hΓ.get 18 rfl) p8 c8 (hΓ.get 19 rfl) hq3 hq4) ?_
      intro hq5
      refine DX.takes (fuel := 0) ttOk [(5, true)] (by kernel_rfl) rfl ?_
      refine DX.tail [] rfl rfl (by kernel_rfl) ?_
      refine WX.run ttOk rfl ?_
      refine WX.callF 24 (fun _ _ h => GoT.ow_rd h) (fun _ f hf => GoT.fak f hf) rfl rfl rfl rfl rfl (fun _ => rfl) rfl (fun w G bs hI hΓ => f31 w n (by omega) aA paAName caAName (hΓ.get 0 rfl) paADataName caADataName (hΓ.get 1 rfl) paADataContent caADataContent (hΓ.get 2 rfl) paADataKeyName caADataKeyName (hΓ.get 3 rfl) hk1) (fun _ => rfl) (fun _ => rfl) ?_
      rintro ⟨⟨⟩, ⟨⟩, ⟨p9, c9⟩, ⟨⟩, ⟨⟩, ⟨⟩, ⟨⟨p10, c10⟩, ⟨p11, c11⟩, ⟨p12, c12⟩, ⟨⟩, ⟨⟩⟩⟩ hq6
      refine WX.run ttOk rfl ?_
      refine WX.callF 32 (fun _ _ h => GoT.ow_rd h) (fun _ f hf => GoT.fak f hf) rfl rfl rfl rfl rfl (fun _ => rfl) rfl (fun w G bs hI hΓ => f31 w n (by omega) aB paBName caBName (hΓ.get 4 rfl) paBDataName caBDataName (hΓ.get 5 rfl) paBDataContent caBDataContent (hΓ.get 6 rfl) paBDataKeyName caBDataKeyName (hΓ.get 7 rfl) hk2) (fun _ => rfl) (fun _ => rfl) ?_
      rintro ⟨⟨⟩, ⟨⟩, ⟨p13, c13⟩, ⟨⟩, ⟨⟩, ⟨⟩, ⟨⟨p14, c14⟩, ⟨p15, c15⟩, ⟨p16, c16⟩, ⟨⟩, ⟨⟩⟩⟩ hq7
      refine WX.run ttOk rfl ?_
      refine WX.callV rfl rfl rfl rfl rfl (fun _ => rfl) rfl (fun w G bs hI hΓ => f32 w n (by omega) (laws_toConsumer aA) p9 c9 (hΓ.get 24 rfl) p10 c10 (hΓ.get 25 rfl) p11 c11 (hΓ.get 26 rfl) p12 c12 (hΓ.get 27 rfl) (laws_toConsumer aB) p13 c13 (hΓ.get 32 rfl) p14 c14 (hΓ.get 33 rfl) p15 c15 (hΓ.get 34 rfl) p16 c16 (hΓ.get 35 rfl) (And.intro (ok_Consumer hq3).1 (And.intro (ok_Consumer hq3).2.1 (And.intro (ok_Consumer hq6).2.2.1 (And.intro (ok_Consumer hq3).2.2.2.1 (And.intro (ok_Consumer hq3).2.2.2.2.1 (And.intro trivial (And.intro (ok_DataP (ok_Consumer hq6).2.2.2.2.2.2).1 (And.intro (ok_DataP (ok_Consumer hq6).2.2.2.2.2.2).2.1 (And.intro (ok_DataP (ok_Consumer hq6).2.2.2.2.2.2).2.2.1 (And.intro (ok_DataP (ok_Consumer hq3).2.2.2.2.2.2).2.2.2.1 (ok_DataP (ok_Consumer hq3).2.2.2.2.2.2).2.2.2.2)))))))))) (And.intro (ok_Consumer hq4).1 (And.intro (ok_Consumer hq4).2.1 (And.intro (ok_Consumer hq7).2.2.1 (And.intro (ok_Consumer hq4).2.2.2.1 (And.intro (ok_Consumer hq4).2.2.2.2.1 (And.intro trivial (And.intro (ok_DataP (ok_Consumer hq7).2.2.2.2.2.2).1 (And.intro (ok_DataP (ok_Consumer hq7).2.2.2.2.2.2).2.1 (And.intro (ok_DataP (ok_Consumer hq7).2.2.2.2.2.2).2.2.1 (And.intro (ok_DataP (ok_Consumer hq4).2.2.2.2.2.2).2.2.2.1 (ok_DataP (ok_Consumer hq4).2.2.2.2.2.2).2.2.2.2))))))))))) ?_
      intro hq8
      refine WX.run ttOk rfl ?_
      refine WX.see rfl rfl rfl (fun _ hΓ => looks_beq ttOk rfl rfl rfl rfl rfl rfl) ?_
      refine WX.run ttOk rfl ?_
      refine WX.cases 34 rfl (fun h3 => ?_) (fun h3 => ?_)
      · skip
        have h3d := (B.nt h3)
        refine WX.run ttOk rfl ?_
        have hP3 : laws_FnExactEqualConsumers aA aB = false := by simp only [laws_FnExactEqualConsumers, h1, h2, h3, cond_true, cond_false]
        refine WX.ret ttOk rfl ?_
        intro w1 G bs hI hΓ
        rw [hP3]
        exact ⟨rfl, trivial⟩
      · skip
        have h3d := (B.nf h3)
        refine WX.run ttOk rfl ?_
        refine WX.draw [] mixed ?_
        intro bs G0 hΓ0
        refine DX.takes (fuel := 3) ttOk [(0, false), (1, false)] (by kernel_rfl) rfl ?_
        refine DX.callF 2 40 (fun _ _ h => GoT.ow_rd h) (fun _ f hf => GoT.fak f hf) rfl (by kernel_rfl) rfl rfl rfl rfl rfl rfl (fun _ => rfl) rfl (fun w G bs hI hΓ => f31 w n (by omega) aA paAName caAName (hΓ.get 0 rfl) paADataName caADataName (hΓ.get 1 rfl) paADataContent caADataContent (hΓ.get 2 rfl) paADataKeyName caADataKeyName (hΓ.get 3 rfl) hk1) (fun _ => rfl) (fun _ => rfl) ?_
        rintro ⟨⟨⟩, ⟨⟩, ⟨p17, c17⟩, ⟨⟩, ⟨⟩, ⟨⟩, ⟨⟨p18, c18⟩, ⟨p19, c19⟩, ⟨p20, c20⟩, ⟨⟩, ⟨⟩⟩⟩ hq9
        refine DX.callV 3 rfl (by kernel_rfl) rfl rfl rfl rfl rfl rfl (fun _ => rfl) rfl (fun w G bs hI hΓ => f19 w n (by omega) (laws_toConsumer aA) p9 c9 (hΓ.get 24 rfl) p10 c10 (hΓ.get 25 rfl) p11 c11 (hΓ.get 26 rfl) p12 c12 (hΓ.get 27 rfl) (laws_toConsumer aA) p17 c17 (hΓ.get 40 rfl) p18 c18 (hΓ.get 41 rfl) p19 c19 (hΓ.get 42 rfl) p20 c20 (hΓ.get 43 rfl) (And.intro (ok_Consumer hq3).1 (And.intro (ok_Consumer hq3).2.1 (And.intro (ok_Consumer hq6).2.2.1 (And.intro (ok_Consumer hq3).2.2.2.1 (And.intro (ok_Consumer hq3).2.2.2.2.1 (And.intro trivial (And.intro (ok_DataP (ok_Consumer hq6).2.2.2.2.2.2).1 (And.intro (ok_DataP (ok_Consumer hq6).2.2.2.2.2.2).2.1 (And.intro (ok_DataP (ok_Consumer hq6).2.2.2.2.2.2).2.2.1 (And.intro (ok_DataP (ok_Consumer hq3).2.2.2.2.2.2).2.2.2.1 (ok_DataP (ok_Consumer hq3).2.2.2.2.2.2).2.2.2.2)))))))))) (And.intro (ok_Consumer hq3).1 (And.intro (ok_Consumer hq3).2.1 (And.intro (ok_Consumer hq9).2.2.1 (And.intro (ok_Consumer hq3).2.2.2.1 (And.intro (ok_Consumer hq3).2.2.2.2.1 (And.intro trivial (And.intro (ok_DataP (ok_Consumer hq9).2.2.2.2.2.2).1 (And.intro (ok_DataP (ok_Consumer hq9).2.2.2.2.2.2).2.1 (And.intro (ok_DataP (ok_Consumer hq9).2.2.2.2.2.2).2.2.1 (And.intro (ok_DataP (ok_Consumer hq3).2.2.2.2.2.2).2.2.2.1 (ok_DataP (ok_Consumer hq3).2.2.2.2.2.2).2.2.2.2))))))))))) ?_
        intro hq10
        refine DX.takes (fuel := 0) ttOk [(4, true)] (by kernel_rfl) rfl ?_
        refine DX.tail [] rfl rfl (by kernel_rfl) ?_
        refine WX.run ttOk rfl ?_
        refine WX.cases 39 rfl (fun h4 => ?_) (fun h4 => ?_)
        · skip
          have h4d := (B.nt h4)
          refine WX.run ttOk rfl ?_
          have hP4 : laws_FnExactEqualConsumers aA aB = false := by simp only [laws_FnExactEqualConsumers, h1, h2, h3, h4, cond_true, cond_false]
          refine WX.ret ttOk rfl ?_
          intro w1 G bs hI hΓ
          rw [hP4]
          exact ⟨rfl, trivial⟩
        · skip
          have h4d := (B.nf h4)
          refine WX.run ttOk rfl ?_
          refine WX.draw [] mixed ?_
          intro bs G0 hΓ0
          refine DX.takes (fuel := 3) ttOk [(0, false), (1, false)] (by kernel_rfl) rfl ?_
          refine DX.callF 2 48 (fun _ _ h => GoT.ow_rd h) (fun _ f hf => GoT.fak f hf) rfl (by kernel_rfl) rfl rfl rfl rfl rfl rfl (fun _ => rfl) rfl (fun w G bs hI hΓ => f31 w n (by omega) aB paBName caBName (hΓ.get 4 rfl) paBDataName caBDataName (hΓ.get 5 rfl) paBDataContent caBDataContent (hΓ.get 6 rfl) paBDataKeyName caBDataKeyName (hΓ.get 7 rfl) hk2) (fun _ => rfl) (fun _ => rfl) ?_
          rintro ⟨⟨⟩, ⟨⟩, ⟨p21, c21⟩, ⟨⟩, ⟨⟩, ⟨⟩, ⟨⟨p22, c22⟩, ⟨p23, c23⟩, ⟨p24, c24⟩, ⟨⟩, ⟨⟩⟩⟩ hq11
          refine DX.callV 3 rfl (by kernel_rfl) rfl rfl rfl rfl rfl rfl (fun _ => rfl) rfl (fun w G bs hI hΓ => f19 w n (by omega) (laws_toConsumer aB) p13 c13 (hΓ.get 32 rfl) p14 c14 (hΓ.get 33 rfl) p15 c15 (hΓ.get 34 rfl) p16 c16 (hΓ.get 35 rfl) (laws_toConsumer aB) p21 c21 (hΓ.get 48 rfl) p22 c22 (hΓ.get 49 rfl) p23 c23 (hΓ.get 50 rfl) p24 c24 (hΓ.get 51 rfl) (And.intro (ok_Consumer hq4).1 (And.intro (ok_Consumer hq4).2.1 (And.intro (ok_Consumer hq7).2.2.1 (And.intro (ok_Consumer hq4).2.2.2.1 (And.intro (ok_Consumer hq4).2.2.2.2.1 (And.intro trivial (And.intro (ok_DataP (ok_Consumer hq7).2.2.2.2.2.2).1 (And.intro (ok_DataP (ok_Consumer hq7).2.2.2.2.2.2).2.1 (And.intro (ok_DataP (ok_Consumer hq7).2.2.2.2.2.2).2.2.1 (And.intro (ok_DataP (ok_Consumer hq4).2.2.2.2.2.2).2.2.2.1 (ok_DataP (ok_Consumer hq4).2.2.2.2.2.2).2.2.2.2)))))))))) (And.intro (ok_Consumer hq4).1 (And.intro (ok_Consumer hq4).2.1 (And.intro (ok_Consumer hq11).2.2.1 (And.intro (ok_Consumer hq4).2.2.2.1 (And.intro (ok_Consumer hq4).2.2.2.2.1 (And.intro trivial (And.intro (ok_DataP (ok_Consumer hq11).2.2.2.2.2.2).1 (And.intro (ok_DataP (ok_Consumer hq11).2.2.2.2.2.2).2.1 (And.intro (ok_DataP (ok_Consumer hq11).2.2.2.2.2.2).2.2.1 (And.intro (ok_DataP (ok_Consumer hq4).2.2.2.2.2.2).2.2.2.1 (ok_DataP (ok_Consumer hq4).2.2.2.2.2.2).2.2.2.2))))))))))) ?_
          intro hq12
          refine DX.takes (fuel := 0) ttOk [(4, true)] (by kernel_rfl) rfl ?_
          refine DX.tail [] rfl rfl (by kernel_rfl) ?_
          refine WX.run ttOk rfl ?_
          refine WX.cases 44 rfl (fun h5 => ?_) (fun h5 => ?_)
          · skip
            have h5d := (B.nt h5)
            refine WX.run ttOk rfl ?_
            have hP5 : laws_FnExactEqualConsumers aA aB = false := by simp only [laws_FnExactEqualConsumers, h1, h2, h3, h4, h5, cond_true, cond_false]
            refine WX.ret ttOk rfl ?_
            intro w1 G bs hI hΓ
            rw [hP5]
            exact ⟨rfl, trivial⟩
          · skip
            have h5d := (B.nf h5)
            refine WX.run ttOk rfl ?_
            have hP6 : laws_FnExactEqualConsumers aA aB = true := by simp only [laws_FnExactEqualConsumers, h1, h2, h3, h4, h5, cond_true, cond_false]
            refine WX.ret ttOk rfl ?_
            intro w1 G bs hI hΓ
            rw [hP6]
            exact ⟨rfl, trivial⟩
theorem f6 (w : World) (n : Nat) (hn : n + 0 ≤ 9) (aR : Record) (paRDataName : Option Addr) (caRDataName : Nat) (hpaRDataName : RdSl (hp w) paRDataName caRDataName aR.data.name.parts) (paRDataContent : Option Addr) (caRDataContent : Nat) (hpaRDataContent : RdSl (hp w) paRDataContent caRDataContent aR.data.content) (paRDataKeyName : Option Addr) (caRDataKeyName : Nat) (hpaRDataKeyName : RdSl (hp w) paRDataKeyName caRDataKeyName aR.data.keyName.parts) (hokaR : GoT.ok 10 aR) :
    Does Try.prog 6 #[.agg #[.int .i64 (aR.kind), .slice paRDataName ((aR.data.name.parts).length) caRDataName, .slice paRDataContent ((aR.data.content).length) caRDataContent, .slice paRDataKeyName ((aR.data.keyName.parts).length) caRDataKeyName, .int .i64 (aR.data.freshUntil), .int .i64 (aR.data.signature)]] w emp (fun (rv : Value) (_ : World) => rv = .bool (laws_FnExactValidRecord aR) ∧ True) := by
  have hbP := bd_pos n
  have hbB := bd_big (n := n) (by omega)
  refine WX.enter (tt := tt) (Γ := [(0, MF.rs .stb paRDataName caRDataName aR.data.name.parts), (1, MF.rs .stb paRDataContent caRDataContent aR.data.content), (2, MF.rs .stb paRDataKeyName caRDataKeyName aR.data.keyName.parts)]) Try.func6 rfl (by kernel_rfl) rfl (allS_cons rfl hpaRDataName (allS_cons rfl hpaRDataContent (allS_cons rfl hpaRDataKeyName allS_nil))) ?_
  refine WX.run ttOk rfl ?_
  refine WX.callV rfl rfl rfl rfl rfl (fun _ => rfl) rfl (fun w G bs hI hΓ => f33 w 10 aR paRDataName caRDataName (hΓ.get 0 rfl) paRDataContent caRDataContent (hΓ.get 1 rfl) paRDataKeyName caRDataKeyName (hΓ.get 2 rfl) 1048576 hokaR (show I64 1048576 from (by unfold I64; omega))) ?_
  intro hq1
  refine WX.run ttOk rfl ?_
  refine WX.cases 11 rfl (fun h1 => ?_) (fun h1 => ?_)
  · skip
    have h1d := B.dt h1
    refine WX.run ttOk rfl ?_
    have hP1 : laws_FnExactValidRecord aR = true := by simp only [laws_FnExactValidRecord, h1, cond_true, cond_false]
    refine WX.ret ttOk rfl ?_
    intro w1 G bs hI hΓ
    rw [hP1]
    exact ⟨rfl, trivial⟩
  · skip
    have h1d := B.df h1
    obtain ⟨hs1, ht1⟩ := (sz_Record_R aR 1048576 hokaR (by omega) (by omega)).pos (by omega)
    have hk1 : GoT.ok n aR := GoT.okm (Nat.zero_le n) (Sz.low hokaR (show sz aR ≤ 1048576 by omega))
    refine WX.run ttOk rfl ?_
    refine WX.callF 3 (fun _ _ h => GoT.ow_rd h) (fun _ f hf => GoT.fak f hf) rfl rfl rfl rfl rfl (fun _ => rfl) rfl (fun w G bs hI hΓ => f35 w n (by omega) aR paRDataName caRDataName (hΓ.get 0 rfl) paRDataContent caRDataContent (hΓ.get 1 rfl) paRDataKeyName caRDataKeyName (hΓ.get 2 rfl) hk1) (fun _ => rfl) (fun _ => rfl) ?_
    rintro ⟨⟨⟩, ⟨⟨p1, c1⟩, ⟨p2, c2⟩, ⟨p3, c3⟩, ⟨⟩, ⟨⟩⟩⟩ hq2
    refine WX.callV rfl rfl rfl rfl rfl (fun _ => rfl) rfl (fun w G bs hI hΓ => f34 w n (by omega) (laws_toRecord aR) p1 c1 (hΓ.get 3 rfl) p2 c2 (hΓ.get 4 rfl) p3 c3 (hΓ.get 5 rfl) hq2) ?_
    intro hq3
    refine WX.run ttOk rfl ?_
    refine WX.callF 9 (fun _ _ h => GoT.ow_rd h) (fun _ f hf => GoT.fak f hf) rfl rfl rfl rfl rfl (fun _ => rfl) rfl (fun w G bs hI hΓ => f35 w n (by omega) aR paRDataName caRDataName (hΓ.get 0 rfl) paRDataContent caRDataContent (hΓ.get 1 rfl) paRDataKeyName caRDataKeyName (hΓ.get 2 rfl) hk1) (fun _ => rfl) (fun _ => rfl) ?_
    rintro ⟨⟨⟩, ⟨⟨p4, c4⟩, ⟨p5, c5⟩, ⟨p6, c6⟩, ⟨⟩, ⟨⟩⟩⟩ hq4
    refine WX.run ttOk rfl ?_
    refine WX.callV rfl rfl rfl rfl rfl (fun _ => rfl) rfl (fun w G bs hI hΓ => f36 w n (by omega) (laws_toRecord aR) p4 c4 (hΓ.get 9 rfl) p5 c5 (hΓ.get 10 rfl) p6 c6 (hΓ.get 11 rfl) (And.intro (ok_Record hq2).1 (And.intro (ok_DataP (ok_Record hq4).2).1 (And.intro (ok_DataP (ok_Record hq4).2).2.1 (And.intro (ok_DataP (ok_Record hq4).2).2.2.1 (And.intro (ok_DataP (ok_Record hq2).2).2.2.2.1 (ok_DataP (ok_Record hq2).2).2.2.2.2)))))) ?_
    intro hq5
    refine WX.run ttOk rfl ?_
    refine WX.see rfl rfl rfl (fun _ hΓ => looks_beq ttOk rfl rfl rfl rfl rfl rfl) ?_
    refine WX.run ttOk rfl ?_
    refine WX.cases 21 rfl (fun h2 => ?_) (fun h2 => ?_)
    · skip
      have h2d := (B.nt h2)
      refine WX.run ttOk rfl ?_
      have hP2 : laws_FnExactValidRecord aR = false := by simp only [laws_FnExactValidRecord, h1, h2, cond_true, cond_false]
      refine WX.ret ttOk rfl ?_
      intro w1 G bs hI hΓ
      rw [hP2]
      exact ⟨rfl, trivial⟩
    · skip
      have h2d := (B.nf h2)
      refine WX.run ttOk rfl ?_
      refine WX.draw [] mixed ?_
      intro bs G0 hΓ0
      refine DX.takes (fuel := 3) ttOk [(0, false), (1, false)] (by kernel_rfl) rfl ?_
      refine DX.callF 2 15 (fun _ _ h => GoT.ow_rd h) (fun _ f hf => GoT.fak f hf) rfl (by kernel_rfl) rfl rfl rfl rfl rfl rfl (fun _ => rfl) rfl (fun w G bs hI hΓ => f35 w n (by omega) aR paRDataName caRDataName (hΓ.get 0 rfl) paRDataContent caRDataContent (hΓ.get 1 rfl) paRDataKeyName caRDataKeyName (hΓ.get 2 rfl) hk1) (fun _ => rfl) (fun _ => rfl) ?_
      rintro ⟨⟨⟩, ⟨⟨p7, c7⟩, ⟨p8, c8⟩, ⟨p9, c9⟩, ⟨⟩, ⟨⟩⟩⟩ hq6
      refine DX.callV 3 rfl (by kernel_rfl) rfl rfl rfl rfl rfl rfl (fun _ => rfl) rfl (fun w G bs hI hΓ => f37 w n (by omega) (laws_toRecord aR) p4 c4 (hΓ.get 9 rfl) p5 c5 (hΓ.get 10 rfl) p6 c6 (hΓ.get 11 rfl) (laws_toRecord aR) p7 c7 (hΓ.get 15 rfl) p8 c8 (hΓ.get 16 rfl) p9 c9 (hΓ.get 17 rfl) (And.intro (ok_Record hq2).1 (And.intro (ok_DataP (ok_Record hq4).2).1 (And.intro (ok_DataP (ok_Record hq4).2).2.1 (And.intro (ok_DataP (ok_Record hq4).2).2.2.1 (And.intro (ok_DataP (ok_Record hq2).2).2.2.2.1 (ok_DataP (ok_Record hq2).2).2.2.2.2))))) (And.intro (ok_Record hq2).1 (And.intro (ok_DataP (ok_Record hq6).2).1 (And.intro (ok_DataP (ok_Record hq6).2).2.1 (And.intro (ok_DataP (ok_Record hq6).2).2.2.1 (And.intro (ok_DataP (ok_Record hq2).2).2.2.2.1 (ok_DataP (ok_Record hq2).2).2.2.2.2)))))) ?_
      intro hq7
      refine DX.takes (fuel := 0) ttOk [(4, true)] (by kernel_rfl) rfl ?_
      refine DX.tail [] rfl rfl (by kernel_rfl) ?_
      refine WX.run ttOk rfl ?_
      refine WX.cases 26 rfl (fun h3 => ?_) (fun h3 => ?_)
      · skip
        have h3d := (B.nt h3)
        refine WX.run ttOk rfl ?_
        have hP3 : laws_FnExactValidRecord aR = false := by simp only [laws_FnExactValidRecord, h1, h2, h3, cond_true, cond_false]
        refine WX.ret ttOk rfl ?_
        intro w1 G bs hI hΓ
        rw [hP3]
        exact ⟨rfl, trivial⟩
      · skip
        have h3d := (B.nf h3)
        refine WX.run ttOk rfl ?_
        have hP4 : laws_FnExactValidRecord aR = true := by simp only [laws_FnExactValidRecord, h1, h2, h3, cond_true, cond_false]
        refine WX.ret ttOk rfl ?_
        intro w1 G bs hI hΓ
        rw [hP4]
        exact ⟨rfl, trivial⟩
theorem f7 (w : World) (n : Nat) (hn : n + 0 ≤ 9) (aV : StateVector) (paV : Option Addr) (caV : Nat) (hpaV : RdSl (hp w) paV caV aV.entries) (hokaV : GoT.ok 10 aV) :
    Does Try.prog 7 #[.agg #[.slice paV ((aV.entries).length) caV]] w emp (fun (rv : Value) (_ : World) => rv = .bool (laws_FnExactValidVector aV) ∧ True) := by
  have hbP := bd_pos n
  have hbB := bd_big (n := n) (by omega)
  refine WX.enter (tt := tt) (Γ := [(0, MF.rs .stb paV caV aV.entries)]) Try.func7 rfl (by kernel_rfl) rfl (allS_cons rfl hpaV allS_nil) ?_
  refine WX.run ttOk rfl ?_
  refine WX.callV rfl rfl rfl rfl rfl (fun _ => rfl) rfl (fun w G bs hI hΓ => f38 w 10 aV paV caV (hΓ.get 0 rfl) 1048576 hokaV (show I64 1048576 from (by unfold I64; omega))) ?_
  intro hq1
  refine WX.run ttOk rfl ?_
  refine WX.cases 11 rfl (fun h1 => ?_) (fun h1 => ?_)
  · skip
    have h1d := B.dt h1
    refine WX.run ttOk rfl ?_
    have hP1 : laws_FnExactValidVector aV = true := by simp only [laws_FnExactValidVector, h1, cond_true, cond_false]
    refine WX.ret ttOk rfl ?_
    intro w1 G bs hI hΓ
    rw [hP1]
    exact ⟨rfl, trivial⟩
  · skip
    have h1d := B.df h1
    obtain ⟨hs1, ht1⟩ := (sz_StateVector_R aV 1048576 hokaV (by omega) (by omega)).pos (by omega)
    have hk1 : GoT.ok n aV := GoT.okm (Nat.zero_le n) (Sz.low hokaV (show sz aV ≤ 1048576 by omega))
    refine WX.run ttOk rfl ?_
    refine WX.callF 1 (fun _ _ h => GoT.ow_rd h) (fun _ f hf => GoT.fak f hf) rfl rfl rfl rfl rfl (fun _ => rfl) rfl (fun w G bs hI hΓ => f40 w n (by omega) aV paV caV (hΓ.get 0 rfl) hk1) (fun _ => rfl) (fun _ => rfl) ?_
    rintro ⟨p1, c1⟩ hq2
    refine WX.callV rfl rfl rfl rfl rfl (fun _ => rfl) rfl (fun w G bs hI hΓ => f39 w n (by omega) (laws_toStateVector aV) p1 c1 (hΓ.get 1 rfl) hq2) ?_
    intro hq3
    refine WX.run ttOk rfl ?_
    refine WX.callF 3 (fun _ _ h => GoT.ow_rd h) (fun _ f hf => GoT.fak f hf) rfl rfl rfl rfl rfl (fun _ => rfl) rfl (fun w G bs hI hΓ => f40 w n (by omega) aV paV caV (hΓ.get 0 rfl) hk1) (fun _ => rfl) (fun _ => rfl) ?_
    rintro ⟨p2, c2⟩ hq4
    refine WX.run ttOk rfl ?_
    refine WX.callV rfl rfl rfl rfl rfl (fun _ => rfl) rfl (fun w G bs hI hΓ => f41 w n (by omega) (laws_toStateVector aV) p2 c2 (hΓ.get 3 rfl) hq4) ?_
    intro hq5
    refine WX.run ttOk rfl ?_
    refine WX.see rfl rfl rfl (fun _ hΓ => looks_beq ttOk rfl rfl rfl rfl rfl rfl) ?_
    refine WX.run ttOk rfl ?_
    refine WX.cases 21 rfl (fun h2 => ?_) (fun h2 => ?_)
    · skip
      have h2d := (B.nt h2)
      refine WX.run ttOk rfl ?_
      have hP2 : laws_FnExactValidVector aV = false := by simp only [laws_FnExactValidVector, h1, h2, cond_true, cond_false]
      refine WX.ret ttOk rfl ?_
      intro w1 G bs hI hΓ
      rw [hP2]
      exact ⟨rfl, trivial⟩
    · skip
      have h2d := (B.nf h2)
      refine WX.run ttOk rfl ?_
      refine WX.draw [] mixed ?_
      intro bs G0 hΓ0
      refine DX.takes (fuel := 3) ttOk [(0, false), (1, false)] (by kernel_rfl) rfl ?_
      refine DX.callF 2 5 (fun _ _ h => GoT.ow_rd h) (fun _ f hf => GoT.fak f hf) rfl (by kernel_rfl) rfl rfl rfl rfl rfl rfl (fun _ => rfl) rfl (fun w G bs hI hΓ => f40 w n (by omega) aV paV caV (hΓ.get 0 rfl) hk1) (fun _ => rfl) (fun _ => rfl) ?_
      rintro ⟨p3, c3⟩ hq6
      refine DX.callV 3 rfl (by kernel_rfl) rfl rfl rfl rfl rfl rfl (fun _ => rfl) rfl (fun w G bs hI hΓ => f42 w n (by omega) (laws_toStateVector aV) p2 c2 (hΓ.get 3 rfl) (laws_toStateVector aV) p3 c3 (hΓ.get 5 rfl) hq4 hq6) ?_
      intro hq7
      refine DX.takes (fuel := 0) ttOk [(4, true)] (by kernel_rfl) rfl ?_
      refine DX.tail [] rfl rfl (by kernel_rfl) ?_
      refine WX.run ttOk rfl ?_
      refine WX.cases 26 rfl (fun h3 => ?_) (fun h3 => ?_)
      · skip
        have h3d := (B.nt h3)
        refine WX.run ttOk rfl ?_
        have hP3 : laws_FnExactValidVector aV = false := by simp only [laws_FnExactValidVector, h1, h2, h3, cond_true, cond_false]
        refine WX.ret ttOk rfl ?_
        intro w1 G bs hI hΓ
        rw [hP3]
        exact ⟨rfl, trivial⟩
      · skip
        have h3d := (B.nf h3)
        refine WX.run ttOk rfl ?_
        have hP4 : laws_FnExactValidVector aV = true := by simp only [laws_FnExactValidVector, h1, h2, h3, cond_true, cond_false]
        refine WX.ret ttOk rfl ?_
        intro w1 G bs hI hΓ
        rw [hP4]
        exact ⟨rfl, trivial⟩
theorem f9 (w : World) (n : Nat) (hn : n + 0 ≤ 9) (aA : Consumer) (paAName : Option Addr) (caAName : Nat) (hpaAName : RdSl (hp w) paAName caAName aA.name.parts) (paADataName : Option Addr) (caADataName : Nat) (hpaADataName : RdSl (hp w) paADataName caADataName aA.data.name.parts) (paADataContent : Option Addr) (caADataContent : Nat) (hpaADataContent : RdSl (hp w) paADataContent caADataContent aA.data.content) (paADataKeyName : Option Addr) (caADataKeyName : Nat) (hpaADataKeyName : RdSl (hp w) paADataKeyName caADataKeyName aA.data.keyName.parts) (hokaA : GoT.ok 10 aA) :
    Does Try.prog 9 #[.agg #[.int .i64 (aA.node), .int .i64 (aA.index), .slice paAName ((aA.name.parts).length) caAName, .int .i64 (aA.attempts), .int .i64 (aA.wait), .bool aA.satisfied, .slice paADataName ((aA.data.name.parts).length) caADataName, .slice paADataContent ((aA.data.content).length) caADataContent, .slice paADataKeyName ((aA.data.keyName.parts).length) caADataKeyName, .int .i64 (aA.data.freshUntil), .int .i64 (aA.data.signature)]] w emp (fun (rv : Value) (_ : World) => rv = .bool (laws_FnExactValidConsumer aA) ∧ True) := by
  have hbP := bd_pos n
  have hbB := bd_big (n := n) (by omega)
  refine WX.enter (tt := tt) (Γ := [(0, MF.rs .stb paAName caAName aA.name.parts), (1, MF.rs .stb paADataName caADataName aA.data.name.parts), (2, MF.rs .stb paADataContent caADataContent aA.data.content), (3, MF.rs .stb paADataKeyName caADataKeyName aA.data.keyName.parts)]) Try.func9 rfl (by kernel_rfl) rfl (allS_cons rfl hpaAName (allS_cons rfl hpaADataName (allS_cons rfl hpaADataContent (allS_cons rfl hpaADataKeyName allS_nil)))) ?_
  refine WX.run ttOk rfl ?_
  refine WX.callV rfl rfl rfl rfl rfl (fun _ => rfl) rfl (fun w G bs hI hΓ => f29 w 10 aA paAName caAName (hΓ.get 0 rfl) paADataName caADataName (hΓ.get 1 rfl) paADataContent caADataContent (hΓ.get 2 rfl) paADataKeyName caADataKeyName (hΓ.get 3 rfl) 1048576 hokaA (show I64 1048576 from (by unfold I64; omega))) ?_
  intro hq1
  refine WX.run ttOk rfl ?_
  refine WX.cases 11 rfl (fun h1 => ?_) (fun h1 => ?_)
  · skip
    have h1d := B.dt h1
    refine WX.run ttOk rfl ?_
    have hP1 : laws_FnExactValidConsumer aA = true := by simp only [laws_FnExactValidConsumer, h1, cond_true, cond_false]
    refine WX.ret ttOk rfl ?_
    intro w1 G bs hI hΓ
    rw [hP1]
    exact ⟨rfl, trivial⟩
  · skip
    have h1d := B.df h1
    obtain ⟨hs1, ht1⟩ := (sz_Consumer_R aA 1048576 hokaA (by omega) (by omega)).pos (by omega)
    have hk1 : GoT.ok n aA := GoT.okm (Nat.zero_le n) (Sz.low hokaA (show sz aA ≤ 1048576 by omega))
    refine WX.run ttOk rfl ?_
    refine WX.callF 4 (fun _ _ h => GoT.ow_rd h) (fun _ f hf => GoT.fak f hf) rfl rfl rfl rfl rfl (fun _ => rfl) rfl (fun w G bs hI hΓ => f31 w n (by omega) aA paAName caAName (hΓ.get 0 rfl) paADataName caADataName (hΓ.get 1 rfl) paADataContent caADataContent (hΓ.get 2 rfl) paADataKeyName caADataKeyName (hΓ.get 3 rfl) hk1) (fun _ => rfl) (fun _ => rfl) ?_
    rintro ⟨⟨⟩, ⟨⟩, ⟨p1, c1⟩, ⟨⟩, ⟨⟩, ⟨⟩, ⟨⟨p2, c2⟩, ⟨p3, c3⟩, ⟨p4, c4⟩, ⟨⟩, ⟨⟩⟩⟩ hq2
    refine WX.callV rfl rfl rfl rfl rfl (fun _ => rfl) rfl (fun w G bs hI hΓ => f48 w n (by omega) (laws_toConsumer aA) p1 c1 (hΓ.get 4 rfl) p2 c2 (hΓ.get 5 rfl) p3 c3 (hΓ.get 6 rfl) p4 c4 (hΓ.get 7 rfl) hq2) ?_
    intro hq3
    refine WX.run ttOk rfl ?_
    refine WX.callF 12 (fun _ _ h => GoT.ow_rd h) (fun _ f hf => GoT.fak f hf) rfl rfl rfl rfl rfl (fun _ => rfl) rfl (fun w G bs hI hΓ => f31 w n (by omega) aA paAName caAName (hΓ.get 0 rfl) paADataName caADataName (hΓ.get 1 rfl) paADataContent caADataContent (hΓ.get 2 rfl) paADataKeyName caADataKeyName (hΓ.get 3 rfl) hk1) (fun _ => rfl) (fun _ => rfl) ?_
    rintro ⟨⟨⟩, ⟨⟩, ⟨p5, c5⟩, ⟨⟩, ⟨⟩, ⟨⟩, ⟨⟨p6, c6⟩, ⟨p7, c7⟩, ⟨p8, c8⟩, ⟨⟩, ⟨⟩⟩⟩ hq4
    refine WX.run ttOk rfl ?_
    refine WX.callV rfl rfl rfl rfl rfl (fun _ => rfl) rfl (fun w G bs hI hΓ => f49 w n (by omega) (laws_toConsumer aA) p5 c5 (hΓ.get 12 rfl) p6 c6 (hΓ.get 13 rfl) p7 c7 (hΓ.get 14 rfl) p8 c8 (hΓ.get 15 rfl) (And.intro (ok_Consumer hq2).1 (And.intro (ok_Consumer hq2).2.1 (And.intro (ok_Consumer hq4).2.2.1 (And.intro (ok_Consumer hq2).2.2.2.1 (And.intro (ok_Consumer hq2).2.2.2.2.1 (And.intro trivial (And.intro (ok_DataP (ok_Consumer hq4).2.2.2.2.2.2).1 (And.intro (ok_DataP (ok_Consumer hq4).2.2.2.2.2.2).2.1 (And.intro (ok_DataP (ok_Consumer hq4).2.2.2.2.2.2).2.2.1 (And.intro (ok_DataP (ok_Consumer hq2).2.2.2.2.2.2).2.2.2.1 (ok_DataP (ok_Consumer hq2).2.2.2.2.2.2).2.2.2.2))))))))))) ?_
    intro hq5
    refine WX.run ttOk rfl ?_
    refine WX.see rfl rfl rfl (fun _ hΓ => looks_beq ttOk rfl rfl rfl rfl rfl rfl) ?_
    refine WX.run ttOk rfl ?_
    refine WX.cases 21 rfl (fun h2 => ?_) (fun h2 => ?_)
    · skip
      have h2d := (B.nt h2)
      refine WX.run ttOk rfl ?_
      have hP2 : laws_FnExactValidConsumer aA = false := by simp only [laws_FnExactValidConsumer, h1, h2, cond_true, cond_false]
      refine WX.ret ttOk rfl ?_
      intro w1 G bs hI hΓ
      rw [hP2]
      exact ⟨rfl, trivial⟩
    · skip
      have h2d := (B.nf h2)
      refine WX.run ttOk rfl ?_
      refine WX.draw [] mixed ?_
      intro bs G0 hΓ0
      refine DX.takes (fuel := 3) ttOk [(0, false), (1, false)] (by kernel_rfl) rfl ?_
      refine DX.callF 2 20 (fun _ _ h => GoT.ow_rd h) (fun _ f hf => GoT.fak f hf) rfl (by kernel_rfl) rfl rfl rfl rfl rfl rfl (fun _ => rfl) rfl (fun w G bs hI hΓ => f31 w n (by omega) aA paAName caAName (hΓ.get 0 rfl) paADataName caADataName (hΓ.get 1 rfl) paADataContent caADataContent (hΓ.get 2 rfl) paADataKeyName caADataKeyName (hΓ.get 3 rfl) hk1) (fun _ => rfl) (fun _ => rfl) ?_
      rintro ⟨⟨⟩, ⟨⟩, ⟨p9, c9⟩, ⟨⟩, ⟨⟩, ⟨⟩, ⟨⟨p10, c10⟩, ⟨p11, c11⟩, ⟨p12, c12⟩, ⟨⟩, ⟨⟩⟩⟩ hq6
      refine DX.callV 3 rfl (by kernel_rfl) rfl rfl rfl rfl rfl rfl (fun _ => rfl) rfl (fun w G bs hI hΓ => f19 w n (by omega) (laws_toConsumer aA) p5 c5 (hΓ.get 12 rfl) p6 c6 (hΓ.get 13 rfl) p7 c7 (hΓ.get 14 rfl) p8 c8 (hΓ.get 15 rfl) (laws_toConsumer aA) p9 c9 (hΓ.get 20 rfl) p10 c10 (hΓ.get 21 rfl) p11 c11 (hΓ.get 22 rfl) p12 c12 (hΓ.get 23 rfl) (And.intro (ok_Consumer hq2).1 (And.intro (ok_Consumer hq2).2.1 (And.intro (ok_Consumer hq4).2.2.1 (And.intro (ok_Consumer hq2).2.2.2.1 (And.intro (ok_Consumer hq2).2.2.2.2.1 (And.intro trivial (And.intro (ok_DataP (ok_Consumer hq4).2.2.2.2.2.2).1 (And.intro (ok_DataP (ok_Consumer hq4).2.2.2.2.2.2).2.1 (And.intro (ok_DataP (ok_Consumer hq4).2.2.2.2.2.2).2.2.1 (And.intro (ok_DataP (ok_Consumer hq2).2.2.2.2.2.2).2.2.2.1 (ok_DataP (ok_Consumer hq2).2.2.2.2.2.2).2.2.2.2)))))))))) (And.intro (ok_Consumer hq2).1 (And.intro (ok_Consumer hq2).2.1 (And.intro (ok_Consumer hq6).2.2.1 (And.intro (ok_Consumer hq2).2.2.2.1 (And.intro (ok_Consumer hq2).2.2.2.2.1 (And.intro trivial (And.intro (ok_DataP (ok_Consumer hq6).2.2.2.2.2.2).1 (And.intro (ok_DataP (ok_Consumer hq6).2.2.2.2.2.2).2.1 (And.intro (ok_DataP (ok_Consumer hq6).2.2.2.2.2.2).2.2.1 (And.intro (ok_DataP (ok_Consumer hq2).2.2.2.2.2.2).2.2.2.1 (ok_DataP (ok_Consumer hq2).2.2.2.2.2.2).2.2.2.2))))))))))) ?_
      intro hq7
      refine DX.takes (fuel := 0) ttOk [(4, true)] (by kernel_rfl) rfl ?_
      refine DX.tail [] rfl rfl (by kernel_rfl) ?_
      refine WX.run ttOk rfl ?_
      refine WX.cases 26 rfl (fun h3 => ?_) (fun h3 => ?_)
      · skip
        have h3d := (B.nt h3)
        refine WX.run ttOk rfl ?_
        have hP3 : laws_FnExactValidConsumer aA = false := by simp only [laws_FnExactValidConsumer, h1, h2, h3, cond_true, cond_false]
        refine WX.ret ttOk rfl ?_
        intro w1 G bs hI hΓ
        rw [hP3]
        exact ⟨rfl, trivial⟩
      · skip
        have h3d := (B.nf h3)
        refine WX.run ttOk rfl ?_
        have hP4 : laws_FnExactValidConsumer aA = true := by simp only [laws_FnExactValidConsumer, h1, h2, h3, cond_true, cond_false]
        refine WX.ret ttOk rfl ?_
        intro w1 G bs hI hΓ
        rw [hP4]
        exact ⟨rfl, trivial⟩
theorem f11 (w : World) (n : Nat) (hn : n + 0 ≤ 9) (aL : Log) (paLDurable : Option Addr) (caLDurable : Nat) (hpaLDurable : RdSl (hp w) paLDurable caLDurable aL.durable) (paLVolatile : Option Addr) (caLVolatile : Nat) (hpaLVolatile : RdSl (hp w) paLVolatile caLVolatile aL.volatile) (hokaL : GoT.ok 10 aL) :
    Does Try.prog 11 #[.agg #[.slice paLDurable ((aL.durable).length) caLDurable, .slice paLVolatile ((aL.volatile).length) caLVolatile]] w emp (fun (rv : Value) (_ : World) => rv = .bool (laws_FnExactValidLog aL) ∧ True) := by
  have hbP := bd_pos n
  have hbB := bd_big (n := n) (by omega)
  refine WX.enter (tt := tt) (Γ := [(0, MF.rs .stb paLDurable caLDurable aL.durable), (1, MF.rs .stb paLVolatile caLVolatile aL.volatile)]) Try.func11 rfl (by kernel_rfl) rfl (allS_cons rfl hpaLDurable (allS_cons rfl hpaLVolatile allS_nil)) ?_
  refine WX.run ttOk rfl ?_
  refine WX.callV rfl rfl rfl rfl rfl (fun _ => rfl) rfl (fun w G bs hI hΓ => f56 w 10 aL paLDurable caLDurable (hΓ.get 0 rfl) paLVolatile caLVolatile (hΓ.get 1 rfl) 1048576 hokaL (show I64 1048576 from (by unfold I64; omega))) ?_
  intro hq1
  refine WX.run ttOk rfl ?_
  refine WX.cases 11 rfl (fun h1 => ?_) (fun h1 => ?_)
  · skip
    have h1d := B.dt h1
    refine WX.run ttOk rfl ?_
    have hP1 : laws_FnExactValidLog aL = true := by simp only [laws_FnExactValidLog, h1, cond_true, cond_false]
    refine WX.ret ttOk rfl ?_
    intro w1 G bs hI hΓ
    rw [hP1]
    exact ⟨rfl, trivial⟩
  · skip
    have h1d := B.df h1
    obtain ⟨hs1, ht1⟩ := (sz_Log_R aL 1048576 hokaL (by omega) (by omega)).pos (by omega)
    have hk1 : GoT.ok n aL := GoT.okm (Nat.zero_le n) (Sz.low hokaL (show sz aL ≤ 1048576 by omega))
    refine WX.run ttOk rfl ?_
    refine WX.callF 2 (fun _ _ h => GoT.ow_rd h) (fun _ f hf => GoT.fak f hf) rfl rfl rfl rfl rfl (fun _ => rfl) rfl (fun w G bs hI hΓ => f58 w n (by omega) aL paLDurable caLDurable (hΓ.get 0 rfl) paLVolatile caLVolatile (hΓ.get 1 rfl) hk1) (fun _ => rfl) (fun _ => rfl) ?_
    rintro ⟨⟨p1, c1⟩, ⟨p2, c2⟩⟩ hq2
    refine WX.callV rfl rfl rfl rfl rfl (fun _ => rfl) rfl (fun w G bs hI hΓ => f57 w n (by omega) (laws_toLog aL) p1 c1 (hΓ.get 2 rfl) p2 c2 (hΓ.get 3 rfl) hq2) ?_
    intro hq3
    refine WX.run ttOk rfl ?_
    refine WX.callF 6 (fun _ _ h => GoT.ow_rd h) (fun _ f hf => GoT.fak f hf) rfl rfl rfl rfl rfl (fun _ => rfl) rfl (fun w G bs hI hΓ => f58 w n (by omega) aL paLDurable caLDurable (hΓ.get 0 rfl) paLVolatile caLVolatile (hΓ.get 1 rfl) hk1) (fun _ => rfl) (fun _ => rfl) ?_
    rintro ⟨⟨p3, c3⟩, ⟨p4, c4⟩⟩ hq4
    refine WX.run ttOk rfl ?_
    refine WX.callV rfl rfl rfl rfl rfl (fun _ => rfl) rfl (fun w G bs hI hΓ => f59 w n (by omega) (laws_toLog aL) p3 c3 (hΓ.get 6 rfl) p4 c4 (hΓ.get 7 rfl) hq4) ?_
    intro hq5
    refine WX.run ttOk rfl ?_
    refine WX.see rfl rfl rfl (fun _ hΓ => looks_beq ttOk rfl rfl rfl rfl rfl rfl) ?_
    refine WX.run ttOk rfl ?_
    refine WX.cases 21 rfl (fun h2 => ?_) (fun h2 => ?_)
    · skip
      have h2d := (B.nt h2)
      refine WX.run ttOk rfl ?_
      have hP2 : laws_FnExactValidLog aL = false := by simp only [laws_FnExactValidLog, h1, h2, cond_true, cond_false]
      refine WX.ret ttOk rfl ?_
      intro w1 G bs hI hΓ
      rw [hP2]
      exact ⟨rfl, trivial⟩
    · skip
      have h2d := (B.nf h2)
      refine WX.run ttOk rfl ?_
      refine WX.draw [] mixed ?_
      intro bs G0 hΓ0
      refine DX.takes (fuel := 3) ttOk [(0, false), (1, false)] (by kernel_rfl) rfl ?_
      refine DX.callF 2 10 (fun _ _ h => GoT.ow_rd h) (fun _ f hf => GoT.fak f hf) rfl (by kernel_rfl) rfl rfl rfl rfl rfl rfl (fun _ => rfl) rfl (fun w G bs hI hΓ => f58 w n (by omega) aL paLDurable caLDurable (hΓ.get 0 rfl) paLVolatile caLVolatile (hΓ.get 1 rfl) hk1) (fun _ => rfl) (fun _ => rfl) ?_
      rintro ⟨⟨p5, c5⟩, ⟨p6, c6⟩⟩ hq6
      refine DX.callV 3 rfl (by kernel_rfl) rfl rfl rfl rfl rfl rfl (fun _ => rfl) rfl (fun w G bs hI hΓ => f60 w n (by omega) (laws_toLog aL) p3 c3 (hΓ.get 6 rfl) p4 c4 (hΓ.get 7 rfl) (laws_toLog aL) p5 c5 (hΓ.get 10 rfl) p6 c6 (hΓ.get 11 rfl) hq4 hq6) ?_
      intro hq7
      refine DX.takes (fuel := 0) ttOk [(4, true)] (by kernel_rfl) rfl ?_
      refine DX.tail [] rfl rfl (by kernel_rfl) ?_
      refine WX.run ttOk rfl ?_
      refine WX.cases 26 rfl (fun h3 => ?_) (fun h3 => ?_)
      · skip
        have h3d := (B.nt h3)
        refine WX.run ttOk rfl ?_
        have hP3 : laws_FnExactValidLog aL = false := by simp only [laws_FnExactValidLog, h1, h2, h3, cond_true, cond_false]
        refine WX.ret ttOk rfl ?_
        intro w1 G bs hI hΓ
        rw [hP3]
        exact ⟨rfl, trivial⟩
      · skip
        have h3d := (B.nf h3)
        refine WX.run ttOk rfl ?_
        have hP4 : laws_FnExactValidLog aL = true := by simp only [laws_FnExactValidLog, h1, h2, h3, cond_true, cond_false]
        refine WX.ret ttOk rfl ?_
        intro w1 G bs hI hΓ
        rw [hP4]
        exact ⟨rfl, trivial⟩
end Go.Proofs.Ytfkllbcfaanmjaa
