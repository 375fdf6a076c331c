/-
  That functions of the program compute what the Lean functions do. No condition but what each says. Written by a program (gen2.py).
-/
import Derived.Test.YtikbfiljomdmiaaC9
import Derived.Test.YtikbfiljomdmiaaPure
import Derived.Test.YtikbfiljomdmiaaPL4
namespace Go.Proofs.Ytikbfiljomdmiaa
open Go.Stp
set_option linter.unusedVariables false
set_option linter.unusedSimpArgs false
theorem f3 (w : World) (n : Nat) (hn : n + 0 ≤ 9) (aA : Member) (paAName : Option Addr) (caAName : Nat) (hpaAName : RdSl (hp w) paAName caAName aA.name.parts) (paAVector : Option Addr) (caAVector : Nat) (hpaAVector : RdSl (hp w) paAVector caAVector aA.vector.entries) (paAPublications : Option Addr) (caAPublications : Nat) (hpaAPublications : RdSl (hp w) paAPublications caAPublications aA.publications) (aB : Member) (paBName : Option Addr) (caBName : Nat) (hpaBName : RdSl (hp w) paBName caBName aB.name.parts) (paBVector : Option Addr) (caBVector : Nat) (hpaBVector : RdSl (hp w) paBVector caBVector aB.vector.entries) (paBPublications : Option Addr) (caBPublications : Nat) (hpaBPublications : RdSl (hp w) paBPublications caBPublications aB.publications) (hokaA : GoT.ok 10 aA) (hokaB : GoT.ok 10 aB) :
    Does Try.prog 3 #[.agg #[.slice paAName ((aA.name.parts).length) caAName, .slice paAVector ((aA.vector.entries).length) caAVector, .slice paAPublications ((aA.publications).length) caAPublications], .agg #[.slice paBName ((aB.name.parts).length) caBName, .slice paBVector ((aB.vector.entries).length) caBVector, .slice paBPublications ((aB.publications).length) caBPublications]] w emp (fun (rv : Value) (_ : World) => rv = .bool (laws_FnExactInSync aA aB) ∧ True) := by
  have hbP := bd_pos n
  have hbB := bd_big (n := n) (by omega)
  refine WX.enter (tt := tt) (Γ := [(0, MF.rs .stb paAName caAName aA.name.parts), (1, MF.rs .stb paAVector caAVector aA.vector.entries), (2, MF.rs .stb paAPublications caAPublications aA.publications), (3, MF.rs .stb paBName caBName aB.name.parts), (4, MF.rs .stb paBVector caBVector aB.vector.entries), (5, MF.rs .stb paBPublications caBPublications aB.publications)]) Try.func3 rfl (by kernel_rfl) rfl (allS_cons rfl hpaAName (allS_cons rfl hpaAVector (allS_cons rfl hpaAPublications (allS_cons rfl hpaBName (allS_cons rfl hpaBVector (allS_cons rfl hpaBPublications allS_nil)))))) ?_
  refine WX.run ttOk rfl ?_
  refine WX.callV rfl rfl rfl rfl rfl (fun _ => rfl) rfl (fun w G bs hI hΓ => f9 w 10 aA paAName caAName (hΓ.get 0 rfl) paAVector caAVector (hΓ.get 1 rfl) paAPublications caAPublications (hΓ.get 2 rfl) 1048576 hokaA (show I64 1048576 from (by unfold I64; omega))) ?_
  intro hq1
  refine WX.run ttOk rfl ?_
  refine WX.cases 14 rfl (fun h1 => ?_) (fun h1 => ?_)
  · skip
    have h1d := B.dt h1
    refine WX.run ttOk rfl ?_
    have hP1 : laws_FnExactInSync aA aB = true := by simp only [laws_FnExactInSync, h1, cond_true, cond_false]
    refine WX.ret ttOk rfl ?_
    intro w1 G bs hI hΓ
    rw [hP1]
    exact ⟨rfl, trivial⟩
  · skip
    have h1d := B.df h1
    obtain ⟨hs1, ht1⟩ := (sz_Member_R aA 1048576 hokaA (by omega) (by omega)).pos (by omega)
    have hk1 : GoT.ok n aA := GoT.okm (Nat.zero_le n) (Sz.low hokaA (show sz aA ≤ 1048576 by omega))
    refine WX.run ttOk rfl ?_
    refine WX.callV rfl rfl rfl rfl rfl (fun _ => rfl) rfl (fun w G bs hI hΓ => f9 w 10 aB paBName caBName (hΓ.get 3 rfl) paBVector caBVector (hΓ.get 4 rfl) paBPublications caBPublications (hΓ.get 5 rfl) (laws_szMember aA 1048576) hokaB hq1) ?_
    intro hq2
    refine WX.run ttOk rfl ?_
    refine WX.cases 19 rfl (fun h2 => ?_) (fun h2 => ?_)
    · skip
      have h2d := B.dt h2
      refine WX.run ttOk rfl ?_
      have hP2 : laws_FnExactInSync aA aB = true := by simp only [laws_FnExactInSync, h1, h2, cond_true, cond_false]
      refine WX.ret ttOk rfl ?_
      intro w1 G bs hI hΓ
      rw [hP2]
      exact ⟨rfl, trivial⟩
    · skip
      have h2d := B.df h2
      obtain ⟨hs2, ht2⟩ := (sz_Member_R aB (laws_szMember aA 1048576) hokaB (by omega) (by omega)).pos (by omega)
      have hk2 : GoT.ok n aB := GoT.okm (Nat.zero_le n) (Sz.low hokaB (show sz aB ≤ 1048576 by omega))
      refine WX.run ttOk rfl ?_
      refine WX.draw [] mixed ?_
      intro bs G0 hΓ0
      refine DX.takes (fuel := 4) ttOk [(0, false), (2, false)] (by kernel_rfl) rfl ?_
      refine DX.callF 1 6 (fun _ _ h => GoT.ow_rd h) (fun _ f hf => GoT.fak f hf) rfl (by kernel_rfl) rfl rfl rfl rfl rfl rfl (fun _ => rfl) rfl (fun w G bs hI hΓ => f11 w n (by omega) aA paAName caAName (hΓ.get 0 rfl) paAVector caAVector (hΓ.get 1 rfl) paAPublications caAPublications (hΓ.get 2 rfl) hk1) (fun _ => rfl) (fun _ => rfl) ?_
      rintro ⟨⟨p1, c1⟩, ⟨p2, c2⟩, ⟨p3, c3⟩⟩ hq3
      refine DX.callF 3 12 (fun _ _ h => GoT.ow_rd h) (fun _ f hf => GoT.fak f hf) rfl (by kernel_rfl) rfl rfl rfl rfl rfl rfl (fun _ => rfl) rfl (fun w G bs hI hΓ => f11 w n (by omega) aB paBName caBName (hΓ.get 3 rfl) paBVector caBVector (hΓ.get 4 rfl) paBPublications caBPublications (hΓ.get 5 rfl) hk2) (fun _ => rfl) (fun _ => rfl) ?_
      rintro ⟨⟨p4, c4⟩, ⟨p5, c5⟩, ⟨p6, c6⟩⟩ hq4
      refine DX.callV 4 rfl (by kernel_rfl) rfl rfl rfl rfl rfl rfl (fun _ => rfl) rfl (fun w G bs hI hΓ => f10 w n (by omega) (laws_toMember aA) p1 c1 (hΓ.get 6 rfl) p2 c2 (hΓ.get 7 rfl) p3 c3 (hΓ.get 8 rfl) (laws_toMember aB) p4 c4 (hΓ.get 12 rfl) p5 c5 (hΓ.get 13 rfl) p6 c6 (hΓ.get 14 rfl) hq3 hq4) ?_
      intro hq5
      refine DX.takes (fuel := 0) ttOk [(5, true)] (by kernel_rfl) rfl ?_
      refine DX.tail [] rfl rfl (by kernel_rfl) ?_
      refine WX.run ttOk rfl ?_
      refine WX.callF 18 (fun _ _ h => GoT.ow_rd h) (fun _ f hf => GoT.fak f hf) rfl rfl rfl rfl rfl (fun _ => rfl) rfl (fun w G bs hI hΓ => f11 w n (by omega) aA paAName caAName (hΓ.get 0 rfl) paAVector caAVector (hΓ.get 1 rfl) paAPublications caAPublications (hΓ.get 2 rfl) hk1) (fun _ => rfl) (fun _ => rfl) ?_
      rintro ⟨⟨p7, c7⟩, ⟨p8, c8⟩, ⟨p9, c9⟩⟩ hq6
      refine WX.run ttOk rfl ?_
      refine WX.callF 24 (fun _ _ h => GoT.ow_rd h) (fun _ f hf => GoT.fak f hf) rfl rfl rfl rfl rfl (fun _ => rfl) rfl (fun w G bs hI hΓ => f11 w n (by omega) aB paBName caBName (hΓ.get 3 rfl) paBVector caBVector (hΓ.get 4 rfl) paBPublications caBPublications (hΓ.get 5 rfl) hk2) (fun _ => rfl) (fun _ => rfl) ?_
      rintro ⟨⟨p10, c10⟩, ⟨p11, c11⟩, ⟨p12, c12⟩⟩ hq7
      refine WX.run ttOk rfl ?_
      refine WX.callV rfl rfl rfl rfl rfl (fun _ => rfl) rfl (fun w G bs hI hΓ => f12 w n (by omega) (laws_toMember aA) p7 c7 (hΓ.get 18 rfl) p8 c8 (hΓ.get 19 rfl) p9 c9 (hΓ.get 20 rfl) (laws_toMember aB) p10 c10 (hΓ.get 24 rfl) p11 c11 (hΓ.get 25 rfl) p12 c12 (hΓ.get 26 rfl) hq6 hq7) ?_
      intro hq8
      refine WX.run ttOk rfl ?_
      refine WX.see rfl rfl rfl (fun _ hΓ => looks_beq ttOk rfl rfl rfl rfl rfl rfl) ?_
      refine WX.run ttOk rfl ?_
      refine WX.cases 34 rfl (fun h3 => ?_) (fun h3 => ?_)
      · skip
        have h3d := (B.nt h3)
        refine WX.run ttOk rfl ?_
        have hP3 : laws_FnExactInSync aA aB = false := by simp only [laws_FnExactInSync, h1, h2, h3, cond_true, cond_false]
        refine WX.ret ttOk rfl ?_
        intro w1 G bs hI hΓ
        rw [hP3]
        exact ⟨rfl, trivial⟩
      · skip
        have h3d := (B.nf h3)
        refine WX.run ttOk rfl ?_
        refine WX.draw [] mixed ?_
        intro bs G0 hΓ0
        refine DX.takes (fuel := 3) ttOk [(0, false), (1, false)] (by kernel_rfl) rfl ?_
        refine DX.callF 2 30 (fun _ _ h => GoT.ow_rd h) (fun _ f hf => GoT.fak f hf) rfl (by kernel_rfl) rfl rfl rfl rfl rfl rfl (fun _ => rfl) rfl (fun w G bs hI hΓ => f11 w n (by omega) aA paAName caAName (hΓ.get 0 rfl) paAVector caAVector (hΓ.get 1 rfl) paAPublications caAPublications (hΓ.get 2 rfl) hk1) (fun _ => rfl) (fun _ => rfl) ?_
        rintro ⟨⟨p13, c13⟩, ⟨p14, c14⟩, ⟨p15, c15⟩⟩ hq9
        refine DX.callV 3 rfl (by kernel_rfl) rfl rfl rfl rfl rfl rfl (fun _ => rfl) rfl (fun w G bs hI hΓ => f13 w n (by omega) (laws_toMember aA) p7 c7 (hΓ.get 18 rfl) p8 c8 (hΓ.get 19 rfl) p9 c9 (hΓ.get 20 rfl) (laws_toMember aA) p13 c13 (hΓ.get 30 rfl) p14 c14 (hΓ.get 31 rfl) p15 c15 (hΓ.get 32 rfl) hq6 hq9) ?_
        intro hq10
        refine DX.takes (fuel := 0) ttOk [(4, true)] (by kernel_rfl) rfl ?_
        refine DX.tail [] rfl rfl (by kernel_rfl) ?_
        refine WX.run ttOk rfl ?_
        refine WX.cases 39 rfl (fun h4 => ?_) (fun h4 => ?_)
        · skip
          have h4d := (B.nt h4)
          refine WX.run ttOk rfl ?_
          have hP4 : laws_FnExactInSync aA aB = false := by simp only [laws_FnExactInSync, h1, h2, h3, h4, cond_true, cond_false]
          refine WX.ret ttOk rfl ?_
          intro w1 G bs hI hΓ
          rw [hP4]
          exact ⟨rfl, trivial⟩
        · skip
          have h4d := (B.nf h4)
          refine WX.run ttOk rfl ?_
          refine WX.draw [] mixed ?_
          intro bs G0 hΓ0
          refine DX.takes (fuel := 3) ttOk [(0, false), (1, false)] (by kernel_rfl) rfl ?_
          refine DX.callF 2 36 (fun _ _ h => GoT.ow_rd h) (fun _ f hf => GoT.fak f hf) rfl (by kernel_rfl) rfl rfl rfl rfl rfl rfl (fun _ => rfl) rfl (fun w G bs hI hΓ => f11 w n (by omega) aB paBName caBName (hΓ.get 3 rfl) paBVector caBVector (hΓ.get 4 rfl) paBPublications caBPublications (hΓ.get 5 rfl) hk2) (fun _ => rfl) (fun _ => rfl) ?_
          rintro ⟨⟨p16, c16⟩, ⟨p17, c17⟩, ⟨p18, c18⟩⟩ hq11
          refine DX.callV 3 rfl (by kernel_rfl) rfl rfl rfl rfl rfl rfl (fun _ => rfl) rfl (fun w G bs hI hΓ => f13 w n (by omega) (laws_toMember aB) p10 c10 (hΓ.get 24 rfl) p11 c11 (hΓ.get 25 rfl) p12 c12 (hΓ.get 26 rfl) (laws_toMember aB) p16 c16 (hΓ.get 36 rfl) p17 c17 (hΓ.get 37 rfl) p18 c18 (hΓ.get 38 rfl) hq7 hq11) ?_
          intro hq12
          refine DX.takes (fuel := 0) ttOk [(4, true)] (by kernel_rfl) rfl ?_
          refine DX.tail [] rfl rfl (by kernel_rfl) ?_
          refine WX.run ttOk rfl ?_
          refine WX.cases 44 rfl (fun h5 => ?_) (fun h5 => ?_)
          · skip
            have h5d := (B.nt h5)
            refine WX.run ttOk rfl ?_
            have hP5 : laws_FnExactInSync aA aB = false := by simp only [laws_FnExactInSync, h1, h2, h3, h4, h5, cond_true, cond_false]
            refine WX.ret ttOk rfl ?_
            intro w1 G bs hI hΓ
            rw [hP5]
            exact ⟨rfl, trivial⟩
          · skip
            have h5d := (B.nf h5)
            refine WX.run ttOk rfl ?_
            have hP6 : laws_FnExactInSync aA aB = true := by simp only [laws_FnExactInSync, h1, h2, h3, h4, h5, cond_true, cond_false]
            refine WX.ret ttOk rfl ?_
            intro w1 G bs hI hΓ
            rw [hP6]
            exact ⟨rfl, trivial⟩
theorem f4 (w : World) (n : Nat) (hn : n + 1 ≤ 9) (aS : Repository) (paSLogDurable : Option Addr) (caSLogDurable : Nat) (hpaSLogDurable : RdSl (hp w) paSLogDurable caSLogDurable aS.log.durable) (paSLogVolatile : Option Addr) (caSLogVolatile : Nat) (hpaSLogVolatile : RdSl (hp w) paSLogVolatile caSLogVolatile aS.log.volatile) (hokaS : GoT.ok 10 aS) :
    Does Try.prog 4 #[.agg #[.slice paSLogDurable ((aS.log.durable).length) caSLogDurable, .slice paSLogVolatile ((aS.log.volatile).length) caSLogVolatile, .int .i64 (aS.quota)]] w emp (fun (rv : Value) (_ : World) => rv = .bool (laws_FnExactFlushRepository aS) ∧ True) := by
  have hbP := bd_pos n
  have hbS0 := bd_succ (n := n) (by omega)
  have hbB := bd_big (n := (n + 1)) (by omega)
  have hbM := bd_mono (show n ≤ n + 1 by omega)
  refine WX.enter (tt := tt) (Γ := [(0, MF.rs .stb paSLogDurable caSLogDurable aS.log.durable), (1, MF.rs .stb paSLogVolatile caSLogVolatile aS.log.volatile)]) Try.func4 rfl (by kernel_rfl) rfl (allS_cons rfl hpaSLogDurable (allS_cons rfl hpaSLogVolatile allS_nil)) ?_
  refine WX.run ttOk rfl ?_
  refine WX.callV rfl rfl rfl rfl rfl (fun _ => rfl) rfl (fun w G bs hI hΓ => f14 w 10 aS paSLogDurable caSLogDurable (hΓ.get 0 rfl) paSLogVolatile caSLogVolatile (hΓ.get 1 rfl) 1048576 hokaS (show I64 1048576 from (by unfold I64; omega))) ?_
  intro hq1
  refine WX.run ttOk rfl ?_
  refine WX.cases 15 rfl (fun h1 => ?_) (fun h1 => ?_)
  · skip
    have h1d := B.dt h1
    refine WX.run ttOk rfl ?_
    have hP1 : laws_FnExactFlushRepository aS = true := by simp only [laws_FnExactFlushRepository, h1, cond_true, cond_false]
    refine WX.ret ttOk rfl ?_
    intro w1 G bs hI hΓ
    rw [hP1]
    exact ⟨rfl, trivial⟩
  · skip
    have h1d := B.df h1
    obtain ⟨hs1, ht1⟩ := (sz_Repository_R aS 1048576 hokaS (by omega) (by omega)).pos (by omega)
    have hk1 : GoT.ok n aS := GoT.okm (Nat.zero_le n) (Sz.low hokaS (show sz aS ≤ 1048576 by omega))
    refine WX.run ttOk rfl ?_
    refine WX.callF 2 (fun _ _ h => GoT.ow_rd h) (fun _ f hf => GoT.fak f hf) rfl rfl rfl rfl rfl (fun _ => rfl) rfl (fun w G bs hI hΓ => f16 w n (by omega) aS paSLogDurable caSLogDurable (hΓ.get 0 rfl) paSLogVolatile caSLogVolatile (hΓ.get 1 rfl) hk1) (fun _ => rfl) (fun _ => rfl) ?_
    rintro ⟨⟨⟨p1, c1⟩, ⟨p2, c2⟩⟩, ⟨⟩⟩ hq2
    refine WX.callF 6 (fun _ _ h => GoT.ow_rd h) (fun _ f hf => GoT.fak f hf) rfl rfl rfl rfl rfl (fun _ => rfl) rfl (fun w G bs hI hΓ => f15 w n (by omega) (laws_toRepository aS) p1 c1 (hΓ.get 2 rfl) p2 c2 (hΓ.get 3 rfl) hq2) (fun _ => rfl) (fun _ => rfl) ?_
    rintro ⟨⟨⟨p3, c3⟩, ⟨p4, c4⟩⟩, ⟨⟩⟩ hq3
    refine WX.run ttOk rfl ?_
    refine WX.callF 10 (fun _ _ h => GoT.ow_rd h) (fun _ f hf => GoT.fak f hf) rfl rfl rfl rfl rfl (fun _ => rfl) rfl (fun w G bs hI hΓ => f16 w n (by omega) aS paSLogDurable caSLogDurable (hΓ.get 0 rfl) paSLogVolatile caSLogVolatile (hΓ.get 1 rfl) hk1) (fun _ => rfl) (fun _ => rfl) ?_
    rintro ⟨⟨⟨p5, c5⟩, ⟨p6, c6⟩⟩, ⟨⟩⟩ hq4
    refine WX.run ttOk rfl ?_
    refine WX.callF 14 (fun _ _ h => GoT.ow_rd h) (fun _ f hf => GoT.fak f hf) rfl rfl rfl rfl rfl (fun _ => rfl) rfl (fun w G bs hI hΓ => f17 w n (by omega) (laws_toRepository aS) p5 c5 (hΓ.get 10 rfl) p6 c6 (hΓ.get 11 rfl) (And.intro (ok_Repository hq4).1 (ok_Repository hq2).2)) (fun _ => rfl) (fun _ => rfl) ?_
    rintro ⟨⟨⟨p7, c7⟩, ⟨p8, c8⟩⟩, ⟨⟩⟩ hq5
    refine WX.run ttOk rfl ?_
    refine WX.callV rfl rfl rfl rfl rfl (fun _ => rfl) rfl (fun w G bs hI hΓ => f18 w (n + 1) (by omega) (impl_FlushRepository (laws_toRepository aS)) p7 c7 (hΓ.get 14 rfl) p8 c8 (hΓ.get 15 rfl) (spec_FlushRepository (laws_toRepository aS)) p3 c3 (hΓ.get 6 rfl) p4 c4 (hΓ.get 7 rfl) hq5 hq3) ?_
    intro hq6
    refine WX.run ttOk rfl ?_
    refine WX.cases 26 rfl (fun h2 => ?_) (fun h2 => ?_)
    · skip
      have h2d := (B.nt h2)
      refine WX.run ttOk rfl ?_
      have hP2 : laws_FnExactFlushRepository aS = false := by simp only [laws_FnExactFlushRepository, h1, h2, cond_true, cond_false]
      refine WX.ret ttOk rfl ?_
      intro w1 G bs hI hΓ
      rw [hP2]
      exact ⟨rfl, trivial⟩
    · skip
      have h2d := (B.nf h2)
      refine WX.run ttOk rfl ?_
      refine WX.draw [] mixed ?_
      intro bs G0 hΓ0
      refine DX.takes (fuel := 3) ttOk [(0, false), (1, false)] (by kernel_rfl) rfl ?_
      refine DX.callF 2 18 (fun _ _ h => GoT.ow_rd h) (fun _ f hf => GoT.fak f hf) rfl (by kernel_rfl) rfl rfl rfl rfl rfl rfl (fun _ => rfl) rfl (fun w G bs hI hΓ => f16 w n (by omega) aS paSLogDurable caSLogDurable (hΓ.get 0 rfl) paSLogVolatile caSLogVolatile (hΓ.get 1 rfl) hk1) (fun _ => rfl) (fun _ => rfl) ?_
      rintro ⟨⟨⟨p9, c9⟩, ⟨p10, c10⟩⟩, ⟨⟩⟩ hq7
      refine DX.callV 3 rfl (by kernel_rfl) rfl rfl rfl rfl rfl rfl (fun _ => rfl) rfl (fun w G bs hI hΓ => f18 w n (by omega) (laws_toRepository aS) p5 c5 (hΓ.get 10 rfl) p6 c6 (hΓ.get 11 rfl) (laws_toRepository aS) p9 c9 (hΓ.get 18 rfl) p10 c10 (hΓ.get 19 rfl) (And.intro (ok_Repository hq4).1 (ok_Repository hq2).2) (And.intro (ok_Repository hq7).1 (ok_Repository hq2).2)) ?_
      intro hq8
      refine DX.takes (fuel := 0) ttOk [(4, true)] (by kernel_rfl) rfl ?_
      refine DX.tail [] rfl rfl (by kernel_rfl) ?_
      refine WX.run ttOk rfl ?_
      refine WX.cases 31 rfl (fun h3 => ?_) (fun h3 => ?_)
      · skip
        have h3d := (B.nt h3)
        refine WX.run ttOk rfl ?_
        have hP3 : laws_FnExactFlushRepository aS = false := by simp only [laws_FnExactFlushRepository, h1, h2, h3, cond_true, cond_false]
        refine WX.ret ttOk rfl ?_
        intro w1 G bs hI hΓ
        rw [hP3]
        exact ⟨rfl, trivial⟩
      · skip
        have h3d := (B.nf h3)
        refine WX.run ttOk rfl ?_
        refine WX.callM [12, 13] 22 rfl (fun _ _ h => GoT.ow_rd h) (fun _ f hf => GoT.fak f hf) rfl rfl rfl rfl rfl (fun _ => rfl) rfl (fun w G bs H hI hH hs hΓ => f19 w n (by omega) (laws_toRepository aS) p5 c5 p6 c6 1 H hH hs (And.intro (ok_Repository hq4).1 (ok_Repository hq2).2) (show I64 1 from (by unfold I64; omega))) (fun _ => rfl) (fun _ => rfl) ?_
        rintro ⟨⟩ hq9
        have hl1 : ((laws_markRepository (laws_toRepository aS) 1).2.log.durable).length = ((laws_toRepository aS).log.durable).length := hq9.2.1
        have hl2 : ((laws_markRepository (laws_toRepository aS) 1).2.log.volatile).length = ((laws_toRepository aS).log.volatile).length := hq9.2.2.1
        refine WX.run ttOk rfl ?_
        refine WX.cases 37 rfl (fun h4 => ?_) (fun h4 => ?_)
        · skip
          have h4d := B.dt h4
          refine WX.run ttOk rfl ?_
          have hP4 : laws_FnExactFlushRepository aS = false := by simp only [laws_FnExactFlushRepository, h1, h2, h3, h4, cond_true, cond_false]
          refine WX.ret ttOk rfl ?_
          intro w1 G bs hI hΓ
          rw [hP4]
          exact ⟨rfl, trivial⟩
        · skip
          have h4d := B.df h4
          refine WX.run ttOk rfl ?_
          refine WX.der 26 (MF.rs .der p7 c7 ((impl_FlushRepository (laws_toRepository aS)).log.durable)) rfl (fun _ hΓ => (hΓ.get 16 rfl : OwSl _ _ _ _).rd) ?_
          refine WX.der 27 (MF.rs .der p8 c8 ((impl_FlushRepository (laws_toRepository aS)).log.volatile)) rfl (fun _ hΓ => (hΓ.get 17 rfl : OwSl _ _ _ _).rd) ?_
          refine WX.der 28 (MF.rs .der p3 c3 ((spec_FlushRepository (laws_toRepository aS)).log.durable)) rfl (fun _ hΓ => (hΓ.get 8 rfl : OwSl _ _ _ _).rd) ?_
          refine WX.der 29 (MF.rs .der p4 c4 ((spec_FlushRepository (laws_toRepository aS)).log.volatile)) rfl (fun _ hΓ => (hΓ.get 9 rfl : OwSl _ _ _ _).rd) ?_
          refine WX.callV rfl rfl rfl rfl rfl (fun _ => rfl) rfl (fun w G bs hI hΓ => f18 w (n + 1) (by omega) (impl_FlushRepository (laws_toRepository aS)) p7 c7 (hΓ.get 26 rfl) p8 c8 (hΓ.get 27 rfl) (spec_FlushRepository (laws_toRepository aS)) p3 c3 (hΓ.get 28 rfl) p4 c4 (hΓ.get 29 rfl) hq5 hq3) ?_
          intro hq10
          refine WX.run ttOk rfl ?_
          refine WX.cases 42 rfl (fun h5 => ?_) (fun h5 => ?_)
          · skip
            have h5d := (B.nt h5)
            exact absurd (h2.symm.trans h5) Bool.false_ne_true
          · skip
            have h5d := (B.nf h5)
            refine WX.run ttOk rfl ?_
            refine WX.callM [16, 17] 30 rfl (fun _ _ h => GoT.ow_rd h) (fun _ f hf => GoT.fak f hf) rfl rfl rfl rfl rfl (fun _ => rfl) rfl (fun w G bs H hI hH hs hΓ => f19 w (n + 1) (by omega) (impl_FlushRepository (laws_toRepository aS)) p7 c7 p8 c8 1 H hH hs hq5 (show I64 1 from (by unfold I64; omega))) (fun _ => rfl) (fun _ => rfl) ?_
            rintro ⟨⟩ hq11
            have hl3 : ((laws_markRepository (impl_FlushRepository (laws_toRepository aS)) 1).2.log.durable).length = ((impl_FlushRepository (laws_toRepository aS)).log.durable).length := hq11.2.1
            have hl4 : ((laws_markRepository (impl_FlushRepository (laws_toRepository aS)) 1).2.log.volatile).length = ((impl_FlushRepository (laws_toRepository aS)).log.volatile).length := hq11.2.2.1
            refine WX.run ttOk rfl ?_
            have hi2 : (laws_markRepository (impl_FlushRepository (laws_toRepository aS)) 1).2.quota = (impl_FlushRepository (laws_toRepository aS)).quota := hq11.2.2.2
            refine WX.slot 46 (y := .v (.agg #[.slice p7 (((laws_markRepository (impl_FlushRepository (laws_toRepository aS)) 1).2.log.durable).length) c7, .slice p8 (((laws_markRepository (impl_FlushRepository (laws_toRepository aS)) 1).2.log.volatile).length) c8, .int .i64 ((laws_markRepository (impl_FlushRepository (laws_toRepository aS)) 1).2.quota)])) rfl (fun _ => by show (.agg #[.slice p7 (((impl_FlushRepository (laws_toRepository aS)).log.durable).length) c7, .slice p8 (((impl_FlushRepository (laws_toRepository aS)).log.volatile).length) c8, .int .i64 ((impl_FlushRepository (laws_toRepository aS)).quota)] : Value) = .agg #[.slice p7 (((laws_markRepository (impl_FlushRepository (laws_toRepository aS)) 1).2.log.durable).length) c7, .slice p8 (((laws_markRepository (impl_FlushRepository (laws_toRepository aS)) 1).2.log.volatile).length) c8, .int .i64 ((laws_markRepository (impl_FlushRepository (laws_toRepository aS)) 1).2.quota)]; simp only [hl3, hl4, hi2]) ?_
            refine WX.callV rfl rfl rfl rfl rfl (fun _ => rfl) rfl (fun w G bs hI hΓ => f20 w (n + 1) (by omega) ((laws_markRepository (impl_FlushRepository (laws_toRepository aS)) 1).2) p7 c7 (hΓ.get 30 rfl) p8 c8 (hΓ.get 31 rfl) 1 hq11.1.2 (show I64 1 from (by unfold I64; omega))) ?_
            intro hq12
            refine WX.run ttOk rfl ?_
            refine WX.cases 50 rfl (fun h6 => ?_) (fun h6 => ?_)
            · skip
              have h6d := B.dt h6
              refine WX.run ttOk rfl ?_
              have hP5 : laws_FnExactFlushRepository aS = false := by simp only [laws_FnExactFlushRepository, h1, h2, h3, h4, h5, h6, cond_true, cond_false]
              refine WX.ret ttOk rfl ?_
              intro w1 G bs hI hΓ
              rw [hP5]
              exact ⟨rfl, trivial⟩
            · skip
              have h6d := B.df h6
              refine WX.run ttOk rfl ?_
              refine WX.cases 53 rfl (fun h7 => ?_) (fun h7 => ?_)
              · skip
                have h7d := B.nt' h7
                refine WX.run ttOk rfl ?_
                have hP6 : laws_FnExactFlushRepository aS = false := by simp only [laws_FnExactFlushRepository, h1, h2, h3, h4, h5, h6, h7, cond_true, cond_false]
                refine WX.ret ttOk rfl ?_
                intro w1 G bs hI hΓ
                rw [hP6]
                exact ⟨rfl, trivial⟩
              · skip
                have h7d := B.nf' h7
                refine WX.run ttOk rfl ?_
                refine WX.callF 34 (fun _ _ h => GoT.ow_rd h) (fun _ f hf => GoT.fak f hf) rfl rfl rfl rfl rfl (fun _ => rfl) rfl (fun w G bs hI hΓ => f16 w n (by omega) aS paSLogDurable caSLogDurable (hΓ.get 0 rfl) paSLogVolatile caSLogVolatile (hΓ.get 1 rfl) hk1) (fun _ => rfl) (fun _ => rfl) ?_
                rintro ⟨⟨⟨p11, c11⟩, ⟨p12, c12⟩⟩, ⟨⟩⟩ hq13
                refine WX.callF 38 (fun _ _ h => GoT.ow_rd h) (fun _ f hf => GoT.fak f hf) rfl rfl rfl rfl rfl (fun _ => rfl) rfl (fun w G bs hI hΓ => f17 w n (by omega) (laws_toRepository aS) p11 c11 (hΓ.get 34 rfl) p12 c12 (hΓ.get 35 rfl) (And.intro (ok_Repository hq13).1 (ok_Repository hq2).2)) (fun _ => rfl) (fun _ => rfl) ?_
                rintro ⟨⟨⟨p13, c13⟩, ⟨p14, c14⟩⟩, ⟨⟩⟩ hq14
                refine WX.run ttOk rfl ?_
                refine WX.der 42 (MF.rs .der p3 c3 ((spec_FlushRepository (laws_toRepository aS)).log.durable)) rfl (fun _ hΓ => (hΓ.get 8 rfl : OwSl _ _ _ _).rd) ?_
                refine WX.der 43 (MF.rs .der p4 c4 ((spec_FlushRepository (laws_toRepository aS)).log.volatile)) rfl (fun _ hΓ => (hΓ.get 9 rfl : OwSl _ _ _ _).rd) ?_
                refine WX.callV rfl rfl rfl rfl rfl (fun _ => rfl) rfl (fun w G bs hI hΓ => f18 w (n + 1) (by omega) (impl_FlushRepository (laws_toRepository aS)) p13 c13 (hΓ.get 38 rfl) p14 c14 (hΓ.get 39 rfl) (spec_FlushRepository (laws_toRepository aS)) p3 c3 (hΓ.get 42 rfl) p4 c4 (hΓ.get 43 rfl) (And.intro (ok_Repository hq14).1 (ok_Repository hq5).2) hq3) ?_
                intro hq15
                refine WX.run ttOk rfl ?_
                refine WX.cases 60 rfl (fun h8 => ?_) (fun h8 => ?_)
                · skip
                  have h8d := (B.nt h8)
                  exact absurd (h2.symm.trans h8) Bool.false_ne_true
                · skip
                  have h8d := (B.nf h8)
                  refine WX.run ttOk rfl ?_
                  refine WX.slot 61 (y := .v (.agg #[.slice p7 (((laws_markRepository (impl_FlushRepository (laws_toRepository aS)) 1).2.log.durable).length) c7, .slice p8 (((laws_markRepository (impl_FlushRepository (laws_toRepository aS)) 1).2.log.volatile).length) c8, .int .i64 ((laws_markRepository (impl_FlushRepository (laws_toRepository aS)) 1).2.quota)])) rfl (fun _ => by show (.agg #[.slice p7 (((impl_FlushRepository (laws_toRepository aS)).log.durable).length) c7, .slice p8 (((impl_FlushRepository (laws_toRepository aS)).log.volatile).length) c8, .int .i64 ((impl_FlushRepository (laws_toRepository aS)).quota)] : Value) = .agg #[.slice p7 (((laws_markRepository (impl_FlushRepository (laws_toRepository aS)) 1).2.log.durable).length) c7, .slice p8 (((laws_markRepository (impl_FlushRepository (laws_toRepository aS)) 1).2.log.volatile).length) c8, .int .i64 ((laws_markRepository (impl_FlushRepository (laws_toRepository aS)) 1).2.quota)]; simp only [hl3, hl4, hi2]) ?_
                  refine WX.callV rfl rfl rfl rfl rfl (fun _ => rfl) rfl (fun w G bs hI hΓ => f20 w (n + 1) (by omega) ((laws_markRepository (impl_FlushRepository (laws_toRepository aS)) 1).2) p7 c7 (hΓ.get 30 rfl) p8 c8 (hΓ.get 31 rfl) 1 hq11.1.2 (show I64 1 from (by unfold I64; omega))) ?_
                  intro hq16
                  refine WX.run ttOk rfl ?_
                  refine WX.cases 65 rfl (fun h9 => ?_) (fun h9 => ?_)
                  · skip
                    have h9d := B.dt h9
                    exact absurd (h6.symm.trans h9) Bool.false_ne_true
                  · skip
                    have h9d := B.df h9
                    refine WX.run ttOk rfl ?_
                    refine WX.cases 68 rfl (fun h10 => ?_) (fun h10 => ?_)
                    · skip
                      have h10d := B.nt' h10
                      exact absurd (h7.symm.trans h10) Bool.false_ne_true
                    · skip
                      have h10d := B.nf' h10
                      refine WX.run ttOk rfl ?_
                      have hP7 : laws_FnExactFlushRepository aS = true := by simp only [laws_FnExactFlushRepository, h1, h2, h3, h4, h5, h6, h7, h8, h9, h10, cond_true, cond_false]
                      refine WX.ret ttOk rfl ?_
                      intro w1 G bs hI hΓ
                      rw [hP7]
                      exact ⟨rfl, trivial⟩
theorem f5 (w : World) (n : Nat) (hn : n + 0 ≤ 9) (aM : Member) (paMName : Option Addr) (caMName : Nat) (hpaMName : RdSl (hp w) paMName caMName aM.name.parts) (paMVector : Option Addr) (caMVector : Nat) (hpaMVector : RdSl (hp w) paMVector caMVector aM.vector.entries) (paMPublications : Option Addr) (caMPublications : Nat) (hpaMPublications : RdSl (hp w) paMPublications caMPublications aM.publications) (aN : Name) (paN : Option Addr) (caN : Nat) (hpaN : RdSl (hp w) paN caN aN.parts) (aI : Int) (hokaM : GoT.ok 10 aM) (hokaN : GoT.ok 10 aN) (hokaI : GoT.ok 10 aI) :
    Does Try.prog 5 #[.agg #[.slice paMName ((aM.name.parts).length) caMName, .slice paMVector ((aM.vector.entries).length) caMVector, .slice paMPublications ((aM.publications).length) caMPublications], .agg #[.slice paN ((aN.parts).length) caN], .int .i64 (aI)] w emp (fun (rv : Value) (_ : World) => rv = .bool (laws_FnExactFindPublication aM aN aI) ∧ True) := by
  have hbP := bd_pos n
  have hbB := bd_big (n := n) (by omega)
  refine WX.enter (tt := tt) (Γ := [(0, MF.rs .stb paMName caMName aM.name.parts), (1, MF.rs .stb paMVector caMVector aM.vector.entries), (2, MF.rs .stb paMPublications caMPublications aM.publications), (3, MF.rs .stb paN caN aN.parts)]) Try.func5 rfl (by kernel_rfl) rfl (allS_cons rfl hpaMName (allS_cons rfl hpaMVector (allS_cons rfl hpaMPublications (allS_cons rfl hpaN allS_nil)))) ?_
  refine WX.run ttOk rfl ?_
  refine WX.callV rfl rfl rfl rfl rfl (fun _ => rfl) rfl (fun w G bs hI hΓ => f9 w 10 aM paMName caMName (hΓ.get 0 rfl) paMVector caMVector (hΓ.get 1 rfl) paMPublications caMPublications (hΓ.get 2 rfl) 1048576 hokaM (show I64 1048576 from (by unfold I64; omega))) ?_
  intro hq1
  refine WX.run ttOk rfl ?_
  refine WX.cases 23 rfl (fun h1 => ?_) (fun h1 => ?_)
  · skip
    have h1d := B.dt h1
    refine WX.run ttOk rfl ?_
    have hP1 : laws_FnExactFindPublication aM aN aI = true := by simp only [laws_FnExactFindPublication, h1, cond_true, cond_false]
    refine WX.ret ttOk rfl ?_
    intro w1 G bs hI hΓ
    rw [hP1]
    exact ⟨rfl, trivial⟩
  · skip
    have h1d := B.df h1
    obtain ⟨hs1, ht1⟩ := (sz_Member_R aM 1048576 hokaM (by omega) (by omega)).pos (by omega)
    have hk1 : GoT.ok n aM := GoT.okm (Nat.zero_le n) (Sz.low hokaM (show sz aM ≤ 1048576 by omega))
    refine WX.run ttOk rfl ?_
    refine WX.callV rfl rfl rfl rfl rfl (fun _ => rfl) rfl (fun w G bs hI hΓ => f21 w 10 aN paN caN (hΓ.get 3 rfl) (laws_szMember aM 1048576) hokaN hq1) ?_
    intro hq2
    refine WX.run ttOk rfl ?_
    refine WX.cases 28 rfl (fun h2 => ?_) (fun h2 => ?_)
    · skip
      have h2d := B.dt h2
      refine WX.run ttOk rfl ?_
      have hP2 : laws_FnExactFindPublication aM aN aI = true := by simp only [laws_FnExactFindPublication, h1, h2, cond_true, cond_false]
      refine WX.ret ttOk rfl ?_
      intro w1 G bs hI hΓ
      rw [hP2]
      exact ⟨rfl, trivial⟩
    · skip
      have h2d := B.df h2
      obtain ⟨hs2, ht2⟩ := (sz_Name_R aN (laws_szMember aM 1048576) hokaN (by omega) (by omega)).pos (by omega)
      have hk2 : GoT.ok n aN := GoT.okm (Nat.zero_le n) (Sz.low hokaN (show sz aN ≤ 1048576 by omega))
      refine WX.run ttOk rfl ?_
      refine WX.draw [] mixed ?_
      intro bs G0 hΓ0
      refine DX.takes (fuel := 8) ttOk [(0, false), (2, false), (4, true)] (by kernel_rfl) rfl ?_
      refine DX.callF 1 4 (fun _ _ h => GoT.ow_rd h) (fun _ f hf => GoT.fak f hf) rfl (by kernel_rfl) rfl rfl rfl rfl rfl rfl (fun _ => rfl) rfl (fun w G bs hI hΓ => f11 w n (by omega) aM paMName caMName (hΓ.get 0 rfl) paMVector caMVector (hΓ.get 1 rfl) paMPublications caMPublications (hΓ.get 2 rfl) hk1) (fun _ => rfl) (fun _ => rfl) ?_
      rintro ⟨⟨p1, c1⟩, ⟨p2, c2⟩, ⟨p3, c3⟩⟩ hq3
      refine DX.callF 3 10 (fun _ _ h => GoT.ow_rd h) (fun _ f hf => GoT.fak f hf) rfl (by kernel_rfl) rfl rfl rfl rfl rfl rfl (fun _ => rfl) rfl (fun w G bs hI hΓ => f23 w n (by omega) aN paN caN (hΓ.get 3 rfl) hk2) (fun _ => rfl) (fun _ => rfl) ?_
      rintro ⟨p4, c4⟩ hq4
      refine DX.callF 5 12 (fun _ _ h => GoT.ow_rd h) (fun _ f hf => GoT.fak f hf) rfl (by kernel_rfl) rfl rfl rfl rfl rfl rfl (fun _ => rfl) rfl (fun w G bs hI hΓ => f22 w n (by omega) (laws_toMember aM) p1 c1 (hΓ.get 4 rfl) p2 c2 (hΓ.get 5 rfl) p3 c3 (hΓ.get 6 rfl) (laws_toName aN) p4 c4 (hΓ.get 10 rfl) aI hq3 hq4 hokaI) (fun _ => rfl) (fun _ => rfl) ?_
      rintro ⟨p5, c5⟩ hq5
      refine DX.takes (fuel := 0) ttOk [(6, true), (7, true), (8, true), (9, true), (10, true)] (by kernel_rfl) rfl ?_
      refine DX.tail [] rfl rfl (by kernel_rfl) ?_
      refine WX.run ttOk rfl ?_
      refine WX.callF 14 (fun _ _ h => GoT.ow_rd h) (fun _ f hf => GoT.fak f hf) rfl rfl rfl rfl rfl (fun _ => rfl) rfl (fun w G bs hI hΓ => f11 w n (by omega) aM paMName caMName (hΓ.get 0 rfl) paMVector caMVector (hΓ.get 1 rfl) paMPublications caMPublications (hΓ.get 2 rfl) hk1) (fun _ => rfl) (fun _ => rfl) ?_
      rintro ⟨⟨p6, c6⟩, ⟨p7, c7⟩, ⟨p8, c8⟩⟩ hq6
      refine WX.run ttOk rfl ?_
      refine WX.callF 20 (fun _ _ h => GoT.ow_rd h) (fun _ f hf => GoT.fak f hf) rfl rfl rfl rfl rfl (fun _ => rfl) rfl (fun w G bs hI hΓ => f23 w n (by omega) aN paN caN (hΓ.get 3 rfl) hk2) (fun _ => rfl) (fun _ => rfl) ?_
      rintro ⟨p9, c9⟩ hq7
      refine WX.run ttOk rfl ?_
      refine WX.callF 22 (fun _ _ h => GoT.ow_rd h) (fun _ f hf => GoT.fak f hf) rfl rfl rfl rfl rfl (fun _ => rfl) rfl (fun w G bs hI hΓ => f24 w n (by omega) (laws_toMember aM) p6 c6 (hΓ.get 14 rfl) p7 c7 (hΓ.get 15 rfl) p8 c8 (hΓ.get 16 rfl) (laws_toName aN) p9 c9 (hΓ.get 20 rfl) aI hq6 hq7 hokaI) (fun _ => rfl) (fun _ => rfl) ?_
      rintro ⟨p10, c10⟩ hq8
      refine WX.run ttOk rfl ?_
      refine WX.callV rfl rfl rfl rfl rfl (fun _ => rfl) rfl (fun w G bs hI hΓ => f25 w n (by omega) ((impl_FindPublication (laws_toMember aM) (laws_toName aN) aI).1) p10 c10 (hΓ.get 22 rfl) ((spec_FindPublication (laws_toMember aM) (laws_toName aN) aI).1) p5 c5 (hΓ.get 12 rfl) hq8 hq5) ?_
      intro hq9
      refine WX.run ttOk rfl ?_
      refine WX.cases 53 rfl (fun h3 => ?_) (fun h3 => ?_)
      · skip
        have h3d := (B.nt h3)
        refine WX.run ttOk rfl ?_
        have hP3 : laws_FnExactFindPublication aM aN aI = false := by simp only [laws_FnExactFindPublication, h1, h2, h3, cond_true, cond_false]
        refine WX.ret ttOk rfl ?_
        intro w1 G bs hI hΓ
        rw [hP3]
        exact ⟨rfl, trivial⟩
      · skip
        have h3d := (B.nf h3)
        refine WX.run ttOk rfl ?_
        refine WX.see rfl rfl rfl (fun _ hΓ => looks_beq ttOk rfl rfl rfl rfl rfl rfl) ?_
        refine WX.run ttOk rfl ?_
        refine WX.cases 57 rfl (fun h4 => ?_) (fun h4 => ?_)
        · skip
          have h4d := (B.nt h4)
          refine WX.run ttOk rfl ?_
          have hP4 : laws_FnExactFindPublication aM aN aI = false := by simp only [laws_FnExactFindPublication, h1, h2, h3, h4, cond_true, cond_false]
          refine WX.ret ttOk rfl ?_
          intro w1 G bs hI hΓ
          rw [hP4]
          exact ⟨rfl, trivial⟩
        · skip
          have h4d := (B.nf h4)
          refine WX.run ttOk rfl ?_
          refine WX.draw [] mixed ?_
          intro bs G0 hΓ0
          refine DX.takes (fuel := 3) ttOk [(0, false), (1, false)] (by kernel_rfl) rfl ?_
          refine DX.callF 2 24 (fun _ _ h => GoT.ow_rd h) (fun _ f hf => GoT.fak f hf) rfl (by kernel_rfl) rfl rfl rfl rfl rfl rfl (fun _ => rfl) rfl (fun w G bs hI hΓ => f11 w n (by omega) aM paMName caMName (hΓ.get 0 rfl) paMVector caMVector (hΓ.get 1 rfl) paMPublications caMPublications (hΓ.get 2 rfl) hk1) (fun _ => rfl) (fun _ => rfl) ?_
          rintro ⟨⟨p11, c11⟩, ⟨p12, c12⟩, ⟨p13, c13⟩⟩ hq10
          refine DX.callV 3 rfl (by kernel_rfl) rfl rfl rfl rfl rfl rfl (fun _ => rfl) rfl (fun w G bs hI hΓ => f13 w n (by omega) (laws_toMember aM) p6 c6 (hΓ.get 14 rfl) p7 c7 (hΓ.get 15 rfl) p8 c8 (hΓ.get 16 rfl) (laws_toMember aM) p11 c11 (hΓ.get 24 rfl) p12 c12 (hΓ.get 25 rfl) p13 c13 (hΓ.get 26 rfl) hq6 hq10) ?_
          intro hq11
          refine DX.takes (fuel := 0) ttOk [(4, true)] (by kernel_rfl) rfl ?_
          refine DX.tail [] rfl rfl (by kernel_rfl) ?_
          refine WX.run ttOk rfl ?_
          refine WX.cases 62 rfl (fun h5 => ?_) (fun h5 => ?_)
          · skip
            have h5d := (B.nt h5)
            refine WX.run ttOk rfl ?_
            have hP5 : laws_FnExactFindPublication aM aN aI = false := by simp only [laws_FnExactFindPublication, h1, h2, h3, h4, h5, cond_true, cond_false]
            refine WX.ret ttOk rfl ?_
            intro w1 G bs hI hΓ
            rw [hP5]
            exact ⟨rfl, trivial⟩
          · skip
            have h5d := (B.nf h5)
            refine WX.run ttOk rfl ?_
            refine WX.draw [] mixed ?_
            intro bs G0 hΓ0
            refine DX.takes (fuel := 3) ttOk [(0, false), (1, false)] (by kernel_rfl) rfl ?_
            refine DX.callF 2 30 (fun _ _ h => GoT.ow_rd h) (fun _ f hf => GoT.fak f hf) rfl (by kernel_rfl) rfl rfl rfl rfl rfl rfl (fun _ => rfl) rfl (fun w G bs hI hΓ => f23 w n (by omega) aN paN caN (hΓ.get 3 rfl) hk2) (fun _ => rfl) (fun _ => rfl) ?_
            rintro ⟨p14, c14⟩ hq12
            refine DX.callV 3 rfl (by kernel_rfl) rfl rfl rfl rfl rfl rfl (fun _ => rfl) rfl (fun w G bs hI hΓ => f26 w n (by omega) (laws_toName aN) p9 c9 (hΓ.get 20 rfl) (laws_toName aN) p14 c14 (hΓ.get 30 rfl) hq7 hq12) ?_
            intro hq13
            refine DX.takes (fuel := 0) ttOk [(4, true)] (by kernel_rfl) rfl ?_
            refine DX.tail [] rfl rfl (by kernel_rfl) ?_
            refine WX.run ttOk rfl ?_
            refine WX.cases 67 rfl (fun h6 => ?_) (fun h6 => ?_)
            · skip
              have h6d := (B.nt h6)
              refine WX.run ttOk rfl ?_
              have hP6 : laws_FnExactFindPublication aM aN aI = false := by simp only [laws_FnExactFindPublication, h1, h2, h3, h4, h5, h6, cond_true, cond_false]
              refine WX.ret ttOk rfl ?_
              intro w1 G bs hI hΓ
              rw [hP6]
              exact ⟨rfl, trivial⟩
            · skip
              have h6d := (B.nf h6)
              refine WX.run ttOk rfl ?_
              refine WX.callM [17, 18, 19] 32 rfl (fun _ _ h => GoT.ow_rd h) (fun _ f hf => GoT.fak f hf) rfl rfl rfl rfl rfl (fun _ => rfl) rfl (fun w G bs H hI hH hs hΓ => f27 w n (by omega) (laws_toMember aM) p6 c6 p7 c7 p8 c8 1 H hH hs hq6 (show I64 1 from (by unfold I64; omega))) (fun _ => rfl) (fun _ => rfl) ?_
              rintro ⟨⟩ hq14
              have hl1 : ((laws_markMember (laws_toMember aM) 1).2.name.parts).length = ((laws_toMember aM).name.parts).length := hq14.2.1
              have hl2 : ((laws_markMember (laws_toMember aM) 1).2.vector.entries).length = ((laws_toMember aM).vector.entries).length := hq14.2.2.1
              have hl3 : ((laws_markMember (laws_toMember aM) 1).2.publications).length = ((laws_toMember aM).publications).length := hq14.2.2.2
              refine WX.run ttOk rfl ?_
              refine WX.callM [21] 38 rfl (fun _ _ h => GoT.ow_rd h) (fun _ f hf => GoT.fak f hf) rfl rfl rfl rfl rfl (fun _ => rfl) rfl (fun w G bs H hI hH hs hΓ => f28 w n (by omega) (laws_toName aN) p9 c9 ((laws_markMember (laws_toMember aM) 1).1) H hH hs hq7 hq14.1.1) (fun _ => rfl) (fun _ => rfl) ?_
              rintro ⟨⟩ hq15
              have hl4 : ((laws_markName (laws_toName aN) ((laws_markMember (laws_toMember aM) 1).1)).2.parts).length = ((laws_toName aN).parts).length := hq15.2
              refine WX.run ttOk rfl ?_
              refine WX.cases 76 rfl (fun h7 => ?_) (fun h7 => ?_)
              · skip
                have h7d := B.dt h7
                refine WX.run ttOk rfl ?_
                have hP7 : laws_FnExactFindPublication aM aN aI = false := by simp only [laws_FnExactFindPublication, h1, h2, h3, h4, h5, h6, h7, cond_true, cond_false]
                refine WX.ret ttOk rfl ?_
                intro w1 G bs hI hΓ
                rw [hP7]
                exact ⟨rfl, trivial⟩
              · skip
                have h7d := B.df h7
                refine WX.run ttOk rfl ?_
                refine WX.der 40 (MF.rs .der p10 c10 ((impl_FindPublication (laws_toMember aM) (laws_toName aN) aI).1)) rfl (fun _ hΓ => (hΓ.get 23 rfl : OwSl _ _ _ _).rd) ?_
                refine WX.der 41 (MF.rs .der p5 c5 ((spec_FindPublication (laws_toMember aM) (laws_toName aN) aI).1)) rfl (fun _ hΓ => (hΓ.get 13 rfl : OwSl _ _ _ _).rd) ?_
                refine WX.callV rfl rfl rfl rfl rfl (fun _ => rfl) rfl (fun w G bs hI hΓ => f25 w n (by omega) ((impl_FindPublication (laws_toMember aM) (laws_toName aN) aI).1) p10 c10 (hΓ.get 40 rfl) ((spec_FindPublication (laws_toMember aM) (laws_toName aN) aI).1) p5 c5 (hΓ.get 41 rfl) hq8 hq5) ?_
                intro hq16
                refine WX.run ttOk rfl ?_
                refine WX.cases 82 rfl (fun h8 => ?_) (fun h8 => ?_)
                · skip
                  have h8d := (B.nt h8)
                  exact absurd (h3.symm.trans h8) Bool.false_ne_true
                · skip
                  have h8d := (B.nf h8)
                  refine WX.run ttOk rfl ?_
                  refine WX.see rfl rfl rfl (fun _ hΓ => looks_beq ttOk rfl rfl rfl rfl rfl rfl) ?_
                  refine WX.run ttOk rfl ?_
                  refine WX.cases 86 rfl (fun h9 => ?_) (fun h9 => ?_)
                  · skip
                    have h9d := (B.nt h9)
                    exact absurd (h4.symm.trans h9) Bool.false_ne_true
                  · skip
                    have h9d := (B.nf h9)
                    refine WX.run ttOk rfl ?_
                    refine WX.callM [23] 42 rfl (fun _ _ h => GoT.ow_rd h) (fun _ f hf => GoT.fak f hf) rfl rfl rfl rfl rfl (fun _ => rfl) rfl (fun w G bs H hI hH hs hΓ => f29 w n (by omega) ((impl_FindPublication (laws_toMember aM) (laws_toName aN) aI).1) p10 c10 1 H hH hs hq8 (show I64 1 from (by unfold I64; omega))) (fun _ => rfl) (fun _ => rfl) ?_
                    rintro ⟨⟩ hq17
                    have hl5 : ((laws_markByteS ((impl_FindPublication (laws_toMember aM) (laws_toName aN) aI).1) 1).2).length = ((impl_FindPublication (laws_toMember aM) (laws_toName aN) aI).1).length := hq17.2
                    refine WX.run ttOk rfl ?_
                    refine WX.slot 90 (y := .v (.slice p10 (((laws_markByteS ((impl_FindPublication (laws_toMember aM) (laws_toName aN) aI).1) 1).2).length) c10)) rfl (fun _ => by show (.slice p10 (((impl_FindPublication (laws_toMember aM) (laws_toName aN) aI).1).length) c10 : Value) = .slice p10 (((laws_markByteS ((impl_FindPublication (laws_toMember aM) (laws_toName aN) aI).1) 1).2).length) c10; simp only [hl5]) ?_
                    refine WX.callV rfl rfl rfl rfl rfl (fun _ => rfl) rfl (fun w G bs hI hΓ => f30 w n (by omega) ((laws_markByteS ((impl_FindPublication (laws_toMember aM) (laws_toName aN) aI).1) 1).2) p10 c10 (hΓ.get 42 rfl) 1 hq17.1.2 (show I64 1 from (by unfold I64; omega))) ?_
                    intro hq18
                    refine WX.run ttOk rfl ?_
                    refine WX.cases 94 rfl (fun h10 => ?_) (fun h10 => ?_)
                    · skip
                      have h10d := B.dt h10
                      refine WX.run ttOk rfl ?_
                      have hP8 : laws_FnExactFindPublication aM aN aI = false := by simp only [laws_FnExactFindPublication, h1, h2, h3, h4, h5, h6, h7, h8, h9, h10, cond_true, cond_false]
                      refine WX.ret ttOk rfl ?_
                      intro w1 G bs hI hΓ
                      rw [hP8]
                      exact ⟨rfl, trivial⟩
                    · skip
                      have h10d := B.df h10
                      refine WX.run ttOk rfl ?_
                      refine WX.cases 97 rfl (fun h11 => ?_) (fun h11 => ?_)
                      · skip
                        have h11d := B.nt' h11
                        refine WX.run ttOk rfl ?_
                        have hP9 : laws_FnExactFindPublication aM aN aI = false := by simp only [laws_FnExactFindPublication, h1, h2, h3, h4, h5, h6, h7, h8, h9, h10, h11, cond_true, cond_false]
                        refine WX.ret ttOk rfl ?_
                        intro w1 G bs hI hΓ
                        rw [hP9]
                        exact ⟨rfl, trivial⟩
                      · skip
                        have h11d := B.nf' h11
                        refine WX.run ttOk rfl ?_
                        refine WX.der 44 (MF.rs .der p9 c9 ((laws_markName (laws_toName aN) ((laws_markMember (laws_toMember aM) 1).1)).2.parts)) rfl (fun _ hΓ => (hΓ.get 39 rfl : OwSl _ _ _ _).rd) ?_
                        refine WX.der 45 (MF.rs .der p6 c6 ((laws_markMember (laws_toMember aM) 1).2.name.parts)) rfl (fun _ hΓ => (hΓ.get 35 rfl : OwSl _ _ _ _).rd) ?_
                        refine WX.der 46 (MF.rs .der p7 c7 ((laws_markMember (laws_toMember aM) 1).2.vector.entries)) rfl (fun _ hΓ => (hΓ.get 36 rfl : OwSl _ _ _ _).rd) ?_
                        refine WX.der 47 (MF.rs .der p8 c8 ((laws_markMember (laws_toMember aM) 1).2.publications)) rfl (fun _ hΓ => (hΓ.get 37 rfl : OwSl _ _ _ _).rd) ?_
                        refine WX.draw [] mixed ?_
                        intro bs G0 hΓ0
                        refine DX.takes (fuel := 8) ttOk [(0, false), (2, false), (4, true)] (by kernel_rfl) rfl ?_
                        refine DX.callF 1 48 (fun _ _ h => GoT.ow_rd h) (fun _ f hf => GoT.fak f hf) rfl (by kernel_rfl) rfl rfl rfl rfl rfl rfl (fun _ => rfl) rfl (fun w G bs hI hΓ => f11 w n (by omega) aM paMName caMName (hΓ.get 0 rfl) paMVector caMVector (hΓ.get 1 rfl) paMPublications caMPublications (hΓ.get 2 rfl) hk1) (fun _ => rfl) (fun _ => rfl) ?_
                        rintro ⟨⟨p15, c15⟩, ⟨p16, c16⟩, ⟨p17, c17⟩⟩ hq19
                        refine DX.callF 3 54 (fun _ _ h => GoT.ow_rd h) (fun _ f hf => GoT.fak f hf) rfl (by kernel_rfl) rfl rfl rfl rfl rfl rfl (fun _ => rfl) rfl (fun w G bs hI hΓ => f23 w n (by omega) aN paN caN (hΓ.get 3 rfl) hk2) (fun _ => rfl) (fun _ => rfl) ?_
                        rintro ⟨p18, c18⟩ hq20
                        refine DX.callF 5 56 (fun _ _ h => GoT.ow_rd h) (fun _ f hf => GoT.fak f hf) rfl (by kernel_rfl) rfl rfl rfl rfl rfl rfl (fun _ => rfl) rfl (fun w G bs hI hΓ => f24 w n (by omega) (laws_toMember aM) p15 c15 (hΓ.get 48 rfl) p16 c16 (hΓ.get 49 rfl) p17 c17 (hΓ.get 50 rfl) (laws_toName aN) p18 c18 (hΓ.get 54 rfl) aI hq19 hq20 hokaI) (fun _ => rfl) (fun _ => rfl) ?_
                        rintro ⟨p19, c19⟩ hq21
                        refine DX.takes (fuel := 0) ttOk [(6, true), (7, true), (8, true), (9, true), (10, true)] (by kernel_rfl) rfl ?_
                        refine DX.tail [] rfl rfl (by kernel_rfl) ?_
                        refine WX.run ttOk rfl ?_
                        refine WX.der 58 (MF.rs .der p5 c5 ((spec_FindPublication (laws_toMember aM) (laws_toName aN) aI).1)) rfl (fun _ hΓ => (hΓ.get 13 rfl : OwSl _ _ _ _).rd) ?_
                        refine WX.callV rfl rfl rfl rfl rfl (fun _ => rfl) rfl (fun w G bs hI hΓ => f25 w n (by omega) ((impl_FindPublication (laws_toMember aM) (laws_toName aN) aI).1) p19 c19 (hΓ.get 56 rfl) ((spec_FindPublication (laws_toMember aM) (laws_toName aN) aI).1) p5 c5 (hΓ.get 58 rfl) hq21 hq5) ?_
                        intro hq22
                        refine WX.run ttOk rfl ?_
                        refine WX.cases 111 rfl (fun h12 => ?_) (fun h12 => ?_)
                        · skip
                          have h12d := (B.nt h12)
                          exact absurd (h3.symm.trans h12) Bool.false_ne_true
                        · skip
                          have h12d := (B.nf h12)
                          refine WX.run ttOk rfl ?_
                          refine WX.see rfl rfl rfl (fun _ hΓ => looks_beq ttOk rfl rfl rfl rfl rfl rfl) ?_
                          refine WX.run ttOk rfl ?_
                          refine WX.cases 115 rfl (fun h13 => ?_) (fun h13 => ?_)
                          · skip
                            have h13d := (B.nt h13)
                            exact absurd (h4.symm.trans h13) Bool.false_ne_true
                          · skip
                            have h13d := (B.nf h13)
                            refine WX.run ttOk rfl ?_
                            refine WX.slot 116 (y := .v (.slice p10 (((laws_markByteS ((impl_FindPublication (laws_toMember aM) (laws_toName aN) aI).1) 1).2).length) c10)) rfl (fun _ => by show (.slice p10 (((impl_FindPublication (laws_toMember aM) (laws_toName aN) aI).1).length) c10 : Value) = .slice p10 (((laws_markByteS ((impl_FindPublication (laws_toMember aM) (laws_toName aN) aI).1) 1).2).length) c10; simp only [hl5]) ?_
                            refine WX.callV rfl rfl rfl rfl rfl (fun _ => rfl) rfl (fun w G bs hI hΓ => f30 w n (by omega) ((laws_markByteS ((impl_FindPublication (laws_toMember aM) (laws_toName aN) aI).1) 1).2) p10 c10 (hΓ.get 42 rfl) 1 hq17.1.2 (show I64 1 from (by unfold I64; omega))) ?_
                            intro hq23
                            refine WX.run ttOk rfl ?_
                            refine WX.cases 120 rfl (fun h14 => ?_) (fun h14 => ?_)
                            · skip
                              have h14d := B.dt h14
                              exact absurd (h10.symm.trans h14) Bool.false_ne_true
                            · skip
                              have h14d := B.df h14
                              refine WX.run ttOk rfl ?_
                              refine WX.cases 123 rfl (fun h15 => ?_) (fun h15 => ?_)
                              · skip
                                have h15d := B.nt' h15
                                exact absurd (h11.symm.trans h15) Bool.false_ne_true
                              · skip
                                have h15d := B.nf' h15
                                refine WX.run ttOk rfl ?_
                                have hP10 : laws_FnExactFindPublication aM aN aI = true := by simp only [laws_FnExactFindPublication, h1, h2, h3, h4, h5, h6, h7, h8, h9, h10, h11, h12, h13, h14, h15, cond_true, cond_false]
                                refine WX.ret ttOk rfl ?_
                                intro w1 G bs hI hΓ
                                rw [hP10]
                                exact ⟨rfl, trivial⟩
theorem f6 (w : World) (n : Nat) (hn : n + 1 ≤ 9) (aS : Repository) (paSLogDurable : Option Addr) (caSLogDurable : Nat) (hpaSLogDurable : RdSl (hp w) paSLogDurable caSLogDurable aS.log.durable) (paSLogVolatile : Option Addr) (caSLogVolatile : Nat) (hpaSLogVolatile : RdSl (hp w) paSLogVolatile caSLogVolatile aS.log.volatile) (aN : Int) (hokaS : GoT.ok 10 aS) (hokaN : GoT.ok 10 aN) :
    Does Try.prog 6 #[.agg #[.slice paSLogDurable ((aS.log.durable).length) caSLogDurable, .slice paSLogVolatile ((aS.log.volatile).length) caSLogVolatile, .int .i64 (aS.quota)], .int .i64 (aN)] w emp (fun (rv : Value) (_ : World) => rv = .bool (laws_FnExactCrashRepository aS aN) ∧ True) := by
  have hbP := bd_pos n
  have hbS0 := bd_succ (n := n) (by omega)
  have hbB := bd_big (n := (n + 1)) (by omega)
  have hbM := bd_mono (show n ≤ n + 1 by omega)
  refine WX.enter (tt := tt) (Γ := [(0, MF.rs .stb paSLogDurable caSLogDurable aS.log.durable), (1, MF.rs .stb paSLogVolatile caSLogVolatile aS.log.volatile)]) Try.func6 rfl (by kernel_rfl) rfl (allS_cons rfl hpaSLogDurable (allS_cons rfl hpaSLogVolatile allS_nil)) ?_
  refine WX.run ttOk rfl ?_
  refine WX.callV rfl rfl rfl rfl rfl (fun _ => rfl) rfl (fun w G bs hI hΓ => f14 w 10 aS paSLogDurable caSLogDurable (hΓ.get 0 rfl) paSLogVolatile caSLogVolatile (hΓ.get 1 rfl) 1048576 hokaS (show I64 1048576 from (by unfold I64; omega))) ?_
  intro hq1
  refine WX.run ttOk rfl ?_
  refine WX.cases 17 rfl (fun h1 => ?_) (fun h1 => ?_)
  · skip
    have h1d := B.dt h1
    refine WX.run ttOk rfl ?_
    have hP1 : laws_FnExactCrashRepository aS aN = true := by simp only [laws_FnExactCrashRepository, h1, cond_true, cond_false]
    refine WX.ret ttOk rfl ?_
    intro w1 G bs hI hΓ
    rw [hP1]
    exact ⟨rfl, trivial⟩
  · skip
    have h1d := B.df h1
    obtain ⟨hs1, ht1⟩ := (sz_Repository_R aS 1048576 hokaS (by omega) (by omega)).pos (by omega)
    have hk1 : GoT.ok n aS := GoT.okm (Nat.zero_le n) (Sz.low hokaS (show sz aS ≤ 1048576 by omega))
    refine WX.run ttOk rfl ?_
    refine WX.callF 2 (fun _ _ h => GoT.ow_rd h) (fun _ f hf => GoT.fak f hf) rfl rfl rfl rfl rfl (fun _ => rfl) rfl (fun w G bs hI hΓ => f16 w n (by omega) aS paSLogDurable caSLogDurable (hΓ.get 0 rfl) paSLogVolatile caSLogVolatile (hΓ.get 1 rfl) hk1) (fun _ => rfl) (fun _ => rfl) ?_
    rintro ⟨⟨⟨p1, c1⟩, ⟨p2, c2⟩⟩, ⟨⟩⟩ hq2
    refine WX.run ttOk rfl ?_
    refine WX.callF 6 (fun _ _ h => GoT.ow_rd h) (fun _ f hf => GoT.fak f hf) rfl rfl rfl rfl rfl (fun _ => rfl) rfl (fun w G bs hI hΓ => f31 w n (by omega) (laws_toRepository aS) p1 c1 (hΓ.get 2 rfl) p2 c2 (hΓ.get 3 rfl) aN hq2 hokaN) (fun _ => rfl) (fun _ => rfl) ?_
    rintro ⟨⟨⟨p3, c3⟩, ⟨p4, c4⟩⟩, ⟨⟩⟩ hq3
    refine WX.run ttOk rfl ?_
    refine WX.callF 10 (fun _ _ h => GoT.ow_rd h) (fun _ f hf => GoT.fak f hf) rfl rfl rfl rfl rfl (fun _ => rfl) rfl (fun w G bs hI hΓ => f16 w n (by omega) aS paSLogDurable caSLogDurable (hΓ.get 0 rfl) paSLogVolatile caSLogVolatile (hΓ.get 1 rfl) hk1) (fun _ => rfl) (fun _ => rfl) ?_
    rintro ⟨⟨⟨p5, c5⟩, ⟨p6, c6⟩⟩, ⟨⟩⟩ hq4
    refine WX.run ttOk rfl ?_
    refine WX.callF 14 (fun _ _ h => GoT.ow_rd h) (fun _ f hf => GoT.fak f hf) rfl rfl rfl rfl rfl (fun _ => rfl) rfl (fun w G bs hI hΓ => f32 w n (by omega) (laws_toRepository aS) p5 c5 (hΓ.get 10 rfl) p6 c6 (hΓ.get 11 rfl) aN (And.intro (ok_Repository hq4).1 (ok_Repository hq2).2) hokaN) (fun _ => rfl) (fun _ => rfl) ?_
    rintro ⟨⟨⟨p7, c7⟩, ⟨p8, c8⟩⟩, ⟨⟩⟩ hq5
    refine WX.run ttOk rfl ?_
    refine WX.callV rfl rfl rfl rfl rfl (fun _ => rfl) rfl (fun w G bs hI hΓ => f18 w (n + 1) (by omega) (impl_CrashRepository (laws_toRepository aS) aN) p7 c7 (hΓ.get 14 rfl) p8 c8 (hΓ.get 15 rfl) (spec_CrashRepository (laws_toRepository aS) aN) p3 c3 (hΓ.get 6 rfl) p4 c4 (hΓ.get 7 rfl) hq5 hq3) ?_
    intro hq6
    refine WX.run ttOk rfl ?_
    refine WX.cases 30 rfl (fun h2 => ?_) (fun h2 => ?_)
    · skip
      have h2d := (B.nt h2)
      refine WX.run ttOk rfl ?_
      have hP2 : laws_FnExactCrashRepository aS aN = false := by simp only [laws_FnExactCrashRepository, h1, h2, cond_true, cond_false]
      refine WX.ret ttOk rfl ?_
      intro w1 G bs hI hΓ
      rw [hP2]
      exact ⟨rfl, trivial⟩
    · skip
      have h2d := (B.nf h2)
      refine WX.run ttOk rfl ?_
      refine WX.draw [] mixed ?_
      intro bs G0 hΓ0
      refine DX.takes (fuel := 3) ttOk [(0, false), (1, false)] (by kernel_rfl) rfl ?_
      refine DX.callF 2 18 (fun _ _ h => GoT.ow_rd h) (fun _ f hf => GoT.fak f hf) rfl (by kernel_rfl) rfl rfl rfl rfl rfl rfl (fun _ => rfl) rfl (fun w G bs hI hΓ => f16 w n (by omega) aS paSLogDurable caSLogDurable (hΓ.get 0 rfl) paSLogVolatile caSLogVolatile (hΓ.get 1 rfl) hk1) (fun _ => rfl) (fun _ => rfl) ?_
      rintro ⟨⟨⟨p9, c9⟩, ⟨p10, c10⟩⟩, ⟨⟩⟩ hq7
      refine DX.callV 3 rfl (by kernel_rfl) rfl rfl rfl rfl rfl rfl (fun _ => rfl) rfl (fun w G bs hI hΓ => f18 w n (by omega) (laws_toRepository aS) p5 c5 (hΓ.get 10 rfl) p6 c6 (hΓ.get 11 rfl) (laws_toRepository aS) p9 c9 (hΓ.get 18 rfl) p10 c10 (hΓ.get 19 rfl) (And.intro (ok_Repository hq4).1 (ok_Repository hq2).2) (And.intro (ok_Repository hq7).1 (ok_Repository hq2).2)) ?_
      intro hq8
      refine DX.takes (fuel := 0) ttOk [(4, true)] (by kernel_rfl) rfl ?_
      refine DX.tail [] rfl rfl (by kernel_rfl) ?_
      refine WX.run ttOk rfl ?_
      refine WX.cases 35 rfl (fun h3 => ?_) (fun h3 => ?_)
      · skip
        have h3d := (B.nt h3)
        refine WX.run ttOk rfl ?_
        have hP3 : laws_FnExactCrashRepository aS aN = false := by simp only [laws_FnExactCrashRepository, h1, h2, h3, cond_true, cond_false]
        refine WX.ret ttOk rfl ?_
        intro w1 G bs hI hΓ
        rw [hP3]
        exact ⟨rfl, trivial⟩
      · skip
        have h3d := (B.nf h3)
        refine WX.run ttOk rfl ?_
        refine WX.callM [12, 13] 22 rfl (fun _ _ h => GoT.ow_rd h) (fun _ f hf => GoT.fak f hf) rfl rfl rfl rfl rfl (fun _ => rfl) rfl (fun w G bs H hI hH hs hΓ => f19 w n (by omega) (laws_toRepository aS) p5 c5 p6 c6 1 H hH hs (And.intro (ok_Repository hq4).1 (ok_Repository hq2).2) (show I64 1 from (by unfold I64; omega))) (fun _ => rfl) (fun _ => rfl) ?_
        rintro ⟨⟩ hq9
        have hl1 : ((laws_markRepository (laws_toRepository aS) 1).2.log.durable).length = ((laws_toRepository aS).log.durable).length := hq9.2.1
        have hl2 : ((laws_markRepository (laws_toRepository aS) 1).2.log.volatile).length = ((laws_toRepository aS).log.volatile).length := hq9.2.2.1
        refine WX.run ttOk rfl ?_
        refine WX.cases 41 rfl (fun h4 => ?_) (fun h4 => ?_)
        · skip
          have h4d := B.dt h4
          refine WX.run ttOk rfl ?_
          have hP4 : laws_FnExactCrashRepository aS aN = false := by simp only [laws_FnExactCrashRepository, h1, h2, h3, h4, cond_true, cond_false]
          refine WX.ret ttOk rfl ?_
          intro w1 G bs hI hΓ
          rw [hP4]
          exact ⟨rfl, trivial⟩
        · skip
          have h4d := B.df h4
          refine WX.run ttOk rfl ?_
          refine WX.der 26 (MF.rs .der p7 c7 ((impl_CrashRepository (laws_toRepository aS) aN).log.durable)) rfl (fun _ hΓ => (hΓ.get 16 rfl : OwSl _ _ _ _).rd) ?_
          refine WX.der 27 (MF.rs .der p8 c8 ((impl_CrashRepository (laws_toRepository aS) aN).log.volatile)) rfl (fun _ hΓ => (hΓ.get 17 rfl : OwSl _ _ _ _).rd) ?_
          refine WX.der 28 (MF.rs .der p3 c3 ((spec_CrashRepository (laws_toRepository aS) aN).log.durable)) rfl (fun _ hΓ => (hΓ.get 8 rfl : OwSl _ _ _ _).rd) ?_
          refine WX.der 29 (MF.rs .der p4 c4 ((spec_CrashRepository (laws_toRepository aS) aN).log.volatile)) rfl (fun _ hΓ => (hΓ.get 9 rfl : OwSl _ _ _ _).rd) ?_
          refine WX.callV rfl rfl rfl rfl rfl (fun _ => rfl) rfl (fun w G bs hI hΓ => f18 w (n + 1) (by omega) (impl_CrashRepository (laws_toRepository aS) aN) p7 c7 (hΓ.get 26 rfl) p8 c8 (hΓ.get 27 rfl) (spec_CrashRepository (laws_toRepository aS) aN) p3 c3 (hΓ.get 28 rfl) p4 c4 (hΓ.get 29 rfl) hq5 hq3) ?_
          intro hq10
          refine WX.run ttOk rfl ?_
          refine WX.cases 46 rfl (fun h5 => ?_) (fun h5 => ?_)
          · skip
            have h5d := (B.nt h5)
            exact absurd (h2.symm.trans h5) Bool.false_ne_true
          · skip
            have h5d := (B.nf h5)
            refine WX.run ttOk rfl ?_
            refine WX.callM [16, 17] 30 rfl (fun _ _ h => GoT.ow_rd h) (fun _ f hf => GoT.fak f hf) rfl rfl rfl rfl rfl (fun _ => rfl) rfl (fun w G bs H hI hH hs hΓ => f19 w (n + 1) (by omega) (impl_CrashRepository (laws_toRepository aS) aN) p7 c7 p8 c8 1 H hH hs hq5 (show I64 1 from (by unfold I64; omega))) (fun _ => rfl) (fun _ => rfl) ?_
            rintro ⟨⟩ hq11
            have hl3 : ((laws_markRepository (impl_CrashRepository (laws_toRepository aS) aN) 1).2.log.durable).length = ((impl_CrashRepository (laws_toRepository aS) aN).log.durable).length := hq11.2.1
            have hl4 : ((laws_markRepository (impl_CrashRepository (laws_toRepository aS) aN) 1).2.log.volatile).length = ((impl_CrashRepository (laws_toRepository aS) aN).log.volatile).length := hq11.2.2.1
            refine WX.run ttOk rfl ?_
            have hi2 : (laws_markRepository (impl_CrashRepository (laws_toRepository aS) aN) 1).2.quota = (impl_CrashRepository (laws_toRepository aS) aN).quota := hq11.2.2.2
            refine WX.slot 50 (y := .v (.agg #[.slice p7 (((laws_markRepository (impl_CrashRepository (laws_toRepository aS) aN) 1).2.log.durable).length) c7, .slice p8 (((laws_markRepository (impl_CrashRepository (laws_toRepository aS) aN) 1).2.log.volatile).length) c8, .int .i64 ((laws_markRepository (impl_CrashRepository (laws_toRepository aS) aN) 1).2.quota)])) rfl (fun _ => by show (.agg #[.slice p7 (((impl_CrashRepository (laws_toRepository aS) aN).log.durable).length) c7, .slice p8 (((impl_CrashRepository (laws_toRepository aS) aN).log.volatile).length) c8, .int .i64 ((impl_CrashRepository (laws_toRepository aS) aN).quota)] : Value) = .agg #[.slice p7 (((laws_markRepository (impl_CrashRepository (laws_toRepository aS) aN) 1).2.log.durable).length) c7, .slice p8 (((laws_markRepository (impl_CrashRepository (laws_toRepository aS) aN) 1).2.log.volatile).length) c8, .int .i64 ((laws_markRepository (impl_CrashRepository (laws_toRepository aS) aN) 1).2.quota)]; simp only [hl3, hl4, hi2]) ?_
            refine WX.callV rfl rfl rfl rfl rfl (fun _ => rfl) rfl (fun w G bs hI hΓ => f20 w (n + 1) (by omega) ((laws_markRepository (impl_CrashRepository (laws_toRepository aS) aN) 1).2) p7 c7 (hΓ.get 30 rfl) p8 c8 (hΓ.get 31 rfl) 1 hq11.1.2 (show I64 1 from (by unfold I64; omega))) ?_
            intro hq12
            refine WX.run ttOk rfl ?_
            refine WX.cases 54 rfl (fun h6 => ?_) (fun h6 => ?_)
            · skip
              have h6d := B.dt h6
              refine WX.run ttOk rfl ?_
              have hP5 : laws_FnExactCrashRepository aS aN = false := by simp only [laws_FnExactCrashRepository, h1, h2, h3, h4, h5, h6, cond_true, cond_false]
              refine WX.ret ttOk rfl ?_
              intro w1 G bs hI hΓ
              rw [hP5]
              exact ⟨rfl, trivial⟩
            · skip
              have h6d := B.df h6
              refine WX.run ttOk rfl ?_
              refine WX.cases 57 rfl (fun h7 => ?_) (fun h7 => ?_)
              · skip
                have h7d := B.nt' h7
                refine WX.run ttOk rfl ?_
                have hP6 : laws_FnExactCrashRepository aS aN = false := by simp only [laws_FnExactCrashRepository, h1, h2, h3, h4, h5, h6, h7, cond_true, cond_false]
                refine WX.ret ttOk rfl ?_
                intro w1 G bs hI hΓ
                rw [hP6]
                exact ⟨rfl, trivial⟩
              · skip
                have h7d := B.nf' h7
                refine WX.run ttOk rfl ?_
                refine WX.callF 34 (fun _ _ h => GoT.ow_rd h) (fun _ f hf => GoT.fak f hf) rfl rfl rfl rfl rfl (fun _ => rfl) rfl (fun w G bs hI hΓ => f16 w n (by omega) aS paSLogDurable caSLogDurable (hΓ.get 0 rfl) paSLogVolatile caSLogVolatile (hΓ.get 1 rfl) hk1) (fun _ => rfl) (fun _ => rfl) ?_
                rintro ⟨⟨⟨p11, c11⟩, ⟨p12, c12⟩⟩, ⟨⟩⟩ hq13
                refine WX.run ttOk rfl ?_
                refine WX.callF 38 (fun _ _ h => GoT.ow_rd h) (fun _ f hf => GoT.fak f hf) rfl rfl rfl rfl rfl (fun _ => rfl) rfl (fun w G bs hI hΓ => f32 w n (by omega) (laws_toRepository aS) p11 c11 (hΓ.get 34 rfl) p12 c12 (hΓ.get 35 rfl) aN (And.intro (ok_Repository hq13).1 (ok_Repository hq2).2) hokaN) (fun _ => rfl) (fun _ => rfl) ?_
                rintro ⟨⟨⟨p13, c13⟩, ⟨p14, c14⟩⟩, ⟨⟩⟩ hq14
                refine WX.run ttOk rfl ?_
                refine WX.der 42 (MF.rs .der p3 c3 ((spec_CrashRepository (laws_toRepository aS) aN).log.durable)) rfl (fun _ hΓ => (hΓ.get 8 rfl : OwSl _ _ _ _).rd) ?_
                refine WX.der 43 (MF.rs .der p4 c4 ((spec_CrashRepository (laws_toRepository aS) aN).log.volatile)) rfl (fun _ hΓ => (hΓ.get 9 rfl : OwSl _ _ _ _).rd) ?_
                refine WX.callV rfl rfl rfl rfl rfl (fun _ => rfl) rfl (fun w G bs hI hΓ => f18 w (n + 1) (by omega) (impl_CrashRepository (laws_toRepository aS) aN) p13 c13 (hΓ.get 38 rfl) p14 c14 (hΓ.get 39 rfl) (spec_CrashRepository (laws_toRepository aS) aN) p3 c3 (hΓ.get 42 rfl) p4 c4 (hΓ.get 43 rfl) (And.intro (ok_Repository hq14).1 (ok_Repository hq5).2) hq3) ?_
                intro hq15
                refine WX.run ttOk rfl ?_
                refine WX.cases 65 rfl (fun h8 => ?_) (fun h8 => ?_)
                · skip
                  have h8d := (B.nt h8)
                  exact absurd (h2.symm.trans h8) Bool.false_ne_true
                · skip
                  have h8d := (B.nf h8)
                  refine WX.run ttOk rfl ?_
                  refine WX.slot 66 (y := .v (.agg #[.slice p7 (((laws_markRepository (impl_CrashRepository (laws_toRepository aS) aN) 1).2.log.durable).length) c7, .slice p8 (((laws_markRepository (impl_CrashRepository (laws_toRepository aS) aN) 1).2.log.volatile).length) c8, .int .i64 ((laws_markRepository (impl_CrashRepository (laws_toRepository aS) aN) 1).2.quota)])) rfl (fun _ => by show (.agg #[.slice p7 (((impl_CrashRepository (laws_toRepository aS) aN).log.durable).length) c7, .slice p8 (((impl_CrashRepository (laws_toRepository aS) aN).log.volatile).length) c8, .int .i64 ((impl_CrashRepository (laws_toRepository aS) aN).quota)] : Value) = .agg #[.slice p7 (((laws_markRepository (impl_CrashRepository (laws_toRepository aS) aN) 1).2.log.durable).length) c7, .slice p8 (((laws_markRepository (impl_CrashRepository (laws_toRepository aS) aN) 1).2.log.volatile).length) c8, .int .i64 ((laws_markRepository (impl_CrashRepository (laws_toRepository aS) aN) 1).2.quota)]; simp only [hl3, hl4, hi2]) ?_
                  refine WX.callV rfl rfl rfl rfl rfl (fun _ => rfl) rfl (fun w G bs hI hΓ => f20 w (n + 1) (by omega) ((laws_markRepository (impl_CrashRepository (laws_toRepository aS) aN) 1).2) p7 c7 (hΓ.get 30 rfl) p8 c8 (hΓ.get 31 rfl) 1 hq11.1.2 (show I64 1 from (by unfold I64; omega))) ?_
                  intro hq16
                  refine WX.run ttOk rfl ?_
                  refine WX.cases 70 rfl (fun h9 => ?_) (fun h9 => ?_)
                  · skip
                    have h9d := B.dt h9
                    exact absurd (h6.symm.trans h9) Bool.false_ne_true
                  · skip
                    have h9d := B.df h9
                    refine WX.run ttOk rfl ?_
                    refine WX.cases 73 rfl (fun h10 => ?_) (fun h10 => ?_)
                    · skip
                      have h10d := B.nt' h10
                      exact absurd (h7.symm.trans h10) Bool.false_ne_true
                    · skip
                      have h10d := B.nf' h10
                      refine WX.run ttOk rfl ?_
                      have hP7 : laws_FnExactCrashRepository aS aN = true := by simp only [laws_FnExactCrashRepository, h1, h2, h3, h4, h5, h6, h7, h8, h9, h10, cond_true, cond_false]
                      refine WX.ret ttOk rfl ?_
                      intro w1 G bs hI hΓ
                      rw [hP7]
                      exact ⟨rfl, trivial⟩
theorem f8 (w : World) (n : Nat) (hn : n + 0 ≤ 9) (aM : Member) (paMName : Option Addr) (caMName : Nat) (hpaMName : RdSl (hp w) paMName caMName aM.name.parts) (paMVector : Option Addr) (caMVector : Nat) (hpaMVector : RdSl (hp w) paMVector caMVector aM.vector.entries) (paMPublications : Option Addr) (caMPublications : Nat) (hpaMPublications : RdSl (hp w) paMPublications caMPublications aM.publications) (aV : StateVector) (paV : Option Addr) (caV : Nat) (hpaV : RdSl (hp w) paV caV aV.entries) (hokaM : GoT.ok 10 aM) (hokaV : GoT.ok 10 aV) :
    Does Try.prog 8 #[.agg #[.slice paMName ((aM.name.parts).length) caMName, .slice paMVector ((aM.vector.entries).length) caMVector, .slice paMPublications ((aM.publications).length) caMPublications], .agg #[.slice paV ((aV.entries).length) caV]] w emp (fun (rv : Value) (_ : World) => rv = .bool (laws_FnExactMissingFrom aM aV) ∧ True) := by
  have hbP := bd_pos n
  have hbB := bd_big (n := n) (by omega)
  refine WX.enter (tt := tt) (Γ := [(0, MF.rs .stb paMName caMName aM.name.parts), (1, MF.rs .stb paMVector caMVector aM.vector.entries), (2, MF.rs .stb paMPublications caMPublications aM.publications), (3, MF.rs .stb paV caV aV.entries)]) Try.func8 rfl (by kernel_rfl) rfl (allS_cons rfl hpaMName (allS_cons rfl hpaMVector (allS_cons rfl hpaMPublications (allS_cons rfl hpaV allS_nil)))) ?_
  refine WX.run ttOk rfl ?_
  refine WX.callV rfl rfl rfl rfl rfl (fun _ => rfl) rfl (fun w G bs hI hΓ => f9 w 10 aM paMName caMName (hΓ.get 0 rfl) paMVector caMVector (hΓ.get 1 rfl) paMPublications caMPublications (hΓ.get 2 rfl) 1048576 hokaM (show I64 1048576 from (by unfold I64; omega))) ?_
  intro hq1
  refine WX.run ttOk rfl ?_
  refine WX.cases 18 rfl (fun h1 => ?_) (fun h1 => ?_)
  · skip
    have h1d := B.dt h1
    refine WX.run ttOk rfl ?_
    have hP1 : laws_FnExactMissingFrom aM aV = true := by simp only [laws_FnExactMissingFrom, h1, cond_true, cond_false]
    refine WX.ret ttOk rfl ?_
    intro w1 G bs hI hΓ
    rw [hP1]
    exact ⟨rfl, trivial⟩
  · skip
    have h1d := B.df h1
    obtain ⟨hs1, ht1⟩ := (sz_Member_R aM 1048576 hokaM (by omega) (by omega)).pos (by omega)
    have hk1 : GoT.ok n aM := GoT.okm (Nat.zero_le n) (Sz.low hokaM (show sz aM ≤ 1048576 by omega))
    refine WX.run ttOk rfl ?_
    refine WX.callV rfl rfl rfl rfl rfl (fun _ => rfl) rfl (fun w G bs hI hΓ => f42 w 10 aV paV caV (hΓ.get 3 rfl) (laws_szMember aM 1048576) hokaV hq1) ?_
    intro hq2
    refine WX.run ttOk rfl ?_
    refine WX.cases 23 rfl (fun h2 => ?_) (fun h2 => ?_)
    · skip
      have h2d := B.dt h2
      refine WX.run ttOk rfl ?_
      have hP2 : laws_FnExactMissingFrom aM aV = true := by simp only [laws_FnExactMissingFrom, h1, h2, cond_true, cond_false]
      refine WX.ret ttOk rfl ?_
      intro w1 G bs hI hΓ
      rw [hP2]
      exact ⟨rfl, trivial⟩
    · skip
      have h2d := B.df h2
      obtain ⟨hs2, ht2⟩ := (sz_StateVector_R aV (laws_szMember aM 1048576) hokaV (by omega) (by omega)).pos (by omega)
      have hk2 : GoT.ok n aV := GoT.okm (Nat.zero_le n) (Sz.low hokaV (show sz aV ≤ 1048576 by omega))
      refine WX.run ttOk rfl ?_
      refine WX.draw [] mixed ?_
      intro bs G0 hΓ0
      refine DX.takes (fuel := 4) ttOk [(0, false), (2, false)] (by kernel_rfl) rfl ?_
      refine DX.callF 1 4 (fun _ _ h => GoT.ow_rd h) (fun _ f hf => GoT.fak f hf) rfl (by kernel_rfl) rfl rfl rfl rfl rfl rfl (fun _ => rfl) rfl (fun w G bs hI hΓ => f11 w n (by omega) aM paMName caMName (hΓ.get 0 rfl) paMVector caMVector (hΓ.get 1 rfl) paMPublications caMPublications (hΓ.get 2 rfl) hk1) (fun _ => rfl) (fun _ => rfl) ?_
      rintro ⟨⟨p1, c1⟩, ⟨p2, c2⟩, ⟨p3, c3⟩⟩ hq3
      refine DX.callF 3 10 (fun _ _ h => GoT.ow_rd h) (fun _ f hf => GoT.fak f hf) rfl (by kernel_rfl) rfl rfl rfl rfl rfl rfl (fun _ => rfl) rfl (fun w G bs hI hΓ => f44 w n (by omega) aV paV caV (hΓ.get 3 rfl) hk2) (fun _ => rfl) (fun _ => rfl) ?_
      rintro ⟨p4, c4⟩ hq4
      refine DX.callF 4 12 (fun _ _ h => GoT.ow_rd h) (fun _ f hf => GoT.fak f hf) rfl (by kernel_rfl) rfl rfl rfl rfl rfl rfl (fun _ => rfl) rfl (fun w G bs hI hΓ => f43 w n (by omega) (laws_toMember aM) p1 c1 (hΓ.get 4 rfl) p2 c2 (hΓ.get 5 rfl) p3 c3 (hΓ.get 6 rfl) (laws_toStateVector aV) p4 c4 (hΓ.get 10 rfl) hq3 hq4) (fun _ => rfl) (fun _ => rfl) ?_
      rintro ⟨p5, c5⟩ hq5
      refine DX.takes (fuel := 0) ttOk [(5, true)] (by kernel_rfl) rfl ?_
      refine DX.tail [] rfl rfl (by kernel_rfl) ?_
      refine WX.run ttOk rfl ?_
      refine WX.callF 14 (fun _ _ h => GoT.ow_rd h) (fun _ f hf => GoT.fak f hf) rfl rfl rfl rfl rfl (fun _ => rfl) rfl (fun w G bs hI hΓ => f11 w n (by omega) aM paMName caMName (hΓ.get 0 rfl) paMVector caMVector (hΓ.get 1 rfl) paMPublications caMPublications (hΓ.get 2 rfl) hk1) (fun _ => rfl) (fun _ => rfl) ?_
      rintro ⟨⟨p6, c6⟩, ⟨p7, c7⟩, ⟨p8, c8⟩⟩ hq6
      refine WX.run ttOk rfl ?_
      refine WX.callF 20 (fun _ _ h => GoT.ow_rd h) (fun _ f hf => GoT.fak f hf) rfl rfl rfl rfl rfl (fun _ => rfl) rfl (fun w G bs hI hΓ => f44 w n (by omega) aV paV caV (hΓ.get 3 rfl) hk2) (fun _ => rfl) (fun _ => rfl) ?_
      rintro ⟨p9, c9⟩ hq7
      refine WX.run ttOk rfl ?_
      refine WX.callF 22 (fun _ _ h => GoT.ow_rd h) (fun _ f hf => GoT.fak f hf) rfl rfl rfl rfl rfl (fun _ => rfl) rfl (fun w G bs hI hΓ => f45 w n (by omega) (laws_toMember aM) p6 c6 (hΓ.get 14 rfl) p7 c7 (hΓ.get 15 rfl) p8 c8 (hΓ.get 16 rfl) (laws_toStateVector aV) p9 c9 (hΓ.get 20 rfl) hq6 hq7) (fun _ => rfl) (fun _ => rfl) ?_
      rintro ⟨p10, c10⟩ hq8
      refine WX.run ttOk rfl ?_
      refine WX.callV rfl rfl rfl rfl rfl (fun _ => rfl) rfl (fun w G bs hI hΓ => f46 w n (by omega) (impl_MissingFrom (laws_toMember aM) (laws_toStateVector aV)) p10 c10 (hΓ.get 22 rfl) (spec_MissingFrom (laws_toMember aM) (laws_toStateVector aV)) p5 c5 (hΓ.get 12 rfl) hq8 hq5) ?_
      intro hq9
      refine WX.run ttOk rfl ?_
      refine WX.cases 39 rfl (fun h3 => ?_) (fun h3 => ?_)
      · skip
        have h3d := (B.nt h3)
        refine WX.run ttOk rfl ?_
        have hP3 : laws_FnExactMissingFrom aM aV = false := by simp only [laws_FnExactMissingFrom, h1, h2, h3, cond_true, cond_false]
        refine WX.ret ttOk rfl ?_
        intro w1 G bs hI hΓ
        rw [hP3]
        exact ⟨rfl, trivial⟩
      · skip
        have h3d := (B.nf h3)
        refine WX.run ttOk rfl ?_
        refine WX.draw [] mixed ?_
        intro bs G0 hΓ0
        refine DX.takes (fuel := 3) ttOk [(0, false), (1, false)] (by kernel_rfl) rfl ?_
        refine DX.callF 2 24 (fun _ _ h => GoT.ow_rd h) (fun _ f hf => GoT.fak f hf) rfl (by kernel_rfl) rfl rfl rfl rfl rfl rfl (fun _ => rfl) rfl (fun w G bs hI hΓ => f11 w n (by omega) aM paMName caMName (hΓ.get 0 rfl) paMVector caMVector (hΓ.get 1 rfl) paMPublications caMPublications (hΓ.get 2 rfl) hk1) (fun _ => rfl) (fun _ => rfl) ?_
        rintro ⟨⟨p11, c11⟩, ⟨p12, c12⟩, ⟨p13, c13⟩⟩ hq10
        refine DX.callV 3 rfl (by kernel_rfl) rfl rfl rfl rfl rfl rfl (fun _ => rfl) rfl (fun w G bs hI hΓ => f13 w n (by omega) (laws_toMember aM) p6 c6 (hΓ.get 14 rfl) p7 c7 (hΓ.get 15 rfl) p8 c8 (hΓ.get 16 rfl) (laws_toMember aM) p11 c11 (hΓ.get 24 rfl) p12 c12 (hΓ.get 25 rfl) p13 c13 (hΓ.get 26 rfl) hq6 hq10) ?_
        intro hq11
        refine DX.takes (fuel := 0) ttOk [(4, true)] (by kernel_rfl) rfl ?_
        refine DX.tail [] rfl rfl (by kernel_rfl) ?_
        refine WX.run ttOk rfl ?_
        refine WX.cases 44 rfl (fun h4 => ?_) (fun h4 => ?_)
        · skip
          have h4d := (B.nt h4)
          refine WX.run ttOk rfl ?_
          have hP4 : laws_FnExactMissingFrom aM aV = false := by simp only [laws_FnExactMissingFrom, h1, h2, h3, h4, cond_true, cond_false]
          refine WX.ret ttOk rfl ?_
          intro w1 G bs hI hΓ
          rw [hP4]
          exact ⟨rfl, trivial⟩
        · skip
          have h4d := (B.nf h4)
          refine WX.run ttOk rfl ?_
          refine WX.draw [] mixed ?_
          intro bs G0 hΓ0
          refine DX.takes (fuel := 3) ttOk [(0, false), (1, false)] (by kernel_rfl) rfl ?_
          refine DX.callF 2 30 (fun _ _ h => GoT.ow_rd h) (fun _ f hf => GoT.fak f hf) rfl (by kernel_rfl) rfl rfl rfl rfl rfl rfl (fun _ => rfl) rfl (fun w G bs hI hΓ => f44 w n (by omega) aV paV caV (hΓ.get 3 rfl) hk2) (fun _ => rfl) (fun _ => rfl) ?_
          rintro ⟨p14, c14⟩ hq12
          refine DX.callV 3 rfl (by kernel_rfl) rfl rfl rfl rfl rfl rfl (fun _ => rfl) rfl (fun w G bs hI hΓ => f47 w n (by omega) (laws_toStateVector aV) p9 c9 (hΓ.get 20 rfl) (laws_toStateVector aV) p14 c14 (hΓ.get 30 rfl) hq7 hq12) ?_
          intro hq13
          refine DX.takes (fuel := 0) ttOk [(4, true)] (by kernel_rfl) rfl ?_
          refine DX.tail [] rfl rfl (by kernel_rfl) ?_
          refine WX.run ttOk rfl ?_
          refine WX.cases 49 rfl (fun h5 => ?_) (fun h5 => ?_)
          · skip
            have h5d := (B.nt h5)
            refine WX.run ttOk rfl ?_
            have hP5 : laws_FnExactMissingFrom aM aV = false := by simp only [laws_FnExactMissingFrom, h1, h2, h3, h4, h5, cond_true, cond_false]
            refine WX.ret ttOk rfl ?_
            intro w1 G bs hI hΓ
            rw [hP5]
            exact ⟨rfl, trivial⟩
          · skip
            have h5d := (B.nf h5)
            refine WX.run ttOk rfl ?_
            refine WX.callM [17, 18, 19] 32 rfl (fun _ _ h => GoT.ow_rd h) (fun _ f hf => GoT.fak f hf) rfl rfl rfl rfl rfl (fun _ => rfl) rfl (fun w G bs H hI hH hs hΓ => f27 w n (by omega) (laws_toMember aM) p6 c6 p7 c7 p8 c8 1 H hH hs hq6 (show I64 1 from (by unfold I64; omega))) (fun _ => rfl) (fun _ => rfl) ?_
            rintro ⟨⟩ hq14
            have hl1 : ((laws_markMember (laws_toMember aM) 1).2.name.parts).length = ((laws_toMember aM).name.parts).length := hq14.2.1
            have hl2 : ((laws_markMember (laws_toMember aM) 1).2.vector.entries).length = ((laws_toMember aM).vector.entries).length := hq14.2.2.1
            have hl3 : ((laws_markMember (laws_toMember aM) 1).2.publications).length = ((laws_toMember aM).publications).length := hq14.2.2.2
            refine WX.run ttOk rfl ?_
            refine WX.callM [21] 38 rfl (fun _ _ h => GoT.ow_rd h) (fun _ f hf => GoT.fak f hf) rfl rfl rfl rfl rfl (fun _ => rfl) rfl (fun w G bs H hI hH hs hΓ => f48 w n (by omega) (laws_toStateVector aV) p9 c9 ((laws_markMember (laws_toMember aM) 1).1) H hH hs hq7 hq14.1.1) (fun _ => rfl) (fun _ => rfl) ?_
            rintro ⟨⟩ hq15
            have hl4 : ((laws_markStateVector (laws_toStateVector aV) ((laws_markMember (laws_toMember aM) 1).1)).2.entries).length = ((laws_toStateVector aV).entries).length := hq15.2
            refine WX.run ttOk rfl ?_
            refine WX.cases 58 rfl (fun h6 => ?_) (fun h6 => ?_)
            · skip
              have h6d := B.dt h6
              refine WX.run ttOk rfl ?_
              have hP6 : laws_FnExactMissingFrom aM aV = false := by simp only [laws_FnExactMissingFrom, h1, h2, h3, h4, h5, h6, cond_true, cond_false]
              refine WX.ret ttOk rfl ?_
              intro w1 G bs hI hΓ
              rw [hP6]
              exact ⟨rfl, trivial⟩
            · skip
              have h6d := B.df h6
              refine WX.run ttOk rfl ?_
              refine WX.der 40 (MF.rs .der p10 c10 (impl_MissingFrom (laws_toMember aM) (laws_toStateVector aV))) rfl (fun _ hΓ => (hΓ.get 23 rfl : OwSl _ _ _ _).rd) ?_
              refine WX.der 41 (MF.rs .der p5 c5 (spec_MissingFrom (laws_toMember aM) (laws_toStateVector aV))) rfl (fun _ hΓ => (hΓ.get 13 rfl : OwSl _ _ _ _).rd) ?_
              refine WX.callV rfl rfl rfl rfl rfl (fun _ => rfl) rfl (fun w G bs hI hΓ => f46 w n (by omega) (impl_MissingFrom (laws_toMember aM) (laws_toStateVector aV)) p10 c10 (hΓ.get 40 rfl) (spec_MissingFrom (laws_toMember aM) (laws_toStateVector aV)) p5 c5 (hΓ.get 41 rfl) hq8 hq5) ?_
              intro hq16
              refine WX.run ttOk rfl ?_
              refine WX.cases 63 rfl (fun h7 => ?_) (fun h7 => ?_)
              · skip
                have h7d := (B.nt h7)
                exact absurd (h3.symm.trans h7) Bool.false_ne_true
              · skip
                have h7d := (B.nf h7)
                refine WX.run ttOk rfl ?_
                refine WX.callM [23] 42 rfl (fun _ _ h => GoT.ow_rd h) (fun _ f hf => GoT.fak f hf) rfl rfl rfl rfl rfl (fun _ => rfl) rfl (fun w G bs H hI hH hs hΓ => f49 w n (by omega) (impl_MissingFrom (laws_toMember aM) (laws_toStateVector aV)) p10 c10 1 H hH hs hq8 (show I64 1 from (by unfold I64; omega))) (fun _ => rfl) (fun _ => rfl) ?_
                rintro ⟨⟩ hq17
                have hl5 : ((laws_markTableEntryS (impl_MissingFrom (laws_toMember aM) (laws_toStateVector aV)) 1).2).length = ((impl_MissingFrom (laws_toMember aM) (laws_toStateVector aV))).length := hq17.2
                refine WX.run ttOk rfl ?_
                refine WX.slot 67 (y := .v (.slice p10 (((laws_markTableEntryS (impl_MissingFrom (laws_toMember aM) (laws_toStateVector aV)) 1).2).length) c10)) rfl (fun _ => by show (.slice p10 (((impl_MissingFrom (laws_toMember aM) (laws_toStateVector aV))).length) c10 : Value) = .slice p10 (((laws_markTableEntryS (impl_MissingFrom (laws_toMember aM) (laws_toStateVector aV)) 1).2).length) c10; simp only [hl5]) ?_
                refine WX.callV rfl rfl rfl rfl rfl (fun _ => rfl) rfl (fun w G bs hI hΓ => f50 w n (by omega) ((laws_markTableEntryS (impl_MissingFrom (laws_toMember aM) (laws_toStateVector aV)) 1).2) p10 c10 (hΓ.get 42 rfl) 1 hq17.1.2 (show I64 1 from (by unfold I64; omega))) ?_
                intro hq18
                refine WX.run ttOk rfl ?_
                refine WX.cases 71 rfl (fun h8 => ?_) (fun h8 => ?_)
                · skip
                  have h8d := B.dt h8
                  refine WX.run ttOk rfl ?_
                  have hP7 : laws_FnExactMissingFrom aM aV = false := by simp only [laws_FnExactMissingFrom, h1, h2, h3, h4, h5, h6, h7, h8, cond_true, cond_false]
                  refine WX.ret ttOk rfl ?_
                  intro w1 G bs hI hΓ
                  rw [hP7]
                  exact ⟨rfl, trivial⟩
                · skip
                  have h8d := B.df h8
                  refine WX.run ttOk rfl ?_
                  refine WX.cases 74 rfl (fun h9 => ?_) (fun h9 => ?_)
                  · skip
                    have h9d := B.nt' h9
                    refine WX.run ttOk rfl ?_
                    have hP8 : laws_FnExactMissingFrom aM aV = false := by simp only [laws_FnExactMissingFrom, h1, h2, h3, h4, h5, h6, h7, h8, h9, cond_true, cond_false]
                    refine WX.ret ttOk rfl ?_
                    intro w1 G bs hI hΓ
                    rw [hP8]
                    exact ⟨rfl, trivial⟩
                  · skip
                    have h9d := B.nf' h9
                    refine WX.run ttOk rfl ?_
                    refine WX.der 44 (MF.rs .der p9 c9 ((laws_markStateVector (laws_toStateVector aV) ((laws_markMember (laws_toMember aM) 1).1)).2.entries)) rfl (fun _ hΓ => (hΓ.get 39 rfl : OwSl _ _ _ _).rd) ?_
                    refine WX.der 45 (MF.rs .der p6 c6 ((laws_markMember (laws_toMember aM) 1).2.name.parts)) rfl (fun _ hΓ => (hΓ.get 35 rfl : OwSl _ _ _ _).rd) ?_
                    refine WX.der 46 (MF.rs .der p7 c7 ((laws_markMember (laws_toMember aM) 1).2.vector.entries)) rfl (fun _ hΓ => (hΓ.get 36 rfl : OwSl _ _ _ _).rd) ?_
                    refine WX.der 47 (MF.rs .der p8 c8 ((laws_markMember (laws_toMember aM) 1).2.publications)) rfl (fun _ hΓ => (hΓ.get 37 rfl : OwSl _ _ _ _).rd) ?_
                    refine WX.draw [] mixed ?_
                    intro bs G0 hΓ0
                    refine DX.takes (fuel := 4) ttOk [(0, false), (2, false)] (by kernel_rfl) rfl ?_
                    refine DX.callF 1 48 (fun _ _ h => GoT.ow_rd h) (fun _ f hf => GoT.fak f hf) rfl (by kernel_rfl) rfl rfl rfl rfl rfl rfl (fun _ => rfl) rfl (fun w G bs hI hΓ => f11 w n (by omega) aM paMName caMName (hΓ.get 0 rfl) paMVector caMVector (hΓ.get 1 rfl) paMPublications caMPublications (hΓ.get 2 rfl) hk1) (fun _ => rfl) (fun _ => rfl) ?_
                    rintro ⟨⟨p15, c15⟩, ⟨p16, c16⟩, ⟨p17, c17⟩⟩ hq19
                    refine DX.callF 3 54 (fun _ _ h => GoT.ow_rd h) (fun _ f hf => GoT.fak f hf) rfl (by kernel_rfl) rfl rfl rfl rfl rfl rfl (fun _ => rfl) rfl (fun w G bs hI hΓ => f44 w n (by omega) aV paV caV (hΓ.get 3 rfl) hk2) (fun _ => rfl) (fun _ => rfl) ?_
                    rintro ⟨p18, c18⟩ hq20
                    refine DX.callF 4 56 (fun _ _ h => GoT.ow_rd h) (fun _ f hf => GoT.fak f hf) rfl (by kernel_rfl) rfl rfl rfl rfl rfl rfl (fun _ => rfl) rfl (fun w G bs hI hΓ => f45 w n (by omega) (laws_toMember aM) p15 c15 (hΓ.get 48 rfl) p16 c16 (hΓ.get 49 rfl) p17 c17 (hΓ.get 50 rfl) (laws_toStateVector aV) p18 c18 (hΓ.get 54 rfl) hq19 hq20) (fun _ => rfl) (fun _ => rfl) ?_
                    rintro ⟨p19, c19⟩ hq21
                    refine DX.takes (fuel := 0) ttOk [(5, true)] (by kernel_rfl) rfl ?_
                    refine DX.tail [] rfl rfl (by kernel_rfl) ?_
                    refine WX.run ttOk rfl ?_
                    refine WX.der 58 (MF.rs .der p5 c5 (spec_MissingFrom (laws_toMember aM) (laws_toStateVector aV))) rfl (fun _ hΓ => (hΓ.get 13 rfl : OwSl _ _ _ _).rd) ?_
                    refine WX.callV rfl rfl rfl rfl rfl (fun _ => rfl) rfl (fun w G bs hI hΓ => f46 w n (by omega) (impl_MissingFrom (laws_toMember aM) (laws_toStateVector aV)) p19 c19 (hΓ.get 56 rfl) (spec_MissingFrom (laws_toMember aM) (laws_toStateVector aV)) p5 c5 (hΓ.get 58 rfl) hq21 hq5) ?_
                    intro hq22
                    refine WX.run ttOk rfl ?_
                    refine WX.cases 83 rfl (fun h10 => ?_) (fun h10 => ?_)
                    · skip
                      have h10d := (B.nt h10)
                      exact absurd (h3.symm.trans h10) Bool.false_ne_true
                    · skip
                      have h10d := (B.nf h10)
                      refine WX.run ttOk rfl ?_
                      refine WX.slot 84 (y := .v (.slice p10 (((laws_markTableEntryS (impl_MissingFrom (laws_toMember aM) (laws_toStateVector aV)) 1).2).length) c10)) rfl (fun _ => by show (.slice p10 (((impl_MissingFrom (laws_toMember aM) (laws_toStateVector aV))).length) c10 : Value) = .slice p10 (((laws_markTableEntryS (impl_MissingFrom (laws_toMember aM) (laws_toStateVector aV)) 1).2).length) c10; simp only [hl5]) ?_
                      refine WX.callV rfl rfl rfl rfl rfl (fun _ => rfl) rfl (fun w G bs hI hΓ => f50 w n (by omega) ((laws_markTableEntryS (impl_MissingFrom (laws_toMember aM) (laws_toStateVector aV)) 1).2) p10 c10 (hΓ.get 42 rfl) 1 hq17.1.2 (show I64 1 from (by unfold I64; omega))) ?_
                      intro hq23
                      refine WX.run ttOk rfl ?_
                      refine WX.cases 88 rfl (fun h11 => ?_) (fun h11 => ?_)
                      · skip
                        have h11d := B.dt h11
                        exact absurd (h8.symm.trans h11) Bool.false_ne_true
                      · skip
                        have h11d := B.df h11
                        refine WX.run ttOk rfl ?_
                        refine WX.cases 91 rfl (fun h12 => ?_) (fun h12 => ?_)
                        · skip
                          have h12d := B.nt' h12
                          exact absurd (h9.symm.trans h12) Bool.false_ne_true
                        · skip
                          have h12d := B.nf' h12
                          refine WX.run ttOk rfl ?_
                          have hP9 : laws_FnExactMissingFrom aM aV = true := by simp only [laws_FnExactMissingFrom, h1, h2, h3, h4, h5, h6, h7, h8, h9, h10, h11, h12, cond_true, cond_false]
                          refine WX.ret ttOk rfl ?_
                          intro w1 G bs hI hΓ
                          rw [hP9]
                          exact ⟨rfl, trivial⟩
end Go.Proofs.Ytikbfiljomdmiaa
