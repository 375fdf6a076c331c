/-
  That functions of the program compute what the Lean functions do. No condition but what each says. Written by a program (gen2.py).
-/
import Derived.Test.YtcjilfbmdciebaaGreatC11
import Derived.Test.YtcjilfbmdciebaaGreatPure
import Derived.Test.YtcjilfbmdciebaaGreatPL6
namespace Go.Proofs.YtcjilfbmdciebaaGreat
open Go.Stp
set_option linter.unusedVariables false
set_option linter.unusedSimpArgs false
theorem f3 (w : World) (n : Nat) (hn : n + 0 ≤ 9) (aW : Network) (paWTopologyLinks : Option Addr) (caWTopologyLinks : Nat) (hpaWTopologyLinks : RdSl (hp w) paWTopologyLinks caWTopologyLinks aW.topology.links) (paWTrustKeys : Option Addr) (caWTrustKeys : Nat) (hpaWTrustKeys : RdSl (hp w) paWTrustKeys caWTrustKeys aW.trust.keys) (paWTrustRules : Option Addr) (caWTrustRules : Nat) (hpaWTrustRules : RdSl (hp w) paWTrustRules caWTrustRules aW.trust.rules) (paWTrustAnchors : Option Addr) (caWTrustAnchors : Nat) (hpaWTrustAnchors : RdSl (hp w) paWTrustAnchors caWTrustAnchors aW.trust.anchors) (paWTrustCertificates : Option Addr) (caWTrustCertificates : Nat) (hpaWTrustCertificates : RdSl (hp w) paWTrustCertificates caWTrustCertificates aW.trust.certificates) (paWProducers : Option Addr) (caWProducers : Nat) (hpaWProducers : RdSl (hp w) paWProducers caWProducers aW.producers) (paWNodes : Option Addr) (caWNodes : Nat) (hpaWNodes : RdSl (hp w) paWNodes caWNodes aW.nodes) (paWFailedLinks : Option Addr) (caWFailedLinks : Nat) (hpaWFailedLinks : RdSl (hp w) paWFailedLinks caWFailedLinks aW.failedLinks) (paWInFlight : Option Addr) (caWInFlight : Nat) (hpaWInFlight : RdSl (hp w) paWInFlight caWInFlight aW.inFlight) (paWConsumers : Option Addr) (caWConsumers : Nat) (hpaWConsumers : RdSl (hp w) paWConsumers caWConsumers aW.consumers) (aK : Int) (hokaW : GoT.ok 10 aW) (hokaK : GoT.ok 10 aK) :
    Does Tryz.prog 3 #[.agg #[.int .i64 (aW.topology.size), .slice paWTopologyLinks ((aW.topology.links).length) caWTopologyLinks, .slice paWTrustKeys ((aW.trust.keys).length) caWTrustKeys, .slice paWTrustRules ((aW.trust.rules).length) caWTrustRules, .slice paWTrustAnchors ((aW.trust.anchors).length) caWTrustAnchors, .slice paWTrustCertificates ((aW.trust.certificates).length) caWTrustCertificates, .slice paWProducers ((aW.producers).length) caWProducers, .slice paWNodes ((aW.nodes).length) caWNodes, .int .i64 (aW.downNodes), .slice paWFailedLinks ((aW.failedLinks).length) caWFailedLinks, .slice paWInFlight ((aW.inFlight).length) caWInFlight, .slice paWConsumers ((aW.consumers).length) caWConsumers, .int .i64 (aW.now), .int .i64 (aW.dropped)], .int .i64 (aK)] w emp (fun (rv : Value) (_ : World) => rv = .bool (laws_FnExactIsUp aW aK) ∧ True) := by
  have hbP := bd_pos n
  have hbB := bd_big (n := n) (by omega)
  refine WX.enter (tt := tt) (Γ := [(0, MF.rs .stb paWTopologyLinks caWTopologyLinks aW.topology.links), (1, MF.rs .stb paWTrustKeys caWTrustKeys aW.trust.keys), (2, MF.rs .stb paWTrustRules caWTrustRules aW.trust.rules), (3, MF.rs .stb paWTrustAnchors caWTrustAnchors aW.trust.anchors), (4, MF.rs .stb paWTrustCertificates caWTrustCertificates aW.trust.certificates), (5, MF.rs .stb paWProducers caWProducers aW.producers), (6, MF.rs .stb paWNodes caWNodes aW.nodes), (7, MF.rs .stb paWFailedLinks caWFailedLinks aW.failedLinks), (8, MF.rs .stb paWInFlight caWInFlight aW.inFlight), (9, MF.rs .stb paWConsumers caWConsumers aW.consumers)]) Tryz.func3 rfl (by kernel_rfl) rfl (allS_cons rfl hpaWTopologyLinks (allS_cons rfl hpaWTrustKeys (allS_cons rfl hpaWTrustRules (allS_cons rfl hpaWTrustAnchors (allS_cons rfl hpaWTrustCertificates (allS_cons rfl hpaWProducers (allS_cons rfl hpaWNodes (allS_cons rfl hpaWFailedLinks (allS_cons rfl hpaWInFlight (allS_cons rfl hpaWConsumers allS_nil)))))))))) ?_
  refine WX.run ttOk rfl ?_
  refine WX.callV rfl rfl rfl rfl rfl (fun _ => rfl) rfl (fun w G bs hI hΓ => f7 w 10 aW paWTopologyLinks caWTopologyLinks (hΓ.get 0 rfl) paWTrustKeys caWTrustKeys (hΓ.get 1 rfl) paWTrustRules caWTrustRules (hΓ.get 2 rfl) paWTrustAnchors caWTrustAnchors (hΓ.get 3 rfl) paWTrustCertificates caWTrustCertificates (hΓ.get 4 rfl) paWProducers caWProducers (hΓ.get 5 rfl) paWNodes caWNodes (hΓ.get 6 rfl) paWFailedLinks caWFailedLinks (hΓ.get 7 rfl) paWInFlight caWInFlight (hΓ.get 8 rfl) paWConsumers caWConsumers (hΓ.get 9 rfl) 1048576 hokaW (show I64 1048576 from (by unfold I64; omega))) ?_
  intro hq1
  refine WX.run ttOk rfl ?_
  refine WX.cases 13 rfl (fun h1 => ?_) (fun h1 => ?_)
  · skip
    have h1d := B.dt h1
    refine WX.run ttOk rfl ?_
    have hP1 : laws_FnExactIsUp aW aK = true := by simp only [laws_FnExactIsUp, h1, cond_true, cond_false]
    refine WX.ret ttOk rfl ?_
    intro w1 G bs hI hΓ
    rw [hP1]
    exact ⟨rfl, trivial⟩
  · skip
    have h1d := B.df h1
    obtain ⟨hs1, ht1⟩ := (sz_Network_R aW 1048576 hokaW (by omega) (by omega)).pos (by omega)
    have hk1 : GoT.ok n aW := GoT.okm (Nat.zero_le n) (Sz.low hokaW (show sz aW ≤ 1048576 by omega))
    refine WX.run ttOk rfl ?_
    refine WX.callF 10 (fun _ _ h => GoT.ow_rd h) (fun _ f hf => GoT.fak f hf) rfl rfl rfl rfl rfl (fun _ => rfl) rfl (fun w G bs hI hΓ => f9 w n (by omega) aW paWTopologyLinks caWTopologyLinks (hΓ.get 0 rfl) paWTrustKeys caWTrustKeys (hΓ.get 1 rfl) paWTrustRules caWTrustRules (hΓ.get 2 rfl) paWTrustAnchors caWTrustAnchors (hΓ.get 3 rfl) paWTrustCertificates caWTrustCertificates (hΓ.get 4 rfl) paWProducers caWProducers (hΓ.get 5 rfl) paWNodes caWNodes (hΓ.get 6 rfl) paWFailedLinks caWFailedLinks (hΓ.get 7 rfl) paWInFlight caWInFlight (hΓ.get 8 rfl) paWConsumers caWConsumers (hΓ.get 9 rfl) hk1) (fun _ => rfl) (fun _ => rfl) ?_
    rintro ⟨⟨⟨⟩, ⟨p1, c1⟩⟩, ⟨⟨p2, c2⟩, ⟨p3, c3⟩, ⟨p4, c4⟩, ⟨p5, c5⟩⟩, ⟨p6, c6⟩, ⟨p7, c7⟩, ⟨⟩, ⟨p8, c8⟩, ⟨p9, c9⟩, ⟨p10, c10⟩, ⟨⟩, ⟨⟩⟩ hq2
    refine WX.run ttOk rfl ?_
    refine WX.callV rfl rfl rfl rfl rfl (fun _ => rfl) rfl (fun w G bs hI hΓ => f8 w n (by omega) (laws_toNetwork aW) p1 c1 (hΓ.get 10 rfl) p2 c2 (hΓ.get 11 rfl) p3 c3 (hΓ.get 12 rfl) p4 c4 (hΓ.get 13 rfl) p5 c5 (hΓ.get 14 rfl) p6 c6 (hΓ.get 15 rfl) p7 c7 (hΓ.get 16 rfl) p8 c8 (hΓ.get 17 rfl) p9 c9 (hΓ.get 18 rfl) p10 c10 (hΓ.get 19 rfl) aK hq2 hokaK) ?_
    intro hq3
    refine WX.run ttOk rfl ?_
    refine WX.callF 30 (fun _ _ h => GoT.ow_rd h) (fun _ f hf => GoT.fak f hf) rfl rfl rfl rfl rfl (fun _ => rfl) rfl (fun w G bs hI hΓ => f9 w n (by omega) aW paWTopologyLinks caWTopologyLinks (hΓ.get 0 rfl) paWTrustKeys caWTrustKeys (hΓ.get 1 rfl) paWTrustRules caWTrustRules (hΓ.get 2 rfl) paWTrustAnchors caWTrustAnchors (hΓ.get 3 rfl) paWTrustCertificates caWTrustCertificates (hΓ.get 4 rfl) paWProducers caWProducers (hΓ.get 5 rfl) paWNodes caWNodes (hΓ.get 6 rfl) paWFailedLinks caWFailedLinks (hΓ.get 7 rfl) paWInFlight caWInFlight (hΓ.get 8 rfl) paWConsumers caWConsumers (hΓ.get 9 rfl) hk1) (fun _ => rfl) (fun _ => rfl) ?_
    rintro ⟨⟨⟨⟩, ⟨p11, c11⟩⟩, ⟨⟨p12, c12⟩, ⟨p13, c13⟩, ⟨p14, c14⟩, ⟨p15, c15⟩⟩, ⟨p16, c16⟩, ⟨p17, c17⟩, ⟨⟩, ⟨p18, c18⟩, ⟨p19, c19⟩, ⟨p20, c20⟩, ⟨⟩, ⟨⟩⟩ hq4
    refine WX.run ttOk rfl ?_
    refine WX.callV rfl rfl rfl rfl rfl (fun _ => rfl) rfl (fun w G bs hI hΓ => f10 w n (by omega) (laws_toNetwork aW) p11 c11 (hΓ.get 30 rfl) p12 c12 (hΓ.get 31 rfl) p13 c13 (hΓ.get 32 rfl) p14 c14 (hΓ.get 33 rfl) p15 c15 (hΓ.get 34 rfl) p16 c16 (hΓ.get 35 rfl) p17 c17 (hΓ.get 36 rfl) p18 c18 (hΓ.get 37 rfl) p19 c19 (hΓ.get 38 rfl) p20 c20 (hΓ.get 39 rfl) aK (And.intro (And.intro (ok_Topology (ok_Network hq2).1).1 (ok_Topology (ok_Network hq4).1).2) (And.intro (ok_Network hq4).2.1 (And.intro (ok_Network hq4).2.2.1 (And.intro (ok_Network hq4).2.2.2.1 (And.intro (ok_Network hq2).2.2.2.2.1 (And.intro (ok_Network hq4).2.2.2.2.2.1 (And.intro (ok_Network hq4).2.2.2.2.2.2.1 (And.intro (ok_Network hq4).2.2.2.2.2.2.2.1 (And.intro (ok_Network hq2).2.2.2.2.2.2.2.2.1 (ok_Network hq2).2.2.2.2.2.2.2.2.2))))))))) hokaK) ?_
    intro hq5
    refine WX.run ttOk rfl ?_
    refine WX.see rfl rfl rfl (fun _ hΓ => looks_beq ttOk rfl rfl rfl rfl rfl rfl) ?_
    refine WX.run ttOk rfl ?_
    refine WX.cases 25 rfl (fun h2 => ?_) (fun h2 => ?_)
    · skip
      have h2d := (B.nt h2)
      refine WX.run ttOk rfl ?_
      have hP2 : laws_FnExactIsUp aW aK = false := by simp only [laws_FnExactIsUp, h1, h2, cond_true, cond_false]
      refine WX.ret ttOk rfl ?_
      intro w1 G bs hI hΓ
      rw [hP2]
      exact ⟨rfl, trivial⟩
    · skip
      have h2d := (B.nf h2)
      refine WX.run ttOk rfl ?_
      refine WX.draw [] mixed ?_
      intro bs G0 hΓ0
      refine DX.takes (fuel := 3) ttOk [(0, false), (1, false)] (by kernel_rfl) rfl ?_
      refine DX.callF 2 50 (fun _ _ h => GoT.ow_rd h) (fun _ f hf => GoT.fak f hf) rfl (by kernel_rfl) rfl rfl rfl rfl rfl rfl (fun _ => rfl) rfl (fun w G bs hI hΓ => f9 w n (by omega) aW paWTopologyLinks caWTopologyLinks (hΓ.get 0 rfl) paWTrustKeys caWTrustKeys (hΓ.get 1 rfl) paWTrustRules caWTrustRules (hΓ.get 2 rfl) paWTrustAnchors caWTrustAnchors (hΓ.get 3 rfl) paWTrustCertificates caWTrustCertificates (hΓ.get 4 rfl) paWProducers caWProducers (hΓ.get 5 rfl) paWNodes caWNodes (hΓ.get 6 rfl) paWFailedLinks caWFailedLinks (hΓ.get 7 rfl) paWInFlight caWInFlight (hΓ.get 8 rfl) paWConsumers caWConsumers (hΓ.get 9 rfl) hk1) (fun _ => rfl) (fun _ => rfl) ?_
      rintro ⟨⟨⟨⟩, ⟨p21, c21⟩⟩, ⟨⟨p22, c22⟩, ⟨p23, c23⟩, ⟨p24, c24⟩, ⟨p25, c25⟩⟩, ⟨p26, c26⟩, ⟨p27, c27⟩, ⟨⟩, ⟨p28, c28⟩, ⟨p29, c29⟩, ⟨p30, c30⟩, ⟨⟩, ⟨⟩⟩ hq6
      refine DX.callV 3 rfl (by kernel_rfl) rfl rfl rfl rfl rfl rfl (fun _ => rfl) rfl (fun w G bs hI hΓ => f11 w n (by omega) (laws_toNetwork aW) p11 c11 (hΓ.get 30 rfl) p12 c12 (hΓ.get 31 rfl) p13 c13 (hΓ.get 32 rfl) p14 c14 (hΓ.get 33 rfl) p15 c15 (hΓ.get 34 rfl) p16 c16 (hΓ.get 35 rfl) p17 c17 (hΓ.get 36 rfl) p18 c18 (hΓ.get 37 rfl) p19 c19 (hΓ.get 38 rfl) p20 c20 (hΓ.get 39 rfl) (laws_toNetwork aW) p21 c21 (hΓ.get 50 rfl) p22 c22 (hΓ.get 51 rfl) p23 c23 (hΓ.get 52 rfl) p24 c24 (hΓ.get 53 rfl) p25 c25 (hΓ.get 54 rfl) p26 c26 (hΓ.get 55 rfl) p27 c27 (hΓ.get 56 rfl) p28 c28 (hΓ.get 57 rfl) p29 c29 (hΓ.get 58 rfl) p30 c30 (hΓ.get 59 rfl) (And.intro (And.intro (ok_Topology (ok_Network hq2).1).1 (ok_Topology (ok_Network hq4).1).2) (And.intro (ok_Network hq4).2.1 (And.intro (ok_Network hq4).2.2.1 (And.intro (ok_Network hq4).2.2.2.1 (And.intro (ok_Network hq2).2.2.2.2.1 (And.intro (ok_Network hq4).2.2.2.2.2.1 (And.intro (ok_Network hq4).2.2.2.2.2.2.1 (And.intro (ok_Network hq4).2.2.2.2.2.2.2.1 (And.intro (ok_Network hq2).2.2.2.2.2.2.2.2.1 (ok_Network hq2).2.2.2.2.2.2.2.2.2))))))))) (And.intro (And.intro (ok_Topology (ok_Network hq2).1).1 (ok_Topology (ok_Network hq6).1).2) (And.intro (ok_Network hq6).2.1 (And.intro (ok_Network hq6).2.2.1 (And.intro (ok_Network hq6).2.2.2.1 (And.intro (ok_Network hq2).2.2.2.2.1 (And.intro (ok_Network hq6).2.2.2.2.2.1 (And.intro (ok_Network hq6).2.2.2.2.2.2.1 (And.intro (ok_Network hq6).2.2.2.2.2.2.2.1 (And.intro (ok_Network hq2).2.2.2.2.2.2.2.2.1 (ok_Network hq2).2.2.2.2.2.2.2.2.2)))))))))) ?_
      intro hq7
      refine DX.takes (fuel := 0) ttOk [(4, true)] (by kernel_rfl) rfl ?_
      refine DX.tail [] rfl rfl (by kernel_rfl) ?_
      refine WX.run ttOk rfl ?_
      refine WX.cases 30 rfl (fun h3 => ?_) (fun h3 => ?_)
      · skip
        have h3d := (B.nt h3)
        refine WX.run ttOk rfl ?_
        have hP3 : laws_FnExactIsUp aW aK = false := by simp only [laws_FnExactIsUp, h1, h2, h3, cond_true, cond_false]
        refine WX.ret ttOk rfl ?_
        intro w1 G bs hI hΓ
        rw [hP3]
        exact ⟨rfl, trivial⟩
      · skip
        have h3d := (B.nf h3)
        refine WX.run ttOk rfl ?_
        have hP4 : laws_FnExactIsUp aW aK = true := by simp only [laws_FnExactIsUp, h1, h2, h3, cond_true, cond_false]
        refine WX.ret ttOk rfl ?_
        intro w1 G bs hI hΓ
        rw [hP4]
        exact ⟨rfl, trivial⟩
end Go.Proofs.YtcjilfbmdciebaaGreat
