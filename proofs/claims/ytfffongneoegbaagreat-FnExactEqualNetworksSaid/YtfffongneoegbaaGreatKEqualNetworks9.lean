/-
  EqualNetworks: the law returns true at all arguments; conditions: those of the statement, no others. Written by a program (pack.py, mklaw2.py).
-/
import Derived.Carry
import Derived.ChangeArms
import Derived.ProofKit
import Derived.OpenShut
import Derived.JoinedCond
import Derived.Test.YtfffongneoegbaaGreatKEqualNetworks8
namespace Go.Proofs.YtfffongneoegbaaGreat
open Go.Stp
set_option linter.unusedVariables false
set_option linter.unusedSimpArgs false
theorem f7 (w : World) (n : Nat) (hn : n + 0 ≤ 9) (aA : Network) (paATopologyLinks : Option Addr) (caATopologyLinks : Nat) (hpaATopologyLinks : RdSl (hp w) paATopologyLinks caATopologyLinks aA.topology.links) (paATrustKeys : Option Addr) (caATrustKeys : Nat) (hpaATrustKeys : RdSl (hp w) paATrustKeys caATrustKeys aA.trust.keys) (paATrustRules : Option Addr) (caATrustRules : Nat) (hpaATrustRules : RdSl (hp w) paATrustRules caATrustRules aA.trust.rules) (paATrustAnchors : Option Addr) (caATrustAnchors : Nat) (hpaATrustAnchors : RdSl (hp w) paATrustAnchors caATrustAnchors aA.trust.anchors) (paATrustCertificates : Option Addr) (caATrustCertificates : Nat) (hpaATrustCertificates : RdSl (hp w) paATrustCertificates caATrustCertificates aA.trust.certificates) (paAProducers : Option Addr) (caAProducers : Nat) (hpaAProducers : RdSl (hp w) paAProducers caAProducers aA.producers) (paANodes : Option Addr) (caANodes : Nat) (hpaANodes : RdSl (hp w) paANodes caANodes aA.nodes) (paAFailedLinks : Option Addr) (caAFailedLinks : Nat) (hpaAFailedLinks : RdSl (hp w) paAFailedLinks caAFailedLinks aA.failedLinks) (paAInFlight : Option Addr) (caAInFlight : Nat) (hpaAInFlight : RdSl (hp w) paAInFlight caAInFlight aA.inFlight) (paAConsumers : Option Addr) (caAConsumers : Nat) (hpaAConsumers : RdSl (hp w) paAConsumers caAConsumers aA.consumers) (aB : Network) (paBTopologyLinks : Option Addr) (caBTopologyLinks : Nat) (hpaBTopologyLinks : RdSl (hp w) paBTopologyLinks caBTopologyLinks aB.topology.links) (paBTrustKeys : Option Addr) (caBTrustKeys : Nat) (hpaBTrustKeys : RdSl (hp w) paBTrustKeys caBTrustKeys aB.trust.keys) (paBTrustRules : Option Addr) (caBTrustRules : Nat) (hpaBTrustRules : RdSl (hp w) paBTrustRules caBTrustRules aB.trust.rules) (paBTrustAnchors : Option Addr) (caBTrustAnchors : Nat) (hpaBTrustAnchors : RdSl (hp w) paBTrustAnchors caBTrustAnchors aB.trust.anchors) (paBTrustCertificates : Option Addr) (caBTrustCertificates : Nat) (hpaBTrustCertificates : RdSl (hp w) paBTrustCertificates caBTrustCertificates aB.trust.certificates) (paBProducers : Option Addr) (caBProducers : Nat) (hpaBProducers : RdSl (hp w) paBProducers caBProducers aB.producers) (paBNodes : Option Addr) (caBNodes : Nat) (hpaBNodes : RdSl (hp w) paBNodes caBNodes aB.nodes) (paBFailedLinks : Option Addr) (caBFailedLinks : Nat) (hpaBFailedLinks : RdSl (hp w) paBFailedLinks caBFailedLinks aB.failedLinks) (paBInFlight : Option Addr) (caBInFlight : Nat) (hpaBInFlight : RdSl (hp w) paBInFlight caBInFlight aB.inFlight) (paBConsumers : Option Addr) (caBConsumers : Nat) (hpaBConsumers : RdSl (hp w) paBConsumers caBConsumers aB.consumers) (hokaA : GoT.ok 10 aA) (hokaB : GoT.ok 10 aB) :
    Does Tryz.prog 7 #[.agg #[.int .i64 (aA.topology.size), .slice paATopologyLinks ((aA.topology.links).length) caATopologyLinks, .slice paATrustKeys ((aA.trust.keys).length) caATrustKeys, .slice paATrustRules ((aA.trust.rules).length) caATrustRules, .slice paATrustAnchors ((aA.trust.anchors).length) caATrustAnchors, .slice paATrustCertificates ((aA.trust.certificates).length) caATrustCertificates, .slice paAProducers ((aA.producers).length) caAProducers, .slice paANodes ((aA.nodes).length) caANodes, .int .i64 (aA.downNodes), .slice paAFailedLinks ((aA.failedLinks).length) caAFailedLinks, .slice paAInFlight ((aA.inFlight).length) caAInFlight, .slice paAConsumers ((aA.consumers).length) caAConsumers, .int .i64 (aA.now), .int .i64 (aA.dropped)], .agg #[.int .i64 (aB.topology.size), .slice paBTopologyLinks ((aB.topology.links).length) caBTopologyLinks, .slice paBTrustKeys ((aB.trust.keys).length) caBTrustKeys, .slice paBTrustRules ((aB.trust.rules).length) caBTrustRules, .slice paBTrustAnchors ((aB.trust.anchors).length) caBTrustAnchors, .slice paBTrustCertificates ((aB.trust.certificates).length) caBTrustCertificates, .slice paBProducers ((aB.producers).length) caBProducers, .slice paBNodes ((aB.nodes).length) caBNodes, .int .i64 (aB.downNodes), .slice paBFailedLinks ((aB.failedLinks).length) caBFailedLinks, .slice paBInFlight ((aB.inFlight).length) caBInFlight, .slice paBConsumers ((aB.consumers).length) caBConsumers, .int .i64 (aB.now), .int .i64 (aB.dropped)]] w emp (fun (rv : Value) (_ : World) => rv = .bool (laws_FnExactEqualNetworks aA aB) ∧ True) := by
  have hbP := bd_pos n
  have hbB := bd_big (n := n) (by omega)
  refine WX.enter (tt := tt) (Γ := [(0, MF.rs .stb paATopologyLinks caATopologyLinks aA.topology.links), (1, MF.rs .stb paATrustKeys caATrustKeys aA.trust.keys), (2, MF.rs .stb paATrustRules caATrustRules aA.trust.rules), (3, MF.rs .stb paATrustAnchors caATrustAnchors aA.trust.anchors), (4, MF.rs .stb paATrustCertificates caATrustCertificates aA.trust.certificates), (5, MF.rs .stb paAProducers caAProducers aA.producers), (6, MF.rs .stb paANodes caANodes aA.nodes), (7, MF.rs .stb paAFailedLinks caAFailedLinks aA.failedLinks), (8, MF.rs .stb paAInFlight caAInFlight aA.inFlight), (9, MF.rs .stb paAConsumers caAConsumers aA.consumers), (10, MF.rs .stb paBTopologyLinks caBTopologyLinks aB.topology.links), (11, MF.rs .stb paBTrustKeys caBTrustKeys aB.trust.keys), (12, MF.rs .stb paBTrustRules caBTrustRules aB.trust.rules), (13, MF.rs .stb paBTrustAnchors caBTrustAnchors aB.trust.anchors), (14, MF.rs .stb paBTrustCertificates caBTrustCertificates aB.trust.certificates), (15, MF.rs .stb paBProducers caBProducers aB.producers), (16, MF.rs .stb paBNodes caBNodes aB.nodes), (17, MF.rs .stb paBFailedLinks caBFailedLinks aB.failedLinks), (18, MF.rs .stb paBInFlight caBInFlight aB.inFlight), (19, MF.rs .stb paBConsumers caBConsumers aB.consumers)]) Tryz.func7 rfl (by kernel_rfl) rfl (allS_cons rfl hpaATopologyLinks (allS_cons rfl hpaATrustKeys (allS_cons rfl hpaATrustRules (allS_cons rfl hpaATrustAnchors (allS_cons rfl hpaATrustCertificates (allS_cons rfl hpaAProducers (allS_cons rfl hpaANodes (allS_cons rfl hpaAFailedLinks (allS_cons rfl hpaAInFlight (allS_cons rfl hpaAConsumers (allS_cons rfl hpaBTopologyLinks (allS_cons rfl hpaBTrustKeys (allS_cons rfl hpaBTrustRules (allS_cons rfl hpaBTrustAnchors (allS_cons rfl hpaBTrustCertificates (allS_cons rfl hpaBProducers (allS_cons rfl hpaBNodes (allS_cons rfl hpaBFailedLinks (allS_cons rfl hpaBInFlight (allS_cons rfl hpaBConsumers allS_nil)))))))))))))))))))) ?_
  refine WX.run ttOk rfl ?_
  refine WX.callV rfl rfl rfl rfl rfl (fun _ => rfl) rfl (fun w G bs hI hΓ => f43 w 10 aA paATopologyLinks caATopologyLinks (hΓ.get 0 rfl) paATrustKeys caATrustKeys (hΓ.get 1 rfl) paATrustRules caATrustRules (hΓ.get 2 rfl) paATrustAnchors caATrustAnchors (hΓ.get 3 rfl) paATrustCertificates caATrustCertificates (hΓ.get 4 rfl) paAProducers caAProducers (hΓ.get 5 rfl) paANodes caANodes (hΓ.get 6 rfl) paAFailedLinks caAFailedLinks (hΓ.get 7 rfl) paAInFlight caAInFlight (hΓ.get 8 rfl) paAConsumers caAConsumers (hΓ.get 9 rfl) 1048576 hokaA (show I64 1048576 from (by unfold I64; omega))) ?_
  intro hq1
  refine WX.run ttOk rfl ?_
  refine WX.cases 14 rfl (fun h1 => ?_) (fun h1 => ?_)
  · skip
    have h1d := B.dt h1
    refine WX.run ttOk rfl ?_
    have hP1 : laws_FnExactEqualNetworks aA aB = true := by simp only [laws_FnExactEqualNetworks, h1, cond_true, cond_false]
    refine WX.ret ttOk rfl ?_
    intro w1 G bs hI hΓ
    rw [hP1]
    exact ⟨rfl, trivial⟩
  · skip
    have h1d := B.df h1
    obtain ⟨hs1, ht1⟩ := (sz_Network_R aA 1048576 hokaA (by omega) (by omega)).pos (by omega)
    have hk1 : GoT.ok n aA := GoT.okm (Nat.zero_le n) (Sz.low hokaA (show sz aA ≤ 1048576 by omega))
    refine WX.run ttOk rfl ?_
    refine WX.callV rfl rfl rfl rfl rfl (fun _ => rfl) rfl (fun w G bs hI hΓ => f43 w 10 aB paBTopologyLinks caBTopologyLinks (hΓ.get 10 rfl) paBTrustKeys caBTrustKeys (hΓ.get 11 rfl) paBTrustRules caBTrustRules (hΓ.get 12 rfl) paBTrustAnchors caBTrustAnchors (hΓ.get 13 rfl) paBTrustCertificates caBTrustCertificates (hΓ.get 14 rfl) paBProducers caBProducers (hΓ.get 15 rfl) paBNodes caBNodes (hΓ.get 16 rfl) paBFailedLinks caBFailedLinks (hΓ.get 17 rfl) paBInFlight caBInFlight (hΓ.get 18 rfl) paBConsumers caBConsumers (hΓ.get 19 rfl) (laws_szNetwork aA 1048576) hokaB hq1) ?_
    intro hq2
    refine WX.run ttOk rfl ?_
    refine WX.cases 19 rfl (fun h2 => ?_) (fun h2 => ?_)
    · skip
      have h2d := B.dt h2
      refine WX.run ttOk rfl ?_
      have hP2 : laws_FnExactEqualNetworks aA aB = true := by simp only [laws_FnExactEqualNetworks, h1, h2, cond_true, cond_false]
      refine WX.ret ttOk rfl ?_
      intro w1 G bs hI hΓ
      rw [hP2]
      exact ⟨rfl, trivial⟩
    · skip
      have h2d := B.df h2
      obtain ⟨hs2, ht2⟩ := (sz_Network_R aB (laws_szNetwork aA 1048576) hokaB (by omega) (by omega)).pos (by omega)
      have hk2 : GoT.ok n aB := GoT.okm (Nat.zero_le n) (Sz.low hokaB (show sz aB ≤ 1048576 by omega))
      refine WX.run ttOk rfl ?_
      refine WX.draw [] mixed ?_
      intro bs G0 hΓ0
      refine DX.takes (fuel := 4) ttOk [(0, false), (2, false)] (by kernel_rfl) rfl ?_
      refine DX.callF 1 20 (fun _ _ h => GoT.ow_rd h) (fun _ f hf => GoT.fak f hf) rfl (by kernel_rfl) rfl rfl rfl rfl rfl rfl (fun _ => rfl) rfl (fun w G bs hI hΓ => f45 w n (by omega) aA paATopologyLinks caATopologyLinks (hΓ.get 0 rfl) paATrustKeys caATrustKeys (hΓ.get 1 rfl) paATrustRules caATrustRules (hΓ.get 2 rfl) paATrustAnchors caATrustAnchors (hΓ.get 3 rfl) paATrustCertificates caATrustCertificates (hΓ.get 4 rfl) paAProducers caAProducers (hΓ.get 5 rfl) paANodes caANodes (hΓ.get 6 rfl) paAFailedLinks caAFailedLinks (hΓ.get 7 rfl) paAInFlight caAInFlight (hΓ.get 8 rfl) paAConsumers caAConsumers (hΓ.get 9 rfl) hk1) (fun _ => rfl) (fun _ => rfl) ?_
      rintro ⟨⟨⟨⟩, ⟨p1, c1⟩⟩, ⟨⟨p2, c2⟩, ⟨p3, c3⟩, ⟨p4, c4⟩, ⟨p5, c5⟩⟩, ⟨p6, c6⟩, ⟨p7, c7⟩, ⟨⟩, ⟨p8, c8⟩, ⟨p9, c9⟩, ⟨p10, c10⟩, ⟨⟩, ⟨⟩⟩ hq3
      refine DX.callF 3 40 (fun _ _ h => GoT.ow_rd h) (fun _ f hf => GoT.fak f hf) rfl (by kernel_rfl) rfl rfl rfl rfl rfl rfl (fun _ => rfl) rfl (fun w G bs hI hΓ => f45 w n (by omega) aB paBTopologyLinks caBTopologyLinks (hΓ.get 10 rfl) paBTrustKeys caBTrustKeys (hΓ.get 11 rfl) paBTrustRules caBTrustRules (hΓ.get 12 rfl) paBTrustAnchors caBTrustAnchors (hΓ.get 13 rfl) paBTrustCertificates caBTrustCertificates (hΓ.get 14 rfl) paBProducers caBProducers (hΓ.get 15 rfl) paBNodes caBNodes (hΓ.get 16 rfl) paBFailedLinks caBFailedLinks (hΓ.get 17 rfl) paBInFlight caBInFlight (hΓ.get 18 rfl) paBConsumers caBConsumers (hΓ.get 19 rfl) hk2) (fun _ => rfl) (fun _ => rfl) ?_
      rintro ⟨⟨⟨⟩, ⟨p11, c11⟩⟩, ⟨⟨p12, c12⟩, ⟨p13, c13⟩, ⟨p14, c14⟩, ⟨p15, c15⟩⟩, ⟨p16, c16⟩, ⟨p17, c17⟩, ⟨⟩, ⟨p18, c18⟩, ⟨p19, c19⟩, ⟨p20, c20⟩, ⟨⟩, ⟨⟩⟩ hq4
      refine DX.callV 4 rfl (by kernel_rfl) rfl rfl rfl rfl rfl rfl (fun _ => rfl) rfl (fun w G bs hI hΓ => f44 w n (by omega) (laws_toNetwork aA) p1 c1 (hΓ.get 20 rfl) p2 c2 (hΓ.get 21 rfl) p3 c3 (hΓ.get 22 rfl) p4 c4 (hΓ.get 23 rfl) p5 c5 (hΓ.get 24 rfl) p6 c6 (hΓ.get 25 rfl) p7 c7 (hΓ.get 26 rfl) p8 c8 (hΓ.get 27 rfl) p9 c9 (hΓ.get 28 rfl) p10 c10 (hΓ.get 29 rfl) (laws_toNetwork aB) p11 c11 (hΓ.get 40 rfl) p12 c12 (hΓ.get 41 rfl) p13 c13 (hΓ.get 42 rfl) p14 c14 (hΓ.get 43 rfl) p15 c15 (hΓ.get 44 rfl) p16 c16 (hΓ.get 45 rfl) p17 c17 (hΓ.get 46 rfl) p18 c18 (hΓ.get 47 rfl) p19 c19 (hΓ.get 48 rfl) p20 c20 (hΓ.get 49 rfl) hq3 hq4) ?_
      intro hq5
      refine DX.takes (fuel := 0) ttOk [(5, true)] (by kernel_rfl) rfl ?_
      refine DX.tail2 [] rfl rfl (by kernel_rfl) ?_
      refine WX.run ttOk rfl ?_
      refine WX.callF 60 (fun _ _ h => GoT.ow_rd h) (fun _ f hf => GoT.fak f hf) rfl rfl rfl rfl rfl (fun _ => rfl) rfl (fun w G bs hI hΓ => f45 w n (by omega) aA paATopologyLinks caATopologyLinks (hΓ.get 0 rfl) paATrustKeys caATrustKeys (hΓ.get 1 rfl) paATrustRules caATrustRules (hΓ.get 2 rfl) paATrustAnchors caATrustAnchors (hΓ.get 3 rfl) paATrustCertificates caATrustCertificates (hΓ.get 4 rfl) paAProducers caAProducers (hΓ.get 5 rfl) paANodes caANodes (hΓ.get 6 rfl) paAFailedLinks caAFailedLinks (hΓ.get 7 rfl) paAInFlight caAInFlight (hΓ.get 8 rfl) paAConsumers caAConsumers (hΓ.get 9 rfl) hk1) (fun _ => rfl) (fun _ => rfl) ?_
      rintro ⟨⟨⟨⟩, ⟨p21, c21⟩⟩, ⟨⟨p22, c22⟩, ⟨p23, c23⟩, ⟨p24, c24⟩, ⟨p25, c25⟩⟩, ⟨p26, c26⟩, ⟨p27, c27⟩, ⟨⟩, ⟨p28, c28⟩, ⟨p29, c29⟩, ⟨p30, c30⟩, ⟨⟩, ⟨⟩⟩ hq6
      refine WX.run ttOk rfl ?_
      refine WX.callF 80 (fun _ _ h => GoT.ow_rd h) (fun _ f hf => GoT.fak f hf) rfl rfl rfl rfl rfl (fun _ => rfl) rfl (fun w G bs hI hΓ => f45 w n (by omega) aB paBTopologyLinks caBTopologyLinks (hΓ.get 10 rfl) paBTrustKeys caBTrustKeys (hΓ.get 11 rfl) paBTrustRules caBTrustRules (hΓ.get 12 rfl) paBTrustAnchors caBTrustAnchors (hΓ.get 13 rfl) paBTrustCertificates caBTrustCertificates (hΓ.get 14 rfl) paBProducers caBProducers (hΓ.get 15 rfl) paBNodes caBNodes (hΓ.get 16 rfl) paBFailedLinks caBFailedLinks (hΓ.get 17 rfl) paBInFlight caBInFlight (hΓ.get 18 rfl) paBConsumers caBConsumers (hΓ.get 19 rfl) hk2) (fun _ => rfl) (fun _ => rfl) ?_
      rintro ⟨⟨⟨⟩, ⟨p31, c31⟩⟩, ⟨⟨p32, c32⟩, ⟨p33, c33⟩, ⟨p34, c34⟩, ⟨p35, c35⟩⟩, ⟨p36, c36⟩, ⟨p37, c37⟩, ⟨⟩, ⟨p38, c38⟩, ⟨p39, c39⟩, ⟨p40, c40⟩, ⟨⟩, ⟨⟩⟩ hq7
      refine WX.run ttOk rfl ?_
      refine WX.callV rfl rfl rfl rfl rfl (fun _ => rfl) rfl (fun w G bs hI hΓ => f46 w n (by omega) (laws_toNetwork aA) p21 c21 (hΓ.get 60 rfl) p22 c22 (hΓ.get 61 rfl) p23 c23 (hΓ.get 62 rfl) p24 c24 (hΓ.get 63 rfl) p25 c25 (hΓ.get 64 rfl) p26 c26 (hΓ.get 65 rfl) p27 c27 (hΓ.get 66 rfl) p28 c28 (hΓ.get 67 rfl) p29 c29 (hΓ.get 68 rfl) p30 c30 (hΓ.get 69 rfl) (laws_toNetwork aB) p31 c31 (hΓ.get 80 rfl) p32 c32 (hΓ.get 81 rfl) p33 c33 (hΓ.get 82 rfl) p34 c34 (hΓ.get 83 rfl) p35 c35 (hΓ.get 84 rfl) p36 c36 (hΓ.get 85 rfl) p37 c37 (hΓ.get 86 rfl) p38 c38 (hΓ.get 87 rfl) p39 c39 (hΓ.get 88 rfl) p40 c40 (hΓ.get 89 rfl) (And.intro (And.intro (ok_Topology (ok_Network hq3).1).1 (ok_Topology (ok_Network hq6).1).2) (And.intro (ok_Network hq6).2.1 (And.intro (ok_Network hq6).2.2.1 (And.intro (ok_Network hq6).2.2.2.1 (And.intro (ok_Network hq3).2.2.2.2.1 (And.intro (ok_Network hq6).2.2.2.2.2.1 (And.intro (ok_Network hq6).2.2.2.2.2.2.1 (And.intro (ok_Network hq6).2.2.2.2.2.2.2.1 (And.intro (ok_Network hq3).2.2.2.2.2.2.2.2.1 (ok_Network hq3).2.2.2.2.2.2.2.2.2))))))))) (And.intro (And.intro (ok_Topology (ok_Network hq4).1).1 (ok_Topology (ok_Network hq7).1).2) (And.intro (ok_Network hq7).2.1 (And.intro (ok_Network hq7).2.2.1 (And.intro (ok_Network hq7).2.2.2.1 (And.intro (ok_Network hq4).2.2.2.2.1 (And.intro (ok_Network hq7).2.2.2.2.2.1 (And.intro (ok_Network hq7).2.2.2.2.2.2.1 (And.intro (ok_Network hq7).2.2.2.2.2.2.2.1 (And.intro (ok_Network hq4).2.2.2.2.2.2.2.2.1 (ok_Network hq4).2.2.2.2.2.2.2.2.2)))))))))) ?_
      intro hq8
      refine WX.run ttOk rfl ?_
      refine WX.see rfl rfl rfl (fun _ hΓ => looks_beq ttOk rfl rfl rfl rfl rfl rfl) ?_
      refine WX.run ttOk rfl ?_
      refine WX.cases 34 rfl (fun h3 => ?_) (fun h3 => ?_)
      · skip
        have h3d := (B.nt h3)
        refine WX.run ttOk rfl ?_
        have hP3 : laws_FnExactEqualNetworks aA aB = false := by simp only [laws_FnExactEqualNetworks, h1, h2, h3, cond_true, cond_false]
        refine WX.ret ttOk rfl ?_
        intro w1 G bs hI hΓ
        rw [hP3]
        exact ⟨rfl, trivial⟩
      · skip
        have h3d := (B.nf h3)
        refine WX.run ttOk rfl ?_
        refine WX.draw [] mixed ?_
        intro bs G0 hΓ0
        refine DX.takes (fuel := 3) ttOk [(0, false), (1, false)] (by kernel_rfl) rfl ?_
        refine DX.callF 2 100 (fun _ _ h => GoT.ow_rd h) (fun _ f hf => GoT.fak f hf) rfl (by kernel_rfl) rfl rfl rfl rfl rfl rfl (fun _ => rfl) rfl (fun w G bs hI hΓ => f45 w n (by omega) aA paATopologyLinks caATopologyLinks (hΓ.get 0 rfl) paATrustKeys caATrustKeys (hΓ.get 1 rfl) paATrustRules caATrustRules (hΓ.get 2 rfl) paATrustAnchors caATrustAnchors (hΓ.get 3 rfl) paATrustCertificates caATrustCertificates (hΓ.get 4 rfl) paAProducers caAProducers (hΓ.get 5 rfl) paANodes caANodes (hΓ.get 6 rfl) paAFailedLinks caAFailedLinks (hΓ.get 7 rfl) paAInFlight caAInFlight (hΓ.get 8 rfl) paAConsumers caAConsumers (hΓ.get 9 rfl) hk1) (fun _ => rfl) (fun _ => rfl) ?_
        rintro ⟨⟨⟨⟩, ⟨p41, c41⟩⟩, ⟨⟨p42, c42⟩, ⟨p43, c43⟩, ⟨p44, c44⟩, ⟨p45, c45⟩⟩, ⟨p46, c46⟩, ⟨p47, c47⟩, ⟨⟩, ⟨p48, c48⟩, ⟨p49, c49⟩, ⟨p50, c50⟩, ⟨⟩, ⟨⟩⟩ hq9
        refine DX.callV 3 rfl (by kernel_rfl) rfl rfl rfl rfl rfl rfl (fun _ => rfl) rfl (fun w G bs hI hΓ => f47 w n (by omega) (laws_toNetwork aA) p21 c21 (hΓ.get 60 rfl) p22 c22 (hΓ.get 61 rfl) p23 c23 (hΓ.get 62 rfl) p24 c24 (hΓ.get 63 rfl) p25 c25 (hΓ.get 64 rfl) p26 c26 (hΓ.get 65 rfl) p27 c27 (hΓ.get 66 rfl) p28 c28 (hΓ.get 67 rfl) p29 c29 (hΓ.get 68 rfl) p30 c30 (hΓ.get 69 rfl) (laws_toNetwork aA) p41 c41 (hΓ.get 100 rfl) p42 c42 (hΓ.get 101 rfl) p43 c43 (hΓ.get 102 rfl) p44 c44 (hΓ.get 103 rfl) p45 c45 (hΓ.get 104 rfl) p46 c46 (hΓ.get 105 rfl) p47 c47 (hΓ.get 106 rfl) p48 c48 (hΓ.get 107 rfl) p49 c49 (hΓ.get 108 rfl) p50 c50 (hΓ.get 109 rfl) (And.intro (And.intro (ok_Topology (ok_Network hq3).1).1 (ok_Topology (ok_Network hq6).1).2) (And.intro (ok_Network hq6).2.1 (And.intro (ok_Network hq6).2.2.1 (And.intro (ok_Network hq6).2.2.2.1 (And.intro (ok_Network hq3).2.2.2.2.1 (And.intro (ok_Network hq6).2.2.2.2.2.1 (And.intro (ok_Network hq6).2.2.2.2.2.2.1 (And.intro (ok_Network hq6).2.2.2.2.2.2.2.1 (And.intro (ok_Network hq3).2.2.2.2.2.2.2.2.1 (ok_Network hq3).2.2.2.2.2.2.2.2.2))))))))) (And.intro (And.intro (ok_Topology (ok_Network hq3).1).1 (ok_Topology (ok_Network hq9).1).2) (And.intro (ok_Network hq9).2.1 (And.intro (ok_Network hq9).2.2.1 (And.intro (ok_Network hq9).2.2.2.1 (And.intro (ok_Network hq3).2.2.2.2.1 (And.intro (ok_Network hq9).2.2.2.2.2.1 (And.intro (ok_Network hq9).2.2.2.2.2.2.1 (And.intro (ok_Network hq9).2.2.2.2.2.2.2.1 (And.intro (ok_Network hq3).2.2.2.2.2.2.2.2.1 (ok_Network hq3).2.2.2.2.2.2.2.2.2)))))))))) ?_
        intro hq10
        refine DX.takes (fuel := 0) ttOk [(4, true)] (by kernel_rfl) rfl ?_
        refine DX.tail2 [] rfl rfl (by kernel_rfl) ?_
        refine WX.run ttOk rfl ?_
        refine WX.cases 39 rfl (fun h4 => ?_) (fun h4 => ?_)
        · skip
          have h4d := (B.nt h4)
          refine WX.run ttOk rfl ?_
          have hP4 : laws_FnExactEqualNetworks aA aB = false := by simp only [laws_FnExactEqualNetworks, h1, h2, h3, h4, cond_true, cond_false]
          refine WX.ret ttOk rfl ?_
          intro w1 G bs hI hΓ
          rw [hP4]
          exact ⟨rfl, trivial⟩
        · skip
          have h4d := (B.nf h4)
          refine WX.run ttOk rfl ?_
          refine WX.draw [] mixed ?_
          intro bs G0 hΓ0
          refine DX.takes (fuel := 3) ttOk [(0, false), (1, false)] (by kernel_rfl) rfl ?_
          refine DX.callF 2 120 (fun _ _ h => GoT.ow_rd h) (fun _ f hf => GoT.fak f hf) rfl (by kernel_rfl) rfl rfl rfl rfl rfl rfl (fun _ => rfl) rfl (fun w G bs hI hΓ => f45 w n (by omega) aB paBTopologyLinks caBTopologyLinks (hΓ.get 10 rfl) paBTrustKeys caBTrustKeys (hΓ.get 11 rfl) paBTrustRules caBTrustRules (hΓ.get 12 rfl) paBTrustAnchors caBTrustAnchors (hΓ.get 13 rfl) paBTrustCertificates caBTrustCertificates (hΓ.get 14 rfl) paBProducers caBProducers (hΓ.get 15 rfl) paBNodes caBNodes (hΓ.get 16 rfl) paBFailedLinks caBFailedLinks (hΓ.get 17 rfl) paBInFlight caBInFlight (hΓ.get 18 rfl) paBConsumers caBConsumers (hΓ.get 19 rfl) hk2) (fun _ => rfl) (fun _ => rfl) ?_
          rintro ⟨⟨⟨⟩, ⟨p51, c51⟩⟩, ⟨⟨p52, c52⟩, ⟨p53, c53⟩, ⟨p54, c54⟩, ⟨p55, c55⟩⟩, ⟨p56, c56⟩, ⟨p57, c57⟩, ⟨⟩, ⟨p58, c58⟩, ⟨p59, c59⟩, ⟨p60, c60⟩, ⟨⟩, ⟨⟩⟩ hq11
          refine DX.callV 3 rfl (by kernel_rfl) rfl rfl rfl rfl rfl rfl (fun _ => rfl) rfl (fun w G bs hI hΓ => f47 w n (by omega) (laws_toNetwork aB) p31 c31 (hΓ.get 80 rfl) p32 c32 (hΓ.get 81 rfl) p33 c33 (hΓ.get 82 rfl) p34 c34 (hΓ.get 83 rfl) p35 c35 (hΓ.get 84 rfl) p36 c36 (hΓ.get 85 rfl) p37 c37 (hΓ.get 86 rfl) p38 c38 (hΓ.get 87 rfl) p39 c39 (hΓ.get 88 rfl) p40 c40 (hΓ.get 89 rfl) (laws_toNetwork aB) p51 c51 (hΓ.get 120 rfl) p52 c52 (hΓ.get 121 rfl) p53 c53 (hΓ.get 122 rfl) p54 c54 (hΓ.get 123 rfl) p55 c55 (hΓ.get 124 rfl) p56 c56 (hΓ.get 125 rfl) p57 c57 (hΓ.get 126 rfl) p58 c58 (hΓ.get 127 rfl) p59 c59 (hΓ.get 128 rfl) p60 c60 (hΓ.get 129 rfl) (And.intro (And.intro (ok_Topology (ok_Network hq4).1).1 (ok_Topology (ok_Network hq7).1).2) (And.intro (ok_Network hq7).2.1 (And.intro (ok_Network hq7).2.2.1 (And.intro (ok_Network hq7).2.2.2.1 (And.intro (ok_Network hq4).2.2.2.2.1 (And.intro (ok_Network hq7).2.2.2.2.2.1 (And.intro (ok_Network hq7).2.2.2.2.2.2.1 (And.intro (ok_Network hq7).2.2.2.2.2.2.2.1 (And.intro (ok_Network hq4).2.2.2.2.2.2.2.2.1 (ok_Network hq4).2.2.2.2.2.2.2.2.2))))))))) (And.intro (And.intro (ok_Topology (ok_Network hq4).1).1 (ok_Topology (ok_Network hq11).1).2) (And.intro (ok_Network hq11).2.1 (And.intro (ok_Network hq11).2.2.1 (And.intro (ok_Network hq11).2.2.2.1 (And.intro (ok_Network hq4).2.2.2.2.1 (And.intro (ok_Network hq11).2.2.2.2.2.1 (And.intro (ok_Network hq11).2.2.2.2.2.2.1 (And.intro (ok_Network hq11).2.2.2.2.2.2.2.1 (And.intro (ok_Network hq4).2.2.2.2.2.2.2.2.1 (ok_Network hq4).2.2.2.2.2.2.2.2.2)))))))))) ?_
          intro hq12
          refine DX.takes (fuel := 0) ttOk [(4, true)] (by kernel_rfl) rfl ?_
          refine DX.tail2 [] rfl rfl (by kernel_rfl) ?_
          refine WX.run ttOk rfl ?_
          refine WX.cases 44 rfl (fun h5 => ?_) (fun h5 => ?_)
          · skip
            have h5d := (B.nt h5)
            refine WX.run ttOk rfl ?_
            have hP5 : laws_FnExactEqualNetworks aA aB = false := by simp only [laws_FnExactEqualNetworks, h1, h2, h3, h4, h5, cond_true, cond_false]
            refine WX.ret ttOk rfl ?_
            intro w1 G bs hI hΓ
            rw [hP5]
            exact ⟨rfl, trivial⟩
          · skip
            have h5d := (B.nf h5)
            refine WX.run ttOk rfl ?_
            have hP6 : laws_FnExactEqualNetworks aA aB = true := by simp only [laws_FnExactEqualNetworks, h1, h2, h3, h4, h5, cond_true, cond_false]
            refine WX.ret ttOk rfl ?_
            intro w1 G bs hI hΓ
            rw [hP6]
            exact ⟨rfl, trivial⟩
end Go.Proofs.YtfffongneoegbaaGreat

namespace Go.Stp
set_option linter.unusedVariables false
set_option linter.unusedSimpArgs false
inductive PutShape (l : List TableEntry) (n_ : Name) (v : Int) : List TableEntry → Prop
  | same : PutShape l n_ v l
  | nil : PutShape l n_ v []
  | set (i : Nat) (e : TableEntry) (h : l[i]? = some e) : PutShape l n_ v (l.set i ⟨e.name, v⟩)
  | ins (i : Nat) : PutShape l n_ v (l.take i ++ [⟨n_, v⟩] ++ l.drop i)
theorem PutShape.len {l r : List TableEntry} {n_ : Name} {v : Int} (h : PutShape l n_ v r) : r.length ≤ l.length + 1 := by
  cases h with
  | same => exact Nat.le_succ _
  | nil => exact Nat.zero_le _
  | set i e h => rw [List.length_set]; exact Nat.le_succ _
  | ins i => simp only [List.length_append, List.length_take, List.length_drop, List.length_cons, List.length_nil]; omega
end Go.Stp

namespace Go.Stp
set_option linter.unusedVariables false
set_option linter.unusedSimpArgs false
inductive ApShape (m : Member) (x_ : Publication) : Member → Prop
  | same : ApShape m x_ m
  | put (l : List TableEntry) (h : PutShape m.vector.entries x_.publisher x_.seq l) : ApShape m x_ ⟨m.name, ⟨l⟩, m.publications ++ [x_]⟩
end Go.Stp

namespace Go.Stp
set_option linter.unusedVariables false
set_option linter.unusedSimpArgs false
theorem sEqL_string : ∀ (a b p : List Str), a.length = b.length → slices_Equal_string_L1 (p ++ b) a p.length = (if a.map (fun z : Str => z.toList) = b.map (fun z : Str => z.toList) then none else some false)
  | [], [], p, _ => by simp [slices_Equal_string_L1]
  | x :: a, y :: b, p, h => by
    have ih := sEqL_string a b (p ++ [y]) (by simpa using h)
    rw [mid_app, mid_len] at ih
    simp only [slices_Equal_string_L1, mid]
    by_cases hxy : x.toList = y.toList
    · simp [hxy, ih]
    · have hb : (x.toList == y.toList) = false := by simpa using hxy
      simp [hb, hxy]
theorem sEq_string (a b : List Str) : slices_Equal_string a b = decide (a.map (fun z : Str => z.toList) = b.map (fun z : Str => z.toList)) := by
  unfold slices_Equal_string
  by_cases hl : a.length = b.length
  · have h := sEqL_string a b [] hl
    simp only [List.nil_append, List.length_nil] at h
    simp only [hl, bne_self_F, cond_false, h]
    split <;> simp_all
  · have hne : a.map (fun z : Str => z.toList) ≠ b.map (fun z : Str => z.toList) := fun h => hl (by simpa using congrArg List.length h)
    have hn : ((a.length : Int) != (b.length : Int)) = true := by simp; omega
    simp [hn, hne]
theorem sEqL_byte : ∀ (a b p : List UInt8), a.length = b.length → slices_Equal_byte_L1 (p ++ b) a p.length = (if a = b then none else some false)
  | [], [], p, _ => by simp [slices_Equal_byte_L1]
  | x :: a, y :: b, p, h => by
    have ih := sEqL_byte a b (p ++ [y]) (by simpa using h)
    rw [mid_app, mid_len] at ih
    simp only [slices_Equal_byte_L1, mid]
    by_cases hxy : x = y
    · simp [hxy, ih]
    · have hn : ((x.toNat : Int) != (y.toNat : Int)) = true := by
        have : x.toNat ≠ y.toNat := fun h => hxy (UInt8.toNat_inj.mp h)
        simp; omega
      simp [hn, hxy]
theorem sEq_byte (a b : List UInt8) : slices_Equal_byte a b = decide (a = b) := by
  unfold slices_Equal_byte
  by_cases hl : a.length = b.length
  · have h := sEqL_byte a b [] hl
    simp only [List.nil_append, List.length_nil] at h
    simp only [hl, bne_self_F, cond_false, h]
    split <;> simp_all
  · have hne : a ≠ b := fun h => hl (by rw [h])
    have hn : ((a.length : Int) != (b.length : Int)) = true := by simp; omega
    simp [hn, hne]
theorem cNL : ∀ (a b p : List Str), match spec_CompareNames_L1 ⟨p ++ b⟩ a p.length with
    | some k => k ≠ 0 ∧ a.map (fun z : Str => z.toList) ≠ b.map (fun z : Str => z.toList)
    | none => a.length = b.length → a.map (fun z : Str => z.toList) = b.map (fun z : Str => z.toList)
  | [], b, p => by
    simp only [spec_CompareNames_L1]
    intro h
    cases b with
    | nil => rfl
    | cons => simp at h
  | x :: a, [], p => by simp [spec_CompareNames_L1]
  | x :: a, y :: b, p => by
    have ih := cNL a b (p ++ [y])
    rw [mid_app, mid_len] at ih
    have hlt : decide (((p.length : Nat) : Int) < (((p ++ y :: b).length : Nat) : Int)) = true := by simp; omega
    simp only [spec_CompareNames_L1, hlt, cond_true, mid]
    by_cases hk : spec_l4Cmp x y = 0
    · have e : x.toList = y.toList := (l4_zero _ _).1 hk
      rw [hk]
      simp only [bne_self_F, cond_false]
      revert ih
      cases spec_CompareNames_L1 ⟨p ++ y :: b⟩ a (p.length + 1) with
      | none => intro ih h; simp [e, ih (by simpa using h)]
      | some k => intro ih; exact ⟨ih.1, fun h => ih.2 (by simpa [e] using h)⟩
    · have hn : (spec_l4Cmp x y != 0) = true := by simpa using hk
      simp only [hn, cond_true]
      exact ⟨hk, fun h => hk ((l4_zero _ _).2 (by simp at h; exact h.1))⟩
theorem same_EqualNames (a b : Name) : impl_EqualNames a b = spec_EqualNames a b := by
  unfold impl_EqualNames spec_EqualNames spec_CompareNames
  rw [sEq_string]
  have h : match spec_CompareNames_L1 b a.parts 0 with
    | some k => k ≠ 0 ∧ a.parts.map (fun z : Str => z.toList) ≠ b.parts.map (fun z : Str => z.toList)
    | none => a.parts.length = b.parts.length → a.parts.map (fun z : Str => z.toList) = b.parts.map (fun z : Str => z.toList) := cNL a.parts b.parts []
  revert h
  cases spec_CompareNames_L1 b a.parts 0 with
  | some k => intro ⟨h1, h2⟩; simp [h1, h2]
  | none =>
    intro h
    by_cases hl : a.parts.length = b.parts.length
    · simp [h hl, hl]
    · have ne : a.parts.map (fun z : Str => z.toList) ≠ b.parts.map (fun z : Str => z.toList) := fun h => hl (by simpa using congrArg List.length h)
      rcases Nat.lt_or_gt_of_ne hl with c | c
      · simp [ne, c]
      · have c' : ¬ a.parts.length < b.parts.length := by omega
        simp [ne, c, c']
theorem same_EqualBytes (a b : List UInt8) : slices_Equal_byte a b = spec_EqualBytes a b := by
  rw [sEq_byte]
  unfold spec_EqualBytes bstr
  rw [ByteArray.toList_mk, ByteArray.toList_mk]
  by_cases e : a = b
  · simp [e]
  · have hb : (a == b) = false := by simpa using e
    simp [hb, e]
theorem same_EqualData (a b : DataP) : impl_EqualData a b = spec_EqualData a b := by
  simp only [impl_EqualData, spec_EqualData, same_EqualNames, same_EqualBytes]
theorem same_EqualConsumers' (a b : Consumer) : impl_EqualConsumers a b = spec_EqualConsumers a b := by
  simp only [impl_EqualConsumers, spec_EqualConsumers, same_EqualNames, same_EqualData]
theorem eTL (b : List TableEntry) : ∀ (r : List TableEntry) (i : Nat), slices_EqualFunc_TableEntry_L1 (fun e0_ e1_ => impl_EqualTables_c1 e0_ e1_) b r i = spec_EqualTables_L1 b r i
  | [], i => rfl
  | x :: r, i => by
    have ih := eTL b r (i + 1)
    simp only [slices_EqualFunc_TableEntry_L1, spec_EqualTables_L1]
    cases hb : b[i]? with
    | none => rfl
    | some e2 =>
      have h : impl_EqualTables_c1 x e2 = (bif spec_EqualNames x.name e2.name then (x.value == e2.value) else false) := by rw [← same_EqualNames]; rfl
      simp only [h, bne]
      cases spec_EqualNames x.name e2.name <;> cases (x.value == e2.value) <;> first | rfl | exact ih
theorem same_EqualTables (a b : List TableEntry) : impl_EqualTables a b = spec_EqualTables a b := by
  unfold impl_EqualTables slices_EqualFunc_TableEntry spec_EqualTables
  rw [eTL] <;> (cases spec_EqualTables_L1 b a 0 <;> rfl)
theorem same_EqualInterests (a b : Interest) : impl_EqualInterests a b = spec_EqualInterests a b := by
  simp only [impl_EqualInterests, spec_EqualInterests, same_EqualNames]
theorem szL_append {α : Type} [GoT α] [Sz α] (a b : List α) : szL (a ++ b) = szL a + szL b := by simp [szL]
theorem szL_set {α : Type} [GoT α] [Sz α] (x y : α) (hxy : sz x = sz y) : ∀ (l : List α) (i : Nat), l[i]? = some y → szL (l.set i x) = szL l
  | [], i, h => by simp at h
  | z :: l, 0, h => by
    simp at h; subst h
    rw [List.set_cons_zero, szL_cons, szL_cons, hxy]
  | z :: l, i + 1, h => by
    rw [List.set_cons_succ, szL_cons, szL_cons, szL_set x y hxy l i (by simpa using h)]
theorem PutShape.size {l r : List TableEntry} {n_ : Name} {v : Int} (h : PutShape l n_ v r) : sz r ≤ sz l + 1 + sz n_ := by
  cases h with
  | same => omega
  | nil => simp [sz_list, szL_nil]
  | set i e h =>
    have := szL_set ⟨e.name, v⟩ e (by rw [sz_TableEntry, sz_TableEntry]) l i h
    rw [sz_list, sz_list, List.length_set, this]; omega
  | ins i =>
    have h1 := szL_append (l.take i) (l.drop i)
    rw [List.take_append_drop] at h1
    have h2 : szL [(⟨n_, v⟩ : TableEntry)] = sz n_ := by simp [szL, sz_TableEntry]
    rw [sz_list, sz_list, szL_append, szL_append, h2]
    simp only [List.length_append, List.length_take, List.length_drop, List.length_cons, List.length_nil]
    omega
theorem nt_Key (q : Key → Key → Bool) (s2 : List Key) : ∀ (r : List Key) (i : Nat), slices_EqualFunc_Key_L1 q s2 r i = none ∨ slices_EqualFunc_Key_L1 q s2 r i = some false
  | [], i => .inl rfl
  | x :: r, i => by
    simp only [slices_EqualFunc_Key_L1]
    cases s2[i]? with
    | none => exact .inl rfl
    | some e2 =>
      cases h : q x e2
      · simp only [h]; exact .inr rfl
      · simp only [h]; exact nt_Key q s2 r (i + 1)
theorem nt_Rule (q : Rule → Rule → Bool) (s2 : List Rule) : ∀ (r : List Rule) (i : Nat), slices_EqualFunc_Rule_L1 q s2 r i = none ∨ slices_EqualFunc_Rule_L1 q s2 r i = some false
  | [], i => .inl rfl
  | x :: r, i => by
    simp only [slices_EqualFunc_Rule_L1]
    cases s2[i]? with
    | none => exact .inl rfl
    | some e2 =>
      cases h : q x e2
      · simp only [h]; exact .inr rfl
      · simp only [h]; exact nt_Rule q s2 r (i + 1)
theorem nt_Name (q : Name → Name → Bool) (s2 : List Name) : ∀ (r : List Name) (i : Nat), slices_EqualFunc_Name_L1 q s2 r i = none ∨ slices_EqualFunc_Name_L1 q s2 r i = some false
  | [], i => .inl rfl
  | x :: r, i => by
    simp only [slices_EqualFunc_Name_L1]
    cases s2[i]? with
    | none => exact .inl rfl
    | some e2 =>
      cases h : q x e2
      · simp only [h]; exact .inr rfl
      · simp only [h]; exact nt_Name q s2 r (i + 1)
theorem nt_Node (q : NodeP → NodeP → Bool) (s2 : List NodeP) : ∀ (r : List NodeP) (i : Nat), slices_EqualFunc_Node_L1 q s2 r i = none ∨ slices_EqualFunc_Node_L1 q s2 r i = some false
  | [], i => .inl rfl
  | x :: r, i => by
    simp only [slices_EqualFunc_Node_L1]
    cases s2[i]? with
    | none => exact .inl rfl
    | some e2 =>
      cases h : q x e2
      · simp only [h]; exact .inr rfl
      · simp only [h]; exact nt_Node q s2 r (i + 1)
theorem nt_PacketInFlight (q : PacketInFlight → PacketInFlight → Bool) (s2 : List PacketInFlight) : ∀ (r : List PacketInFlight) (i : Nat), slices_EqualFunc_PacketInFlight_L1 q s2 r i = none ∨ slices_EqualFunc_PacketInFlight_L1 q s2 r i = some false
  | [], i => .inl rfl
  | x :: r, i => by
    simp only [slices_EqualFunc_PacketInFlight_L1]
    cases s2[i]? with
    | none => exact .inl rfl
    | some e2 =>
      cases h : q x e2
      · simp only [h]; exact .inr rfl
      · simp only [h]; exact nt_PacketInFlight q s2 r (i + 1)
theorem nt_Consumer (q : Consumer → Consumer → Bool) (s2 : List Consumer) : ∀ (r : List Consumer) (i : Nat), slices_EqualFunc_Consumer_L1 q s2 r i = none ∨ slices_EqualFunc_Consumer_L1 q s2 r i = some false
  | [], i => .inl rfl
  | x :: r, i => by
    simp only [slices_EqualFunc_Consumer_L1]
    cases s2[i]? with
    | none => exact .inl rfl
    | some e2 =>
      cases h : q x e2
      · simp only [h]; exact .inr rfl
      · simp only [h]; exact nt_Consumer q s2 r (i + 1)
theorem same_EqualRules (a b : Rule) : impl_EqualRules a b = spec_EqualRules a b := by
  simp only [impl_EqualRules, spec_EqualRules, spec_l10SamePat, ← same_EqualNames, impl_EqualNames]
theorem eqKey (b : TrustPolicy) : ∀ (r : List Key) (i : Nat), slices_EqualFunc_Key_L1 (fun e0_ e1_ => (impl_equalTrust_c1 e0_ e1_)) (b.keys) r i = spec_l32SameTrust_L1 b r i
  | [], i => rfl
  | x :: r, i => by
    have ih := eqKey b r (i + 1)
    simp only [slices_EqualFunc_Key_L1, spec_l32SameTrust_L1]
    cases hb : (b.keys)[i]? with
    | none => rfl
    | some e2 =>
      rw [ih]
      simp only [impl_equalTrust_c1, same_EqualNames, bne]
      cases (x.secret == e2.secret) <;> cases (spec_EqualNames x.name e2.name) <;> rfl
theorem eqRule (b : TrustPolicy) : ∀ (r : List Rule) (i : Nat), slices_EqualFunc_Rule_L1 (fun e0_ e1_ => (impl_EqualRules e0_ e1_)) (b.rules) r i = spec_l32SameTrust_L2 b r i
  | [], i => rfl
  | x :: r, i => by
    have ih := eqRule b r (i + 1)
    simp only [slices_EqualFunc_Rule_L1, spec_l32SameTrust_L2]
    cases hb : (b.rules)[i]? with
    | none => rfl
    | some e2 =>
      rw [ih]
      simp only [same_EqualRules, bne]
theorem eqName (b : TrustPolicy) : ∀ (r : List Name) (i : Nat), slices_EqualFunc_Name_L1 (fun e0_ e1_ => (impl_EqualNames e0_ e1_)) (b.anchors) r i = spec_l32SameTrust_L3 b r i
  | [], i => rfl
  | x :: r, i => by
    have ih := eqName b r (i + 1)
    simp only [slices_EqualFunc_Name_L1, spec_l32SameTrust_L3]
    cases hb : (b.anchors)[i]? with
    | none => rfl
    | some e2 =>
      rw [ih]
      simp only [same_EqualNames, bne]
theorem eqData (b : List DataP) : ∀ (r : List DataP) (i : Nat), slices_EqualFunc_Data_L1 (fun e0_ e1_ => (impl_EqualData e0_ e1_)) (b) r i = spec_l16SameThings_L1 b r i
  | [], i => rfl
  | x :: r, i => by
    have ih := eqData b r (i + 1)
    simp only [slices_EqualFunc_Data_L1, spec_l16SameThings_L1]
    cases hb : (b)[i]? with
    | none => rfl
    | some e2 =>
      rw [ih]
      simp only [same_EqualData, bne]
theorem eqCE (b : ContentStore) : ∀ (r : List CacheEntry) (i : Nat), slices_EqualFunc_CacheEntry_L1 (fun e0_ e1_ => (impl_EqualContentStores_c1 e0_ e1_)) (b.entries) r i = spec_EqualContentStores_L1 b r i
  | [], i => rfl
  | x :: r, i => by
    have ih := eqCE b r (i + 1)
    simp only [slices_EqualFunc_CacheEntry_L1, spec_EqualContentStores_L1]
    cases hb : (b.entries)[i]? with
    | none => rfl
    | some e2 =>
      rw [ih]
      simp only [impl_EqualContentStores_c1, same_EqualData, bne]
      cases (x.lastUsed == e2.lastUsed) <;> cases (spec_EqualData x.data e2.data) <;> rfl
theorem eqSeen (b : List SeenNonce) : ∀ (r : List SeenNonce) (i : Nat), slices_EqualFunc_SeenNonce_L1 (fun e0_ e1_ => (impl_EqualNodes_c1 e0_ e1_)) (b) r i = spec_l16SameSeen_L1 b r i
  | [], i => rfl
  | x :: r, i => by
    have ih := eqSeen b r (i + 1)
    simp only [slices_EqualFunc_SeenNonce_L1, spec_l16SameSeen_L1]
    cases hb : (b)[i]? with
    | none => rfl
    | some e2 =>
      rw [ih]
      simp only [impl_EqualNodes_c1, same_EqualNames, bne]
      cases (x.nonce == e2.nonce) <;> cases (spec_EqualNames x.name e2.name) <;> rfl
theorem eqRoute (b : List Route) : ∀ (r : List Route) (i : Nat), slices_EqualFunc_Route_L1 (fun e0_ e1_ => (impl_EqualRoutes_c1 e0_ e1_)) (b) r i = spec_EqualRoutes_L1 b r i
  | [], i => rfl
  | x :: r, i => by
    have ih := eqRoute b r (i + 1)
    simp only [slices_EqualFunc_Route_L1, spec_EqualRoutes_L1]
    cases hb : (b)[i]? with
    | none => rfl
    | some e2 =>
      rw [ih]
      simp only [impl_EqualRoutes_c1, same_EqualNames, bne]
      cases (x.face == e2.face) <;> cases (x.cost == e2.cost) <;> cases (spec_EqualNames x.pfx e2.pfx) <;> rfl
theorem eqMeas (b : List Measurement) : ∀ (r : List Measurement) (i : Nat), slices_EqualFunc_Measurement_L1 (fun e0_ e1_ => (impl_EqualMeasurements_c1 e0_ e1_)) (b) r i = spec_EqualMeasurements_L1 b r i
  | [], i => rfl
  | x :: r, i => by
    have ih := eqMeas b r (i + 1)
    simp only [slices_EqualFunc_Measurement_L1, spec_EqualMeasurements_L1]
    cases hb : (b)[i]? with
    | none => rfl
    | some e2 =>
      rw [ih]
      simp only [impl_EqualMeasurements_c1, same_EqualNames, bne]
      cases (x.face == e2.face) <;> cases (x.failures == e2.failures) <;> cases (spec_EqualNames x.pfx e2.pfx) <;> rfl
theorem same_Things (a b : List DataP) : slices_EqualFunc_Data a b (fun e0_ e1_ => (impl_EqualData e0_ e1_)) = spec_l16SameThings a b := by
  unfold slices_EqualFunc_Data spec_l16SameThings
  rw [eqData] <;> (cases spec_l16SameThings_L1 b a 0 <;> rfl)
theorem same_Seen (a b : List SeenNonce) : slices_EqualFunc_SeenNonce a b (fun e0_ e1_ => (impl_EqualNodes_c1 e0_ e1_)) = spec_l16SameSeen a b := by
  unfold slices_EqualFunc_SeenNonce spec_l16SameSeen
  rw [eqSeen] <;> (cases spec_l16SameSeen_L1 b a 0 <;> rfl)
theorem same_EqualRoutes (a b : List Route) : impl_EqualRoutes a b = spec_EqualRoutes a b := by
  unfold impl_EqualRoutes slices_EqualFunc_Route spec_EqualRoutes
  rw [eqRoute] <;> (cases spec_EqualRoutes_L1 b a 0 <;> rfl)
theorem same_EqualMeasurements (a b : List Measurement) : impl_EqualMeasurements a b = spec_EqualMeasurements a b := by
  unfold impl_EqualMeasurements slices_EqualFunc_Measurement spec_EqualMeasurements
  rw [eqMeas] <;> (cases spec_EqualMeasurements_L1 b a 0 <;> rfl)
theorem same_EqualContentStores (a b : ContentStore) : impl_EqualContentStores a b = spec_EqualContentStores a b := by
  simp only [impl_EqualContentStores, slices_EqualFunc_CacheEntry, spec_EqualContentStores, eqCE, bne]
  cases (a.capacity == b.capacity) <;> cases ((((a.entries).length : Nat) : Int) == (((b.entries).length : Nat) : Int)) <;> cases spec_EqualContentStores_L1 b a.entries 0 <;> rfl
theorem eqReq (e1 e2 : PendingInterest) (hl : e1.requesters.length = e2.requesters.length) : ∀ (m i : Nat), e1.requesters.length - i = m → i ≤ e1.requesters.length → (slices_Equal_Requester_L1 e2.requesters (e1.requesters.drop i) i = none ∧ (∃ j, spec_EqualPending_L2 e1 e2 i = .nxt j)) ∨ (slices_Equal_Requester_L1 e2.requesters (e1.requesters.drop i) i = some false ∧ spec_EqualPending_L2 e1 e2 i = .ret false)
  | 0, i, hm, hi => by
    left
    rw [List.drop_eq_nil_of_le (by omega), spec_EqualPending_L2, if_neg (by omega)]
    exact ⟨rfl, i, rfl⟩
  | m + 1, i, hm, hi => by
    have h1 : i < e1.requesters.length := by omega
    have h2 : i < e2.requesters.length := by omega
    have ih := eqReq e1 e2 hl m (i + 1) (by omega) (by omega)
    obtain ⟨x, hx⟩ : ∃ x, e1.requesters[i]? = some x := ⟨_, List.getElem?_eq_getElem h1⟩
    obtain ⟨y, hy⟩ : ∃ y, e2.requesters[i]? = some y := ⟨_, List.getElem?_eq_getElem h2⟩
    rw [drop_get hx, spec_EqualPending_L2, if_pos (by omega)]
    simp only [slices_Equal_Requester_L1, hx, hy]
    cases h : (bif (x.face == y.face) then (bif (x.nonce == y.nonce) then (x.expiry == y.expiry) else false) else false)
    · exact .inr ⟨rfl, rfl⟩
    · exact ih
theorem eqPend (b : List PendingInterest) : ∀ (r : List PendingInterest) (i : Nat), slices_EqualFunc_PendingInterest_L1 (fun e0_ e1_ => (impl_EqualPending_c1 e0_ e1_)) b r i = spec_EqualPending_L1 b r i
  | [], i => rfl
  | x :: r, i => by
    have ih := eqPend b r (i + 1)
    simp only [slices_EqualFunc_PendingInterest_L1, spec_EqualPending_L1]
    cases hb : b[i]? with
    | none => rfl
    | some e2 =>
      rw [ih]
      simp only [impl_EqualPending_c1, same_EqualNames, slices_Equal_Requester, bne]
      cases hl : ((((x.requesters).length : Nat) : Int) == (((e2.requesters).length : Nat) : Int))
      · cases (x.lastSent == e2.lastSent) <;> cases (spec_EqualNames x.name e2.name) <;> rfl
      · have hl' : x.requesters.length = e2.requesters.length := by have := eq_of_beq hl; omega
        have hq := eqReq x e2 hl' x.requesters.length 0 (Nat.sub_zero _) (Nat.zero_le _)
        rw [List.drop_zero] at hq
        rcases hq with ⟨h1, j, h2⟩ | ⟨h1, h2⟩
        · rw [h1, h2]
          cases (x.lastSent == e2.lastSent) <;> cases (spec_EqualNames x.name e2.name) <;> rfl
        · rw [h1, h2]
          cases (x.lastSent == e2.lastSent) <;> cases (spec_EqualNames x.name e2.name) <;> rfl
theorem same_EqualPending (a b : List PendingInterest) : impl_EqualPending a b = spec_EqualPending a b := by
  unfold impl_EqualPending slices_EqualFunc_PendingInterest spec_EqualPending
  rw [eqPend] <;> (cases spec_EqualPending_L1 b a 0 <;> rfl)
theorem same_EqualNodes (a b : NodeP) : impl_EqualNodes a b = spec_EqualNodes a b := by
  simp only [impl_EqualNodes, spec_EqualNodes, same_Things, same_EqualContentStores, same_EqualPending, same_Seen, same_EqualRoutes, same_EqualMeasurements]
theorem same_equalPackets (a b : PacketInFlight) : impl_equalPackets a b = spec_l32SameFly a b := by
  simp only [impl_equalPackets, spec_l32SameFly, same_EqualInterests, same_EqualData]
theorem eqNode (b : Network) : ∀ (r : List NodeP) (i : Nat), slices_EqualFunc_Node_L1 (fun e0_ e1_ => (impl_EqualNodes e0_ e1_)) (b.nodes) r i = spec_EqualNetworks_L1 b r i
  | [], i => rfl
  | x :: r, i => by
    have ih := eqNode b r (i + 1)
    simp only [slices_EqualFunc_Node_L1, spec_EqualNetworks_L1]
    cases hb : (b.nodes)[i]? with
    | none => rfl
    | some e2 =>
      rw [ih]
      simp only [same_EqualNodes, bne]
theorem eqFly (b : Network) : ∀ (r : List PacketInFlight) (i : Nat), slices_EqualFunc_PacketInFlight_L1 (fun e0_ e1_ => (impl_equalPackets e0_ e1_)) (b.inFlight) r i = spec_EqualNetworks_L2 b r i
  | [], i => rfl
  | x :: r, i => by
    have ih := eqFly b r (i + 1)
    simp only [slices_EqualFunc_PacketInFlight_L1, spec_EqualNetworks_L2]
    cases hb : (b.inFlight)[i]? with
    | none => rfl
    | some e2 =>
      rw [ih]
      simp only [same_equalPackets, bne]
theorem eqCons (b : Network) : ∀ (r : List Consumer) (i : Nat), slices_EqualFunc_Consumer_L1 (fun e0_ e1_ => (impl_EqualConsumers e0_ e1_)) (b.consumers) r i = spec_EqualNetworks_L3 b r i
  | [], i => rfl
  | x :: r, i => by
    have ih := eqCons b r (i + 1)
    simp only [slices_EqualFunc_Consumer_L1, spec_EqualNetworks_L3]
    cases hb : (b.consumers)[i]? with
    | none => rfl
    | some e2 =>
      rw [ih]
      simp only [same_EqualConsumers', bne]
theorem same_equalTrust (a b : TrustPolicy) : impl_equalTrust a b = spec_l32SameTrust a b := by
  have n1 := nt_Key (fun e0_ e1_ => (impl_equalTrust_c1 e0_ e1_)) b.keys a.keys 0
  have n2 := nt_Rule (fun e0_ e1_ => (impl_EqualRules e0_ e1_)) b.rules a.rules 0
  have n3 := nt_Name (fun e0_ e1_ => (impl_EqualNames e0_ e1_)) b.anchors a.anchors 0
  rw [eqKey] at n1
  rw [eqRule] at n2
  rw [eqName] at n3
  simp only [impl_equalTrust, slices_EqualFunc_Key, slices_EqualFunc_Rule, slices_EqualFunc_Name, same_Things, spec_l32SameTrust, eqKey, eqRule, eqName]
  rcases n1 with h1 | h1 <;> rcases n2 with h2 | h2 <;> rcases n3 with h3 | h3 <;> simp only [h1, h2, h3, Bool.cond_false_left, Bool.cond_false_right, Bool.not_not, bne, Bool.and_true, Bool.true_and, Bool.and_false, Bool.false_and] <;> (first | rfl | ac_rfl | (simp; done) | (simp [Bool.and_comm, Bool.and_assoc, Bool.and_left_comm]; done))
theorem eqiL (b : List Int) : ∀ (r : List Int) (i : Nat), slices_Equal_int_L1 b r i = spec_EqualInts_L1 b r i
  | [], i => rfl
  | x :: r, i => by
    simp only [slices_Equal_int_L1, spec_EqualInts_L1, eqiL b r]
theorem same_EqualInts (a b : List Int) : slices_Equal_int a b = spec_EqualInts a b := by
  simp only [slices_Equal_int, spec_EqualInts, eqiL]
theorem eqlL (b : Topology) : ∀ (r : List Link) (i : Nat), slices_Equal_Link_L1 b.links r i = spec_l32SameNet_L1 b r i
  | [], i => rfl
  | x :: r, i => by
    simp only [slices_Equal_Link_L1, spec_l32SameNet_L1, eqlL b r]
theorem same_SameNet (a b : Topology) : spec_l32SameNet a b = (!(a.size != b.size) && slices_Equal_Link a.links b.links) := by
  simp only [spec_l32SameNet, slices_Equal_Link, eqlL b]
  cases (a.size != b.size) <;> simp only [cond_true, cond_false, Bool.not_true, Bool.not_false, Bool.false_and, Bool.true_and]
theorem same_EqualNetworks' (a b : Network) : impl_EqualNetworks a b = spec_EqualNetworks a b := by
  have n1 := nt_Node (fun e0_ e1_ => (impl_EqualNodes e0_ e1_)) b.nodes a.nodes 0
  have n2 := nt_PacketInFlight (fun e0_ e1_ => (impl_equalPackets e0_ e1_)) b.inFlight a.inFlight 0
  have n3 := nt_Consumer (fun e0_ e1_ => (impl_EqualConsumers e0_ e1_)) b.consumers a.consumers 0
  rw [eqNode] at n1
  rw [eqFly] at n2
  rw [eqCons] at n3
  simp only [impl_EqualNetworks, slices_EqualFunc_Node, slices_EqualFunc_PacketInFlight, slices_EqualFunc_Consumer, spec_EqualNetworks, same_equalTrust, same_EqualTables, same_EqualInts, same_SameNet, eqNode, eqFly, eqCons]
  rcases n1 with h1 | h1 <;> rcases n2 with h2 | h2 <;> rcases n3 with h3 | h3 <;> simp only [h1, h2, h3, Bool.cond_false_left, Bool.cond_false_right, Bool.not_not, bne, Bool.and_true, Bool.true_and, Bool.and_false, Bool.false_and] <;> (first | rfl | ac_rfl | (simp; done) | (simp [Bool.and_comm, Bool.and_assoc, Bool.and_left_comm]; done))
end Go.Stp

namespace Go.Stp
open Go.RowKit (Below)
open GoT (X k ok sh fa oa)
def Opens (P : Program) (T : TypeId) (α : Type) [GoT α] : Prop :=
  P.cellsOf T = k α ∧ ∀ {H : Type} {enc : TypeId × Value → H} {w : World} {spare : Nat → Bool} {held : Bool} {fuel : Nat} {cs : List Value} {x : DataW H × List MemPlace}, DataW.trod enc P w 0 spare held fuel T cs = some x →
    ∃ (a : α) (y : X α), cs = sh a y ∧ ok 10 a ∧ All (hp w) (fa .der a y)
theorem opens_int {P : Program} {T : TypeId} (h : P.underlying T = some (.int .i64)) (hc : P.cellsOf T = 1) : Opens P T Int := ⟨hc, fun h' => by
  obtain ⟨n, rfl, _, hw⟩ := DataW.trod_int h h'
  exact ⟨n, (), rfl, by simpa [Lit.wf, IntKind.min, IntKind.max, IntKind.signed, IntKind.bits, ok, I64] using hw, (fun _ h_ => by cases h_)⟩⟩
theorem opens_bool {P : Program} {T : TypeId} (h : P.underlying T = some .bool) (hc : P.cellsOf T = 1) : Opens P T Bool := ⟨hc, fun h' => by
  obtain ⟨n, rfl, _⟩ := DataW.trod_bool h h'
  exact ⟨n, (), rfl, trivial, (fun _ h_ => by cases h_)⟩⟩
theorem opens_str {P : Program} {T : TypeId} (h : P.underlying T = some .string) (hc : P.cellsOf T = 1) : Opens P T ByteArray := ⟨hc, fun h' => by
  obtain ⟨n, rfl, _, hw⟩ := DataW.trod_string h h'
  exact ⟨n, (), rfl, (by simp only [maxLen] at hw; omega : n.size ≤ 9223372036854775807), (fun _ h_ => by cases h_)⟩⟩
theorem opens_byte {P : Program} {T : TypeId} (h : P.underlying T = some (.int .u8)) (hc : P.cellsOf T = 1) : Opens P T UInt8 := ⟨hc, fun h' => by
  obtain ⟨n, rfl, _, hw⟩ := DataW.trod_int h h'
  have hn : 0 ≤ n ∧ n ≤ 255 := by simpa [Lit.wf, IntKind.min, IntKind.max, IntKind.signed, IntKind.bits] using hw
  refine ⟨UInt8.ofNat n.toNat, (), ?_, trivial, (fun _ h_ => by cases h_)⟩
  have : ((UInt8.ofNat n.toNat).toNat : Int) = n := by
    rw [UInt8.toNat_ofNat', Nat.mod_eq_of_lt (by omega)]; omega
  simp only [sh]
  rw [this]⟩
theorem cells?_each {w : World} {a : Addr} {n : Nat} {cs : List Value} (h : w.cells? 0 a n = some cs) : ∀ j u, cs[j]? = some u → w.cell? (a.add j) = some u := by
  intro j u hj
  obtain ⟨_, h1, h2⟩ := World.cells?_some h
  rw [h2 j (by rw [← h1]; exact (List.getElem?_eq_some_iff.1 hj).1)]; exact hj
theorem opens_slice {P : Program} {T E : TypeId} {α : Type} [GoT α] (h : P.underlying T = some (.slice E)) (hc : P.cellsOf T = 1) (he : Opens P E α) : Opens P T (List α) := ⟨hc, fun {H enc w spare held fuel cs x} h' => by
  rcases DataW.trod_slice h h' with ⟨rfl, _⟩ | ⟨a, len, cap, elems, rest, n, _, rfl, _, _, hl, hm, hlen, hel, _, _⟩
  · exact ⟨[], (none, 0), rfl, ⟨Nat.zero_le _, fun _ h_ => by cases h_⟩, fun f hf => by
      obtain rfl := List.mem_singleton.1 hf
      exact ⟨Nat.zero_le _, Nat.zero_le _, [], fun j u h => by simp at h, rfl⟩⟩
  · have key : ∀ m, m ≤ len → ∃ (l : List α) (xs : List Value), l.length = m ∧ xs.length = m * k α ∧ RdL (hp w) xs l ∧ (∀ b ∈ l, ok 10 b) ∧ CellsAt (hp w) (some a) xs := by
      intro m
      induction m with
      | zero => exact fun _ => ⟨[], [], rfl, by simp, rfl, by simp, fun j u h => by simp at h⟩
      | succ m ih =>
        intro hmle
        obtain ⟨l, xs, h1, h2, h3, h4, h5⟩ := ih (by omega)
        have hm' := hel m (by omega)
        rw [he.1] at hm'
        obtain ⟨y, hy⟩ : ∃ y, elems[m]? = some y := ⟨_, List.getElem?_eq_getElem (by omega)⟩
        rw [hy, Option.bind_eq_some_iff] at hm'
        obtain ⟨cs', hcs, htr⟩ := hm'
        obtain ⟨b, yb, rfl, hok, hfa⟩ := he.2 htr
        refine ⟨l ++ [b], xs ++ sh b yb, by simp [h1], by rw [List.length_append, h2, GoT.len, Nat.add_mul]; omega, h3.snoc hfa, ?_, ?_⟩
        · intro c hc
          rcases List.mem_append.1 hc with hc | hc
          · exact h4 c hc
          · simp at hc; subst hc; exact hok
        · intro j u hj
          refine ⟨a, rfl, ?_⟩
          by_cases hlt : j < xs.length
          · rw [List.getElem?_append_left hlt] at hj
            obtain ⟨a', ha', hg⟩ := h5 j u hj
            simp at ha'; subst ha'; exact hg
          · rw [List.getElem?_append_right (by omega)] at hj
            have := cells?_each hcs _ _ hj
            rw [addr_add_add, h2, show m * k α + (j - m * k α) = j by omega] at this
            exact this
    obtain ⟨l, xs, h1, h2, h3, h4, h5⟩ := key len (Nat.le_refl _)
    have hm' : len ≤ 9223372036854775807 := by simp only [maxLen] at hm; omega
    refine ⟨l, (some a, cap), by simp [sh, h1], ⟨by show l.length ≤ 9223372036854775807; omega, h4⟩, fun f hf => ?_⟩
    obtain rfl := List.mem_singleton.1 hf
    exact ⟨by omega, by omega, xs, h5, h3⟩⟩
def OpensF (P : Program) (fs : List Field) (off : Nat) (β : Type) [GoT β] : Prop :=
  ∀ {H : Type} {enc : TypeId × Value → H} {w : World} {spare : Nat → Bool} {held : Bool} {n : Nat} {cs : List Value},
    (∀ (i : Nat) (f : Field), fs[i]? = some f → ∃ y, DataW.trod enc P w 0 spare held n f.type ((cs.drop f.offset).take (P.cellsOf f.type)) = some y) →
    ∃ (b : β) (y : X β), (cs.drop off).take (k β) = sh b y ∧ ok 10 b ∧ All (hp w) (fa .der b y)
theorem opensF_one {P : Program} {f : Field} {off : Nat} {α : Type} [GoT α] (ho : f.offset = off) (hf : Opens P f.type α) : OpensF P [f] off α := fun {H enc w spare held n cs} h => by
  obtain ⟨y, hy⟩ := h 0 f rfl
  obtain ⟨a, ya, h1, h2, h3⟩ := hf.2 hy
  rw [hf.1, ho] at h1
  exact ⟨a, ya, h1, h2, h3⟩
theorem opensF_cons {P : Program} {f : Field} {fs : List Field} {off : Nat} {α β : Type} [GoT α] [GoT β] (ho : f.offset = off) (hf : Opens P f.type α) (hr : OpensF P fs (off + k α) β) : OpensF P (f :: fs) off (α × β) := fun {H enc w spare held n cs} h => by
  obtain ⟨y, hy⟩ := h 0 f rfl
  obtain ⟨a, ya, h1, h2, h3⟩ := hf.2 hy
  obtain ⟨b, yb, k1, k2, k3⟩ := hr (cs := cs) (fun i g hg => h (i + 1) g (by simpa using hg))
  rw [hf.1, ho] at h1
  refine ⟨(a, b), (ya, yb), ?_, ⟨h2, k2⟩, All.append h3 k3⟩
  show (cs.drop off).take (k α + k β) = sh a ya ++ sh b yb
  rw [← h1, ← k1, List.take_add, List.drop_drop]
theorem opens_struct {P : Program} {T : TypeId} {fs : Array Field} {α β : Type} [GoT β] (e : α → β) (mk : β → α) (hm : ∀ b, e (mk b) = b) (h : P.underlying T = some (.struct fs)) (hc : P.cellsOf T = k β) (hf : OpensF P fs.toList 0 β) :
    @Opens P T α (GoT.via e) := by
  letI : GoT α := GoT.via e
  refine ⟨hc, fun {H enc w spare held fuel cs x} h' => ?_⟩
  obtain ⟨xs, n, _, _, hcl, hxl, hall⟩ := DataW.trod_struct h h'
  obtain ⟨b, y, h1, h2, h3⟩ := hf (cs := cs) (fun i f hi => by
    have hi' : fs[i]? = some f := by simpa using hi
    have := hall i f hi'
    obtain ⟨z, hz⟩ : ∃ z, xs[i]? = some z := ⟨_, List.getElem?_eq_getElem (by rw [hxl]; exact (Array.getElem?_eq_some_iff.1 hi').1)⟩
    exact ⟨z, by rw [this, hz]⟩)
  rw [List.drop_zero, List.take_of_length_le (by rw [hcl, hc]; exact Nat.le_refl _)] at h1
  refine ⟨mk b, y, ?_, ?_, ?_⟩
  · show cs = sh (e (mk b)) y; rw [hm]; exact h1
  · show ok 10 (e (mk b)); rw [hm]; exact h2
  · show All (hp w) (fa .der (e (mk b)) y); rw [hm]; exact h3

def Arg (P : Program) (T : TypeId) (α : Type) [GoT α] (mk : List Value → Value) : Prop :=
  ∀ {H : Type} {enc : TypeId × Value → H} {W : World} {b0 : Nat} {spare : Nat → Bool} {held : Bool} {v : Value} {d : DataW H} {ps : List MemPlace}, Value.okWide P W .any b0 T v → DataW.Trod enc P W 0 spare held T v d ps →
    ∃ (a : α) (y : X α), v = mk (sh a y) ∧ ok 10 a ∧ All (hp W) (fa .der a y)
theorem arg_struct {P : Program} {T : TypeId} {α : Type} [GoT α] {fs : Array Field} (h : P.underlying T = some (.struct fs)) (ho : Opens P T α) : Arg P T α (fun cs => .agg ⟨cs⟩) := by
  intro H enc W b0 spare held v d ps hval ⟨fuel, hf⟩
  simp only [Value.okWide, h] at hval
  obtain ⟨cs, rfl, _⟩ := hval
  obtain ⟨a, y, h1, h2, h3⟩ := ho.2 hf
  refine ⟨a, y, ?_, h2, h3⟩
  have : cs.toList = sh a y := by simpa [Value.cells] using h1
  rw [← this]
theorem trodAll_stays {H : Type} {enc : TypeId × Value → H} {P : Program} (hl : laidOutB P = true) {W W' : World} {sp : Nat → Bool} : ∀ {ts : List TypeId} {vs : List Value} {ds : List (DataW H)} {ps : List MemPlace},
    ts.all (fun t => P.readableRec t && decide (t < P.types.size)) = true → DataW.TrodAll enc P W 0 (fun _ => true) true ts vs ds ps → (∀ p ∈ ps, W.sameAt W' p) → (∀ p ∈ ps, sp p.block = true) → DataW.TrodAll enc P W' 0 sp true ts vs ds ps
  | [], [], [], _, _, h, _, _ => h
  | t :: ts, v :: vs, d :: ds, ps, ha, ⟨p, q, h1, h2, e⟩, hs, hsp => by
    simp only [List.all_cons, Bool.and_eq_true, decide_eq_true_eq] at ha
    subst e
    exact ⟨p, q, WideElems.Trod_stays hl ha.1.1 ha.1.2 h1 (fun x hx => hs x (List.mem_append_left _ hx)) (fun x hx => hsp x (List.mem_append_left _ hx)),
      trodAll_stays hl ha.2 h2 (fun x hx => hs x (List.mem_append_right _ hx)) (fun x hx => hsp x (List.mem_append_right _ hx)), rfl⟩
theorem trodAll_len {H : Type} {enc : TypeId × Value → H} {P : Program} {W : World} {b : Nat} {sp : Nat → Bool} {hd : Bool} : ∀ {ts : List TypeId} {vs : List Value} {ds : List (DataW H)} {ps : List MemPlace}, DataW.TrodAll enc P W b sp hd ts vs ds ps → ds.length = ts.length
  | [], [], [], _, _ => rfl
  | _ :: _, _ :: _, _ :: _, _, ⟨_, _, _, h2, _⟩ => by simp [trodAll_len h2]
theorem law_post {H : Type} {enc : TypeId × Value → H} {P : Program} {f : Func} {s : ChangeSpec} {W W' : World} {args : Array Value} {ds gs : List (DataW H)} {before : List MemPlace} {B : TypeId}
    (hl : laidOutB P = true) (hpar : f.params.toList.all (fun t => P.readableRec t && decide (t < P.types.size)) = true) (hvars : s.vars = []) (hB : f.resultTypes = #[B]) (hu : P.underlying B = some .bool)
    (hfn : ∀ ds : List (DataW H), ds.length = f.params.size → s.fn H ds = { results := [.lit (.bool true)], args := ds })
    (hW : DataW.Whole enc P f.params.toList s.vars false W args.toList ds gs before) (hb : Below W.heap.size W W') : s.post enc P f false true false false W args (.bool true) W' := by
  have hW' := hW
  have hlt : ∀ p ∈ before, p.block < W.heap.size := fun p hp => hW.lt p hp
  obtain ⟨p, q, hA, hV, rfl, hfz, hnd⟩ := hW'
  rw [hvars] at hV
  obtain ⟨rfl, rfl⟩ := ChangeShapes.trodVars_none hV
  have hlen : ds.length = f.params.size := by simpa using trodAll_len hA
  have hdd : s.fn H (ds ++ []) = { results := [.lit (.bool true)], args := ds } := by rw [List.append_nil]; exact hfn ds hlen
  have hres : ∀ (b : Nat) (sp : Nat → Bool) (hd : Bool), DataW.TrodAll enc P W' b sp hd f.resultTypes.toList ((Value.bool true).resultList f.resultTypes.size) (s.fn H (ds ++ [])).results [] := by
    intro b sp hd
    rw [hdd, hB]
    exact trodAll_cons_mk (RowKit.shut_bool hu _) ChangeShapes.trodAll_mk0
  have hargs : ∀ sp : Nat → Bool, (∀ x ∈ p ++ [], sp x.block = true) → DataW.TrodAll enc P W' 0 sp true f.params.toList args.toList (s.fn H (ds ++ [])).args p := by
    intro sp hsp
    rw [hdd]
    exact trodAll_stays hl hpar hA (fun x hx => hb.same (hlt x (by simpa using hx))) (fun x hx => hsp x (by simpa using hx))
  have hvars' : ∀ sp : Nat → Bool, DataW.TrodVars enc P W' sp s.vars (s.fn H (ds ++ [])).vars [] := by
    intro sp; rw [hvars, hdd]; rfl
  have hold : ∀ x ∈ p ++ [], (fun b => decide (b < W.heap.size)) x.block = true := fun x hx => by simpa using hlt x hx
  refine ⟨ds, [], p ++ [], [], p, [], hW, hres _ _ _, hargs _ hold, hvars' _, World.keptBut_mono (fun x hx => ⟨hx, Or.inr (by simpa using hx)⟩) (hb.frame (· ∈ p ++ [])), fun h => (by cases h)⟩
end Go.Stp

namespace Go.Proofs.YtfffongneoegbaaGreat.Facts
set_option maxRecDepth 100000
theorem laid : laidOutB Tryz.prog = true := by kernel_rfl
theorem rowed : mapsRowed Tryz.prog = true := by kernel_rfl
end Go.Proofs.YtfffongneoegbaaGreat.Facts

namespace Go.Stp
set_option linter.unusedVariables false
set_option linter.unusedSimpArgs false
theorem same_EqualNetworks (aA : Network) (aB : Network) : impl_EqualNetworks aA aB = spec_EqualNetworks aA aB := same_EqualNetworks' aA aB
theorem true_EqualNetworks (aA : Network) (aB : Network) (haA : GoT.ok 10 aA) (haB : GoT.ok 10 aB) : laws_FnExactEqualNetworks aA aB = true := by
  unfold laws_FnExactEqualNetworks
  by_cases s0 : laws_szNetwork aA 1048576 < 0
  · simp only [dT s0, cond_true]
  have d0 := dF (show 0 ≤ laws_szNetwork aA 1048576 by omega)
  obtain ⟨t0, z0⟩ := (sz_Network_R aA 1048576 haA (by omega) (by omega)).pos (by omega)
  by_cases s1 : laws_szNetwork aB (laws_szNetwork aA 1048576) < 0
  · simp only [dT s1, cond_true, d0, cond_false]
  have d1 := dF (show 0 ≤ laws_szNetwork aB (laws_szNetwork aA 1048576) by omega)
  obtain ⟨t1, z1⟩ := (sz_Network_R aB (laws_szNetwork aA 1048576) haB (by omega) (by omega)).pos (by omega)
  simp only [d0, cond_false, d1, to_Network, same_EqualNetworks, eq_Network, Bool.not_true, bne_self_F, nbeq_self_F, beq_self_eq_true]
end Go.Stp
namespace Go.Proofs.YtfffongneoegbaaGreat
open Go.Stp
open Go.RowKit (Below)
open Go.ChangeShapes Go.WideShapes Go.ChangeAt
namespace LawEqualNetworks
theorem own : ownKnob Tryz.prog.godebug = none := by kernel_rfl
theorem laid : laidOutB Tryz.prog = true := Facts.laid
set_option maxRecDepth 100000 in
theorem op348 : Opens Tryz.prog 348 Link := opens_struct (fun e : Link => (e.a, e.b)) (fun b => ⟨b.1, b.2⟩) (fun _ => rfl) Tryz.underlying348 (show Tryz.prog.cellsOf 348 = 2 by kernel_rfl) (opensF_cons rfl (opens_int Tryz.underlying3 (by kernel_rfl)) (opensF_one rfl (opens_int Tryz.underlying3 (by kernel_rfl))))
set_option maxRecDepth 100000 in
theorem op97 : Opens Tryz.prog 97 Topology := opens_struct (fun e : Topology => (e.size, e.links)) (fun b => ⟨b.1, b.2⟩) (fun _ => rfl) Tryz.underlying97 (show Tryz.prog.cellsOf 97 = 2 by kernel_rfl) (opensF_cons rfl (opens_int Tryz.underlying3 (by kernel_rfl)) (opensF_one rfl (opens_slice Tryz.underlying95 (by kernel_rfl) op348)))
set_option maxRecDepth 100000 in
theorem op24 : Opens Tryz.prog 24 Name := opens_struct (fun e : Name => e.parts) (fun b => ⟨b⟩) (fun _ => rfl) Tryz.underlying24 (show Tryz.prog.cellsOf 24 = 1 by kernel_rfl) (opensF_one rfl (opens_slice Tryz.underlying22 (by kernel_rfl) (opens_str Tryz.underlying9 (by kernel_rfl))))
set_option maxRecDepth 100000 in
theorem op235 : Opens Tryz.prog 235 Key := opens_struct (fun e : Key => (e.name, e.secret)) (fun b => ⟨b.1, b.2⟩) (fun _ => rfl) Tryz.underlying235 (show Tryz.prog.cellsOf 235 = 2 by kernel_rfl) (opensF_cons rfl op24 (opensF_one rfl (opens_int Tryz.underlying3 (by kernel_rfl))))
set_option maxRecDepth 100000 in
theorem op237 : Opens Tryz.prog 237 Pattern := opens_struct (fun e : Pattern => e.parts) (fun b => ⟨b⟩) (fun _ => rfl) Tryz.underlying237 (show Tryz.prog.cellsOf 237 = 1 by kernel_rfl) (opensF_one rfl (opens_slice Tryz.underlying22 (by kernel_rfl) (opens_str Tryz.underlying9 (by kernel_rfl))))
set_option maxRecDepth 100000 in
theorem op239 : Opens Tryz.prog 239 Rule := opens_struct (fun e : Rule => (e.dataPattern, e.keyPattern)) (fun b => ⟨b.1, b.2⟩) (fun _ => rfl) Tryz.underlying239 (show Tryz.prog.cellsOf 239 = 2 by kernel_rfl) (opensF_cons rfl op237 (opensF_one rfl op237))
set_option maxRecDepth 100000 in
theorem op62 : Opens Tryz.prog 62 DataP := opens_struct (fun e : DataP => (e.name, e.content, e.keyName, e.freshUntil, e.signature)) (fun b => ⟨b.1, b.2.1, b.2.2.1, b.2.2.2.1, b.2.2.2.2⟩) (fun _ => rfl) Tryz.underlying62 (show Tryz.prog.cellsOf 62 = 5 by kernel_rfl) (opensF_cons rfl op24 (opensF_cons rfl (opens_slice Tryz.underlying31 (by kernel_rfl) (opens_byte Tryz.underlying5 (by kernel_rfl))) (opensF_cons rfl op24 (opensF_cons rfl (opens_int Tryz.underlying3 (by kernel_rfl)) (opensF_one rfl (opens_int Tryz.underlying3 (by kernel_rfl)))))))
set_option maxRecDepth 100000 in
theorem op70 : Opens Tryz.prog 70 TrustPolicy := opens_struct (fun e : TrustPolicy => (e.keys, e.rules, e.anchors, e.certificates)) (fun b => ⟨b.1, b.2.1, b.2.2.1, b.2.2.2⟩) (fun _ => rfl) Tryz.underlying70 (show Tryz.prog.cellsOf 70 = 4 by kernel_rfl) (opensF_cons rfl (opens_slice Tryz.underlying65 (by kernel_rfl) op235) (opensF_cons rfl (opens_slice Tryz.underlying66 (by kernel_rfl) op239) (opensF_cons rfl (opens_slice Tryz.underlying67 (by kernel_rfl) op24) (opensF_one rfl (opens_slice Tryz.underlying68 (by kernel_rfl) op62)))))
set_option maxRecDepth 100000 in
theorem op255 : Opens Tryz.prog 255 TableEntry := opens_struct (fun e : TableEntry => (e.name, e.value)) (fun b => ⟨b.1, b.2⟩) (fun _ => rfl) Tryz.underlying255 (show Tryz.prog.cellsOf 255 = 2 by kernel_rfl) (opensF_cons rfl op24 (opensF_one rfl (opens_int Tryz.underlying3 (by kernel_rfl))))
set_option maxRecDepth 100000 in
theorem op427 : Opens Tryz.prog 427 CacheEntry := opens_struct (fun e : CacheEntry => (e.data, e.lastUsed)) (fun b => ⟨b.1, b.2⟩) (fun _ => rfl) Tryz.underlying427 (show Tryz.prog.cellsOf 427 = 6 by kernel_rfl) (opensF_cons rfl op62 (opensF_one rfl (opens_int Tryz.underlying3 (by kernel_rfl))))
set_option maxRecDepth 100000 in
theorem op259 : Opens Tryz.prog 259 ContentStore := opens_struct (fun e : ContentStore => (e.capacity, e.entries)) (fun b => ⟨b.1, b.2⟩) (fun _ => rfl) Tryz.underlying259 (show Tryz.prog.cellsOf 259 = 2 by kernel_rfl) (opensF_cons rfl (opens_int Tryz.underlying3 (by kernel_rfl)) (opensF_one rfl (opens_slice Tryz.underlying257 (by kernel_rfl) op427)))
set_option maxRecDepth 100000 in
theorem op440 : Opens Tryz.prog 440 Requester := opens_struct (fun e : Requester => (e.face, e.nonce, e.expiry)) (fun b => ⟨b.1, b.2.1, b.2.2⟩) (fun _ => rfl) Tryz.underlying440 (show Tryz.prog.cellsOf 440 = 3 by kernel_rfl) (opensF_cons rfl (opens_int Tryz.underlying3 (by kernel_rfl)) (opensF_cons rfl (opens_int Tryz.underlying3 (by kernel_rfl)) (opensF_one rfl (opens_int Tryz.underlying3 (by kernel_rfl)))))
set_option maxRecDepth 100000 in
theorem op391 : Opens Tryz.prog 391 PendingInterest := opens_struct (fun e : PendingInterest => (e.name, e.requesters, e.lastSent)) (fun b => ⟨b.1, b.2.1, b.2.2⟩) (fun _ => rfl) Tryz.underlying391 (show Tryz.prog.cellsOf 391 = 3 by kernel_rfl) (opensF_cons rfl op24 (opensF_cons rfl (opens_slice Tryz.underlying389 (by kernel_rfl) op440) (opensF_one rfl (opens_int Tryz.underlying3 (by kernel_rfl)))))
set_option maxRecDepth 100000 in
theorem op394 : Opens Tryz.prog 394 SeenNonce := opens_struct (fun e : SeenNonce => (e.name, e.nonce)) (fun b => ⟨b.1, b.2⟩) (fun _ => rfl) Tryz.underlying394 (show Tryz.prog.cellsOf 394 = 2 by kernel_rfl) (opensF_cons rfl op24 (opensF_one rfl (opens_int Tryz.underlying3 (by kernel_rfl))))
set_option maxRecDepth 100000 in
theorem op397 : Opens Tryz.prog 397 Route := opens_struct (fun e : Route => (e.pfx, e.face, e.cost)) (fun b => ⟨b.1, b.2.1, b.2.2⟩) (fun _ => rfl) Tryz.underlying397 (show Tryz.prog.cellsOf 397 = 3 by kernel_rfl) (opensF_cons rfl op24 (opensF_cons rfl (opens_int Tryz.underlying3 (by kernel_rfl)) (opensF_one rfl (opens_int Tryz.underlying3 (by kernel_rfl)))))
set_option maxRecDepth 100000 in
theorem op400 : Opens Tryz.prog 400 Measurement := opens_struct (fun e : Measurement => (e.pfx, e.face, e.failures)) (fun b => ⟨b.1, b.2.1, b.2.2⟩) (fun _ => rfl) Tryz.underlying400 (show Tryz.prog.cellsOf 400 = 3 by kernel_rfl) (opensF_cons rfl op24 (opensF_cons rfl (opens_int Tryz.underlying3 (by kernel_rfl)) (opensF_one rfl (opens_int Tryz.underlying3 (by kernel_rfl)))))
set_option maxRecDepth 100000 in
theorem op265 : Opens Tryz.prog 265 NodeP := opens_struct (fun e : NodeP => (e.locl, e.cache, e.pending, e.seen, e.routes, e.measurements, e.dropped)) (fun b => ⟨b.1, b.2.1, b.2.2.1, b.2.2.2.1, b.2.2.2.2.1, b.2.2.2.2.2.1, b.2.2.2.2.2.2⟩) (fun _ => rfl) Tryz.underlying265 (show Tryz.prog.cellsOf 265 = 8 by kernel_rfl) (opensF_cons rfl (opens_slice Tryz.underlying68 (by kernel_rfl) op62) (opensF_cons rfl op259 (opensF_cons rfl (opens_slice Tryz.underlying260 (by kernel_rfl) op391) (opensF_cons rfl (opens_slice Tryz.underlying261 (by kernel_rfl) op394) (opensF_cons rfl (opens_slice Tryz.underlying262 (by kernel_rfl) op397) (opensF_cons rfl (opens_slice Tryz.underlying263 (by kernel_rfl) op400) (opensF_one rfl (opens_int Tryz.underlying3 (by kernel_rfl)))))))))
set_option maxRecDepth 100000 in
theorem op268 : Opens Tryz.prog 268 Interest := opens_struct (fun e : Interest => (e.name, e.nonce, e.hopLimit, e.lifetime)) (fun b => ⟨b.1, b.2.1, b.2.2.1, b.2.2.2⟩) (fun _ => rfl) Tryz.underlying268 (show Tryz.prog.cellsOf 268 = 4 by kernel_rfl) (opensF_cons rfl op24 (opensF_cons rfl (opens_int Tryz.underlying3 (by kernel_rfl)) (opensF_cons rfl (opens_int Tryz.underlying3 (by kernel_rfl)) (opensF_one rfl (opens_int Tryz.underlying3 (by kernel_rfl))))))
set_option maxRecDepth 100000 in
theorem op270 : Opens Tryz.prog 270 PacketInFlight := opens_struct (fun e : PacketInFlight => (e.to, e.face, e.isInterest, e.interest, e.data)) (fun b => ⟨b.1, b.2.1, b.2.2.1, b.2.2.2.1, b.2.2.2.2⟩) (fun _ => rfl) Tryz.underlying270 (show Tryz.prog.cellsOf 270 = 12 by kernel_rfl) (opensF_cons rfl (opens_int Tryz.underlying3 (by kernel_rfl)) (opensF_cons rfl (opens_int Tryz.underlying3 (by kernel_rfl)) (opensF_cons rfl (opens_bool Tryz.underlying4 (by kernel_rfl)) (opensF_cons rfl op268 (opensF_one rfl op62)))))
set_option maxRecDepth 100000 in
theorem op64 : Opens Tryz.prog 64 Consumer := opens_struct (fun e : Consumer => (e.node, e.index, e.name, e.attempts, e.wait, e.satisfied, e.data)) (fun b => ⟨b.1, b.2.1, b.2.2.1, b.2.2.2.1, b.2.2.2.2.1, b.2.2.2.2.2.1, b.2.2.2.2.2.2⟩) (fun _ => rfl) Tryz.underlying64 (show Tryz.prog.cellsOf 64 = 11 by kernel_rfl) (opensF_cons rfl (opens_int Tryz.underlying3 (by kernel_rfl)) (opensF_cons rfl (opens_int Tryz.underlying3 (by kernel_rfl)) (opensF_cons rfl op24 (opensF_cons rfl (opens_int Tryz.underlying3 (by kernel_rfl)) (opensF_cons rfl (opens_int Tryz.underlying3 (by kernel_rfl)) (opensF_cons rfl (opens_bool Tryz.underlying4 (by kernel_rfl)) (opensF_one rfl op62)))))))
set_option maxRecDepth 100000 in
theorem op103 : Opens Tryz.prog 103 Network := opens_struct (fun e : Network => (e.topology, e.trust, e.producers, e.nodes, e.downNodes, e.failedLinks, e.inFlight, e.consumers, e.now, e.dropped)) (fun b => ⟨b.1, b.2.1, b.2.2.1, b.2.2.2.1, b.2.2.2.2.1, b.2.2.2.2.2.1, b.2.2.2.2.2.2.1, b.2.2.2.2.2.2.2.1, b.2.2.2.2.2.2.2.2.1, b.2.2.2.2.2.2.2.2.2⟩) (fun _ => rfl) Tryz.underlying103 (show Tryz.prog.cellsOf 103 = 14 by kernel_rfl) (opensF_cons rfl op97 (opensF_cons rfl op70 (opensF_cons rfl (opens_slice Tryz.underlying25 (by kernel_rfl) op255) (opensF_cons rfl (opens_slice Tryz.underlying98 (by kernel_rfl) op265) (opensF_cons rfl (opens_int Tryz.underlying3 (by kernel_rfl)) (opensF_cons rfl (opens_slice Tryz.underlying99 (by kernel_rfl) (opens_int Tryz.underlying3 (by kernel_rfl))) (opensF_cons rfl (opens_slice Tryz.underlying100 (by kernel_rfl) op270) (opensF_cons rfl (opens_slice Tryz.underlying101 (by kernel_rfl) op64) (opensF_cons rfl (opens_int Tryz.underlying3 (by kernel_rfl)) (opensF_one rfl (opens_int Tryz.underlying3 (by kernel_rfl))))))))))))
set_option maxRecDepth 100000 in
theorem lifted (os : Os) (started : os.Started) (H : Type) (enc : TypeId × Value → H) :
    ReturnsInHanded {} Tryz.checked os 7 .any (Rows.fnExactEqualNetworksSpec.pre6 enc Tryz.prog Tryz.f7 Rows.fnExactEqualNetworksRow.domain false) (Rows.fnExactEqualNetworksSpec.post enc Tryz.prog Tryz.f7 false true false false) := by
  refine returnsInHanded_of_change (C := Tryz.checked) own started (by kernel_rfl) Tryz.func7
    (ChangeSpec.witness6 (enc := enc) (C := Tryz.checked) false ⟨#[], #[.agg #[.int .i64 (0), .slice none 0 0, .slice none 0 0, .slice none 0 0, .slice none 0 0, .slice none 0 0, .slice none 0 0, .slice none 0 0, .int .i64 (0), .slice none 0 0, .slice none 0 0, .slice none 0 0, .int .i64 (0), .int .i64 (0)], .agg #[.int .i64 (0), .slice none 0 0, .slice none 0 0, .slice none 0 0, .slice none 0 0, .slice none 0 0, .slice none 0 0, .slice none 0 0, .int .i64 (0), .slice none 0 0, .slice none 0 0, .slice none 0 0, .int .i64 (0), .int .i64 (0)]], []⟩ 8 (by kernel_rfl) (by kernel_rfl) (by kernel_rfl) (by kernel_rfl)) ?_
  intro W base args ds gs before hval0 hW _ _
  have hval : ∀ (j : Nat) t v, Tryz.f7.params[j]? = some t → args[j]? = some v → Value.okWide Tryz.prog W .any base t v := hval0
  have hW' := hW
  obtain ⟨p, q, hA0, _⟩ := hW
  have hA : DataW.TrodAll enc Tryz.prog W 0 (fun _ => true) true Tryz.f7.params.toList args.toList ds p := hA0
  rw [Tryz.params7] at hA hval
  obtain ⟨v0, vs0, d0, ds0, p0, q0, hargs, rfl, rfl, h0, r0⟩ := ChangeShapes.trodAll_cons hA
  obtain ⟨v1, vs1, d1, ds1, p1, q1, rfl, rfl, rfl, h1, r1⟩ := ChangeShapes.trodAll_cons r0
  obtain ⟨rfl, rfl, rfl⟩ := trodAll_nil r1
  obtain rfl : args = #[v0, v1] := by cases args; simp_all
  obtain ⟨a0, x0, rfl, k0, g0⟩ := (arg_struct Tryz.underlying103 op103) (hval 0 103 _ rfl rfl) h0
  obtain ⟨a1, x1, rfl, k1, g1⟩ := (arg_struct Tryz.underlying103 op103) (hval 1 103 _ rfl rfl) h1
  have ht := true_EqualNetworks a0 a1 k0 k1
  refine (f7 W 0 (by decide) a0 x0.1.2.1 x0.1.2.2 (g0 (MF.rs .der x0.1.2.1 x0.1.2.2 a0.topology.links) (List.mem_cons_self)) x0.2.1.1.1 x0.2.1.1.2 (g0 (MF.rs .der x0.2.1.1.1 x0.2.1.1.2 a0.trust.keys) (by simp [GoT.fa])) x0.2.1.2.1.1 x0.2.1.2.1.2 (g0 (MF.rs .der x0.2.1.2.1.1 x0.2.1.2.1.2 a0.trust.rules) (by simp [GoT.fa])) x0.2.1.2.2.1.1 x0.2.1.2.2.1.2 (g0 (MF.rs .der x0.2.1.2.2.1.1 x0.2.1.2.2.1.2 a0.trust.anchors) (by simp [GoT.fa])) x0.2.1.2.2.2.1 x0.2.1.2.2.2.2 (g0 (MF.rs .der x0.2.1.2.2.2.1 x0.2.1.2.2.2.2 a0.trust.certificates) (by simp [GoT.fa])) x0.2.2.1.1 x0.2.2.1.2 (g0 (MF.rs .der x0.2.2.1.1 x0.2.2.1.2 a0.producers) (by simp [GoT.fa])) x0.2.2.2.1.1 x0.2.2.2.1.2 (g0 (MF.rs .der x0.2.2.2.1.1 x0.2.2.2.1.2 a0.nodes) (by simp [GoT.fa])) x0.2.2.2.2.2.1.1 x0.2.2.2.2.2.1.2 (g0 (MF.rs .der x0.2.2.2.2.2.1.1 x0.2.2.2.2.2.1.2 a0.failedLinks) (by simp [GoT.fa])) x0.2.2.2.2.2.2.1.1 x0.2.2.2.2.2.2.1.2 (g0 (MF.rs .der x0.2.2.2.2.2.2.1.1 x0.2.2.2.2.2.2.1.2 a0.inFlight) (by simp [GoT.fa])) x0.2.2.2.2.2.2.2.1.1 x0.2.2.2.2.2.2.2.1.2 (g0 (MF.rs .der x0.2.2.2.2.2.2.2.1.1 x0.2.2.2.2.2.2.2.1.2 a0.consumers) (by simp [GoT.fa])) a1 x1.1.2.1 x1.1.2.2 (g1 (MF.rs .der x1.1.2.1 x1.1.2.2 a1.topology.links) (List.mem_cons_self)) x1.2.1.1.1 x1.2.1.1.2 (g1 (MF.rs .der x1.2.1.1.1 x1.2.1.1.2 a1.trust.keys) (by simp [GoT.fa])) x1.2.1.2.1.1 x1.2.1.2.1.2 (g1 (MF.rs .der x1.2.1.2.1.1 x1.2.1.2.1.2 a1.trust.rules) (by simp [GoT.fa])) x1.2.1.2.2.1.1 x1.2.1.2.2.1.2 (g1 (MF.rs .der x1.2.1.2.2.1.1 x1.2.1.2.2.1.2 a1.trust.anchors) (by simp [GoT.fa])) x1.2.1.2.2.2.1 x1.2.1.2.2.2.2 (g1 (MF.rs .der x1.2.1.2.2.2.1 x1.2.1.2.2.2.2 a1.trust.certificates) (by simp [GoT.fa])) x1.2.2.1.1 x1.2.2.1.2 (g1 (MF.rs .der x1.2.2.1.1 x1.2.2.1.2 a1.producers) (by simp [GoT.fa])) x1.2.2.2.1.1 x1.2.2.2.1.2 (g1 (MF.rs .der x1.2.2.2.1.1 x1.2.2.2.1.2 a1.nodes) (by simp [GoT.fa])) x1.2.2.2.2.2.1.1 x1.2.2.2.2.2.1.2 (g1 (MF.rs .der x1.2.2.2.2.2.1.1 x1.2.2.2.2.2.1.2 a1.failedLinks) (by simp [GoT.fa])) x1.2.2.2.2.2.2.1.1 x1.2.2.2.2.2.2.1.2 (g1 (MF.rs .der x1.2.2.2.2.2.2.1.1 x1.2.2.2.2.2.2.1.2 a1.inFlight) (by simp [GoT.fa])) x1.2.2.2.2.2.2.2.1.1 x1.2.2.2.2.2.2.2.1.2 (g1 (MF.rs .der x1.2.2.2.2.2.2.2.1.1 x1.2.2.2.2.2.2.2.1.2 a1.consumers) (by simp [GoT.fa])) k0 k1).2.mono fun e W1 ⟨v, he, hb, hv⟩ => ?_
  rw [ht] at hv
  obtain ⟨rfl, _⟩ := hv
  subst he
  exact ⟨_, rfl, law_post laid (by kernel_rfl) rfl rfl Tryz.underlying4 (fun ds h => by match ds, h with | [_, _], _ => rfl) hW' hb.below⟩
set_option maxRecDepth 100000 in
theorem c_inPlace : (Rows.fnExactEqualNetworksRow.inPlace == Tryz.prog.inPlace 7) = true := by kernel_rfl
set_option maxRecDepth 100000 in
theorem c_unfollowed : (Rows.fnExactEqualNetworksRow.unfollowed == Tryz.prog.unfollowed 7) = true := by kernel_rfl
set_option maxRecDepth 100000 in
theorem c_recurses : (Rows.fnExactEqualNetworksRow.recurses == Tryz.prog.recurses 7) = true := by kernel_rfl
set_option maxRecDepth 100000 in
theorem c_named : (Rows.fnExactEqualNetworksRow.named == Tryz.prog.varsNamed 7) = true := by kernel_rfl
set_option maxRecDepth 100000 in
theorem c_read : Tryz.f7.params.all (Tryz.pinned.checked.prog.readableRec ·) = true := by kernel_rfl
set_option maxRecDepth 100000 in
theorem c_maps : (Rows.fnExactEqualNetworksRow.maps == (Tryz.f7.params.toList ++ Rows.fnExactEqualNetworksSpec.plain.varTypes Tryz.pinned.checked.prog).any (Tryz.pinned.checked.prog.mapsRec ·)) = true := by kernel_rfl
set_option maxRecDepth 100000 in
theorem c_ifaces : (Rows.fnExactEqualNetworksRow.ifaces == (Tryz.f7.params.toList ++ Rows.fnExactEqualNetworksSpec.plain.varTypes Tryz.pinned.checked.prog).any (Tryz.pinned.checked.prog.ifacesRec ·)) = true := by kernel_rfl
set_option maxRecDepth 100000 in
theorem c_loops : (Rows.fnExactEqualNetworksRow.loops == (Tryz.f7.params.toList ++ Rows.fnExactEqualNetworksSpec.plain.varTypes Tryz.pinned.checked.prog).any (Tryz.pinned.checked.prog.loopsFrom ·)) = true := by kernel_rfl
set_option maxRecDepth 100000 in
theorem c_wide : (Rows.fnExactEqualNetworksRow.wideKeys == (Tryz.f7.params.toList ++ Rows.fnExactEqualNetworksSpec.plain.varTypes Tryz.pinned.checked.prog ++ Tryz.f7.resultTypes.toList).any (Tryz.pinned.checked.prog.wideKeysFrom ·)) = true := by kernel_rfl
set_option maxRecDepth 100000 in
theorem c_rread : Tryz.f7.resultTypes.all (fun t => Tryz.pinned.checked.prog.readableRec t && decide (t < Tryz.pinned.checked.prog.types.size)) = true := by kernel_rfl
set_option maxRecDepth 100000 in
theorem c_veiled : (Rows.fnExactEqualNetworksRow.veiled == (Tryz.f7.params.toList ++ Rows.fnExactEqualNetworksSpec.plain.varTypes Tryz.pinned.checked.prog ++ Tryz.f7.resultTypes.toList).any (Tryz.pinned.checked.prog.veiledRec ·)) = true := by kernel_rfl
set_option maxRecDepth 100000 in
theorem c_vfits : Rows.fnExactEqualNetworksRow.veiledFits Tryz.pinned.checked.prog Tryz.f7.params.toList (Tryz.f7.params.toList ++ Rows.fnExactEqualNetworksSpec.plain.varTypes Tryz.pinned.checked.prog ++ Tryz.f7.resultTypes.toList) = true := by kernel_rfl
set_option maxRecDepth 100000 in
theorem c_enter : Tryz.pinned.checked.prog.mayEnter = true := by kernel_rfl
set_option maxRecDepth 100000 in
theorem c_heard : Tryz.pinned.checked.prog.stopsHeard = true := by kernel_rfl
set_option maxRecDepth 100000 in
theorem c_lifted : (Rows.fnExactEqualNetworksRow.lifted == Tryz.pinned.checked.prog.liftsFinal) = true := by kernel_rfl
set_option maxRecDepth 100000 in
theorem c_plainKeys : (Rows.fnExactEqualNetworksRow.plainKeys == Tryz.pinned.checked.prog.plainKeys) = true := by kernel_rfl
set_option maxRecDepth 100000 in
theorem c_make : (Tryz.pinned.checked.prog.make == some Rows.fnExactEqualNetworksRow.make) = true := by kernel_rfl
set_option maxRecDepth 100000 in
theorem closed : joinedFacts Tryz.pinned.checked.prog 7 Tryz.f7 Rows.fnExactEqualNetworksSpec Rows.fnExactEqualNetworksRow = true := by
  unfold joinedFacts
  rw [show laidOutB Tryz.pinned.checked.prog = true from laid, show mapsRowed Tryz.pinned.checked.prog = true from Facts.rowed, show (Rows.fnExactEqualNetworksRow.inPlace == Tryz.pinned.checked.prog.inPlace 7) = true from c_inPlace, show (Rows.fnExactEqualNetworksRow.unfollowed == Tryz.pinned.checked.prog.unfollowed 7) = true from c_unfollowed, show (Rows.fnExactEqualNetworksRow.recurses == Tryz.pinned.checked.prog.recurses 7) = true from c_recurses, show (Rows.fnExactEqualNetworksRow.named == Tryz.pinned.checked.prog.varsNamed 7) = true from c_named, c_read, c_maps, c_ifaces, c_loops, c_wide, c_rread, c_veiled, c_vfits, c_enter, c_heard, c_lifted, c_plainKeys, c_make]
  kernel_rfl
theorem over : Rows.fnExactEqualNetworksRow.holds Tryz.pinned (OpenSpec.ofChange Rows.fnExactEqualNetworksSpec) :=
  OpenClaim.holds_of_wide 7 Tryz.f7 rfl rfl rfl rfl rfl rfl rfl ⟨rfl, rfl, rfl, rfl, rfl⟩ rfl rfl rfl rfl rfl (by kernel_rfl) Tryz.func7 closed
    (of_decide_eq_true (by kernel_rfl)) (by unfold Func.isWrapper; first | (rw [if_pos (by decide +kernel)]; kernel_rfl) | (rw [if_neg (by decide +kernel)]; exact ⟨rfl, rfl⟩))
    (fun os started H enc _ => lifted os started H enc)
theorem proved : Rows.FnExactEqualNetworksSaid := over
#print axioms proved
end LawEqualNetworks
end Go.Proofs.YtfffongneoegbaaGreat

