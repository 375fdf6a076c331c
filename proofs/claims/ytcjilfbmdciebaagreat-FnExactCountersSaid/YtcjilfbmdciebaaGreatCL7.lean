/-
  That functions of the program compute what the Lean functions do. No condition but what each says. Written by a program (gen2.py).
-/
import Derived.Test.YtcjilfbmdciebaaGreatC12
import Derived.Test.YtcjilfbmdciebaaGreatPure
import Derived.Test.YtcjilfbmdciebaaGreatPL7
namespace Go.Proofs.YtcjilfbmdciebaaGreat
open Go.Stp
set_option linter.unusedVariables false
set_option linter.unusedSimpArgs false
theorem f4 (w : World) (n : Nat) (hn : n + 0 ≤ 9) (aW : Network) (paWTopologyLinks : Option Addr) (caWTopologyLinks : Nat) (hpaWTopologyLinks : RdSl (hp w) paWTopologyLinks caWTopologyLinks aW.topology.links) (paWTrustKeys : Option Addr) (caWTrustKeys : Nat) (hpaWTrustKeys : RdSl (hp w) paWTrustKeys caWTrustKeys aW.trust.keys) (paWTrustRules : Option Addr) (caWTrustRules : Nat) (hpaWTrustRules : RdSl (hp w) paWTrustRules caWTrustRules aW.trust.rules) (paWTrustAnchors : Option Addr) (caWTrustAnchors : Nat) (hpaWTrustAnchors : RdSl (hp w) paWTrustAnchors caWTrustAnchors aW.trust.anchors) (paWTrustCertificates : Option Addr) (caWTrustCertificates : Nat) (hpaWTrustCertificates : RdSl (hp w) paWTrustCertificates caWTrustCertificates aW.trust.certificates) (paWProducers : Option Addr) (caWProducers : Nat) (hpaWProducers : RdSl (hp w) paWProducers caWProducers aW.producers) (paWNodes : Option Addr) (caWNodes : Nat) (hpaWNodes : RdSl (hp w) paWNodes caWNodes aW.nodes) (paWFailedLinks : Option Addr) (caWFailedLinks : Nat) (hpaWFailedLinks : RdSl (hp w) paWFailedLinks caWFailedLinks aW.failedLinks) (paWInFlight : Option Addr) (caWInFlight : Nat) (hpaWInFlight : RdSl (hp w) paWInFlight caWInFlight aW.inFlight) (paWConsumers : Option Addr) (caWConsumers : Nat) (hpaWConsumers : RdSl (hp w) paWConsumers caWConsumers aW.consumers) (aE : EventP) (paEName : Option Addr) (caEName : Nat) (hpaEName : RdSl (hp w) paEName caEName aE.name.parts) (paEForgedInterestName : Option Addr) (caEForgedInterestName : Nat) (hpaEForgedInterestName : RdSl (hp w) paEForgedInterestName caEForgedInterestName aE.forged.interest.name.parts) (paEForgedDataName : Option Addr) (caEForgedDataName : Nat) (hpaEForgedDataName : RdSl (hp w) paEForgedDataName caEForgedDataName aE.forged.data.name.parts) (paEForgedDataContent : Option Addr) (caEForgedDataContent : Nat) (hpaEForgedDataContent : RdSl (hp w) paEForgedDataContent caEForgedDataContent aE.forged.data.content) (paEForgedDataKeyName : Option Addr) (caEForgedDataKeyName : Nat) (hpaEForgedDataKeyName : RdSl (hp w) paEForgedDataKeyName caEForgedDataKeyName aE.forged.data.keyName.parts) (hokaW : GoT.ok 10 aW) (hokaE : GoT.ok 10 aE) :
    Does Tryz.prog 4 #[.agg #[.int .i64 (aW.topology.size), .slice paWTopologyLinks ((aW.topology.links).length) caWTopologyLinks, .slice paWTrustKeys ((aW.trust.keys).length) caWTrustKeys, .slice paWTrustRules ((aW.trust.rules).length) caWTrustRules, .slice paWTrustAnchors ((aW.trust.anchors).length) caWTrustAnchors, .slice paWTrustCertificates ((aW.trust.certificates).length) caWTrustCertificates, .slice paWProducers ((aW.producers).length) caWProducers, .slice paWNodes ((aW.nodes).length) caWNodes, .int .i64 (aW.downNodes), .slice paWFailedLinks ((aW.failedLinks).length) caWFailedLinks, .slice paWInFlight ((aW.inFlight).length) caWInFlight, .slice paWConsumers ((aW.consumers).length) caWConsumers, .int .i64 (aW.now), .int .i64 (aW.dropped)], .agg #[.int .i64 (aE.kind), .int .i64 (aE.n), .slice paEName ((aE.name.parts).length) caEName, .int .i64 (aE.forged.to), .int .i64 (aE.forged.face), .bool aE.forged.isInterest, .slice paEForgedInterestName ((aE.forged.interest.name.parts).length) caEForgedInterestName, .int .i64 (aE.forged.interest.nonce), .int .i64 (aE.forged.interest.hopLimit), .int .i64 (aE.forged.interest.lifetime), .slice paEForgedDataName ((aE.forged.data.name.parts).length) caEForgedDataName, .slice paEForgedDataContent ((aE.forged.data.content).length) caEForgedDataContent, .slice paEForgedDataKeyName ((aE.forged.data.keyName.parts).length) caEForgedDataKeyName, .int .i64 (aE.forged.data.freshUntil), .int .i64 (aE.forged.data.signature)]] w emp (fun (rv : Value) (_ : World) => rv = .bool (laws_FnExactHarmless aW aE) ∧ True) := by
  have hbP := bd_pos n
  have hbB := bd_big (n := n) (by omega)
  refine WX.enter (tt := tt) (Γ := [(0, MF.rs .stb paWTopologyLinks caWTopologyLinks aW.topology.links), (1, MF.rs .stb paWTrustKeys caWTrustKeys aW.trust.keys), (2, MF.rs .stb paWTrustRules caWTrustRules aW.trust.rules), (3, MF.rs .stb paWTrustAnchors caWTrustAnchors aW.trust.anchors), (4, MF.rs .stb paWTrustCertificates caWTrustCertificates aW.trust.certificates), (5, MF.rs .stb paWProducers caWProducers aW.producers), (6, MF.rs .stb paWNodes caWNodes aW.nodes), (7, MF.rs .stb paWFailedLinks caWFailedLinks aW.failedLinks), (8, MF.rs .stb paWInFlight caWInFlight aW.inFlight), (9, MF.rs .stb paWConsumers caWConsumers aW.consumers), (10, MF.rs .stb paEName caEName aE.name.parts), (11, MF.rs .stb paEForgedInterestName caEForgedInterestName aE.forged.interest.name.parts), (12, MF.rs .stb paEForgedDataName caEForgedDataName aE.forged.data.name.parts), (13, MF.rs .stb paEForgedDataContent caEForgedDataContent aE.forged.data.content), (14, MF.rs .stb paEForgedDataKeyName caEForgedDataKeyName aE.forged.data.keyName.parts)]) Tryz.func4 rfl (by kernel_rfl) rfl (allS_cons rfl hpaWTopologyLinks (allS_cons rfl hpaWTrustKeys (allS_cons rfl hpaWTrustRules (allS_cons rfl hpaWTrustAnchors (allS_cons rfl hpaWTrustCertificates (allS_cons rfl hpaWProducers (allS_cons rfl hpaWNodes (allS_cons rfl hpaWFailedLinks (allS_cons rfl hpaWInFlight (allS_cons rfl hpaWConsumers (allS_cons rfl hpaEName (allS_cons rfl hpaEForgedInterestName (allS_cons rfl hpaEForgedDataName (allS_cons rfl hpaEForgedDataContent (allS_cons rfl hpaEForgedDataKeyName allS_nil))))))))))))))) ?_
  refine WX.run ttOk rfl ?_
  refine WX.callV rfl rfl rfl rfl rfl (fun _ => rfl) rfl (fun w G bs hI hΓ => f7 w 10 aW paWTopologyLinks caWTopologyLinks (hΓ.get 0 rfl) paWTrustKeys caWTrustKeys (hΓ.get 1 rfl) paWTrustRules caWTrustRules (hΓ.get 2 rfl) paWTrustAnchors caWTrustAnchors (hΓ.get 3 rfl) paWTrustCertificates caWTrustCertificates (hΓ.get 4 rfl) paWProducers caWProducers (hΓ.get 5 rfl) paWNodes caWNodes (hΓ.get 6 rfl) paWFailedLinks caWFailedLinks (hΓ.get 7 rfl) paWInFlight caWInFlight (hΓ.get 8 rfl) paWConsumers caWConsumers (hΓ.get 9 rfl) 1048576 hokaW (show I64 1048576 from (by unfold I64; omega))) ?_
  intro hq1
  refine WX.run ttOk rfl ?_
  refine WX.cases 14 rfl (fun h1 => ?_) (fun h1 => ?_)
  · skip
    have h1d := B.dt h1
    refine WX.run ttOk rfl ?_
    have hP1 : laws_FnExactHarmless aW aE = true := by simp only [laws_FnExactHarmless, h1, cond_true, cond_false]
    refine WX.ret ttOk rfl ?_
    intro w1 G bs hI hΓ
    rw [hP1]
    exact ⟨rfl, trivial⟩
  · skip
    have h1d := B.df h1
    obtain ⟨hs1, ht1⟩ := (sz_Network_R aW 1048576 hokaW (by omega) (by omega)).pos (by omega)
    have hk1 : GoT.ok n aW := GoT.okm (Nat.zero_le n) (Sz.low hokaW (show sz aW ≤ 1048576 by omega))
    refine WX.run ttOk rfl ?_
    refine WX.callV rfl rfl rfl rfl rfl (fun _ => rfl) rfl (fun w G bs hI hΓ => f12 w 10 aE paEName caEName (hΓ.get 10 rfl) paEForgedInterestName caEForgedInterestName (hΓ.get 11 rfl) paEForgedDataName caEForgedDataName (hΓ.get 12 rfl) paEForgedDataContent caEForgedDataContent (hΓ.get 13 rfl) paEForgedDataKeyName caEForgedDataKeyName (hΓ.get 14 rfl) (laws_szNetwork aW 1048576) hokaE hq1) ?_
    intro hq2
    refine WX.run ttOk rfl ?_
    refine WX.cases 19 rfl (fun h2 => ?_) (fun h2 => ?_)
    · skip
      have h2d := B.dt h2
      refine WX.run ttOk rfl ?_
      have hP2 : laws_FnExactHarmless aW aE = true := by simp only [laws_FnExactHarmless, h1, h2, cond_true, cond_false]
      refine WX.ret ttOk rfl ?_
      intro w1 G bs hI hΓ
      rw [hP2]
      exact ⟨rfl, trivial⟩
    · skip
      have h2d := B.df h2
      obtain ⟨hs2, ht2⟩ := (sz_Event_R aE (laws_szNetwork aW 1048576) hokaE (by omega) (by omega)).pos (by omega)
      have hk2 : GoT.ok n aE := GoT.okm (Nat.zero_le n) (Sz.low hokaE (show sz aE ≤ 1048576 by omega))
      refine WX.run ttOk rfl ?_
      refine WX.draw [] mixed ?_
      intro bs G0 hΓ0
      refine DX.takes (fuel := 4) ttOk [(0, false), (2, false)] (by kernel_rfl) rfl ?_
      refine DX.callF 1 15 (fun _ _ h => GoT.ow_rd h) (fun _ f hf => GoT.fak f hf) rfl (by kernel_rfl) rfl rfl rfl rfl rfl rfl (fun _ => rfl) rfl (fun w G bs hI hΓ => f9 w n (by omega) aW paWTopologyLinks caWTopologyLinks (hΓ.get 0 rfl) paWTrustKeys caWTrustKeys (hΓ.get 1 rfl) paWTrustRules caWTrustRules (hΓ.get 2 rfl) paWTrustAnchors caWTrustAnchors (hΓ.get 3 rfl) paWTrustCertificates caWTrustCertificates (hΓ.get 4 rfl) paWProducers caWProducers (hΓ.get 5 rfl) paWNodes caWNodes (hΓ.get 6 rfl) paWFailedLinks caWFailedLinks (hΓ.get 7 rfl) paWInFlight caWInFlight (hΓ.get 8 rfl) paWConsumers caWConsumers (hΓ.get 9 rfl) hk1) (fun _ => rfl) (fun _ => rfl) ?_
      rintro ⟨⟨⟨⟩, ⟨p1, c1⟩⟩, ⟨⟨p2, c2⟩, ⟨p3, c3⟩, ⟨p4, c4⟩, ⟨p5, c5⟩⟩, ⟨p6, c6⟩, ⟨p7, c7⟩, ⟨⟩, ⟨p8, c8⟩, ⟨p9, c9⟩, ⟨p10, c10⟩, ⟨⟩, ⟨⟩⟩ hq3
      refine DX.callF 3 35 (fun _ _ h => GoT.ow_rd h) (fun _ f hf => GoT.fak f hf) rfl (by kernel_rfl) rfl rfl rfl rfl rfl rfl (fun _ => rfl) rfl (fun w G bs hI hΓ => f14 w n (by omega) aE paEName caEName (hΓ.get 10 rfl) paEForgedInterestName caEForgedInterestName (hΓ.get 11 rfl) paEForgedDataName caEForgedDataName (hΓ.get 12 rfl) paEForgedDataContent caEForgedDataContent (hΓ.get 13 rfl) paEForgedDataKeyName caEForgedDataKeyName (hΓ.get 14 rfl) hk2) (fun _ => rfl) (fun _ => rfl) ?_
      rintro ⟨⟨⟩, ⟨⟩, ⟨p11, c11⟩, ⟨⟨⟩, ⟨⟩, ⟨⟩, ⟨⟨p12, c12⟩, ⟨⟩, ⟨⟩, ⟨⟩⟩, ⟨⟨p13, c13⟩, ⟨p14, c14⟩, ⟨p15, c15⟩, ⟨⟩, ⟨⟩⟩⟩⟩ hq4
      refine DX.callV 4 rfl (by kernel_rfl) rfl rfl rfl rfl rfl rfl (fun _ => rfl) rfl (fun w G bs hI hΓ => f13 w n (by omega) (laws_toNetwork aW) p1 c1 (hΓ.get 15 rfl) p2 c2 (hΓ.get 16 rfl) p3 c3 (hΓ.get 17 rfl) p4 c4 (hΓ.get 18 rfl) p5 c5 (hΓ.get 19 rfl) p6 c6 (hΓ.get 20 rfl) p7 c7 (hΓ.get 21 rfl) p8 c8 (hΓ.get 22 rfl) p9 c9 (hΓ.get 23 rfl) p10 c10 (hΓ.get 24 rfl) (laws_toEvent aE) p11 c11 (hΓ.get 35 rfl) p12 c12 (hΓ.get 36 rfl) p13 c13 (hΓ.get 37 rfl) p14 c14 (hΓ.get 38 rfl) p15 c15 (hΓ.get 39 rfl) hq3 hq4) ?_
      intro hq5
      refine DX.takes (fuel := 0) ttOk [(5, true)] (by kernel_rfl) rfl ?_
      refine DX.tail [] rfl rfl (by kernel_rfl) ?_
      refine WX.run ttOk rfl ?_
      refine WX.callF 45 (fun _ _ h => GoT.ow_rd h) (fun _ f hf => GoT.fak f hf) rfl rfl rfl rfl rfl (fun _ => rfl) rfl (fun w G bs hI hΓ => f9 w n (by omega) aW paWTopologyLinks caWTopologyLinks (hΓ.get 0 rfl) paWTrustKeys caWTrustKeys (hΓ.get 1 rfl) paWTrustRules caWTrustRules (hΓ.get 2 rfl) paWTrustAnchors caWTrustAnchors (hΓ.get 3 rfl) paWTrustCertificates caWTrustCertificates (hΓ.get 4 rfl) paWProducers caWProducers (hΓ.get 5 rfl) paWNodes caWNodes (hΓ.get 6 rfl) paWFailedLinks caWFailedLinks (hΓ.get 7 rfl) paWInFlight caWInFlight (hΓ.get 8 rfl) paWConsumers caWConsumers (hΓ.get 9 rfl) hk1) (fun _ => rfl) (fun _ => rfl) ?_
      rintro ⟨⟨⟨⟩, ⟨p16, c16⟩⟩, ⟨⟨p17, c17⟩, ⟨p18, c18⟩, ⟨p19, c19⟩, ⟨p20, c20⟩⟩, ⟨p21, c21⟩, ⟨p22, c22⟩, ⟨⟩, ⟨p23, c23⟩, ⟨p24, c24⟩, ⟨p25, c25⟩, ⟨⟩, ⟨⟩⟩ hq6
      refine WX.run ttOk rfl ?_
      refine WX.callF 65 (fun _ _ h => GoT.ow_rd h) (fun _ f hf => GoT.fak f hf) rfl rfl rfl rfl rfl (fun _ => rfl) rfl (fun w G bs hI hΓ => f14 w n (by omega) aE paEName caEName (hΓ.get 10 rfl) paEForgedInterestName caEForgedInterestName (hΓ.get 11 rfl) paEForgedDataName caEForgedDataName (hΓ.get 12 rfl) paEForgedDataContent caEForgedDataContent (hΓ.get 13 rfl) paEForgedDataKeyName caEForgedDataKeyName (hΓ.get 14 rfl) hk2) (fun _ => rfl) (fun _ => rfl) ?_
      rintro ⟨⟨⟩, ⟨⟩, ⟨p26, c26⟩, ⟨⟨⟩, ⟨⟩, ⟨⟩, ⟨⟨p27, c27⟩, ⟨⟩, ⟨⟩, ⟨⟩⟩, ⟨⟨p28, c28⟩, ⟨p29, c29⟩, ⟨p30, c30⟩, ⟨⟩, ⟨⟩⟩⟩⟩ hq7
      refine WX.run ttOk rfl ?_
      refine WX.callV rfl rfl rfl rfl rfl (fun _ => rfl) rfl (fun w G bs hI hΓ => f15 w n (by omega) (laws_toNetwork aW) p16 c16 (hΓ.get 45 rfl) p17 c17 (hΓ.get 46 rfl) p18 c18 (hΓ.get 47 rfl) p19 c19 (hΓ.get 48 rfl) p20 c20 (hΓ.get 49 rfl) p21 c21 (hΓ.get 50 rfl) p22 c22 (hΓ.get 51 rfl) p23 c23 (hΓ.get 52 rfl) p24 c24 (hΓ.get 53 rfl) p25 c25 (hΓ.get 54 rfl) (laws_toEvent aE) p26 c26 (hΓ.get 65 rfl) p27 c27 (hΓ.get 66 rfl) p28 c28 (hΓ.get 67 rfl) p29 c29 (hΓ.get 68 rfl) p30 c30 (hΓ.get 69 rfl) (And.intro (And.intro (ok_Topology (ok_Network hq3).1).1 (ok_Topology (ok_Network hq6).1).2) (And.intro (ok_Network hq6).2.1 (And.intro (ok_Network hq6).2.2.1 (And.intro (ok_Network hq6).2.2.2.1 (And.intro (ok_Network hq3).2.2.2.2.1 (And.intro (ok_Network hq6).2.2.2.2.2.1 (And.intro (ok_Network hq6).2.2.2.2.2.2.1 (And.intro (ok_Network hq6).2.2.2.2.2.2.2.1 (And.intro (ok_Network hq3).2.2.2.2.2.2.2.2.1 (ok_Network hq3).2.2.2.2.2.2.2.2.2))))))))) (And.intro (ok_EventP hq4).1 (And.intro (ok_EventP hq4).2.1 (And.intro (ok_EventP hq7).2.2.1 (And.intro (ok_PacketInFlight (ok_EventP hq4).2.2.2).1 (And.intro (ok_PacketInFlight (ok_EventP hq4).2.2.2).2.1 (And.intro trivial (And.intro (And.intro (ok_Interest (ok_PacketInFlight (ok_EventP hq7).2.2.2).2.2.2.1).1 (And.intro (ok_Interest (ok_PacketInFlight (ok_EventP hq4).2.2.2).2.2.2.1).2.1 (And.intro (ok_Interest (ok_PacketInFlight (ok_EventP hq4).2.2.2).2.2.2.1).2.2.1 (ok_Interest (ok_PacketInFlight (ok_EventP hq4).2.2.2).2.2.2.1).2.2.2))) (And.intro (ok_DataP (ok_PacketInFlight (ok_EventP hq7).2.2.2).2.2.2.2).1 (And.intro (ok_DataP (ok_PacketInFlight (ok_EventP hq7).2.2.2).2.2.2.2).2.1 (And.intro (ok_DataP (ok_PacketInFlight (ok_EventP hq7).2.2.2).2.2.2.2).2.2.1 (And.intro (ok_DataP (ok_PacketInFlight (ok_EventP hq4).2.2.2).2.2.2.2).2.2.2.1 (ok_DataP (ok_PacketInFlight (ok_EventP hq4).2.2.2).2.2.2.2).2.2.2.2)))))))))))) ?_
      intro hq8
      refine WX.run ttOk rfl ?_
      refine WX.see rfl rfl rfl (fun _ hΓ => looks_beq ttOk rfl rfl rfl rfl rfl rfl) ?_
      refine WX.run ttOk rfl ?_
      refine WX.cases 34 rfl (fun h3 => ?_) (fun h3 => ?_)
      · skip
        have h3d := (B.nt h3)
        refine WX.run ttOk rfl ?_
        have hP3 : laws_FnExactHarmless aW aE = false := by simp only [laws_FnExactHarmless, h1, h2, h3, cond_true, cond_false]
        refine WX.ret ttOk rfl ?_
        intro w1 G bs hI hΓ
        rw [hP3]
        exact ⟨rfl, trivial⟩
      · skip
        have h3d := (B.nf h3)
        refine WX.run ttOk rfl ?_
        refine WX.draw [] mixed ?_
        intro bs G0 hΓ0
        refine DX.takes (fuel := 3) ttOk [(0, false), (1, false)] (by kernel_rfl) rfl ?_
        refine DX.callF 2 75 (fun _ _ h => GoT.ow_rd h) (fun _ f hf => GoT.fak f hf) rfl (by kernel_rfl) rfl rfl rfl rfl rfl rfl (fun _ => rfl) rfl (fun w G bs hI hΓ => f9 w n (by omega) aW paWTopologyLinks caWTopologyLinks (hΓ.get 0 rfl) paWTrustKeys caWTrustKeys (hΓ.get 1 rfl) paWTrustRules caWTrustRules (hΓ.get 2 rfl) paWTrustAnchors caWTrustAnchors (hΓ.get 3 rfl) paWTrustCertificates caWTrustCertificates (hΓ.get 4 rfl) paWProducers caWProducers (hΓ.get 5 rfl) paWNodes caWNodes (hΓ.get 6 rfl) paWFailedLinks caWFailedLinks (hΓ.get 7 rfl) paWInFlight caWInFlight (hΓ.get 8 rfl) paWConsumers caWConsumers (hΓ.get 9 rfl) hk1) (fun _ => rfl) (fun _ => rfl) ?_
        rintro ⟨⟨⟨⟩, ⟨p31, c31⟩⟩, ⟨⟨p32, c32⟩, ⟨p33, c33⟩, ⟨p34, c34⟩, ⟨p35, c35⟩⟩, ⟨p36, c36⟩, ⟨p37, c37⟩, ⟨⟩, ⟨p38, c38⟩, ⟨p39, c39⟩, ⟨p40, c40⟩, ⟨⟩, ⟨⟩⟩ hq9
        refine DX.callV 3 rfl (by kernel_rfl) rfl rfl rfl rfl rfl rfl (fun _ => rfl) rfl (fun w G bs hI hΓ => f11 w n (by omega) (laws_toNetwork aW) p16 c16 (hΓ.get 45 rfl) p17 c17 (hΓ.get 46 rfl) p18 c18 (hΓ.get 47 rfl) p19 c19 (hΓ.get 48 rfl) p20 c20 (hΓ.get 49 rfl) p21 c21 (hΓ.get 50 rfl) p22 c22 (hΓ.get 51 rfl) p23 c23 (hΓ.get 52 rfl) p24 c24 (hΓ.get 53 rfl) p25 c25 (hΓ.get 54 rfl) (laws_toNetwork aW) p31 c31 (hΓ.get 75 rfl) p32 c32 (hΓ.get 76 rfl) p33 c33 (hΓ.get 77 rfl) p34 c34 (hΓ.get 78 rfl) p35 c35 (hΓ.get 79 rfl) p36 c36 (hΓ.get 80 rfl) p37 c37 (hΓ.get 81 rfl) p38 c38 (hΓ.get 82 rfl) p39 c39 (hΓ.get 83 rfl) p40 c40 (hΓ.get 84 rfl) (And.intro (And.intro (ok_Topology (ok_Network hq3).1).1 (ok_Topology (ok_Network hq6).1).2) (And.intro (ok_Network hq6).2.1 (And.intro (ok_Network hq6).2.2.1 (And.intro (ok_Network hq6).2.2.2.1 (And.intro (ok_Network hq3).2.2.2.2.1 (And.intro (ok_Network hq6).2.2.2.2.2.1 (And.intro (ok_Network hq6).2.2.2.2.2.2.1 (And.intro (ok_Network hq6).2.2.2.2.2.2.2.1 (And.intro (ok_Network hq3).2.2.2.2.2.2.2.2.1 (ok_Network hq3).2.2.2.2.2.2.2.2.2))))))))) (And.intro (And.intro (ok_Topology (ok_Network hq3).1).1 (ok_Topology (ok_Network hq9).1).2) (And.intro (ok_Network hq9).2.1 (And.intro (ok_Network hq9).2.2.1 (And.intro (ok_Network hq9).2.2.2.1 (And.intro (ok_Network hq3).2.2.2.2.1 (And.intro (ok_Network hq9).2.2.2.2.2.1 (And.intro (ok_Network hq9).2.2.2.2.2.2.1 (And.intro (ok_Network hq9).2.2.2.2.2.2.2.1 (And.intro (ok_Network hq3).2.2.2.2.2.2.2.2.1 (ok_Network hq3).2.2.2.2.2.2.2.2.2)))))))))) ?_
        intro hq10
        refine DX.takes (fuel := 0) ttOk [(4, true)] (by kernel_rfl) rfl ?_
        refine DX.tail [] rfl rfl (by kernel_rfl) ?_
        refine WX.run ttOk rfl ?_
        refine WX.cases 39 rfl (fun h4 => ?_) (fun h4 => ?_)
        · skip
          have h4d := (B.nt h4)
          refine WX.run ttOk rfl ?_
          have hP4 : laws_FnExactHarmless aW aE = false := by simp only [laws_FnExactHarmless, h1, h2, h3, h4, cond_true, cond_false]
          refine WX.ret ttOk rfl ?_
          intro w1 G bs hI hΓ
          rw [hP4]
          exact ⟨rfl, trivial⟩
        · skip
          have h4d := (B.nf h4)
          refine WX.run ttOk rfl ?_
          refine WX.draw [] mixed ?_
          intro bs G0 hΓ0
          refine DX.takes (fuel := 3) ttOk [(0, false), (1, false)] (by kernel_rfl) rfl ?_
          refine DX.callF 2 95 (fun _ _ h => GoT.ow_rd h) (fun _ f hf => GoT.fak f hf) rfl (by kernel_rfl) rfl rfl rfl rfl rfl rfl (fun _ => rfl) rfl (fun w G bs hI hΓ => f14 w n (by omega) aE paEName caEName (hΓ.get 10 rfl) paEForgedInterestName caEForgedInterestName (hΓ.get 11 rfl) paEForgedDataName caEForgedDataName (hΓ.get 12 rfl) paEForgedDataContent caEForgedDataContent (hΓ.get 13 rfl) paEForgedDataKeyName caEForgedDataKeyName (hΓ.get 14 rfl) hk2) (fun _ => rfl) (fun _ => rfl) ?_
          rintro ⟨⟨⟩, ⟨⟩, ⟨p41, c41⟩, ⟨⟨⟩, ⟨⟩, ⟨⟩, ⟨⟨p42, c42⟩, ⟨⟩, ⟨⟩, ⟨⟩⟩, ⟨⟨p43, c43⟩, ⟨p44, c44⟩, ⟨p45, c45⟩, ⟨⟩, ⟨⟩⟩⟩⟩ hq11
          refine DX.callV 3 rfl (by kernel_rfl) rfl rfl rfl rfl rfl rfl (fun _ => rfl) rfl (fun w G bs hI hΓ => f16 w n (by omega) (laws_toEvent aE) p26 c26 (hΓ.get 65 rfl) p27 c27 (hΓ.get 66 rfl) p28 c28 (hΓ.get 67 rfl) p29 c29 (hΓ.get 68 rfl) p30 c30 (hΓ.get 69 rfl) (laws_toEvent aE) p41 c41 (hΓ.get 95 rfl) p42 c42 (hΓ.get 96 rfl) p43 c43 (hΓ.get 97 rfl) p44 c44 (hΓ.get 98 rfl) p45 c45 (hΓ.get 99 rfl) (And.intro (ok_EventP hq4).1 (And.intro (ok_EventP hq4).2.1 (And.intro (ok_EventP hq7).2.2.1 (And.intro (ok_PacketInFlight (ok_EventP hq4).2.2.2).1 (And.intro (ok_PacketInFlight (ok_EventP hq4).2.2.2).2.1 (And.intro trivial (And.intro (And.intro (ok_Interest (ok_PacketInFlight (ok_EventP hq7).2.2.2).2.2.2.1).1 (And.intro (ok_Interest (ok_PacketInFlight (ok_EventP hq4).2.2.2).2.2.2.1).2.1 (And.intro (ok_Interest (ok_PacketInFlight (ok_EventP hq4).2.2.2).2.2.2.1).2.2.1 (ok_Interest (ok_PacketInFlight (ok_EventP hq4).2.2.2).2.2.2.1).2.2.2))) (And.intro (ok_DataP (ok_PacketInFlight (ok_EventP hq7).2.2.2).2.2.2.2).1 (And.intro (ok_DataP (ok_PacketInFlight (ok_EventP hq7).2.2.2).2.2.2.2).2.1 (And.intro (ok_DataP (ok_PacketInFlight (ok_EventP hq7).2.2.2).2.2.2.2).2.2.1 (And.intro (ok_DataP (ok_PacketInFlight (ok_EventP hq4).2.2.2).2.2.2.2).2.2.2.1 (ok_DataP (ok_PacketInFlight (ok_EventP hq4).2.2.2).2.2.2.2).2.2.2.2))))))))))) (And.intro (ok_EventP hq4).1 (And.intro (ok_EventP hq4).2.1 (And.intro (ok_EventP hq11).2.2.1 (And.intro (ok_PacketInFlight (ok_EventP hq4).2.2.2).1 (And.intro (ok_PacketInFlight (ok_EventP hq4).2.2.2).2.1 (And.intro trivial (And.intro (And.intro (ok_Interest (ok_PacketInFlight (ok_EventP hq11).2.2.2).2.2.2.1).1 (And.intro (ok_Interest (ok_PacketInFlight (ok_EventP hq4).2.2.2).2.2.2.1).2.1 (And.intro (ok_Interest (ok_PacketInFlight (ok_EventP hq4).2.2.2).2.2.2.1).2.2.1 (ok_Interest (ok_PacketInFlight (ok_EventP hq4).2.2.2).2.2.2.1).2.2.2))) (And.intro (ok_DataP (ok_PacketInFlight (ok_EventP hq11).2.2.2).2.2.2.2).1 (And.intro (ok_DataP (ok_PacketInFlight (ok_EventP hq11).2.2.2).2.2.2.2).2.1 (And.intro (ok_DataP (ok_PacketInFlight (ok_EventP hq11).2.2.2).2.2.2.2).2.2.1 (And.intro (ok_DataP (ok_PacketInFlight (ok_EventP hq4).2.2.2).2.2.2.2).2.2.2.1 (ok_DataP (ok_PacketInFlight (ok_EventP hq4).2.2.2).2.2.2.2).2.2.2.2)))))))))))) ?_
          intro hq12
          refine DX.takes (fuel := 0) ttOk [(4, true)] (by kernel_rfl) rfl ?_
          refine DX.tail [] rfl rfl (by kernel_rfl) ?_
          refine WX.run ttOk rfl ?_
          refine WX.cases 44 rfl (fun h5 => ?_) (fun h5 => ?_)
          · skip
            have h5d := (B.nt h5)
            refine WX.run ttOk rfl ?_
            have hP5 : laws_FnExactHarmless aW aE = false := by simp only [laws_FnExactHarmless, h1, h2, h3, h4, h5, cond_true, cond_false]
            refine WX.ret ttOk rfl ?_
            intro w1 G bs hI hΓ
            rw [hP5]
            exact ⟨rfl, trivial⟩
          · skip
            have h5d := (B.nf h5)
            refine WX.run ttOk rfl ?_
            have hP6 : laws_FnExactHarmless aW aE = true := by simp only [laws_FnExactHarmless, h1, h2, h3, h4, h5, cond_true, cond_false]
            refine WX.ret ttOk rfl ?_
            intro w1 G bs hI hΓ
            rw [hP6]
            exact ⟨rfl, trivial⟩
theorem f5 (w : World) (n : Nat) (hn : n + 0 ≤ 9) (aW : Network) (paWTopologyLinks : Option Addr) (caWTopologyLinks : Nat) (hpaWTopologyLinks : RdSl (hp w) paWTopologyLinks caWTopologyLinks aW.topology.links) (paWTrustKeys : Option Addr) (caWTrustKeys : Nat) (hpaWTrustKeys : RdSl (hp w) paWTrustKeys caWTrustKeys aW.trust.keys) (paWTrustRules : Option Addr) (caWTrustRules : Nat) (hpaWTrustRules : RdSl (hp w) paWTrustRules caWTrustRules aW.trust.rules) (paWTrustAnchors : Option Addr) (caWTrustAnchors : Nat) (hpaWTrustAnchors : RdSl (hp w) paWTrustAnchors caWTrustAnchors aW.trust.anchors) (paWTrustCertificates : Option Addr) (caWTrustCertificates : Nat) (hpaWTrustCertificates : RdSl (hp w) paWTrustCertificates caWTrustCertificates aW.trust.certificates) (paWProducers : Option Addr) (caWProducers : Nat) (hpaWProducers : RdSl (hp w) paWProducers caWProducers aW.producers) (paWNodes : Option Addr) (caWNodes : Nat) (hpaWNodes : RdSl (hp w) paWNodes caWNodes aW.nodes) (paWFailedLinks : Option Addr) (caWFailedLinks : Nat) (hpaWFailedLinks : RdSl (hp w) paWFailedLinks caWFailedLinks aW.failedLinks) (paWInFlight : Option Addr) (caWInFlight : Nat) (hpaWInFlight : RdSl (hp w) paWInFlight caWInFlight aW.inFlight) (paWConsumers : Option Addr) (caWConsumers : Nat) (hpaWConsumers : RdSl (hp w) paWConsumers caWConsumers aW.consumers) (hokaW : GoT.ok 10 aW) :
    Does Tryz.prog 5 #[.agg #[.int .i64 (aW.topology.size), .slice paWTopologyLinks ((aW.topology.links).length) caWTopologyLinks, .slice paWTrustKeys ((aW.trust.keys).length) caWTrustKeys, .slice paWTrustRules ((aW.trust.rules).length) caWTrustRules, .slice paWTrustAnchors ((aW.trust.anchors).length) caWTrustAnchors, .slice paWTrustCertificates ((aW.trust.certificates).length) caWTrustCertificates, .slice paWProducers ((aW.producers).length) caWProducers, .slice paWNodes ((aW.nodes).length) caWNodes, .int .i64 (aW.downNodes), .slice paWFailedLinks ((aW.failedLinks).length) caWFailedLinks, .slice paWInFlight ((aW.inFlight).length) caWInFlight, .slice paWConsumers ((aW.consumers).length) caWConsumers, .int .i64 (aW.now), .int .i64 (aW.dropped)]] w emp (fun (rv : Value) (_ : World) => rv = .bool (laws_FnExactCounters aW) ∧ True) := by
  have hbP := bd_pos n
  have hbB := bd_big (n := n) (by omega)
  refine WX.enter (tt := tt) (Γ := [(0, MF.rs .stb paWTopologyLinks caWTopologyLinks aW.topology.links), (1, MF.rs .stb paWTrustKeys caWTrustKeys aW.trust.keys), (2, MF.rs .stb paWTrustRules caWTrustRules aW.trust.rules), (3, MF.rs .stb paWTrustAnchors caWTrustAnchors aW.trust.anchors), (4, MF.rs .stb paWTrustCertificates caWTrustCertificates aW.trust.certificates), (5, MF.rs .stb paWProducers caWProducers aW.producers), (6, MF.rs .stb paWNodes caWNodes aW.nodes), (7, MF.rs .stb paWFailedLinks caWFailedLinks aW.failedLinks), (8, MF.rs .stb paWInFlight caWInFlight aW.inFlight), (9, MF.rs .stb paWConsumers caWConsumers aW.consumers)]) Tryz.func5 rfl (by kernel_rfl) rfl (allS_cons rfl hpaWTopologyLinks (allS_cons rfl hpaWTrustKeys (allS_cons rfl hpaWTrustRules (allS_cons rfl hpaWTrustAnchors (allS_cons rfl hpaWTrustCertificates (allS_cons rfl hpaWProducers (allS_cons rfl hpaWNodes (allS_cons rfl hpaWFailedLinks (allS_cons rfl hpaWInFlight (allS_cons rfl hpaWConsumers allS_nil)))))))))) ?_
  refine WX.run ttOk rfl ?_
  refine WX.callV rfl rfl rfl rfl rfl (fun _ => rfl) rfl (fun w G bs hI hΓ => f7 w 10 aW paWTopologyLinks caWTopologyLinks (hΓ.get 0 rfl) paWTrustKeys caWTrustKeys (hΓ.get 1 rfl) paWTrustRules caWTrustRules (hΓ.get 2 rfl) paWTrustAnchors caWTrustAnchors (hΓ.get 3 rfl) paWTrustCertificates caWTrustCertificates (hΓ.get 4 rfl) paWProducers caWProducers (hΓ.get 5 rfl) paWNodes caWNodes (hΓ.get 6 rfl) paWFailedLinks caWFailedLinks (hΓ.get 7 rfl) paWInFlight caWInFlight (hΓ.get 8 rfl) paWConsumers caWConsumers (hΓ.get 9 rfl) 1048576 hokaW (show I64 1048576 from (by unfold I64; omega))) ?_
  intro hq1
  refine WX.run ttOk rfl ?_
  refine WX.cases 15 rfl (fun h1 => ?_) (fun h1 => ?_)
  · skip
    have h1d := B.dt h1
    refine WX.run ttOk rfl ?_
    have hP1 : laws_FnExactCounters aW = true := by simp only [laws_FnExactCounters, h1, cond_true, cond_false]
    refine WX.ret ttOk rfl ?_
    intro w1 G bs hI hΓ
    rw [hP1]
    exact ⟨rfl, trivial⟩
  · skip
    have h1d := B.df h1
    obtain ⟨hs1, ht1⟩ := (sz_Network_R aW 1048576 hokaW (by omega) (by omega)).pos (by omega)
    have hk1 : GoT.ok n aW := GoT.okm (Nat.zero_le n) (Sz.low hokaW (show sz aW ≤ 1048576 by omega))
    refine WX.run ttOk rfl ?_
    refine WX.callF 10 (fun _ _ h => GoT.ow_rd h) (fun _ f hf => GoT.fak f hf) rfl rfl rfl rfl rfl (fun _ => rfl) rfl (fun w G bs hI hΓ => f9 w n (by omega) aW paWTopologyLinks caWTopologyLinks (hΓ.get 0 rfl) paWTrustKeys caWTrustKeys (hΓ.get 1 rfl) paWTrustRules caWTrustRules (hΓ.get 2 rfl) paWTrustAnchors caWTrustAnchors (hΓ.get 3 rfl) paWTrustCertificates caWTrustCertificates (hΓ.get 4 rfl) paWProducers caWProducers (hΓ.get 5 rfl) paWNodes caWNodes (hΓ.get 6 rfl) paWFailedLinks caWFailedLinks (hΓ.get 7 rfl) paWInFlight caWInFlight (hΓ.get 8 rfl) paWConsumers caWConsumers (hΓ.get 9 rfl) hk1) (fun _ => rfl) (fun _ => rfl) ?_
    rintro ⟨⟨⟨⟩, ⟨p1, c1⟩⟩, ⟨⟨p2, c2⟩, ⟨p3, c3⟩, ⟨p4, c4⟩, ⟨p5, c5⟩⟩, ⟨p6, c6⟩, ⟨p7, c7⟩, ⟨⟩, ⟨p8, c8⟩, ⟨p9, c9⟩, ⟨p10, c10⟩, ⟨⟩, ⟨⟩⟩ hq2
    refine WX.callF 30 (fun _ _ h => GoT.ow_rd h) (fun _ f hf => GoT.fak f hf) rfl rfl rfl rfl rfl (fun _ => rfl) rfl (fun w G bs hI hΓ => f17 w n (by omega) (laws_toNetwork aW) p1 c1 (hΓ.get 10 rfl) p2 c2 (hΓ.get 11 rfl) p3 c3 (hΓ.get 12 rfl) p4 c4 (hΓ.get 13 rfl) p5 c5 (hΓ.get 14 rfl) p6 c6 (hΓ.get 15 rfl) p7 c7 (hΓ.get 16 rfl) p8 c8 (hΓ.get 17 rfl) p9 c9 (hΓ.get 18 rfl) p10 c10 (hΓ.get 19 rfl) hq2) (fun _ => rfl) (fun _ => rfl) ?_
    rintro ⟨p11, c11⟩ hq3
    refine WX.run ttOk rfl ?_
    refine WX.callF 32 (fun _ _ h => GoT.ow_rd h) (fun _ f hf => GoT.fak f hf) rfl rfl rfl rfl rfl (fun _ => rfl) rfl (fun w G bs hI hΓ => f9 w n (by omega) aW paWTopologyLinks caWTopologyLinks (hΓ.get 0 rfl) paWTrustKeys caWTrustKeys (hΓ.get 1 rfl) paWTrustRules caWTrustRules (hΓ.get 2 rfl) paWTrustAnchors caWTrustAnchors (hΓ.get 3 rfl) paWTrustCertificates caWTrustCertificates (hΓ.get 4 rfl) paWProducers caWProducers (hΓ.get 5 rfl) paWNodes caWNodes (hΓ.get 6 rfl) paWFailedLinks caWFailedLinks (hΓ.get 7 rfl) paWInFlight caWInFlight (hΓ.get 8 rfl) paWConsumers caWConsumers (hΓ.get 9 rfl) hk1) (fun _ => rfl) (fun _ => rfl) ?_
    rintro ⟨⟨⟨⟩, ⟨p12, c12⟩⟩, ⟨⟨p13, c13⟩, ⟨p14, c14⟩, ⟨p15, c15⟩, ⟨p16, c16⟩⟩, ⟨p17, c17⟩, ⟨p18, c18⟩, ⟨⟩, ⟨p19, c19⟩, ⟨p20, c20⟩, ⟨p21, c21⟩, ⟨⟩, ⟨⟩⟩ hq4
    refine WX.run ttOk rfl ?_
    refine WX.callF 52 (fun _ _ h => GoT.ow_rd h) (fun _ f hf => GoT.fak f hf) rfl rfl rfl rfl rfl (fun _ => rfl) rfl (fun w G bs hI hΓ => f18 w n (by omega) (laws_toNetwork aW) p12 c12 (hΓ.get 32 rfl) p13 c13 (hΓ.get 33 rfl) p14 c14 (hΓ.get 34 rfl) p15 c15 (hΓ.get 35 rfl) p16 c16 (hΓ.get 36 rfl) p17 c17 (hΓ.get 37 rfl) p18 c18 (hΓ.get 38 rfl) p19 c19 (hΓ.get 39 rfl) p20 c20 (hΓ.get 40 rfl) p21 c21 (hΓ.get 41 rfl) (And.intro (And.intro (ok_Topology (ok_Network hq2).1).1 (ok_Topology (ok_Network hq4).1).2) (And.intro (ok_Network hq4).2.1 (And.intro (ok_Network hq4).2.2.1 (And.intro (ok_Network hq4).2.2.2.1 (And.intro (ok_Network hq2).2.2.2.2.1 (And.intro (ok_Network hq4).2.2.2.2.2.1 (And.intro (ok_Network hq4).2.2.2.2.2.2.1 (And.intro (ok_Network hq4).2.2.2.2.2.2.2.1 (And.intro (ok_Network hq2).2.2.2.2.2.2.2.2.1 (ok_Network hq2).2.2.2.2.2.2.2.2.2)))))))))) (fun _ => rfl) (fun _ => rfl) ?_
    rintro ⟨p22, c22⟩ hq5
    refine WX.run ttOk rfl ?_
    refine WX.callV rfl rfl rfl rfl rfl (fun _ => rfl) rfl (fun w G bs hI hΓ => f19 w n (by omega) (impl_Counters (laws_toNetwork aW)) p22 c22 (hΓ.get 52 rfl) (spec_Counters (laws_toNetwork aW)) p11 c11 (hΓ.get 30 rfl) hq5 hq3) ?_
    intro hq6
    refine WX.run ttOk rfl ?_
    refine WX.cases 26 rfl (fun h2 => ?_) (fun h2 => ?_)
    · skip
      have h2d := (B.nt h2)
      refine WX.run ttOk rfl ?_
      have hP2 : laws_FnExactCounters aW = false := by simp only [laws_FnExactCounters, h1, h2, cond_true, cond_false]
      refine WX.ret ttOk rfl ?_
      intro w1 G bs hI hΓ
      rw [hP2]
      exact ⟨rfl, trivial⟩
    · skip
      have h2d := (B.nf h2)
      refine WX.run ttOk rfl ?_
      refine WX.draw [] mixed ?_
      intro bs G0 hΓ0
      refine DX.takes (fuel := 3) ttOk [(0, false), (1, false)] (by kernel_rfl) rfl ?_
      refine DX.callF 2 54 (fun _ _ h => GoT.ow_rd h) (fun _ f hf => GoT.fak f hf) rfl (by kernel_rfl) rfl rfl rfl rfl rfl rfl (fun _ => rfl) rfl (fun w G bs hI hΓ => f9 w n (by omega) aW paWTopologyLinks caWTopologyLinks (hΓ.get 0 rfl) paWTrustKeys caWTrustKeys (hΓ.get 1 rfl) paWTrustRules caWTrustRules (hΓ.get 2 rfl) paWTrustAnchors caWTrustAnchors (hΓ.get 3 rfl) paWTrustCertificates caWTrustCertificates (hΓ.get 4 rfl) paWProducers caWProducers (hΓ.get 5 rfl) paWNodes caWNodes (hΓ.get 6 rfl) paWFailedLinks caWFailedLinks (hΓ.get 7 rfl) paWInFlight caWInFlight (hΓ.get 8 rfl) paWConsumers caWConsumers (hΓ.get 9 rfl) hk1) (fun _ => rfl) (fun _ => rfl) ?_
      rintro ⟨⟨⟨⟩, ⟨p23, c23⟩⟩, ⟨⟨p24, c24⟩, ⟨p25, c25⟩, ⟨p26, c26⟩, ⟨p27, c27⟩⟩, ⟨p28, c28⟩, ⟨p29, c29⟩, ⟨⟩, ⟨p30, c30⟩, ⟨p31, c31⟩, ⟨p32, c32⟩, ⟨⟩, ⟨⟩⟩ hq7
      refine DX.callV 3 rfl (by kernel_rfl) rfl rfl rfl rfl rfl rfl (fun _ => rfl) rfl (fun w G bs hI hΓ => f11 w n (by omega) (laws_toNetwork aW) p12 c12 (hΓ.get 32 rfl) p13 c13 (hΓ.get 33 rfl) p14 c14 (hΓ.get 34 rfl) p15 c15 (hΓ.get 35 rfl) p16 c16 (hΓ.get 36 rfl) p17 c17 (hΓ.get 37 rfl) p18 c18 (hΓ.get 38 rfl) p19 c19 (hΓ.get 39 rfl) p20 c20 (hΓ.get 40 rfl) p21 c21 (hΓ.get 41 rfl) (laws_toNetwork aW) p23 c23 (hΓ.get 54 rfl) p24 c24 (hΓ.get 55 rfl) p25 c25 (hΓ.get 56 rfl) p26 c26 (hΓ.get 57 rfl) p27 c27 (hΓ.get 58 rfl) p28 c28 (hΓ.get 59 rfl) p29 c29 (hΓ.get 60 rfl) p30 c30 (hΓ.get 61 rfl) p31 c31 (hΓ.get 62 rfl) p32 c32 (hΓ.get 63 rfl) (And.intro (And.intro (ok_Topology (ok_Network hq2).1).1 (ok_Topology (ok_Network hq4).1).2) (And.intro (ok_Network hq4).2.1 (And.intro (ok_Network hq4).2.2.1 (And.intro (ok_Network hq4).2.2.2.1 (And.intro (ok_Network hq2).2.2.2.2.1 (And.intro (ok_Network hq4).2.2.2.2.2.1 (And.intro (ok_Network hq4).2.2.2.2.2.2.1 (And.intro (ok_Network hq4).2.2.2.2.2.2.2.1 (And.intro (ok_Network hq2).2.2.2.2.2.2.2.2.1 (ok_Network hq2).2.2.2.2.2.2.2.2.2))))))))) (And.intro (And.intro (ok_Topology (ok_Network hq2).1).1 (ok_Topology (ok_Network hq7).1).2) (And.intro (ok_Network hq7).2.1 (And.intro (ok_Network hq7).2.2.1 (And.intro (ok_Network hq7).2.2.2.1 (And.intro (ok_Network hq2).2.2.2.2.1 (And.intro (ok_Network hq7).2.2.2.2.2.1 (And.intro (ok_Network hq7).2.2.2.2.2.2.1 (And.intro (ok_Network hq7).2.2.2.2.2.2.2.1 (And.intro (ok_Network hq2).2.2.2.2.2.2.2.2.1 (ok_Network hq2).2.2.2.2.2.2.2.2.2)))))))))) ?_
      intro hq8
      refine DX.takes (fuel := 0) ttOk [(4, true)] (by kernel_rfl) rfl ?_
      refine DX.tail [] rfl rfl (by kernel_rfl) ?_
      refine WX.run ttOk rfl ?_
      refine WX.cases 31 rfl (fun h3 => ?_) (fun h3 => ?_)
      · skip
        have h3d := (B.nt h3)
        refine WX.run ttOk rfl ?_
        have hP3 : laws_FnExactCounters aW = false := by simp only [laws_FnExactCounters, h1, h2, h3, cond_true, cond_false]
        refine WX.ret ttOk rfl ?_
        intro w1 G bs hI hΓ
        rw [hP3]
        exact ⟨rfl, trivial⟩
      · skip
        have h3d := (B.nf h3)
        refine WX.run ttOk rfl ?_
        refine WX.callM [42, 43, 44, 45, 46, 47, 48, 49, 50, 51] 74 rfl (fun _ _ h => GoT.ow_rd h) (fun _ f hf => GoT.fak f hf) rfl rfl rfl rfl rfl (fun _ => rfl) rfl (fun w G bs H hI hH hs hΓ => f20 w n (by omega) (laws_toNetwork aW) p12 c12 p13 c13 p14 c14 p15 c15 p16 c16 p17 c17 p18 c18 p19 c19 p20 c20 p21 c21 1 H hH hs (And.intro (And.intro (ok_Topology (ok_Network hq2).1).1 (ok_Topology (ok_Network hq4).1).2) (And.intro (ok_Network hq4).2.1 (And.intro (ok_Network hq4).2.2.1 (And.intro (ok_Network hq4).2.2.2.1 (And.intro (ok_Network hq2).2.2.2.2.1 (And.intro (ok_Network hq4).2.2.2.2.2.1 (And.intro (ok_Network hq4).2.2.2.2.2.2.1 (And.intro (ok_Network hq4).2.2.2.2.2.2.2.1 (And.intro (ok_Network hq2).2.2.2.2.2.2.2.2.1 (ok_Network hq2).2.2.2.2.2.2.2.2.2))))))))) (show I64 1 from (by unfold I64; omega))) (fun _ => rfl) (fun _ => rfl) ?_
        rintro ⟨⟩ hq9
        have hl1 : ((laws_markNetwork (laws_toNetwork aW) 1).2.topology.links).length = ((laws_toNetwork aW).topology.links).length := hq9.2.2.1
        have hl2 : ((laws_markNetwork (laws_toNetwork aW) 1).2.trust.keys).length = ((laws_toNetwork aW).trust.keys).length := hq9.2.2.2.1
        have hl3 : ((laws_markNetwork (laws_toNetwork aW) 1).2.trust.rules).length = ((laws_toNetwork aW).trust.rules).length := hq9.2.2.2.2.1
        have hl4 : ((laws_markNetwork (laws_toNetwork aW) 1).2.trust.anchors).length = ((laws_toNetwork aW).trust.anchors).length := hq9.2.2.2.2.2.1
        have hl5 : ((laws_markNetwork (laws_toNetwork aW) 1).2.trust.certificates).length = ((laws_toNetwork aW).trust.certificates).length := hq9.2.2.2.2.2.2.1
        have hl6 : ((laws_markNetwork (laws_toNetwork aW) 1).2.producers).length = ((laws_toNetwork aW).producers).length := hq9.2.2.2.2.2.2.2.1
        have hl7 : ((laws_markNetwork (laws_toNetwork aW) 1).2.nodes).length = ((laws_toNetwork aW).nodes).length := hq9.2.2.2.2.2.2.2.2.1
        have hl8 : ((laws_markNetwork (laws_toNetwork aW) 1).2.failedLinks).length = ((laws_toNetwork aW).failedLinks).length := hq9.2.2.2.2.2.2.2.2.2.2.1
        have hl9 : ((laws_markNetwork (laws_toNetwork aW) 1).2.inFlight).length = ((laws_toNetwork aW).inFlight).length := hq9.2.2.2.2.2.2.2.2.2.2.2.1
        have hl10 : ((laws_markNetwork (laws_toNetwork aW) 1).2.consumers).length = ((laws_toNetwork aW).consumers).length := hq9.2.2.2.2.2.2.2.2.2.2.2.2.1
        refine WX.run ttOk rfl ?_
        refine WX.cases 37 rfl (fun h4 => ?_) (fun h4 => ?_)
        · skip
          have h4d := B.dt h4
          refine WX.run ttOk rfl ?_
          have hP4 : laws_FnExactCounters aW = false := by simp only [laws_FnExactCounters, h1, h2, h3, h4, cond_true, cond_false]
          refine WX.ret ttOk rfl ?_
          intro w1 G bs hI hΓ
          rw [hP4]
          exact ⟨rfl, trivial⟩
        · skip
          have h4d := B.df h4
          refine WX.run ttOk rfl ?_
          refine WX.der 94 (MF.rs .der p22 c22 (impl_Counters (laws_toNetwork aW))) rfl (fun _ hΓ => (hΓ.get 53 rfl : OwSl _ _ _ _).rd) ?_
          refine WX.der 95 (MF.rs .der p11 c11 (spec_Counters (laws_toNetwork aW))) rfl (fun _ hΓ => (hΓ.get 31 rfl : OwSl _ _ _ _).rd) ?_
          refine WX.callV rfl rfl rfl rfl rfl (fun _ => rfl) rfl (fun w G bs hI hΓ => f19 w n (by omega) (impl_Counters (laws_toNetwork aW)) p22 c22 (hΓ.get 94 rfl) (spec_Counters (laws_toNetwork aW)) p11 c11 (hΓ.get 95 rfl) hq5 hq3) ?_
          intro hq10
          refine WX.run ttOk rfl ?_
          refine WX.cases 42 rfl (fun h5 => ?_) (fun h5 => ?_)
          · skip
            have h5d := (B.nt h5)
            exact absurd (h2.symm.trans h5) Bool.false_ne_true
          · skip
            have h5d := (B.nf h5)
            refine WX.run ttOk rfl ?_
            refine WX.callM [53] 96 rfl (fun _ _ h => GoT.ow_rd h) (fun _ f hf => GoT.fak f hf) rfl rfl rfl rfl rfl (fun _ => rfl) rfl (fun w G bs H hI hH hs hΓ => f21 w n (by omega) (impl_Counters (laws_toNetwork aW)) p22 c22 1 H hH hs hq5 (show I64 1 from (by unfold I64; omega))) (fun _ => rfl) (fun _ => rfl) ?_
            rintro ⟨⟩ hq11
            have hl11 : ((laws_markIntS (impl_Counters (laws_toNetwork aW)) 1).2).length = ((impl_Counters (laws_toNetwork aW))).length := hq11.2
            refine WX.run ttOk rfl ?_
            refine WX.slot 46 (y := .v (.slice p22 (((laws_markIntS (impl_Counters (laws_toNetwork aW)) 1).2).length) c22)) rfl (fun _ => by show (.slice p22 (((impl_Counters (laws_toNetwork aW))).length) c22 : Value) = .slice p22 (((laws_markIntS (impl_Counters (laws_toNetwork aW)) 1).2).length) c22; simp only [hl11]) ?_
            refine WX.callV rfl rfl rfl rfl rfl (fun _ => rfl) rfl (fun w G bs hI hΓ => f22 w n (by omega) ((laws_markIntS (impl_Counters (laws_toNetwork aW)) 1).2) p22 c22 (hΓ.get 96 rfl) 1 hq11.1.2 (show I64 1 from (by unfold I64; omega))) ?_
            intro hq12
            refine WX.run ttOk rfl ?_
            refine WX.cases 50 rfl (fun h6 => ?_) (fun h6 => ?_)
            · skip
              have h6d := B.dt h6
              refine WX.run ttOk rfl ?_
              have hP5 : laws_FnExactCounters aW = false := by simp only [laws_FnExactCounters, h1, h2, h3, h4, h5, h6, cond_true, cond_false]
              refine WX.ret ttOk rfl ?_
              intro w1 G bs hI hΓ
              rw [hP5]
              exact ⟨rfl, trivial⟩
            · skip
              have h6d := B.df h6
              refine WX.run ttOk rfl ?_
              refine WX.cases 53 rfl (fun h7 => ?_) (fun h7 => ?_)
              · skip
                have h7d := B.nt' h7
                refine WX.run ttOk rfl ?_
                have hP6 : laws_FnExactCounters aW = false := by simp only [laws_FnExactCounters, h1, h2, h3, h4, h5, h6, h7, cond_true, cond_false]
                refine WX.ret ttOk rfl ?_
                intro w1 G bs hI hΓ
                rw [hP6]
                exact ⟨rfl, trivial⟩
              · skip
                have h7d := B.nf' h7
                refine WX.run ttOk rfl ?_
                refine WX.callF 98 (fun _ _ h => GoT.ow_rd h) (fun _ f hf => GoT.fak f hf) rfl rfl rfl rfl rfl (fun _ => rfl) rfl (fun w G bs hI hΓ => f9 w n (by omega) aW paWTopologyLinks caWTopologyLinks (hΓ.get 0 rfl) paWTrustKeys caWTrustKeys (hΓ.get 1 rfl) paWTrustRules caWTrustRules (hΓ.get 2 rfl) paWTrustAnchors caWTrustAnchors (hΓ.get 3 rfl) paWTrustCertificates caWTrustCertificates (hΓ.get 4 rfl) paWProducers caWProducers (hΓ.get 5 rfl) paWNodes caWNodes (hΓ.get 6 rfl) paWFailedLinks caWFailedLinks (hΓ.get 7 rfl) paWInFlight caWInFlight (hΓ.get 8 rfl) paWConsumers caWConsumers (hΓ.get 9 rfl) hk1) (fun _ => rfl) (fun _ => rfl) ?_
                rintro ⟨⟨⟨⟩, ⟨p33, c33⟩⟩, ⟨⟨p34, c34⟩, ⟨p35, c35⟩, ⟨p36, c36⟩, ⟨p37, c37⟩⟩, ⟨p38, c38⟩, ⟨p39, c39⟩, ⟨⟩, ⟨p40, c40⟩, ⟨p41, c41⟩, ⟨p42, c42⟩, ⟨⟩, ⟨⟩⟩ hq13
                refine WX.callF 118 (fun _ _ h => GoT.ow_rd h) (fun _ f hf => GoT.fak f hf) rfl rfl rfl rfl rfl (fun _ => rfl) rfl (fun w G bs hI hΓ => f18 w n (by omega) (laws_toNetwork aW) p33 c33 (hΓ.get 98 rfl) p34 c34 (hΓ.get 99 rfl) p35 c35 (hΓ.get 100 rfl) p36 c36 (hΓ.get 101 rfl) p37 c37 (hΓ.get 102 rfl) p38 c38 (hΓ.get 103 rfl) p39 c39 (hΓ.get 104 rfl) p40 c40 (hΓ.get 105 rfl) p41 c41 (hΓ.get 106 rfl) p42 c42 (hΓ.get 107 rfl) (And.intro (And.intro (ok_Topology (ok_Network hq2).1).1 (ok_Topology (ok_Network hq13).1).2) (And.intro (ok_Network hq13).2.1 (And.intro (ok_Network hq13).2.2.1 (And.intro (ok_Network hq13).2.2.2.1 (And.intro (ok_Network hq2).2.2.2.2.1 (And.intro (ok_Network hq13).2.2.2.2.2.1 (And.intro (ok_Network hq13).2.2.2.2.2.2.1 (And.intro (ok_Network hq13).2.2.2.2.2.2.2.1 (And.intro (ok_Network hq2).2.2.2.2.2.2.2.2.1 (ok_Network hq2).2.2.2.2.2.2.2.2.2)))))))))) (fun _ => rfl) (fun _ => rfl) ?_
                rintro ⟨p43, c43⟩ hq14
                refine WX.run ttOk rfl ?_
                refine WX.der 120 (MF.rs .der p11 c11 (spec_Counters (laws_toNetwork aW))) rfl (fun _ hΓ => (hΓ.get 31 rfl : OwSl _ _ _ _).rd) ?_
                refine WX.callV rfl rfl rfl rfl rfl (fun _ => rfl) rfl (fun w G bs hI hΓ => f19 w n (by omega) (impl_Counters (laws_toNetwork aW)) p43 c43 (hΓ.get 118 rfl) (spec_Counters (laws_toNetwork aW)) p11 c11 (hΓ.get 120 rfl) hq14 hq3) ?_
                intro hq15
                refine WX.run ttOk rfl ?_
                refine WX.cases 60 rfl (fun h8 => ?_) (fun h8 => ?_)
                · skip
                  have h8d := (B.nt h8)
                  exact absurd (h2.symm.trans h8) Bool.false_ne_true
                · skip
                  have h8d := (B.nf h8)
                  refine WX.run ttOk rfl ?_
                  refine WX.slot 61 (y := .v (.slice p22 (((laws_markIntS (impl_Counters (laws_toNetwork aW)) 1).2).length) c22)) rfl (fun _ => by show (.slice p22 (((impl_Counters (laws_toNetwork aW))).length) c22 : Value) = .slice p22 (((laws_markIntS (impl_Counters (laws_toNetwork aW)) 1).2).length) c22; simp only [hl11]) ?_
                  refine WX.callV rfl rfl rfl rfl rfl (fun _ => rfl) rfl (fun w G bs hI hΓ => f22 w n (by omega) ((laws_markIntS (impl_Counters (laws_toNetwork aW)) 1).2) p22 c22 (hΓ.get 96 rfl) 1 hq11.1.2 (show I64 1 from (by unfold I64; omega))) ?_
                  intro hq16
                  refine WX.run ttOk rfl ?_
                  refine WX.cases 65 rfl (fun h9 => ?_) (fun h9 => ?_)
                  · skip
                    have h9d := B.dt h9
                    exact absurd (h6.symm.trans h9) Bool.false_ne_true
                  · skip
                    have h9d := B.df h9
                    refine WX.run ttOk rfl ?_
                    refine WX.cases 68 rfl (fun h10 => ?_) (fun h10 => ?_)
                    · skip
                      have h10d := B.nt' h10
                      exact absurd (h7.symm.trans h10) Bool.false_ne_true
                    · skip
                      have h10d := B.nf' h10
                      refine WX.run ttOk rfl ?_
                      have hP7 : laws_FnExactCounters aW = true := by simp only [laws_FnExactCounters, h1, h2, h3, h4, h5, h6, h7, h8, h9, h10, cond_true, cond_false]
                      refine WX.ret ttOk rfl ?_
                      intro w1 G bs hI hΓ
                      rw [hP7]
                      exact ⟨rfl, trivial⟩
end Go.Proofs.YtcjilfbmdciebaaGreat
