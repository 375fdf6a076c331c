/-
  That functions of the program compute what the Lean functions do. No condition but what each says. Written by a program (gen2.py).
-/
import Derived.Test.YtcjilfbmdciebaaGreatC11
import Derived.Test.YtcjilfbmdciebaaGreatP12
namespace Go.Proofs.YtcjilfbmdciebaaGreat
open Go.Stp
set_option linter.unusedVariables false
set_option linter.unusedSimpArgs false
theorem f56 (w : World) (n : Nat) (hn : n + 0 ≤ 9) (a : Interest) (paName : Option Addr) (caName : Nat) (hpaName : RdSl (hp w) paName caName a.name.parts) (b : Interest) (pbName : Option Addr) (cbName : Nat) (hpbName : RdSl (hp w) pbName cbName b.name.parts) (hoka : GoT.ok n a) (hokb : GoT.ok n b) :
    Does Tryz.prog 56 #[.agg #[.slice paName ((a.name.parts).length) caName, .int .i64 (a.nonce), .int .i64 (a.hopLimit), .int .i64 (a.lifetime)], .agg #[.slice pbName ((b.name.parts).length) cbName, .int .i64 (b.nonce), .int .i64 (b.hopLimit), .int .i64 (b.lifetime)]] w emp (fun (rv : Value) (_ : World) => rv = .bool (impl_EqualInterests a b) ∧ True) := by
  have hbP := bd_pos n
  have hbB := bd_big (n := n) (by omega)
  refine WX.enter (tt := tt) (Γ := [(0, MF.rs .stb paName caName a.name.parts), (1, MF.rs .stb pbName cbName b.name.parts)]) Tryz.func56 rfl (by kernel_rfl) rfl (allS_cons rfl hpaName (allS_cons rfl hpbName allS_nil)) ?_
  refine WX.run ttOk rfl ?_
  refine WX.callV rfl rfl rfl rfl rfl (fun _ => rfl) rfl (fun w G bs hI hΓ => f114 w n (by omega) a.name paName caName (hΓ.get 0 rfl) b.name pbName cbName (hΓ.get 1 rfl) ((ok_Interest hoka).1) ((ok_Interest hokb).1)) ?_
  intro hq1
  refine WX.run ttOk rfl ?_
  refine WX.cases 10 rfl (fun h1 => ?_) (fun h1 => ?_)
  · skip
    refine WX.run ttOk rfl ?_
    refine WX.cases 17 rfl (fun h2 => ?_) (fun h2 => ?_)
    · skip
      have h2d := B.et h2
      refine WX.run ttOk rfl ?_
      refine WX.cases 24 rfl (fun h3 => ?_) (fun h3 => ?_)
      · skip
        have h3d := B.et h3
        refine WX.run ttOk rfl ?_
        have hP1 : impl_EqualInterests a b = (a.lifetime == b.lifetime) := by simp only [impl_EqualInterests, h1, h2, h3, cond_true, cond_false]
        refine WX.ret ttOk rfl ?_
        intro w1 G bs hI hΓ
        rw [hP1]
        exact ⟨rfl, trivial⟩
      · skip
        have h3d := B.ef h3
        refine WX.run ttOk rfl ?_
        have hP2 : impl_EqualInterests a b = false := by simp only [impl_EqualInterests, h1, h2, h3, cond_true, cond_false]
        refine WX.ret ttOk rfl ?_
        intro w1 G bs hI hΓ
        rw [hP2]
        exact ⟨rfl, trivial⟩
    · skip
      have h2d := B.ef h2
      refine WX.run ttOk rfl ?_
      have hP3 : impl_EqualInterests a b = false := by simp only [impl_EqualInterests, h1, h2, cond_true, cond_false]
      refine WX.ret ttOk rfl ?_
      intro w1 G bs hI hΓ
      rw [hP3]
      exact ⟨rfl, trivial⟩
  · skip
    refine WX.run ttOk rfl ?_
    have hP4 : impl_EqualInterests a b = false := by simp only [impl_EqualInterests, h1, cond_true, cond_false]
    refine WX.ret ttOk rfl ?_
    intro w1 G bs hI hΓ
    rw [hP4]
    exact ⟨rfl, trivial⟩
theorem f51 (w : World) (n : Nat) (hn : n + 0 ≤ 9) (a : Interest) (paName : Option Addr) (caName : Nat) (hpaName : RdSl (hp w) paName caName a.name.parts) (b : Interest) (pbName : Option Addr) (cbName : Nat) (hpbName : RdSl (hp w) pbName cbName b.name.parts) (hoka : GoT.ok n a) (hokb : GoT.ok n b) :
    Does Tryz.prog 51 #[.agg #[.slice paName ((a.name.parts).length) caName, .int .i64 (a.nonce), .int .i64 (a.hopLimit), .int .i64 (a.lifetime)], .agg #[.slice pbName ((b.name.parts).length) cbName, .int .i64 (b.nonce), .int .i64 (b.hopLimit), .int .i64 (b.lifetime)]] w emp (fun (rv : Value) (_ : World) => rv = .bool (spec_EqualInterests a b) ∧ True) := by
  have hbP := bd_pos n
  have hbB := bd_big (n := n) (by omega)
  refine WX.enter (tt := tt) (Γ := [(0, MF.rs .stb paName caName a.name.parts), (1, MF.rs .stb pbName cbName b.name.parts)]) Tryz.func51 rfl (by kernel_rfl) rfl (allS_cons rfl hpaName (allS_cons rfl hpbName allS_nil)) ?_
  refine WX.run ttOk rfl ?_
  refine WX.callV rfl rfl rfl rfl rfl (fun _ => rfl) rfl (fun w G bs hI hΓ => f109 w n (by omega) a.name paName caName (hΓ.get 0 rfl) b.name pbName cbName (hΓ.get 1 rfl) ((ok_Interest hoka).1) ((ok_Interest hokb).1)) ?_
  intro hq1
  refine WX.run ttOk rfl ?_
  refine WX.cases 10 rfl (fun h1 => ?_) (fun h1 => ?_)
  · skip
    refine WX.run ttOk rfl ?_
    refine WX.cases 17 rfl (fun h2 => ?_) (fun h2 => ?_)
    · skip
      have h2d := B.et h2
      refine WX.run ttOk rfl ?_
      refine WX.cases 24 rfl (fun h3 => ?_) (fun h3 => ?_)
      · skip
        have h3d := B.et h3
        refine WX.run ttOk rfl ?_
        have hP1 : spec_EqualInterests a b = (a.lifetime == b.lifetime) := by simp only [spec_EqualInterests, h1, h2, h3, cond_true, cond_false]
        refine WX.ret ttOk rfl ?_
        intro w1 G bs hI hΓ
        rw [hP1]
        exact ⟨rfl, trivial⟩
      · skip
        have h3d := B.ef h3
        refine WX.run ttOk rfl ?_
        have hP2 : spec_EqualInterests a b = false := by simp only [spec_EqualInterests, h1, h2, h3, cond_true, cond_false]
        refine WX.ret ttOk rfl ?_
        intro w1 G bs hI hΓ
        rw [hP2]
        exact ⟨rfl, trivial⟩
    · skip
      have h2d := B.ef h2
      refine WX.run ttOk rfl ?_
      have hP3 : spec_EqualInterests a b = false := by simp only [spec_EqualInterests, h1, h2, cond_true, cond_false]
      refine WX.ret ttOk rfl ?_
      intro w1 G bs hI hΓ
      rw [hP3]
      exact ⟨rfl, trivial⟩
  · skip
    refine WX.run ttOk rfl ?_
    have hP4 : spec_EqualInterests a b = false := by simp only [spec_EqualInterests, h1, cond_true, cond_false]
    refine WX.ret ttOk rfl ?_
    intro w1 G bs hI hΓ
    rw [hP4]
    exact ⟨rfl, trivial⟩
theorem f113 (w : World) (n : Nat) (hn : n + 0 ≤ 9) (s : (List PacketInFlight)) (ps : Option Addr) (cs : Nat) (hps : RdSl (hp w) ps cs s) (fg : FuncId) (fc : List Value) (fq : PacketInFlight → Bool) (ff : ∀ w1, Kp emp w w1 → ∀ (e0 : PacketInFlight) (x0 : GoT.X PacketInFlight), GoT.ok n e0 → All (hp w1) (GoT.fa .der e0 x0) → Does Tryz.prog fg ([Value.agg ⟨GoT.sh e0 x0⟩] ++ fc).toArray w1 emp (fun rv _ => rv = .bool (fq e0) ∧ True)) (hoks : GoT.ok n s) :
    Does Tryz.prog 113 #[.slice ps ((s).length) cs, .func (.func fg) #[] fc.toArray] w emp (fun (rv : Value) (_ : World) => rv = .int .i64 ((slices_IndexFunc_PacketInFlight s fq)) ∧ GoT.ok n ((slices_IndexFunc_PacketInFlight s fq) : Int)) := by
  have hbP := bd_pos n
  have hbB := bd_big (n := n) (by omega)
  refine WX.enter (tt := tt) (Γ := [(0, MF.rs .stb ps cs s)]) Tryz.func113 rfl (by kernel_rfl) rfl (allS_cons rfl hps allS_nil) ?_
  refine WX.run ttOk rfl ?_
  have r1 : (s).length ≤ bd n := (okl hoks).1
  refine WX.loop (ι := Nat) ⟨fun i => (i ≤ (s).length) ∧ (slices_IndexFunc_PacketInFlight_L1 fq s 0 = slices_IndexFunc_PacketInFlight_L1 fq ((s).drop i) i), fun i => (s).length - i, fun i => [(8, .v (.int .i64 (((i : Nat) : Int)))), (7, .v (.int .i64 ((((s).length : Nat) : Int)))), (0, .v (.slice ps ((s).length) cs)), (1, .v (.func (.func fg) #[] fc.toArray))], fun i => [], fun i => [], fun i => [(0, MF.rs .stb ps cs s)]⟩ 0 ⟨(Nat.zero_le _), rfl⟩
    (.cons rfl (.cons rfl (.cons rfl (.cons rfl (.nil))))) .nil .nil [0] rfl ?_
  rintro i hpre
  have hpre_ : (i ≤ (s).length) ∧ (slices_IndexFunc_PacketInFlight_L1 fq s 0 = slices_IndexFunc_PacketInFlight_L1 fq ((s).drop i) i) := hpre
  clear hpre
  obtain ⟨v1, v2⟩ := hpre_
  refine WX.run ttOk rfl ?_
  refine WX.cases 9 rfl (fun h1 => ?_) (fun h1 => ?_)
  · skip
    have h1d := B.dt h1
    have e1i : i < (s).length := (by omega)
    obtain ⟨e1, e1h⟩ : ∃ e1, (s)[i]? = some e1 := ⟨_, List.getElem?_eq_getElem e1i⟩
    have ok1 : GoT.ok n e1 := (okl hoks).2 _ (List.mem_of_getElem? e1h)
    refine WX.run ttOk rfl ?_
    refine WX.idx 0 i ttOk rfl rfl rfl rfl rfl rfl rfl rfl rfl rfl e1i ?_
    rintro ad1 rfl
    refine WX.ldE 0 1 e1 ttOk rfl rfl rfl rfl rfl rfl rfl rfl e1h (fun _ => rfl) (fun _ => rfl) ?_
    rintro ⟨⟨⟩, ⟨⟩, ⟨⟩, ⟨⟨p1, c1⟩, ⟨⟩, ⟨⟩, ⟨⟩⟩, ⟨⟨p2, c2⟩, ⟨p3, c3⟩, ⟨p4, c4⟩, ⟨⟩, ⟨⟩⟩⟩
    refine WX.callV rfl rfl rfl rfl rfl (fun _ => rfl) rfl (fun w G bs hI hΓ => ff w hI.keep e1 ((), (), (), ((p1, c1), (), (), ()), ((p2, c2), (p3, c3), (p4, c4), (), ())) ok1 (All.cons (hΓ.get 1 rfl : RdSl _ _ _ _) (All.cons (hΓ.get 2 rfl : RdSl _ _ _ _) (All.cons (hΓ.get 3 rfl : RdSl _ _ _ _) (All.cons (hΓ.get 4 rfl : RdSl _ _ _ _) All.nil))))) ?_
    intro hq1
    refine WX.run ttOk rfl ?_
    refine WX.cases 16 rfl (fun h2 => ?_) (fun h2 => ?_)
    · skip
      refine WX.run ttOk rfl ?_
      have hP1 : slices_IndexFunc_PacketInFlight_L1 fq s 0 = (some ((i : Nat) : Int)) := by rw [v2, drop_get e1h]; simp only [slices_IndexFunc_PacketInFlight_L1, h2, cond_true, cond_false]
      have hP2 : slices_IndexFunc_PacketInFlight s fq = ((i : Nat) : Int) := by simp only [slices_IndexFunc_PacketInFlight, hP1, cond_true, cond_false]
      refine WX.ret ttOk rfl ?_
      intro w1 G bs hI hΓ
      rw [hP2]
      exact ⟨rfl, (show I64 ((i : Nat) : Int) from (by unfold I64; omega))⟩
    · skip
      refine WX.run ttOk rfl ?_
      refine WX.see rfl rfl rfl (fun _ hΓ => looks_arith rfl rfl rfl rfl (by unfold I64; omega)) ?_
      refine WX.run ttOk rfl ?_
      exact WX.iter (i + 1) ⟨(by omega), (by rw [v2, drop_get e1h]; simp only [slices_IndexFunc_PacketInFlight_L1, h2, cond_true, cond_false])⟩ (by dsimp only; omega) (.cons rfl (.cons rfl (.cons rfl (.cons rfl (.nil))))) .nil .nil [0] rfl
  · skip
    have h1d := B.df h1
    refine WX.run ttOk rfl ?_
    have hX1 : slices_IndexFunc_PacketInFlight_L1 fq s 0 = none := by rw [v2, List.drop_eq_nil_of_le (show (s).length ≤ i by omega)]; simp only [slices_IndexFunc_PacketInFlight_L1, cond_true, cond_false]
    have hP3 : slices_IndexFunc_PacketInFlight s fq = (-1) := by simp only [slices_IndexFunc_PacketInFlight, hX1, cond_true, cond_false]
    refine WX.ret ttOk rfl ?_
    intro w1 G bs hI hΓ
    rw [hP3]
    exact ⟨rfl, (show I64 (-1) from (by unfold I64; omega))⟩
theorem f54 (w : World) (n : Nat) (hn : n + 0 ≤ 9) (s : (List PacketInFlight)) (ps : Option Addr) (cs : Nat) (hps : RdSl (hp w) ps cs s) (fg : FuncId) (fc : List Value) (fq : PacketInFlight → Bool) (ff : ∀ w1, Kp emp w w1 → ∀ (e0 : PacketInFlight) (x0 : GoT.X PacketInFlight), GoT.ok n e0 → All (hp w1) (GoT.fa .der e0 x0) → Does Tryz.prog fg ([Value.agg ⟨GoT.sh e0 x0⟩] ++ fc).toArray w1 emp (fun rv _ => rv = .bool (fq e0) ∧ True)) (hoks : GoT.ok n s) :
    Does Tryz.prog 54 #[.slice ps ((s).length) cs, .func (.func fg) #[] fc.toArray] w emp (fun (rv : Value) (_ : World) => rv = .bool (slices_ContainsFunc_PacketInFlight s fq) ∧ True) := by
  have hbP := bd_pos n
  have hbB := bd_big (n := n) (by omega)
  refine WX.enter (tt := tt) (Γ := [(0, MF.rs .stb ps cs s)]) Tryz.func54 rfl (by kernel_rfl) rfl (allS_cons rfl hps allS_nil) ?_
  refine WX.run ttOk rfl ?_
  refine WX.callV rfl rfl rfl rfl rfl (fun _ => rfl) rfl (fun w G bs hI hΓ => f113 w n (by omega) s ps cs (hΓ.get 0 rfl) fg fc fq (fun w1_ hb_ => ff w1_ (hI.keep.trans hb_)) hoks) ?_
  intro hq1
  refine WX.run ttOk rfl ?_
  have hP1 : slices_ContainsFunc_PacketInFlight s fq = (decide ((slices_IndexFunc_PacketInFlight s fq) ≥ 0)) := by simp only [slices_ContainsFunc_PacketInFlight, cond_true, cond_false]
  refine WX.ret ttOk rfl ?_
  intro w1 G bs hI hΓ
  rw [hP1]
  exact ⟨rfl, trivial⟩
theorem f55 (w : World) (n : Nat) (hn : n + 0 ≤ 9) (p_ : PacketInFlight) (pp_InterestName : Option Addr) (cp_InterestName : Nat) (hpp_InterestName : RdSl (hp w) pp_InterestName cp_InterestName p_.interest.name.parts) (pp_DataName : Option Addr) (cp_DataName : Nat) (hpp_DataName : RdSl (hp w) pp_DataName cp_DataName p_.data.name.parts) (pp_DataContent : Option Addr) (cp_DataContent : Nat) (hpp_DataContent : RdSl (hp w) pp_DataContent cp_DataContent p_.data.content) (pp_DataKeyName : Option Addr) (cp_DataKeyName : Nat) (hpp_DataKeyName : RdSl (hp w) pp_DataKeyName cp_DataKeyName p_.data.keyName.parts) (f : PacketInFlight) (bf : Addr) (hf : RdSl (hp w) (some bf) 1 [f]) (hokp_ : GoT.ok n p_) (hokf : GoT.ok n f) :
    Does Tryz.prog 55 #[.agg #[.int .i64 (p_.to), .int .i64 (p_.face), .bool p_.isInterest, .slice pp_InterestName ((p_.interest.name.parts).length) cp_InterestName, .int .i64 (p_.interest.nonce), .int .i64 (p_.interest.hopLimit), .int .i64 (p_.interest.lifetime), .slice pp_DataName ((p_.data.name.parts).length) cp_DataName, .slice pp_DataContent ((p_.data.content).length) cp_DataContent, .slice pp_DataKeyName ((p_.data.keyName.parts).length) cp_DataKeyName, .int .i64 (p_.data.freshUntil), .int .i64 (p_.data.signature)], .pointer (some bf)] w emp (fun (rv : Value) (_ : World) => rv = .bool (impl_Harmless_c1 f p_) ∧ True) := by
  have hbP := bd_pos n
  have hbB := bd_big (n := n) (by omega)
  refine WX.enter (tt := tt) (Γ := [(0, MF.rs .stb pp_InterestName cp_InterestName p_.interest.name.parts), (1, MF.rs .stb pp_DataName cp_DataName p_.data.name.parts), (2, MF.rs .stb pp_DataContent cp_DataContent p_.data.content), (3, MF.rs .stb pp_DataKeyName cp_DataKeyName p_.data.keyName.parts), (4, MF.rs .stb (some bf) 1 ([f]))]) Tryz.func55 rfl (by kernel_rfl) rfl (allS_cons rfl hpp_InterestName (allS_cons rfl hpp_DataName (allS_cons rfl hpp_DataContent (allS_cons rfl hpp_DataKeyName (allS_cons rfl hf allS_nil))))) ?_
  have fh : ([f] : List PacketInFlight)[0]? = some f := rfl
  refine WX.slot 1 (y := .e (some bf) 0 12 0) rfl (fun _ => cap_eq) ?_
  refine WX.run ttOk rfl ?_
  refine WX.cases 6 rfl (fun h1 => ?_) (fun h1 => ?_)
  · skip
    replace h1 : p_.isInterest = true := h1
    refine WX.run ttOk rfl ?_
    refine WX.ldE 4 5 f ttOk rfl rfl rfl rfl rfl rfl rfl rfl fh (fun _ => rfl) (fun _ => rfl) ?_
    rintro ⟨⟨⟩, ⟨⟩, ⟨⟩, ⟨⟨p1, c1⟩, ⟨⟩, ⟨⟩, ⟨⟩⟩, ⟨⟨p2, c2⟩, ⟨p3, c3⟩, ⟨p4, c4⟩, ⟨⟩, ⟨⟩⟩⟩
    refine WX.callV rfl rfl rfl rfl rfl (fun _ => rfl) rfl (fun w G bs hI hΓ => f56 w n (by omega) p_.interest pp_InterestName cp_InterestName (hΓ.get 0 rfl) f.interest p1 c1 (hΓ.get 5 rfl) ((ok_PacketInFlight hokp_).2.2.2.1) ((ok_PacketInFlight hokf).2.2.2.1)) ?_
    intro hq1
    refine WX.run ttOk rfl ?_
    have hP1 : impl_Harmless_c1 f p_ = (impl_EqualInterests p_.interest f.interest) := by simp only [impl_Harmless_c1, h1, cond_true, cond_false]
    refine WX.ret ttOk rfl ?_
    intro w1 G bs hI hΓ
    rw [hP1]
    exact ⟨rfl, trivial⟩
  · skip
    replace h1 : p_.isInterest = false := h1
    refine WX.run ttOk rfl ?_
    have hP2 : impl_Harmless_c1 f p_ = false := by simp only [impl_Harmless_c1, h1, cond_true, cond_false]
    refine WX.ret ttOk rfl ?_
    intro w1 G bs hI hΓ
    rw [hP2]
    exact ⟨rfl, trivial⟩
theorem f15 (w : World) (n : Nat) (hn : n + 0 ≤ 9) (w_ : Network) (pw_TopologyLinks : Option Addr) (cw_TopologyLinks : Nat) (hpw_TopologyLinks : RdSl (hp w) pw_TopologyLinks cw_TopologyLinks w_.topology.links) (pw_TrustKeys : Option Addr) (cw_TrustKeys : Nat) (hpw_TrustKeys : RdSl (hp w) pw_TrustKeys cw_TrustKeys w_.trust.keys) (pw_TrustRules : Option Addr) (cw_TrustRules : Nat) (hpw_TrustRules : RdSl (hp w) pw_TrustRules cw_TrustRules w_.trust.rules) (pw_TrustAnchors : Option Addr) (cw_TrustAnchors : Nat) (hpw_TrustAnchors : RdSl (hp w) pw_TrustAnchors cw_TrustAnchors w_.trust.anchors) (pw_TrustCertificates : Option Addr) (cw_TrustCertificates : Nat) (hpw_TrustCertificates : RdSl (hp w) pw_TrustCertificates cw_TrustCertificates w_.trust.certificates) (pw_Producers : Option Addr) (cw_Producers : Nat) (hpw_Producers : RdSl (hp w) pw_Producers cw_Producers w_.producers) (pw_Nodes : Option Addr) (cw_Nodes : Nat) (hpw_Nodes : RdSl (hp w) pw_Nodes cw_Nodes w_.nodes) (pw_FailedLinks : Option Addr) (cw_FailedLinks : Nat) (hpw_FailedLinks : RdSl (hp w) pw_FailedLinks cw_FailedLinks w_.failedLinks) (pw_InFlight : Option Addr) (cw_InFlight : Nat) (hpw_InFlight : RdSl (hp w) pw_InFlight cw_InFlight w_.inFlight) (pw_Consumers : Option Addr) (cw_Consumers : Nat) (hpw_Consumers : RdSl (hp w) pw_Consumers cw_Consumers w_.consumers) (e_ : EventP) (pe_Name : Option Addr) (ce_Name : Nat) (hpe_Name : RdSl (hp w) pe_Name ce_Name e_.name.parts) (pe_ForgedInterestName : Option Addr) (ce_ForgedInterestName : Nat) (hpe_ForgedInterestName : RdSl (hp w) pe_ForgedInterestName ce_ForgedInterestName e_.forged.interest.name.parts) (pe_ForgedDataName : Option Addr) (ce_ForgedDataName : Nat) (hpe_ForgedDataName : RdSl (hp w) pe_ForgedDataName ce_ForgedDataName e_.forged.data.name.parts) (pe_ForgedDataContent : Option Addr) (ce_ForgedDataContent : Nat) (hpe_ForgedDataContent : RdSl (hp w) pe_ForgedDataContent ce_ForgedDataContent e_.forged.data.content) (pe_ForgedDataKeyName : Option Addr) (ce_ForgedDataKeyName : Nat) (hpe_ForgedDataKeyName : RdSl (hp w) pe_ForgedDataKeyName ce_ForgedDataKeyName e_.forged.data.keyName.parts) (hokw_ : GoT.ok n w_) (hoke_ : GoT.ok n e_) :
    Does Tryz.prog 15 #[.agg #[.int .i64 (w_.topology.size), .slice pw_TopologyLinks ((w_.topology.links).length) cw_TopologyLinks, .slice pw_TrustKeys ((w_.trust.keys).length) cw_TrustKeys, .slice pw_TrustRules ((w_.trust.rules).length) cw_TrustRules, .slice pw_TrustAnchors ((w_.trust.anchors).length) cw_TrustAnchors, .slice pw_TrustCertificates ((w_.trust.certificates).length) cw_TrustCertificates, .slice pw_Producers ((w_.producers).length) cw_Producers, .slice pw_Nodes ((w_.nodes).length) cw_Nodes, .int .i64 (w_.downNodes), .slice pw_FailedLinks ((w_.failedLinks).length) cw_FailedLinks, .slice pw_InFlight ((w_.inFlight).length) cw_InFlight, .slice pw_Consumers ((w_.consumers).length) cw_Consumers, .int .i64 (w_.now), .int .i64 (w_.dropped)], .agg #[.int .i64 (e_.kind), .int .i64 (e_.n), .slice pe_Name ((e_.name.parts).length) ce_Name, .int .i64 (e_.forged.to), .int .i64 (e_.forged.face), .bool e_.forged.isInterest, .slice pe_ForgedInterestName ((e_.forged.interest.name.parts).length) ce_ForgedInterestName, .int .i64 (e_.forged.interest.nonce), .int .i64 (e_.forged.interest.hopLimit), .int .i64 (e_.forged.interest.lifetime), .slice pe_ForgedDataName ((e_.forged.data.name.parts).length) ce_ForgedDataName, .slice pe_ForgedDataContent ((e_.forged.data.content).length) ce_ForgedDataContent, .slice pe_ForgedDataKeyName ((e_.forged.data.keyName.parts).length) ce_ForgedDataKeyName, .int .i64 (e_.forged.data.freshUntil), .int .i64 (e_.forged.data.signature)]] w emp (fun (rv : Value) (_ : World) => rv = .bool (impl_Harmless w_ e_) ∧ True) := by
  have hbP := bd_pos n
  have hbB := bd_big (n := n) (by omega)
  refine WX.enter (tt := tt) (Γ := [(0, MF.rs .stb pw_TopologyLinks cw_TopologyLinks w_.topology.links), (1, MF.rs .stb pw_TrustKeys cw_TrustKeys w_.trust.keys), (2, MF.rs .stb pw_TrustRules cw_TrustRules w_.trust.rules), (3, MF.rs .stb pw_TrustAnchors cw_TrustAnchors w_.trust.anchors), (4, MF.rs .stb pw_TrustCertificates cw_TrustCertificates w_.trust.certificates), (5, MF.rs .stb pw_Producers cw_Producers w_.producers), (6, MF.rs .stb pw_Nodes cw_Nodes w_.nodes), (7, MF.rs .stb pw_FailedLinks cw_FailedLinks w_.failedLinks), (8, MF.rs .stb pw_InFlight cw_InFlight w_.inFlight), (9, MF.rs .stb pw_Consumers cw_Consumers w_.consumers), (10, MF.rs .stb pe_Name ce_Name e_.name.parts), (11, MF.rs .stb pe_ForgedInterestName ce_ForgedInterestName e_.forged.interest.name.parts), (12, MF.rs .stb pe_ForgedDataName ce_ForgedDataName e_.forged.data.name.parts), (13, MF.rs .stb pe_ForgedDataContent ce_ForgedDataContent e_.forged.data.content), (14, MF.rs .stb pe_ForgedDataKeyName ce_ForgedDataKeyName e_.forged.data.keyName.parts)]) Tryz.func15 rfl (by kernel_rfl) rfl (allS_cons rfl hpw_TopologyLinks (allS_cons rfl hpw_TrustKeys (allS_cons rfl hpw_TrustRules (allS_cons rfl hpw_TrustAnchors (allS_cons rfl hpw_TrustCertificates (allS_cons rfl hpw_Producers (allS_cons rfl hpw_Nodes (allS_cons rfl hpw_FailedLinks (allS_cons rfl hpw_InFlight (allS_cons rfl hpw_Consumers (allS_cons rfl hpe_Name (allS_cons rfl hpe_ForgedInterestName (allS_cons rfl hpe_ForgedDataName (allS_cons rfl hpe_ForgedDataContent (allS_cons rfl hpe_ForgedDataKeyName allS_nil))))))))))))))) ?_
  refine WX.run ttOk rfl ?_
  refine WX.cases 11 rfl (fun h1 => ?_) (fun h1 => ?_)
  · skip
    have h1d := B.nt' h1
    refine WX.run ttOk rfl ?_
    have hP1 : impl_Harmless w_ e_ = true := by simp only [impl_Harmless, h1, cond_true, cond_false]
    refine WX.ret ttOk rfl ?_
    intro w1 G bs hI hΓ
    rw [hP1]
    exact ⟨rfl, trivial⟩
  · skip
    have h1d := B.nf' h1
    refine WX.run ttOk rfl ?_
    refine WX.cases 16 rfl (fun h2 => ?_) (fun h2 => ?_)
    · skip
      have h2d := (B.nt h2)
      refine WX.run ttOk rfl ?_
      have hP2 : impl_Harmless w_ e_ = true := by simp only [impl_Harmless, h1, h2, cond_true, cond_false]
      refine WX.ret ttOk rfl ?_
      intro w1 G bs hI hΓ
      rw [hP2]
      exact ⟨rfl, trivial⟩
    · skip
      have h2d := (B.nf h2)
      refine WX.run ttOk rfl ?_
      refine WX.cases 21 rfl (fun h3 => ?_) (fun h3 => ?_)
      · skip
        have h3d := B.dt h3
        refine WX.run ttOk rfl ?_
        have hP3 : impl_Harmless w_ e_ = true := by simp only [impl_Harmless, h1, h2, h3, cond_true, cond_false]
        refine WX.ret ttOk rfl ?_
        intro w1 G bs hI hΓ
        rw [hP3]
        exact ⟨rfl, trivial⟩
      · skip
        have h3d := B.df h3
        refine WX.run ttOk rfl ?_
        refine WX.callV rfl rfl rfl rfl rfl (fun _ => rfl) rfl (fun w G bs hI hΓ => f54 w n (by omega) w_.inFlight pw_InFlight cw_InFlight (hΓ.get 8 rfl) 55 [Value.pointer (some ⟨bs 5, 0, none⟩)] (fun e0_ => (impl_Harmless_c1 e_.forged e0_)) (fun w1_ hb_ e0_ x0_ hk0_ hx0_ => f55 w1_ n (by omega) e0_ x0_.2.2.2.1.1.1 x0_.2.2.2.1.1.2 (hx0_ _ List.mem_cons_self) x0_.2.2.2.2.1.1 x0_.2.2.2.2.1.2 (hx0_ (MF.rs .der x0_.2.2.2.2.1.1 x0_.2.2.2.2.1.2 e0_.data.name.parts) (by simp [GoT.fa])) x0_.2.2.2.2.2.1.1 x0_.2.2.2.2.2.1.2 (hx0_ (MF.rs .der x0_.2.2.2.2.2.1.1 x0_.2.2.2.2.2.1.2 e0_.data.content) (by simp [GoT.fa])) x0_.2.2.2.2.2.2.1.1 x0_.2.2.2.2.2.2.1.2 (hx0_ (MF.rs .der x0_.2.2.2.2.2.2.1.1 x0_.2.2.2.2.2.2.1.2 e0_.data.keyName.parts) (by simp [GoT.fa])) e_.forged ⟨bs 5, 0, none⟩ ((rd_box (α := PacketInFlight) (a := e_.forged) (x := ((), (), (), ((pe_ForgedInterestName, ce_ForgedInterestName), (), (), ()), ((pe_ForgedDataName, ce_ForgedDataName), (pe_ForgedDataContent, ce_ForgedDataContent), (pe_ForgedDataKeyName, ce_ForgedDataKeyName), (), ()))) (hI.loc 5 _ rfl).1 (All.cons (hΓ.get 11 rfl : RdSl _ _ _ _) (All.cons (hΓ.get 12 rfl : RdSl _ _ _ _) (All.cons (hΓ.get 13 rfl : RdSl _ _ _ _) (All.cons (hΓ.get 14 rfl : RdSl _ _ _ _) All.nil))))).mono (kp_le hb_)) hk0_ ((ok_EventP hoke_).2.2.2)) ((ok_Network hokw_).2.2.2.2.2.2.1)) ?_
        intro hq1
        refine WX.run ttOk rfl ?_
        have hP4 : impl_Harmless w_ e_ = (slices_ContainsFunc_PacketInFlight w_.inFlight (fun e0_ => (impl_Harmless_c1 e_.forged e0_))) := by simp only [impl_Harmless, h1, h2, h3, cond_true, cond_false]
        refine WX.ret ttOk rfl ?_
        intro w1 G bs hI hΓ
        rw [hP4]
        exact ⟨rfl, trivial⟩
theorem f13 (w : World) (n : Nat) (hn : n + 0 ≤ 9) (w_ : Network) (pw_TopologyLinks : Option Addr) (cw_TopologyLinks : Nat) (hpw_TopologyLinks : RdSl (hp w) pw_TopologyLinks cw_TopologyLinks w_.topology.links) (pw_TrustKeys : Option Addr) (cw_TrustKeys : Nat) (hpw_TrustKeys : RdSl (hp w) pw_TrustKeys cw_TrustKeys w_.trust.keys) (pw_TrustRules : Option Addr) (cw_TrustRules : Nat) (hpw_TrustRules : RdSl (hp w) pw_TrustRules cw_TrustRules w_.trust.rules) (pw_TrustAnchors : Option Addr) (cw_TrustAnchors : Nat) (hpw_TrustAnchors : RdSl (hp w) pw_TrustAnchors cw_TrustAnchors w_.trust.anchors) (pw_TrustCertificates : Option Addr) (cw_TrustCertificates : Nat) (hpw_TrustCertificates : RdSl (hp w) pw_TrustCertificates cw_TrustCertificates w_.trust.certificates) (pw_Producers : Option Addr) (cw_Producers : Nat) (hpw_Producers : RdSl (hp w) pw_Producers cw_Producers w_.producers) (pw_Nodes : Option Addr) (cw_Nodes : Nat) (hpw_Nodes : RdSl (hp w) pw_Nodes cw_Nodes w_.nodes) (pw_FailedLinks : Option Addr) (cw_FailedLinks : Nat) (hpw_FailedLinks : RdSl (hp w) pw_FailedLinks cw_FailedLinks w_.failedLinks) (pw_InFlight : Option Addr) (cw_InFlight : Nat) (hpw_InFlight : RdSl (hp w) pw_InFlight cw_InFlight w_.inFlight) (pw_Consumers : Option Addr) (cw_Consumers : Nat) (hpw_Consumers : RdSl (hp w) pw_Consumers cw_Consumers w_.consumers) (e_ : EventP) (pe_Name : Option Addr) (ce_Name : Nat) (hpe_Name : RdSl (hp w) pe_Name ce_Name e_.name.parts) (pe_ForgedInterestName : Option Addr) (ce_ForgedInterestName : Nat) (hpe_ForgedInterestName : RdSl (hp w) pe_ForgedInterestName ce_ForgedInterestName e_.forged.interest.name.parts) (pe_ForgedDataName : Option Addr) (ce_ForgedDataName : Nat) (hpe_ForgedDataName : RdSl (hp w) pe_ForgedDataName ce_ForgedDataName e_.forged.data.name.parts) (pe_ForgedDataContent : Option Addr) (ce_ForgedDataContent : Nat) (hpe_ForgedDataContent : RdSl (hp w) pe_ForgedDataContent ce_ForgedDataContent e_.forged.data.content) (pe_ForgedDataKeyName : Option Addr) (ce_ForgedDataKeyName : Nat) (hpe_ForgedDataKeyName : RdSl (hp w) pe_ForgedDataKeyName ce_ForgedDataKeyName e_.forged.data.keyName.parts) (hokw_ : GoT.ok n w_) (hoke_ : GoT.ok n e_) :
    Does Tryz.prog 13 #[.agg #[.int .i64 (w_.topology.size), .slice pw_TopologyLinks ((w_.topology.links).length) cw_TopologyLinks, .slice pw_TrustKeys ((w_.trust.keys).length) cw_TrustKeys, .slice pw_TrustRules ((w_.trust.rules).length) cw_TrustRules, .slice pw_TrustAnchors ((w_.trust.anchors).length) cw_TrustAnchors, .slice pw_TrustCertificates ((w_.trust.certificates).length) cw_TrustCertificates, .slice pw_Producers ((w_.producers).length) cw_Producers, .slice pw_Nodes ((w_.nodes).length) cw_Nodes, .int .i64 (w_.downNodes), .slice pw_FailedLinks ((w_.failedLinks).length) cw_FailedLinks, .slice pw_InFlight ((w_.inFlight).length) cw_InFlight, .slice pw_Consumers ((w_.consumers).length) cw_Consumers, .int .i64 (w_.now), .int .i64 (w_.dropped)], .agg #[.int .i64 (e_.kind), .int .i64 (e_.n), .slice pe_Name ((e_.name.parts).length) ce_Name, .int .i64 (e_.forged.to), .int .i64 (e_.forged.face), .bool e_.forged.isInterest, .slice pe_ForgedInterestName ((e_.forged.interest.name.parts).length) ce_ForgedInterestName, .int .i64 (e_.forged.interest.nonce), .int .i64 (e_.forged.interest.hopLimit), .int .i64 (e_.forged.interest.lifetime), .slice pe_ForgedDataName ((e_.forged.data.name.parts).length) ce_ForgedDataName, .slice pe_ForgedDataContent ((e_.forged.data.content).length) ce_ForgedDataContent, .slice pe_ForgedDataKeyName ((e_.forged.data.keyName.parts).length) ce_ForgedDataKeyName, .int .i64 (e_.forged.data.freshUntil), .int .i64 (e_.forged.data.signature)]] w emp (fun (rv : Value) (_ : World) => rv = .bool (spec_Harmless w_ e_) ∧ True) := by
  have hbP := bd_pos n
  have hbB := bd_big (n := n) (by omega)
  refine WX.enter (tt := tt) (Γ := [(0, MF.rs .stb pw_TopologyLinks cw_TopologyLinks w_.topology.links), (1, MF.rs .stb pw_TrustKeys cw_TrustKeys w_.trust.keys), (2, MF.rs .stb pw_TrustRules cw_TrustRules w_.trust.rules), (3, MF.rs .stb pw_TrustAnchors cw_TrustAnchors w_.trust.anchors), (4, MF.rs .stb pw_TrustCertificates cw_TrustCertificates w_.trust.certificates), (5, MF.rs .stb pw_Producers cw_Producers w_.producers), (6, MF.rs .stb pw_Nodes cw_Nodes w_.nodes), (7, MF.rs .stb pw_FailedLinks cw_FailedLinks w_.failedLinks), (8, MF.rs .stb pw_InFlight cw_InFlight w_.inFlight), (9, MF.rs .stb pw_Consumers cw_Consumers w_.consumers), (10, MF.rs .stb pe_Name ce_Name e_.name.parts), (11, MF.rs .stb pe_ForgedInterestName ce_ForgedInterestName e_.forged.interest.name.parts), (12, MF.rs .stb pe_ForgedDataName ce_ForgedDataName e_.forged.data.name.parts), (13, MF.rs .stb pe_ForgedDataContent ce_ForgedDataContent e_.forged.data.content), (14, MF.rs .stb pe_ForgedDataKeyName ce_ForgedDataKeyName e_.forged.data.keyName.parts)]) Tryz.func13 rfl (by kernel_rfl) rfl (allS_cons rfl hpw_TopologyLinks (allS_cons rfl hpw_TrustKeys (allS_cons rfl hpw_TrustRules (allS_cons rfl hpw_TrustAnchors (allS_cons rfl hpw_TrustCertificates (allS_cons rfl hpw_Producers (allS_cons rfl hpw_Nodes (allS_cons rfl hpw_FailedLinks (allS_cons rfl hpw_InFlight (allS_cons rfl hpw_Consumers (allS_cons rfl hpe_Name (allS_cons rfl hpe_ForgedInterestName (allS_cons rfl hpe_ForgedDataName (allS_cons rfl hpe_ForgedDataContent (allS_cons rfl hpe_ForgedDataKeyName allS_nil))))))))))))))) ?_
  refine WX.run ttOk rfl ?_
  refine WX.cases 9 rfl (fun h1 => ?_) (fun h1 => ?_)
  · skip
    have h1d := B.nt' h1
    refine WX.run ttOk rfl ?_
    have hP1 : spec_Harmless w_ e_ = true := by simp only [spec_Harmless, h1, cond_true, cond_false]
    refine WX.ret ttOk rfl ?_
    intro w1 G bs hI hΓ
    rw [hP1]
    exact ⟨rfl, trivial⟩
  · skip
    have h1d := B.nf' h1
    refine WX.run ttOk rfl ?_
    refine WX.cases 15 rfl (fun h2 => ?_) (fun h2 => ?_)
    · skip
      have h2d := (B.nt h2)
      refine WX.run ttOk rfl ?_
      have hP2 : spec_Harmless w_ e_ = true := by simp only [spec_Harmless, h1, h2, cond_true, cond_false]
      refine WX.ret ttOk rfl ?_
      intro w1 G bs hI hΓ
      rw [hP2]
      exact ⟨rfl, trivial⟩
    · skip
      have h2d := (B.nf h2)
      refine WX.run ttOk rfl ?_
      refine WX.cases 21 rfl (fun h3 => ?_) (fun h3 => ?_)
      · skip
        have h3d := B.dt h3
        refine WX.run ttOk rfl ?_
        have hP3 : spec_Harmless w_ e_ = true := by simp only [spec_Harmless, h1, h2, h3, cond_true, cond_false]
        refine WX.ret ttOk rfl ?_
        intro w1 G bs hI hΓ
        rw [hP3]
        exact ⟨rfl, trivial⟩
      · skip
        have h3d := B.df h3
        refine WX.run ttOk rfl ?_
        have r1 : (w_.inFlight).length ≤ bd n := (okl (ok_Network hokw_).2.2.2.2.2.2.1).1
        refine WX.loop (ι := Nat) ⟨fun i => (i ≤ (w_.inFlight).length) ∧ (spec_Harmless_L1 e_ w_.inFlight = spec_Harmless_L1 e_ ((w_.inFlight).drop i)), fun i => (w_.inFlight).length - i, fun i => [(5, .v (.int .i64 (((i : Nat) : Int)))), (3, .p 3 0), (2, .p 2 0)], fun i => [(3, ⟨80, [.int .i64 (e_.kind), .int .i64 (e_.n), .slice pe_Name ((e_.name.parts).length) ce_Name, .int .i64 (e_.forged.to), .int .i64 (e_.forged.face), .bool e_.forged.isInterest, .slice pe_ForgedInterestName ((e_.forged.interest.name.parts).length) ce_ForgedInterestName, .int .i64 (e_.forged.interest.nonce), .int .i64 (e_.forged.interest.hopLimit), .int .i64 (e_.forged.interest.lifetime), .slice pe_ForgedDataName ((e_.forged.data.name.parts).length) ce_ForgedDataName, .slice pe_ForgedDataContent ((e_.forged.data.content).length) ce_ForgedDataContent, .slice pe_ForgedDataKeyName ((e_.forged.data.keyName.parts).length) ce_ForgedDataKeyName, .int .i64 (e_.forged.data.freshUntil), .int .i64 (e_.forged.data.signature)]⟩), (2, ⟨54, [.int .i64 (w_.topology.size), .slice pw_TopologyLinks ((w_.topology.links).length) cw_TopologyLinks, .slice pw_TrustKeys ((w_.trust.keys).length) cw_TrustKeys, .slice pw_TrustRules ((w_.trust.rules).length) cw_TrustRules, .slice pw_TrustAnchors ((w_.trust.anchors).length) cw_TrustAnchors, .slice pw_TrustCertificates ((w_.trust.certificates).length) cw_TrustCertificates, .slice pw_Producers ((w_.producers).length) cw_Producers, .slice pw_Nodes ((w_.nodes).length) cw_Nodes, .int .i64 (w_.downNodes), .slice pw_FailedLinks ((w_.failedLinks).length) cw_FailedLinks, .slice pw_InFlight ((w_.inFlight).length) cw_InFlight, .slice pw_Consumers ((w_.consumers).length) cw_Consumers, .int .i64 (w_.now), .int .i64 (w_.dropped)]⟩)], fun i => [], fun i => [(0, MF.rs .stb pw_TopologyLinks cw_TopologyLinks w_.topology.links), (1, MF.rs .stb pw_TrustKeys cw_TrustKeys w_.trust.keys), (2, MF.rs .stb pw_TrustRules cw_TrustRules w_.trust.rules), (3, MF.rs .stb pw_TrustAnchors cw_TrustAnchors w_.trust.anchors), (4, MF.rs .stb pw_TrustCertificates cw_TrustCertificates w_.trust.certificates), (5, MF.rs .stb pw_Producers cw_Producers w_.producers), (6, MF.rs .stb pw_Nodes cw_Nodes w_.nodes), (7, MF.rs .stb pw_FailedLinks cw_FailedLinks w_.failedLinks), (8, MF.rs .stb pw_InFlight cw_InFlight w_.inFlight), (9, MF.rs .stb pw_Consumers cw_Consumers w_.consumers), (10, MF.rs .stb pe_Name ce_Name e_.name.parts), (11, MF.rs .stb pe_ForgedInterestName ce_ForgedInterestName e_.forged.interest.name.parts), (12, MF.rs .stb pe_ForgedDataName ce_ForgedDataName e_.forged.data.name.parts), (13, MF.rs .stb pe_ForgedDataContent ce_ForgedDataContent e_.forged.data.content), (14, MF.rs .stb pe_ForgedDataKeyName ce_ForgedDataKeyName e_.forged.data.keyName.parts)]⟩ 0 ⟨(Nat.zero_le _), rfl⟩
          (.cons rfl (.cons rfl (.cons rfl (.nil)))) (.cons rfl (.cons rfl (.nil))) .nil [0, 1, 2, 3, 4, 5, 6, 7, 8, 9, 10, 11, 12, 13, 14] rfl ?_
        rintro i hpre
        have hpre_ : (i ≤ (w_.inFlight).length) ∧ (spec_Harmless_L1 e_ w_.inFlight = spec_Harmless_L1 e_ ((w_.inFlight).drop i)) := hpre
        clear hpre
        obtain ⟨v1, v2⟩ := hpre_
        refine WX.run ttOk rfl ?_
        refine WX.cases 26 rfl (fun h4 => ?_) (fun h4 => ?_)
        · skip
          have h4d := B.dt h4
          have e1i : i < (w_.inFlight).length := (by omega)
          obtain ⟨e1, e1h⟩ : ∃ e1, (w_.inFlight)[i]? = some e1 := ⟨_, List.getElem?_eq_getElem e1i⟩
          have ok1 : GoT.ok n e1 := (okl (ok_Network hokw_).2.2.2.2.2.2.1).2 _ (List.mem_of_getElem? e1h)
          refine WX.run ttOk rfl ?_
          refine WX.draw [] mixed ?_
          intro bs G0 hΓ0
          refine DX.takes (fuel := 15) ttOk [(0, true), (1, false), (2, true)] (by kernel_rfl) rfl ?_
          refine DX.idx 3 8 i ttOk hΓ0 (by kernel_rfl) rfl rfl rfl rfl rfl rfl rfl rfl rfl rfl rfl e1i ?_
          rintro ad1 rfl
          refine DX.takes (fuel := 13) ttOk [(4, true)] (by kernel_rfl) rfl ?_
          refine DX.ldE 5 8 15 e1 ttOk hΓ0 (by kernel_rfl) rfl rfl rfl rfl rfl rfl rfl rfl e1h (fun _ => rfl) (fun _ => rfl) ?_
          rintro ⟨⟨⟩, ⟨⟩, ⟨⟩, ⟨⟨p1, c1⟩, ⟨⟩, ⟨⟩, ⟨⟩⟩, ⟨⟨p2, c2⟩, ⟨p3, c3⟩, ⟨p4, c4⟩, ⟨⟩, ⟨⟩⟩⟩
          refine DX.takes (fuel := 11) ttOk [(6, true)] (by kernel_rfl) rfl ?_
          refine DX.cases 35 rfl (fun h5 => ?_) (fun h5 => ?_)
          · skip
            replace h5 : e1.isInterest = true := h5
            refine DX.takes (fuel := 8) ttOk [(7, true), (8, false), (9, true)] (by kernel_rfl) rfl ?_
            refine DX.idx 10 8 i ttOk hΓ0 (by kernel_rfl) rfl rfl rfl rfl rfl rfl rfl rfl rfl rfl rfl e1i ?_
            rintro ad2 ⟨⟩
            refine DX.takes (fuel := 6) ttOk [(11, true)] (by kernel_rfl) rfl ?_
            refine DX.ldE 12 8 19 e1 ttOk hΓ0 (by kernel_rfl) rfl rfl rfl rfl rfl rfl rfl rfl e1h (fun _ => rfl) (fun _ => rfl) ?_
            rintro ⟨⟨⟩, ⟨⟩, ⟨⟩, ⟨⟨p5, c5⟩, ⟨⟩, ⟨⟩, ⟨⟩⟩, ⟨⟨p6, c6⟩, ⟨p7, c7⟩, ⟨p8, c8⟩, ⟨⟩, ⟨⟩⟩⟩
            refine DX.takes (fuel := 2) ttOk [(13, true), (14, true), (15, false)] (by kernel_rfl) rfl ?_
            refine DX.callV 16 rfl (by kernel_rfl) rfl rfl rfl rfl rfl rfl (fun _ => rfl) rfl (fun w G bs hI hΓ => f51 w n (by omega) e1.interest p5 c5 (hΓ.get 19 rfl) e_.forged.interest pe_ForgedInterestName ce_ForgedInterestName (hΓ.get 11 rfl) ((ok_PacketInFlight ok1).2.2.2.1) ((ok_PacketInFlight (ok_EventP hoke_).2.2.2).2.2.2.1)) ?_
            intro hq1
            refine DX.takes (fuel := 0) ttOk [(17, true)] (by kernel_rfl) rfl ?_
            refine DX.tail [] rfl rfl (by kernel_rfl) ?_
            refine WX.run ttOk rfl ?_
            refine WX.cases 46 rfl (fun h6 => ?_) (fun h6 => ?_)
            · skip
              refine WX.run ttOk rfl ?_
              have hP4 : spec_Harmless_L1 e_ w_.inFlight = (some true) := by rw [v2, drop_get e1h]; simp only [spec_Harmless_L1, h5, h6, cond_true, cond_false]
              have hP5 : spec_Harmless w_ e_ = true := by simp only [spec_Harmless, h1, h2, h3, hP4, cond_true, cond_false]
              refine WX.ret ttOk rfl ?_
              intro w1 G bs hI hΓ
              rw [hP5]
              exact ⟨rfl, trivial⟩
            · skip
              refine WX.run ttOk rfl ?_
              refine WX.see rfl rfl rfl (fun _ hΓ => looks_arith rfl rfl rfl rfl (by unfold I64; omega)) ?_
              refine WX.run ttOk rfl ?_
              exact WX.iter (i + 1) ⟨(by omega), (by rw [v2, drop_get e1h]; simp only [spec_Harmless_L1, h5, h6, cond_true, cond_false])⟩ (by dsimp only; omega) (.cons rfl (.cons rfl (.cons rfl (.nil)))) (.cons rfl (.cons rfl (.nil))) .nil [0, 1, 2, 3, 4, 5, 6, 7, 8, 9, 10, 11, 12, 13, 14] rfl
          · skip
            replace h5 : e1.isInterest = false := h5
            refine DX.takes (fuel := 0) ttOk [(7, true), (8, true), (9, true), (10, true), (11, true), (12, true), (13, true), (14, true), (15, true), (16, true), (17, true)] (by kernel_rfl) rfl ?_
            refine DX.tail [] rfl rfl (by kernel_rfl) ?_
            refine WX.run ttOk rfl ?_
            refine WX.see rfl rfl rfl (fun _ hΓ => looks_arith rfl rfl rfl rfl (by unfold I64; omega)) ?_
            refine WX.run ttOk rfl ?_
            exact WX.iter (i + 1) ⟨(by omega), (by rw [v2, drop_get e1h]; simp only [spec_Harmless_L1, h5, cond_true, cond_false])⟩ (by dsimp only; omega) (.cons rfl (.cons rfl (.cons rfl (.nil)))) (.cons rfl (.cons rfl (.nil))) .nil [0, 1, 2, 3, 4, 5, 6, 7, 8, 9, 10, 11, 12, 13, 14] rfl
        · skip
          have h4d := B.df h4
          refine WX.run ttOk rfl ?_
          have hX1 : spec_Harmless_L1 e_ w_.inFlight = none := by rw [v2, List.drop_eq_nil_of_le (show (w_.inFlight).length ≤ i by omega)]; simp only [spec_Harmless_L1, cond_true, cond_false]
          have hP6 : spec_Harmless w_ e_ = false := by simp only [spec_Harmless, h1, h2, h3, hX1, cond_true, cond_false]
          refine WX.ret ttOk rfl ?_
          intro w1 G bs hI hΓ
          rw [hP6]
          exact ⟨rfl, trivial⟩
theorem f18 (w : World) (n : Nat) (hn : n + 0 ≤ 9) (w_ : Network) (pw_TopologyLinks : Option Addr) (cw_TopologyLinks : Nat) (hpw_TopologyLinks : RdSl (hp w) pw_TopologyLinks cw_TopologyLinks w_.topology.links) (pw_TrustKeys : Option Addr) (cw_TrustKeys : Nat) (hpw_TrustKeys : RdSl (hp w) pw_TrustKeys cw_TrustKeys w_.trust.keys) (pw_TrustRules : Option Addr) (cw_TrustRules : Nat) (hpw_TrustRules : RdSl (hp w) pw_TrustRules cw_TrustRules w_.trust.rules) (pw_TrustAnchors : Option Addr) (cw_TrustAnchors : Nat) (hpw_TrustAnchors : RdSl (hp w) pw_TrustAnchors cw_TrustAnchors w_.trust.anchors) (pw_TrustCertificates : Option Addr) (cw_TrustCertificates : Nat) (hpw_TrustCertificates : RdSl (hp w) pw_TrustCertificates cw_TrustCertificates w_.trust.certificates) (pw_Producers : Option Addr) (cw_Producers : Nat) (hpw_Producers : RdSl (hp w) pw_Producers cw_Producers w_.producers) (pw_Nodes : Option Addr) (cw_Nodes : Nat) (hpw_Nodes : RdSl (hp w) pw_Nodes cw_Nodes w_.nodes) (pw_FailedLinks : Option Addr) (cw_FailedLinks : Nat) (hpw_FailedLinks : RdSl (hp w) pw_FailedLinks cw_FailedLinks w_.failedLinks) (pw_InFlight : Option Addr) (cw_InFlight : Nat) (hpw_InFlight : RdSl (hp w) pw_InFlight cw_InFlight w_.inFlight) (pw_Consumers : Option Addr) (cw_Consumers : Nat) (hpw_Consumers : RdSl (hp w) pw_Consumers cw_Consumers w_.consumers) (hokw_ : GoT.ok n w_) :
    Does Tryz.prog 18 #[.agg #[.int .i64 (w_.topology.size), .slice pw_TopologyLinks ((w_.topology.links).length) cw_TopologyLinks, .slice pw_TrustKeys ((w_.trust.keys).length) cw_TrustKeys, .slice pw_TrustRules ((w_.trust.rules).length) cw_TrustRules, .slice pw_TrustAnchors ((w_.trust.anchors).length) cw_TrustAnchors, .slice pw_TrustCertificates ((w_.trust.certificates).length) cw_TrustCertificates, .slice pw_Producers ((w_.producers).length) cw_Producers, .slice pw_Nodes ((w_.nodes).length) cw_Nodes, .int .i64 (w_.downNodes), .slice pw_FailedLinks ((w_.failedLinks).length) cw_FailedLinks, .slice pw_InFlight ((w_.inFlight).length) cw_InFlight, .slice pw_Consumers ((w_.consumers).length) cw_Consumers, .int .i64 (w_.now), .int .i64 (w_.dropped)]] w emp (Post w emp (fun x : GoT.X ((List Int)) => (GoT.sh ((impl_Counters w_) : (List Int)) x).headD undef) (fun x => GoT.oa ((impl_Counters w_) : (List Int)) x) (GoT.ok n ((impl_Counters w_) : (List Int)))) := by
  have hbP := bd_pos n
  have hbB := bd_big (n := n) (by omega)
  refine WX.enter (tt := tt) (Γ := [(0, MF.rs .stb pw_TopologyLinks cw_TopologyLinks w_.topology.links), (1, MF.rs .stb pw_TrustKeys cw_TrustKeys w_.trust.keys), (2, MF.rs .stb pw_TrustRules cw_TrustRules w_.trust.rules), (3, MF.rs .stb pw_TrustAnchors cw_TrustAnchors w_.trust.anchors), (4, MF.rs .stb pw_TrustCertificates cw_TrustCertificates w_.trust.certificates), (5, MF.rs .stb pw_Producers cw_Producers w_.producers), (6, MF.rs .stb pw_Nodes cw_Nodes w_.nodes), (7, MF.rs .stb pw_FailedLinks cw_FailedLinks w_.failedLinks), (8, MF.rs .stb pw_InFlight cw_InFlight w_.inFlight), (9, MF.rs .stb pw_Consumers cw_Consumers w_.consumers)]) Tryz.func18 rfl (by kernel_rfl) rfl (allS_cons rfl hpw_TopologyLinks (allS_cons rfl hpw_TrustKeys (allS_cons rfl hpw_TrustRules (allS_cons rfl hpw_TrustAnchors (allS_cons rfl hpw_TrustCertificates (allS_cons rfl hpw_Producers (allS_cons rfl hpw_Nodes (allS_cons rfl hpw_FailedLinks (allS_cons rfl hpw_InFlight (allS_cons rfl hpw_Consumers allS_nil)))))))))) ?_
  refine WX.run ttOk rfl ?_
  have r1 : (w_.consumers).length ≤ bd n := (okl (ok_Network hokw_).2.2.2.2.2.2.2.1).1
  refine WX.loop (ι := Int × Nat) ⟨fun | (served, i) => (i ≤ (w_.consumers).length) ∧ (-9223372036854775808 ≤ served ∧ served ≤ 9223372036854775807) ∧ (impl_Counters_L1 w_.consumers 0 = impl_Counters_L1 ((w_.consumers).drop i) served), fun | (served, i) => (w_.consumers).length - i, fun | (served, i) => [(3, .v (.int .i64 (served))), (9, .v (.int .i64 (((i : Nat) : Int)))), (8, .v (.int .i64 ((((w_.consumers).length : Nat) : Int)))), (7, .v (.slice pw_Consumers ((w_.consumers).length) cw_Consumers)), (1, .p 1 0)], fun | (served, i) => [(1, ⟨54, [.int .i64 (w_.topology.size), .slice pw_TopologyLinks ((w_.topology.links).length) cw_TopologyLinks, .slice pw_TrustKeys ((w_.trust.keys).length) cw_TrustKeys, .slice pw_TrustRules ((w_.trust.rules).length) cw_TrustRules, .slice pw_TrustAnchors ((w_.trust.anchors).length) cw_TrustAnchors, .slice pw_TrustCertificates ((w_.trust.certificates).length) cw_TrustCertificates, .slice pw_Producers ((w_.producers).length) cw_Producers, .slice pw_Nodes ((w_.nodes).length) cw_Nodes, .int .i64 (w_.downNodes), .slice pw_FailedLinks ((w_.failedLinks).length) cw_FailedLinks, .slice pw_InFlight ((w_.inFlight).length) cw_InFlight, .slice pw_Consumers ((w_.consumers).length) cw_Consumers, .int .i64 (w_.now), .int .i64 (w_.dropped)]⟩)], fun | (served, i) => [], fun | (served, i) => [(0, MF.rs .stb pw_TopologyLinks cw_TopologyLinks w_.topology.links), (1, MF.rs .stb pw_TrustKeys cw_TrustKeys w_.trust.keys), (2, MF.rs .stb pw_TrustRules cw_TrustRules w_.trust.rules), (3, MF.rs .stb pw_TrustAnchors cw_TrustAnchors w_.trust.anchors), (4, MF.rs .stb pw_TrustCertificates cw_TrustCertificates w_.trust.certificates), (5, MF.rs .stb pw_Producers cw_Producers w_.producers), (6, MF.rs .stb pw_Nodes cw_Nodes w_.nodes), (7, MF.rs .stb pw_FailedLinks cw_FailedLinks w_.failedLinks), (8, MF.rs .stb pw_InFlight cw_InFlight w_.inFlight), (9, MF.rs .stb pw_Consumers cw_Consumers w_.consumers)]⟩ (0, 0) ⟨(Nat.zero_le _), (by first | assumption | omega), rfl⟩
    (.cons rfl (.cons rfl (.cons rfl (.cons rfl (.cons rfl (.nil)))))) (.cons rfl (.nil)) .nil [0, 1, 2, 3, 4, 5, 6, 7, 8, 9] rfl ?_
  rintro ⟨served, i⟩ hpre
  have hpre_ : (i ≤ (w_.consumers).length) ∧ (-9223372036854775808 ≤ served ∧ served ≤ 9223372036854775807) ∧ (impl_Counters_L1 w_.consumers 0 = impl_Counters_L1 ((w_.consumers).drop i) served) := hpre
  clear hpre
  obtain ⟨v1, v2, v3⟩ := hpre_
  refine WX.run ttOk rfl ?_
  refine WX.cases 10 rfl (fun h1 => ?_) (fun h1 => ?_)
  · skip
    have h1d := B.dt h1
    have e1i : i < (w_.consumers).length := (by omega)
    obtain ⟨e1, e1h⟩ : ∃ e1, (w_.consumers)[i]? = some e1 := ⟨_, List.getElem?_eq_getElem e1i⟩
    have ok1 : GoT.ok n e1 := (okl (ok_Network hokw_).2.2.2.2.2.2.2.1).2 _ (List.mem_of_getElem? e1h)
    refine WX.run ttOk rfl ?_
    refine WX.idx 9 i ttOk rfl rfl rfl rfl rfl rfl rfl rfl rfl rfl e1i ?_
    rintro ad1 rfl
    refine WX.ldE 9 10 e1 ttOk rfl rfl rfl rfl rfl rfl rfl rfl e1h (fun _ => rfl) (fun _ => rfl) ?_
    rintro ⟨⟨⟩, ⟨⟩, ⟨p1, c1⟩, ⟨⟩, ⟨⟩, ⟨⟩, ⟨⟨p2, c2⟩, ⟨p3, c3⟩, ⟨p4, c4⟩, ⟨⟩, ⟨⟩⟩⟩
    refine WX.run ttOk rfl ?_
    refine WX.cases 14 rfl (fun h2 => ?_) (fun h2 => ?_)
    · skip
      replace h2 : e1.satisfied = true := h2
      refine WX.run ttOk rfl ?_
      refine WX.see rfl rfl rfl (fun _ hΓ => looks_wrap rfl rfl rfl rfl) ?_
      refine WX.run ttOk rfl ?_
      refine WX.see rfl rfl rfl (fun _ hΓ => looks_arith rfl rfl rfl rfl (by unfold I64; omega)) ?_
      refine WX.run ttOk rfl ?_
      exact WX.iter (IntKind.i64.wrap (served + 1), i + 1) ⟨(by omega), (i64_wrap _), (by rw [v3, drop_get e1h]; simp only [impl_Counters_L1, h2, cond_true, cond_false])⟩ (by dsimp only; omega) (.cons rfl (.cons rfl (.cons rfl (.cons rfl (.cons rfl (.nil)))))) (.cons rfl (.nil)) .nil [0, 1, 2, 3, 4, 5, 6, 7, 8, 9] rfl
    · skip
      replace h2 : e1.satisfied = false := h2
      refine WX.run ttOk rfl ?_
      refine WX.see rfl rfl rfl (fun _ hΓ => looks_arith rfl rfl rfl rfl (by unfold I64; omega)) ?_
      refine WX.run ttOk rfl ?_
      exact WX.iter (served, i + 1) ⟨(by omega), v2, (by rw [v3, drop_get e1h]; simp only [impl_Counters_L1, h2, cond_true, cond_false])⟩ (by dsimp only; omega) (.cons rfl (.cons rfl (.cons rfl (.cons rfl (.cons rfl (.nil)))))) (.cons rfl (.nil)) .nil [0, 1, 2, 3, 4, 5, 6, 7, 8, 9] rfl
  · skip
    have h1d := B.df h1
    refine WX.run ttOk rfl ?_
    have hX1 : impl_Counters_L1 w_.consumers 0 = served := by rw [v3, List.drop_eq_nil_of_le (show (w_.consumers).length ≤ i by omega)]; simp only [impl_Counters_L1, cond_true, cond_false]
    refine WX.bld ttOk rfl rfl rfl rfl rfl rfl rfl ?_
    intro p5
    have r2 : (w_.inFlight).length ≤ bd n := (okl (ok_Network hokw_).2.2.2.2.2.2.1).1
    refine WX.run ttOk rfl ?_
    refine WX.turn [] 14 rfl (fun h hs => one_sep (⟨(), _, emp, _, rfl, emp_le _, Le.refl _, emp_dj _, trivial, ⟨(), _, emp, _, rfl, emp_le _, Le.refl _, emp_dj _, trivial, ⟨(), _, emp, _, rfl, emp_le _, Le.refl _, emp_dj _, trivial, ⟨(), _, emp, _, rfl, emp_le _, Le.refl _, emp_dj _, trivial, rfl⟩⟩⟩⟩ : OwL _ _ ([w_.now, (((w_.inFlight).length : Nat) : Int), w_.dropped, served] : List Int))) (gs := [MF.ol [.int .i64 (w_.now), .int .i64 ((((w_.inFlight).length : Nat) : Int)), .int .i64 (w_.dropped), .int .i64 (served)] ([w_.now, (((w_.inFlight).length : Nat) : Int), w_.dropped, served] : List Int)]) rfl ?_
    refine WX.seal 26 14 15 rfl rfl rfl rfl rfl ?_
    have hP1 : impl_Counters w_ = ([w_.now, (((w_.inFlight).length : Nat) : Int), w_.dropped, served]) := by simp only [impl_Counters, hX1, cond_true, cond_false]
    have r3 : -9223372036854775808 ≤ w_.now ∧ w_.now ≤ 9223372036854775807 := (ok_Network hokw_).2.2.2.2.2.2.2.2.1
    have r4 : -9223372036854775808 ≤ w_.dropped ∧ w_.dropped ≤ 9223372036854775807 := (ok_Network hokw_).2.2.2.2.2.2.2.2.2
    refine WX.ret ttOk rfl ?_
    intro w1 G bs hI hΓ
    rw [hP1]
    exact Post.of [16] (p5, 4) hI hΓ rfl rfl rfl (okl_mk (by first | assumption | omega | (simp only [List.length_append, List.length_cons, List.length_nil, List.length_set, List.length_map, List.length_take, List.length_drop]; omega) | (simp; omega)) (all_cons (α := Int) (ok_Network hokw_).2.2.2.2.2.2.2.2.1 (all_cons (α := Int) (show I64 (((w_.inFlight).length : Nat) : Int) from (by unfold I64; omega)) (all_cons (α := Int) (ok_Network hokw_).2.2.2.2.2.2.2.2.2 (all_cons (α := Int) v2 (fun a ha => by cases ha))))) : GoT.ok n ([w_.now, (((w_.inFlight).length : Nat) : Int), w_.dropped, served] : List Int))
theorem f17 (w : World) (n : Nat) (hn : n + 0 ≤ 9) (w_ : Network) (pw_TopologyLinks : Option Addr) (cw_TopologyLinks : Nat) (hpw_TopologyLinks : RdSl (hp w) pw_TopologyLinks cw_TopologyLinks w_.topology.links) (pw_TrustKeys : Option Addr) (cw_TrustKeys : Nat) (hpw_TrustKeys : RdSl (hp w) pw_TrustKeys cw_TrustKeys w_.trust.keys) (pw_TrustRules : Option Addr) (cw_TrustRules : Nat) (hpw_TrustRules : RdSl (hp w) pw_TrustRules cw_TrustRules w_.trust.rules) (pw_TrustAnchors : Option Addr) (cw_TrustAnchors : Nat) (hpw_TrustAnchors : RdSl (hp w) pw_TrustAnchors cw_TrustAnchors w_.trust.anchors) (pw_TrustCertificates : Option Addr) (cw_TrustCertificates : Nat) (hpw_TrustCertificates : RdSl (hp w) pw_TrustCertificates cw_TrustCertificates w_.trust.certificates) (pw_Producers : Option Addr) (cw_Producers : Nat) (hpw_Producers : RdSl (hp w) pw_Producers cw_Producers w_.producers) (pw_Nodes : Option Addr) (cw_Nodes : Nat) (hpw_Nodes : RdSl (hp w) pw_Nodes cw_Nodes w_.nodes) (pw_FailedLinks : Option Addr) (cw_FailedLinks : Nat) (hpw_FailedLinks : RdSl (hp w) pw_FailedLinks cw_FailedLinks w_.failedLinks) (pw_InFlight : Option Addr) (cw_InFlight : Nat) (hpw_InFlight : RdSl (hp w) pw_InFlight cw_InFlight w_.inFlight) (pw_Consumers : Option Addr) (cw_Consumers : Nat) (hpw_Consumers : RdSl (hp w) pw_Consumers cw_Consumers w_.consumers) (hokw_ : GoT.ok n w_) :
    Does Tryz.prog 17 #[.agg #[.int .i64 (w_.topology.size), .slice pw_TopologyLinks ((w_.topology.links).length) cw_TopologyLinks, .slice pw_TrustKeys ((w_.trust.keys).length) cw_TrustKeys, .slice pw_TrustRules ((w_.trust.rules).length) cw_TrustRules, .slice pw_TrustAnchors ((w_.trust.anchors).length) cw_TrustAnchors, .slice pw_TrustCertificates ((w_.trust.certificates).length) cw_TrustCertificates, .slice pw_Producers ((w_.producers).length) cw_Producers, .slice pw_Nodes ((w_.nodes).length) cw_Nodes, .int .i64 (w_.downNodes), .slice pw_FailedLinks ((w_.failedLinks).length) cw_FailedLinks, .slice pw_InFlight ((w_.inFlight).length) cw_InFlight, .slice pw_Consumers ((w_.consumers).length) cw_Consumers, .int .i64 (w_.now), .int .i64 (w_.dropped)]] w emp (Post w emp (fun x : GoT.X ((List Int)) => (GoT.sh ((spec_Counters w_) : (List Int)) x).headD undef) (fun x => GoT.oa ((spec_Counters w_) : (List Int)) x) (GoT.ok n ((spec_Counters w_) : (List Int)))) := by
  have hbP := bd_pos n
  have hbB := bd_big (n := n) (by omega)
  refine WX.enter (tt := tt) (Γ := [(0, MF.rs .stb pw_TopologyLinks cw_TopologyLinks w_.topology.links), (1, MF.rs .stb pw_TrustKeys cw_TrustKeys w_.trust.keys), (2, MF.rs .stb pw_TrustRules cw_TrustRules w_.trust.rules), (3, MF.rs .stb pw_TrustAnchors cw_TrustAnchors w_.trust.anchors), (4, MF.rs .stb pw_TrustCertificates cw_TrustCertificates w_.trust.certificates), (5, MF.rs .stb pw_Producers cw_Producers w_.producers), (6, MF.rs .stb pw_Nodes cw_Nodes w_.nodes), (7, MF.rs .stb pw_FailedLinks cw_FailedLinks w_.failedLinks), (8, MF.rs .stb pw_InFlight cw_InFlight w_.inFlight), (9, MF.rs .stb pw_Consumers cw_Consumers w_.consumers)]) Tryz.func17 rfl (by kernel_rfl) rfl (allS_cons rfl hpw_TopologyLinks (allS_cons rfl hpw_TrustKeys (allS_cons rfl hpw_TrustRules (allS_cons rfl hpw_TrustAnchors (allS_cons rfl hpw_TrustCertificates (allS_cons rfl hpw_Producers (allS_cons rfl hpw_Nodes (allS_cons rfl hpw_FailedLinks (allS_cons rfl hpw_InFlight (allS_cons rfl hpw_Consumers allS_nil)))))))))) ?_
  refine WX.run ttOk rfl ?_
  have r1 : (w_.consumers).length ≤ bd n := (okl (ok_Network hokw_).2.2.2.2.2.2.2.1).1
  refine WX.loop (ι := Int × Nat) ⟨fun | (n_, i) => (i ≤ (w_.consumers).length) ∧ (-9223372036854775808 ≤ n_ ∧ n_ ≤ 9223372036854775807) ∧ (spec_Counters_L1 w_.consumers 0 = spec_Counters_L1 ((w_.consumers).drop i) n_), fun | (n_, i) => (w_.consumers).length - i, fun | (n_, i) => [(3, .v (.int .i64 (n_))), (4, .v (.int .i64 (((i : Nat) : Int)))), (1, .p 1 0)], fun | (n_, i) => [(1, ⟨54, [.int .i64 (w_.topology.size), .slice pw_TopologyLinks ((w_.topology.links).length) cw_TopologyLinks, .slice pw_TrustKeys ((w_.trust.keys).length) cw_TrustKeys, .slice pw_TrustRules ((w_.trust.rules).length) cw_TrustRules, .slice pw_TrustAnchors ((w_.trust.anchors).length) cw_TrustAnchors, .slice pw_TrustCertificates ((w_.trust.certificates).length) cw_TrustCertificates, .slice pw_Producers ((w_.producers).length) cw_Producers, .slice pw_Nodes ((w_.nodes).length) cw_Nodes, .int .i64 (w_.downNodes), .slice pw_FailedLinks ((w_.failedLinks).length) cw_FailedLinks, .slice pw_InFlight ((w_.inFlight).length) cw_InFlight, .slice pw_Consumers ((w_.consumers).length) cw_Consumers, .int .i64 (w_.now), .int .i64 (w_.dropped)]⟩)], fun | (n_, i) => [], fun | (n_, i) => [(0, MF.rs .stb pw_TopologyLinks cw_TopologyLinks w_.topology.links), (1, MF.rs .stb pw_TrustKeys cw_TrustKeys w_.trust.keys), (2, MF.rs .stb pw_TrustRules cw_TrustRules w_.trust.rules), (3, MF.rs .stb pw_TrustAnchors cw_TrustAnchors w_.trust.anchors), (4, MF.rs .stb pw_TrustCertificates cw_TrustCertificates w_.trust.certificates), (5, MF.rs .stb pw_Producers cw_Producers w_.producers), (6, MF.rs .stb pw_Nodes cw_Nodes w_.nodes), (7, MF.rs .stb pw_FailedLinks cw_FailedLinks w_.failedLinks), (8, MF.rs .stb pw_InFlight cw_InFlight w_.inFlight), (9, MF.rs .stb pw_Consumers cw_Consumers w_.consumers)]⟩ (0, 0) ⟨(Nat.zero_le _), (by first | assumption | omega), rfl⟩
    (.cons rfl (.cons rfl (.cons rfl (.nil)))) (.cons rfl (.nil)) .nil [0, 1, 2, 3, 4, 5, 6, 7, 8, 9] rfl ?_
  rintro ⟨n_, i⟩ hpre
  have hpre_ : (i ≤ (w_.consumers).length) ∧ (-9223372036854775808 ≤ n_ ∧ n_ ≤ 9223372036854775807) ∧ (spec_Counters_L1 w_.consumers 0 = spec_Counters_L1 ((w_.consumers).drop i) n_) := hpre
  clear hpre
  obtain ⟨v1, v2, v3⟩ := hpre_
  refine WX.run ttOk rfl ?_
  refine WX.cases 9 rfl (fun h1 => ?_) (fun h1 => ?_)
  · skip
    have h1d := B.dt h1
    have e1i : i < (w_.consumers).length := (by omega)
    obtain ⟨e1, e1h⟩ : ∃ e1, (w_.consumers)[i]? = some e1 := ⟨_, List.getElem?_eq_getElem e1i⟩
    have ok1 : GoT.ok n e1 := (okl (ok_Network hokw_).2.2.2.2.2.2.2.1).2 _ (List.mem_of_getElem? e1h)
    refine WX.run ttOk rfl ?_
    refine WX.idx 9 i ttOk rfl rfl rfl rfl rfl rfl rfl rfl rfl rfl e1i ?_
    rintro ad1 rfl
    refine WX.run ttOk rfl ?_
    refine WX.ldE 9 10 e1 ttOk rfl rfl rfl rfl rfl rfl rfl rfl e1h (fun _ => rfl) (fun _ => rfl) ?_
    rintro ⟨⟨⟩, ⟨⟩, ⟨p1, c1⟩, ⟨⟩, ⟨⟩, ⟨⟩, ⟨⟨p2, c2⟩, ⟨p3, c3⟩, ⟨p4, c4⟩, ⟨⟩, ⟨⟩⟩⟩
    refine WX.run ttOk rfl ?_
    refine WX.cases 17 rfl (fun h2 => ?_) (fun h2 => ?_)
    · skip
      replace h2 : e1.satisfied = true := h2
      refine WX.run ttOk rfl ?_
      refine WX.see rfl rfl rfl (fun _ hΓ => looks_wrap rfl rfl rfl rfl) ?_
      refine WX.run ttOk rfl ?_
      refine WX.see rfl rfl rfl (fun _ hΓ => looks_arith rfl rfl rfl rfl (by unfold I64; omega)) ?_
      refine WX.run ttOk rfl ?_
      exact WX.iter (IntKind.i64.wrap (n_ + 1), i + 1) ⟨(by omega), (i64_wrap _), (by rw [v3, drop_get e1h]; simp only [spec_Counters_L1, h2, cond_true, cond_false])⟩ (by dsimp only; omega) (.cons rfl (.cons rfl (.cons rfl (.nil)))) (.cons rfl (.nil)) .nil [0, 1, 2, 3, 4, 5, 6, 7, 8, 9] rfl
    · skip
      replace h2 : e1.satisfied = false := h2
      refine WX.run ttOk rfl ?_
      refine WX.see rfl rfl rfl (fun _ hΓ => looks_arith rfl rfl rfl rfl (by unfold I64; omega)) ?_
      refine WX.run ttOk rfl ?_
      exact WX.iter (n_, i + 1) ⟨(by omega), v2, (by rw [v3, drop_get e1h]; simp only [spec_Counters_L1, h2, cond_true, cond_false])⟩ (by dsimp only; omega) (.cons rfl (.cons rfl (.cons rfl (.nil)))) (.cons rfl (.nil)) .nil [0, 1, 2, 3, 4, 5, 6, 7, 8, 9] rfl
  · skip
    have h1d := B.df h1
    refine WX.run ttOk rfl ?_
    have hX1 : spec_Counters_L1 w_.consumers 0 = n_ := by rw [v3, List.drop_eq_nil_of_le (show (w_.consumers).length ≤ i by omega)]; simp only [spec_Counters_L1, cond_true, cond_false]
    refine WX.bld ttOk rfl rfl rfl rfl rfl rfl rfl ?_
    intro p5
    have r2 : (w_.inFlight).length ≤ bd n := (okl (ok_Network hokw_).2.2.2.2.2.2.1).1
    refine WX.run ttOk rfl ?_
    refine WX.turn [] 14 rfl (fun h hs => one_sep (⟨(), _, emp, _, rfl, emp_le _, Le.refl _, emp_dj _, trivial, ⟨(), _, emp, _, rfl, emp_le _, Le.refl _, emp_dj _, trivial, ⟨(), _, emp, _, rfl, emp_le _, Le.refl _, emp_dj _, trivial, ⟨(), _, emp, _, rfl, emp_le _, Le.refl _, emp_dj _, trivial, rfl⟩⟩⟩⟩ : OwL _ _ ([w_.now, (((w_.inFlight).length : Nat) : Int), w_.dropped, n_] : List Int))) (gs := [MF.ol [.int .i64 (w_.now), .int .i64 ((((w_.inFlight).length : Nat) : Int)), .int .i64 (w_.dropped), .int .i64 (n_)] ([w_.now, (((w_.inFlight).length : Nat) : Int), w_.dropped, n_] : List Int)]) rfl ?_
    refine WX.seal 28 14 15 rfl rfl rfl rfl rfl ?_
    have hP1 : spec_Counters w_ = ([w_.now, (((w_.inFlight).length : Nat) : Int), w_.dropped, n_]) := by simp only [spec_Counters, hX1, cond_true, cond_false]
    have r3 : -9223372036854775808 ≤ w_.now ∧ w_.now ≤ 9223372036854775807 := (ok_Network hokw_).2.2.2.2.2.2.2.2.1
    have r4 : -9223372036854775808 ≤ w_.dropped ∧ w_.dropped ≤ 9223372036854775807 := (ok_Network hokw_).2.2.2.2.2.2.2.2.2
    refine WX.ret ttOk rfl ?_
    intro w1 G bs hI hΓ
    rw [hP1]
    exact Post.of [16] (p5, 4) hI hΓ rfl rfl rfl (okl_mk (by first | assumption | omega | (simp only [List.length_append, List.length_cons, List.length_nil, List.length_set, List.length_map, List.length_take, List.length_drop]; omega) | (simp; omega)) (all_cons (α := Int) (ok_Network hokw_).2.2.2.2.2.2.2.2.1 (all_cons (α := Int) (show I64 (((w_.inFlight).length : Nat) : Int) from (by unfold I64; omega)) (all_cons (α := Int) (ok_Network hokw_).2.2.2.2.2.2.2.2.2 (all_cons (α := Int) v2 (fun a ha => by cases ha))))) : GoT.ok n ([w_.now, (((w_.inFlight).length : Nat) : Int), w_.dropped, n_] : List Int))
end Go.Proofs.YtcjilfbmdciebaaGreat
