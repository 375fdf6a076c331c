/-
  That functions of the program compute what the Lean functions do. No condition but what each says. Written by a program (gen2.py).
-/
import Derived.Test.YtcjilfbmdciebaaGreatC10
import Derived.Test.YtcjilfbmdciebaaGreatP11
namespace Go.Proofs.YtcjilfbmdciebaaGreat
open Go.Stp
set_option linter.unusedVariables false
set_option linter.unusedSimpArgs false
theorem f42 (w : World) (n : Nat) (hn : n + 0 ≤ 9) (set_ : Int) (i : Int) (hokset_ : GoT.ok n set_) (hoki : GoT.ok n i) :
    Does Tryz.prog 42 #[.int .i64 (set_), .int .i64 (i)] w emp (fun (rv : Value) (_ : World) => rv = .bool (impl_inSet set_ i) ∧ True) := by
  have hbP := bd_pos n
  have hbB := bd_big (n := n) (by omega)
  refine WX.enter (tt := tt) (Γ := []) Tryz.func42 rfl (by kernel_rfl) rfl allS_nil ?_
  refine WX.run ttOk rfl ?_
  refine WX.cases 7 rfl (fun h1 => ?_) (fun h1 => ?_)
  · skip
    have h1d := B.dt h1
    refine WX.run ttOk rfl ?_
    refine WX.callV rfl rfl rfl rfl rfl (fun _ => rfl) rfl (fun w G bs hI hΓ => f41 w n (by omega) i 0 30 hoki (show I64 0 from (by unfold I64; omega)) (show I64 30 from (by unfold I64; omega))) ?_
    intro hq1
    refine WX.run ttOk rfl ?_
    refine WX.cases 11 rfl (fun h2 => ?_) (fun h2 => ?_)
    · skip
      have h2r := inR_impl h2
      refine WX.run ttOk rfl ?_
      have r1 : -9223372036854775808 ≤ i ∧ i ≤ 9223372036854775807 := hoki
      refine WX.see rfl rfl rfl (fun _ hΓ => looks_shr rfl rfl rfl (by omega)) ?_
      refine WX.see rfl rfl rfl (fun _ hΓ => looks_bits rfl rfl rfl rfl) ?_
      refine WX.run ttOk rfl ?_
      have hP1 : impl_inSet set_ i = (bitO .and (Int.fdiv set_ (2 ^ (min (Int.toNat i) 64))) 1 == 1) := by simp only [impl_inSet, h1, h2, cond_true, cond_false]
      refine WX.ret ttOk rfl ?_
      intro w1 G bs hI hΓ
      rw [hP1]
      exact ⟨rfl, trivial⟩
    · skip
      refine WX.run ttOk rfl ?_
      have hP2 : impl_inSet set_ i = false := by simp only [impl_inSet, h1, h2, cond_true, cond_false]
      refine WX.ret ttOk rfl ?_
      intro w1 G bs hI hΓ
      rw [hP2]
      exact ⟨rfl, trivial⟩
  · skip
    have h1d := B.df h1
    refine WX.run ttOk rfl ?_
    have hP3 : impl_inSet set_ i = false := by simp only [impl_inSet, h1, cond_true, cond_false]
    refine WX.ret ttOk rfl ?_
    intro w1 G bs hI hΓ
    rw [hP3]
    exact ⟨rfl, trivial⟩
theorem f33 (w : World) (n : Nat) (hn : n + 0 ≤ 9) (set_ : Int) (a : Int) (hokset_ : GoT.ok n set_) (hoka : GoT.ok n a) :
    Does Tryz.prog 33 #[.int .i64 (set_), .int .i64 (a)] w emp (fun (rv : Value) (_ : World) => rv = .bool (spec_l19In set_ a) ∧ True) := by
  have hbP := bd_pos n
  have hbB := bd_big (n := n) (by omega)
  refine WX.enter (tt := tt) (Γ := []) Tryz.func33 rfl (by kernel_rfl) rfl allS_nil ?_
  refine WX.run ttOk rfl ?_
  refine WX.callV rfl rfl rfl rfl rfl (fun _ => rfl) rfl (fun w G bs hI hΓ => f32 w n (by omega) a 0 30 hoka (show I64 0 from (by unfold I64; omega)) (show I64 30 from (by unfold I64; omega))) ?_
  intro hq1
  refine WX.run ttOk rfl ?_
  refine WX.cases 7 rfl (fun h1 => ?_) (fun h1 => ?_)
  · skip
    have h1r := inR_spec h1
    refine WX.run ttOk rfl ?_
    refine WX.cases 11 rfl (fun h2 => ?_) (fun h2 => ?_)
    · skip
      have h2d := B.dt h2
      refine WX.run ttOk rfl ?_
      have r1 : -9223372036854775808 ≤ a ∧ a ≤ 9223372036854775807 := hoka
      refine WX.see rfl rfl rfl (fun _ hΓ => looks_shr rfl rfl rfl (by omega)) ?_
      refine WX.see rfl rfl rfl (fun _ hΓ => looks_bits rfl rfl rfl rfl) ?_
      refine WX.run ttOk rfl ?_
      have hP1 : spec_l19In set_ a = (bitO .and (Int.fdiv set_ (2 ^ (min (Int.toNat a) 64))) 1 == 1) := by simp only [spec_l19In, h1, h2, cond_true, cond_false]
      refine WX.ret ttOk rfl ?_
      intro w1 G bs hI hΓ
      rw [hP1]
      exact ⟨rfl, trivial⟩
    · skip
      have h2d := B.df h2
      refine WX.run ttOk rfl ?_
      have hP2 : spec_l19In set_ a = false := by simp only [spec_l19In, h1, h2, cond_true, cond_false]
      refine WX.ret ttOk rfl ?_
      intro w1 G bs hI hΓ
      rw [hP2]
      exact ⟨rfl, trivial⟩
  · skip
    refine WX.run ttOk rfl ?_
    have hP3 : spec_l19In set_ a = false := by simp only [spec_l19In, h1, cond_true, cond_false]
    refine WX.ret ttOk rfl ?_
    intro w1 G bs hI hΓ
    rw [hP3]
    exact ⟨rfl, trivial⟩
theorem f10 (w : World) (n : Nat) (hn : n + 0 ≤ 9) (w_ : Network) (pw_TopologyLinks : Option Addr) (cw_TopologyLinks : Nat) (hpw_TopologyLinks : RdSl (hp w) pw_TopologyLinks cw_TopologyLinks w_.topology.links) (pw_TrustKeys : Option Addr) (cw_TrustKeys : Nat) (hpw_TrustKeys : RdSl (hp w) pw_TrustKeys cw_TrustKeys w_.trust.keys) (pw_TrustRules : Option Addr) (cw_TrustRules : Nat) (hpw_TrustRules : RdSl (hp w) pw_TrustRules cw_TrustRules w_.trust.rules) (pw_TrustAnchors : Option Addr) (cw_TrustAnchors : Nat) (hpw_TrustAnchors : RdSl (hp w) pw_TrustAnchors cw_TrustAnchors w_.trust.anchors) (pw_TrustCertificates : Option Addr) (cw_TrustCertificates : Nat) (hpw_TrustCertificates : RdSl (hp w) pw_TrustCertificates cw_TrustCertificates w_.trust.certificates) (pw_Producers : Option Addr) (cw_Producers : Nat) (hpw_Producers : RdSl (hp w) pw_Producers cw_Producers w_.producers) (pw_Nodes : Option Addr) (cw_Nodes : Nat) (hpw_Nodes : RdSl (hp w) pw_Nodes cw_Nodes w_.nodes) (pw_FailedLinks : Option Addr) (cw_FailedLinks : Nat) (hpw_FailedLinks : RdSl (hp w) pw_FailedLinks cw_FailedLinks w_.failedLinks) (pw_InFlight : Option Addr) (cw_InFlight : Nat) (hpw_InFlight : RdSl (hp w) pw_InFlight cw_InFlight w_.inFlight) (pw_Consumers : Option Addr) (cw_Consumers : Nat) (hpw_Consumers : RdSl (hp w) pw_Consumers cw_Consumers w_.consumers) (k : Int) (hokw_ : GoT.ok n w_) (hokk : GoT.ok n k) :
    Does Tryz.prog 10 #[.agg #[.int .i64 (w_.topology.size), .slice pw_TopologyLinks ((w_.topology.links).length) cw_TopologyLinks, .slice pw_TrustKeys ((w_.trust.keys).length) cw_TrustKeys, .slice pw_TrustRules ((w_.trust.rules).length) cw_TrustRules, .slice pw_TrustAnchors ((w_.trust.anchors).length) cw_TrustAnchors, .slice pw_TrustCertificates ((w_.trust.certificates).length) cw_TrustCertificates, .slice pw_Producers ((w_.producers).length) cw_Producers, .slice pw_Nodes ((w_.nodes).length) cw_Nodes, .int .i64 (w_.downNodes), .slice pw_FailedLinks ((w_.failedLinks).length) cw_FailedLinks, .slice pw_InFlight ((w_.inFlight).length) cw_InFlight, .slice pw_Consumers ((w_.consumers).length) cw_Consumers, .int .i64 (w_.now), .int .i64 (w_.dropped)], .int .i64 (k)] w emp (fun (rv : Value) (_ : World) => rv = .bool (impl_IsUp w_ k) ∧ True) := by
  have hbP := bd_pos n
  have hbB := bd_big (n := n) (by omega)
  refine WX.enter (tt := tt) (Γ := [(0, MF.rs .stb pw_TopologyLinks cw_TopologyLinks w_.topology.links), (1, MF.rs .stb pw_TrustKeys cw_TrustKeys w_.trust.keys), (2, MF.rs .stb pw_TrustRules cw_TrustRules w_.trust.rules), (3, MF.rs .stb pw_TrustAnchors cw_TrustAnchors w_.trust.anchors), (4, MF.rs .stb pw_TrustCertificates cw_TrustCertificates w_.trust.certificates), (5, MF.rs .stb pw_Producers cw_Producers w_.producers), (6, MF.rs .stb pw_Nodes cw_Nodes w_.nodes), (7, MF.rs .stb pw_FailedLinks cw_FailedLinks w_.failedLinks), (8, MF.rs .stb pw_InFlight cw_InFlight w_.inFlight), (9, MF.rs .stb pw_Consumers cw_Consumers w_.consumers)]) Tryz.func10 rfl (by kernel_rfl) rfl (allS_cons rfl hpw_TopologyLinks (allS_cons rfl hpw_TrustKeys (allS_cons rfl hpw_TrustRules (allS_cons rfl hpw_TrustAnchors (allS_cons rfl hpw_TrustCertificates (allS_cons rfl hpw_Producers (allS_cons rfl hpw_Nodes (allS_cons rfl hpw_FailedLinks (allS_cons rfl hpw_InFlight (allS_cons rfl hpw_Consumers allS_nil)))))))))) ?_
  refine WX.run ttOk rfl ?_
  refine WX.see rfl rfl rfl (fun _ hΓ => looks_wrap rfl rfl rfl rfl) ?_
  refine WX.callV rfl rfl rfl rfl rfl (fun _ => rfl) rfl (fun w G bs hI hΓ => f41 w n (by omega) k 0 (IntKind.i64.wrap ((((w_.nodes).length : Nat) : Int) - 1)) hokk (show I64 0 from (by unfold I64; omega)) (i64_wrap _)) ?_
  intro hq1
  refine WX.run ttOk rfl ?_
  refine WX.cases 11 rfl (fun h1 => ?_) (fun h1 => ?_)
  · skip
    have h1r := inR_impl h1
    refine WX.run ttOk rfl ?_
    refine WX.callV rfl rfl rfl rfl rfl (fun _ => rfl) rfl (fun w G bs hI hΓ => f42 w n (by omega) w_.downNodes k ((ok_Network hokw_).2.2.2.2.1) hokk) ?_
    intro hq2
    refine WX.run ttOk rfl ?_
    have hP1 : impl_IsUp w_ k = (!(impl_inSet w_.downNodes k)) := by simp only [impl_IsUp, h1, cond_true, cond_false]
    refine WX.ret ttOk rfl ?_
    intro w1 G bs hI hΓ
    rw [hP1]
    exact ⟨rfl, trivial⟩
  · skip
    refine WX.run ttOk rfl ?_
    have hP2 : impl_IsUp w_ k = false := by simp only [impl_IsUp, h1, cond_true, cond_false]
    refine WX.ret ttOk rfl ?_
    intro w1 G bs hI hΓ
    rw [hP2]
    exact ⟨rfl, trivial⟩
theorem f8 (w : World) (n : Nat) (hn : n + 0 ≤ 9) (w_ : Network) (pw_TopologyLinks : Option Addr) (cw_TopologyLinks : Nat) (hpw_TopologyLinks : RdSl (hp w) pw_TopologyLinks cw_TopologyLinks w_.topology.links) (pw_TrustKeys : Option Addr) (cw_TrustKeys : Nat) (hpw_TrustKeys : RdSl (hp w) pw_TrustKeys cw_TrustKeys w_.trust.keys) (pw_TrustRules : Option Addr) (cw_TrustRules : Nat) (hpw_TrustRules : RdSl (hp w) pw_TrustRules cw_TrustRules w_.trust.rules) (pw_TrustAnchors : Option Addr) (cw_TrustAnchors : Nat) (hpw_TrustAnchors : RdSl (hp w) pw_TrustAnchors cw_TrustAnchors w_.trust.anchors) (pw_TrustCertificates : Option Addr) (cw_TrustCertificates : Nat) (hpw_TrustCertificates : RdSl (hp w) pw_TrustCertificates cw_TrustCertificates w_.trust.certificates) (pw_Producers : Option Addr) (cw_Producers : Nat) (hpw_Producers : RdSl (hp w) pw_Producers cw_Producers w_.producers) (pw_Nodes : Option Addr) (cw_Nodes : Nat) (hpw_Nodes : RdSl (hp w) pw_Nodes cw_Nodes w_.nodes) (pw_FailedLinks : Option Addr) (cw_FailedLinks : Nat) (hpw_FailedLinks : RdSl (hp w) pw_FailedLinks cw_FailedLinks w_.failedLinks) (pw_InFlight : Option Addr) (cw_InFlight : Nat) (hpw_InFlight : RdSl (hp w) pw_InFlight cw_InFlight w_.inFlight) (pw_Consumers : Option Addr) (cw_Consumers : Nat) (hpw_Consumers : RdSl (hp w) pw_Consumers cw_Consumers w_.consumers) (k : Int) (hokw_ : GoT.ok n w_) (hokk : GoT.ok n k) :
    Does Tryz.prog 8 #[.agg #[.int .i64 (w_.topology.size), .slice pw_TopologyLinks ((w_.topology.links).length) cw_TopologyLinks, .slice pw_TrustKeys ((w_.trust.keys).length) cw_TrustKeys, .slice pw_TrustRules ((w_.trust.rules).length) cw_TrustRules, .slice pw_TrustAnchors ((w_.trust.anchors).length) cw_TrustAnchors, .slice pw_TrustCertificates ((w_.trust.certificates).length) cw_TrustCertificates, .slice pw_Producers ((w_.producers).length) cw_Producers, .slice pw_Nodes ((w_.nodes).length) cw_Nodes, .int .i64 (w_.downNodes), .slice pw_FailedLinks ((w_.failedLinks).length) cw_FailedLinks, .slice pw_InFlight ((w_.inFlight).length) cw_InFlight, .slice pw_Consumers ((w_.consumers).length) cw_Consumers, .int .i64 (w_.now), .int .i64 (w_.dropped)], .int .i64 (k)] w emp (fun (rv : Value) (_ : World) => rv = .bool (spec_IsUp w_ k) ∧ True) := by
  have hbP := bd_pos n
  have hbB := bd_big (n := n) (by omega)
  refine WX.enter (tt := tt) (Γ := [(0, MF.rs .stb pw_TopologyLinks cw_TopologyLinks w_.topology.links), (1, MF.rs .stb pw_TrustKeys cw_TrustKeys w_.trust.keys), (2, MF.rs .stb pw_TrustRules cw_TrustRules w_.trust.rules), (3, MF.rs .stb pw_TrustAnchors cw_TrustAnchors w_.trust.anchors), (4, MF.rs .stb pw_TrustCertificates cw_TrustCertificates w_.trust.certificates), (5, MF.rs .stb pw_Producers cw_Producers w_.producers), (6, MF.rs .stb pw_Nodes cw_Nodes w_.nodes), (7, MF.rs .stb pw_FailedLinks cw_FailedLinks w_.failedLinks), (8, MF.rs .stb pw_InFlight cw_InFlight w_.inFlight), (9, MF.rs .stb pw_Consumers cw_Consumers w_.consumers)]) Tryz.func8 rfl (by kernel_rfl) rfl (allS_cons rfl hpw_TopologyLinks (allS_cons rfl hpw_TrustKeys (allS_cons rfl hpw_TrustRules (allS_cons rfl hpw_TrustAnchors (allS_cons rfl hpw_TrustCertificates (allS_cons rfl hpw_Producers (allS_cons rfl hpw_Nodes (allS_cons rfl hpw_FailedLinks (allS_cons rfl hpw_InFlight (allS_cons rfl hpw_Consumers allS_nil)))))))))) ?_
  refine WX.run ttOk rfl ?_
  refine WX.see rfl rfl rfl (fun _ hΓ => looks_wrap rfl rfl rfl rfl) ?_
  refine WX.callV rfl rfl rfl rfl rfl (fun _ => rfl) rfl (fun w G bs hI hΓ => f32 w n (by omega) k 0 (IntKind.i64.wrap ((((w_.nodes).length : Nat) : Int) - 1)) hokk (show I64 0 from (by unfold I64; omega)) (i64_wrap _)) ?_
  intro hq1
  refine WX.run ttOk rfl ?_
  refine WX.cases 11 rfl (fun h1 => ?_) (fun h1 => ?_)
  · skip
    have h1r := inR_spec h1
    refine WX.run ttOk rfl ?_
    refine WX.callV rfl rfl rfl rfl rfl (fun _ => rfl) rfl (fun w G bs hI hΓ => f33 w n (by omega) w_.downNodes k ((ok_Network hokw_).2.2.2.2.1) hokk) ?_
    intro hq2
    refine WX.run ttOk rfl ?_
    have hP1 : spec_IsUp w_ k = (!(spec_l19In w_.downNodes k)) := by simp only [spec_IsUp, h1, cond_true, cond_false]
    refine WX.ret ttOk rfl ?_
    intro w1 G bs hI hΓ
    rw [hP1]
    exact ⟨rfl, trivial⟩
  · skip
    refine WX.run ttOk rfl ?_
    have hP2 : spec_IsUp w_ k = false := by simp only [spec_IsUp, h1, cond_true, cond_false]
    refine WX.ret ttOk rfl ?_
    intro w1 G bs hI hΓ
    rw [hP2]
    exact ⟨rfl, trivial⟩
end Go.Proofs.YtcjilfbmdciebaaGreat
