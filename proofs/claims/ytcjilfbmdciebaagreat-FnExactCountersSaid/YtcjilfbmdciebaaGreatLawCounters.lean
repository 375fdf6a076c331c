/-
  FnExactCounters: the law returns true at all arguments; conditions: those of the statement, no others. Written by a program (mklaw2.py).
-/
import Derived.Test.YtcjilfbmdciebaaGreatCL7
import Derived.Test.YtcjilfbmdciebaaGreatSame
import Derived.Test.YtcjilfbmdciebaaGreatOpen
namespace Go.Stp
set_option linter.unusedVariables false
set_option linter.unusedSimpArgs false
theorem cLL : ∀ (l : List Consumer) (s : Int), impl_Counters_L1 l s = spec_Counters_L1 l s
  | [], _ => rfl
  | x :: l, s => by simp only [impl_Counters_L1, spec_Counters_L1, cLL l]
theorem same_Counters (aW : Network) : impl_Counters aW = spec_Counters aW := by simp only [impl_Counters, spec_Counters, cLL]
theorem bound_Counters (aW : Network) : sz (spec_Counters aW) ≤ 4 := by
  unfold spec_Counters
  rw [sz_list, szL_int]
  exact Nat.le_refl 4
theorem true_Counters (aW : Network) (haW : GoT.ok 10 aW) : laws_FnExactCounters aW = true := by
  unfold laws_FnExactCounters
  by_cases s0 : laws_szNetwork aW 1048576 < 0
  · simp only [dT s0, cond_true]
  have d0 := dF (show 0 ≤ laws_szNetwork aW 1048576 by omega)
  obtain ⟨t0, z0⟩ := (sz_Network_R aW 1048576 haW (by omega) (by omega)).pos (by omega)
  obtain ⟨mp0, mq0, me0⟩ := mk_Network aW (1) (by omega) (by omega)
  have dk := dF (show 0 ≤ (laws_markNetwork aW (1)).1 by omega)
  have hb := bound_Counters aW
  have hb0 := hb
  obtain ⟨gp0, gq0, ge0⟩ := mk_IntS (spec_Counters aW) (1) (by omega) (by omega)
  have dg0 := dF (show 0 ≤ (laws_markIntS (spec_Counters aW) (1)).1 by omega)
  simp only [d0, cond_false, to_Network, same_Counters, eq_Network, eq_IntS, dk, ge0, dg0, Bool.not_true, bne_self_F, nbeq_self_F, beq_self_eq_true]
end Go.Stp
namespace Go.Proofs.YtcjilfbmdciebaaGreat
open Go.Stp
open Go.RowKit (Below)
open Go.ChangeShapes Go.WideShapes Go.ChangeAt
namespace LawCounters
theorem own : ownKnob Tryz.prog.godebug = none := by kernel_rfl
theorem laid : laidOutB Tryz.prog = true := by kernel_rfl
set_option maxRecDepth 100000 in
theorem op235 : Opens Tryz.prog 235 Link := opens_struct (fun e : Link => (e.a, e.b)) (fun b => ⟨b.1, b.2⟩) (fun _ => rfl) Tryz.underlying235 (show Tryz.prog.cellsOf 235 = 2 by kernel_rfl) (opensF_cons rfl (opens_int Tryz.underlying3 (by kernel_rfl)) (opensF_one rfl (opens_int Tryz.underlying3 (by kernel_rfl))))
set_option maxRecDepth 100000 in
theorem op24 : Opens Tryz.prog 24 Topology := opens_struct (fun e : Topology => (e.size, e.links)) (fun b => ⟨b.1, b.2⟩) (fun _ => rfl) Tryz.underlying24 (show Tryz.prog.cellsOf 24 = 2 by kernel_rfl) (opensF_cons rfl (opens_int Tryz.underlying3 (by kernel_rfl)) (opensF_one rfl (opens_slice Tryz.underlying22 (by kernel_rfl) op235)))
set_option maxRecDepth 100000 in
theorem op60 : Opens Tryz.prog 60 Name := opens_struct (fun e : Name => e.parts) (fun b => ⟨b⟩) (fun _ => rfl) Tryz.underlying60 (show Tryz.prog.cellsOf 60 = 1 by kernel_rfl) (opensF_one rfl (opens_slice Tryz.underlying58 (by kernel_rfl) (opens_str Tryz.underlying9 (by kernel_rfl))))
set_option maxRecDepth 100000 in
theorem op224 : Opens Tryz.prog 224 Key := opens_struct (fun e : Key => (e.name, e.secret)) (fun b => ⟨b.1, b.2⟩) (fun _ => rfl) Tryz.underlying224 (show Tryz.prog.cellsOf 224 = 2 by kernel_rfl) (opensF_cons rfl op60 (opensF_one rfl (opens_int Tryz.underlying3 (by kernel_rfl))))
set_option maxRecDepth 100000 in
theorem op226 : Opens Tryz.prog 226 Pattern := opens_struct (fun e : Pattern => e.parts) (fun b => ⟨b⟩) (fun _ => rfl) Tryz.underlying226 (show Tryz.prog.cellsOf 226 = 1 by kernel_rfl) (opensF_one rfl (opens_slice Tryz.underlying58 (by kernel_rfl) (opens_str Tryz.underlying9 (by kernel_rfl))))
set_option maxRecDepth 100000 in
theorem op228 : Opens Tryz.prog 228 Rule := opens_struct (fun e : Rule => (e.dataPattern, e.keyPattern)) (fun b => ⟨b.1, b.2⟩) (fun _ => rfl) Tryz.underlying228 (show Tryz.prog.cellsOf 228 = 2 by kernel_rfl) (opensF_cons rfl op226 (opensF_one rfl op226))
set_option maxRecDepth 100000 in
theorem op65 : Opens Tryz.prog 65 DataP := opens_struct (fun e : DataP => (e.name, e.content, e.keyName, e.freshUntil, e.signature)) (fun b => ⟨b.1, b.2.1, b.2.2.1, b.2.2.2.1, b.2.2.2.2⟩) (fun _ => rfl) Tryz.underlying65 (show Tryz.prog.cellsOf 65 = 5 by kernel_rfl) (opensF_cons rfl op60 (opensF_cons rfl (opens_slice Tryz.underlying63 (by kernel_rfl) (opens_byte Tryz.underlying5 (by kernel_rfl))) (opensF_cons rfl op60 (opensF_cons rfl (opens_int Tryz.underlying3 (by kernel_rfl)) (opensF_one rfl (opens_int Tryz.underlying3 (by kernel_rfl)))))))
set_option maxRecDepth 100000 in
theorem op30 : Opens Tryz.prog 30 TrustPolicy := opens_struct (fun e : TrustPolicy => (e.keys, e.rules, e.anchors, e.certificates)) (fun b => ⟨b.1, b.2.1, b.2.2.1, b.2.2.2⟩) (fun _ => rfl) Tryz.underlying30 (show Tryz.prog.cellsOf 30 = 4 by kernel_rfl) (opensF_cons rfl (opens_slice Tryz.underlying25 (by kernel_rfl) op224) (opensF_cons rfl (opens_slice Tryz.underlying26 (by kernel_rfl) op228) (opensF_cons rfl (opens_slice Tryz.underlying27 (by kernel_rfl) op60) (opensF_one rfl (opens_slice Tryz.underlying28 (by kernel_rfl) op65)))))
set_option maxRecDepth 100000 in
theorem op152 : Opens Tryz.prog 152 TableEntry := opens_struct (fun e : TableEntry => (e.name, e.value)) (fun b => ⟨b.1, b.2⟩) (fun _ => rfl) Tryz.underlying152 (show Tryz.prog.cellsOf 152 = 2 by kernel_rfl) (opensF_cons rfl op60 (opensF_one rfl (opens_int Tryz.underlying3 (by kernel_rfl))))
set_option maxRecDepth 100000 in
theorem op295 : Opens Tryz.prog 295 CacheEntry := opens_struct (fun e : CacheEntry => (e.data, e.lastUsed)) (fun b => ⟨b.1, b.2⟩) (fun _ => rfl) Tryz.underlying295 (show Tryz.prog.cellsOf 295 = 6 by kernel_rfl) (opensF_cons rfl op65 (opensF_one rfl (opens_int Tryz.underlying3 (by kernel_rfl))))
set_option maxRecDepth 100000 in
theorem op156 : Opens Tryz.prog 156 ContentStore := opens_struct (fun e : ContentStore => (e.capacity, e.entries)) (fun b => ⟨b.1, b.2⟩) (fun _ => rfl) Tryz.underlying156 (show Tryz.prog.cellsOf 156 = 2 by kernel_rfl) (opensF_cons rfl (opens_int Tryz.underlying3 (by kernel_rfl)) (opensF_one rfl (opens_slice Tryz.underlying154 (by kernel_rfl) op295)))
set_option maxRecDepth 100000 in
theorem op300 : Opens Tryz.prog 300 Requester := opens_struct (fun e : Requester => (e.face, e.nonce, e.expiry)) (fun b => ⟨b.1, b.2.1, b.2.2⟩) (fun _ => rfl) Tryz.underlying300 (show Tryz.prog.cellsOf 300 = 3 by kernel_rfl) (opensF_cons rfl (opens_int Tryz.underlying3 (by kernel_rfl)) (opensF_cons rfl (opens_int Tryz.underlying3 (by kernel_rfl)) (opensF_one rfl (opens_int Tryz.underlying3 (by kernel_rfl)))))
set_option maxRecDepth 100000 in
theorem op275 : Opens Tryz.prog 275 PendingInterest := opens_struct (fun e : PendingInterest => (e.name, e.requesters, e.lastSent)) (fun b => ⟨b.1, b.2.1, b.2.2⟩) (fun _ => rfl) Tryz.underlying275 (show Tryz.prog.cellsOf 275 = 3 by kernel_rfl) (opensF_cons rfl op60 (opensF_cons rfl (opens_slice Tryz.underlying273 (by kernel_rfl) op300) (opensF_one rfl (opens_int Tryz.underlying3 (by kernel_rfl)))))
set_option maxRecDepth 100000 in
theorem op278 : Opens Tryz.prog 278 SeenNonce := opens_struct (fun e : SeenNonce => (e.name, e.nonce)) (fun b => ⟨b.1, b.2⟩) (fun _ => rfl) Tryz.underlying278 (show Tryz.prog.cellsOf 278 = 2 by kernel_rfl) (opensF_cons rfl op60 (opensF_one rfl (opens_int Tryz.underlying3 (by kernel_rfl))))
set_option maxRecDepth 100000 in
theorem op281 : Opens Tryz.prog 281 Route := opens_struct (fun e : Route => (e.pfx, e.face, e.cost)) (fun b => ⟨b.1, b.2.1, b.2.2⟩) (fun _ => rfl) Tryz.underlying281 (show Tryz.prog.cellsOf 281 = 3 by kernel_rfl) (opensF_cons rfl op60 (opensF_cons rfl (opens_int Tryz.underlying3 (by kernel_rfl)) (opensF_one rfl (opens_int Tryz.underlying3 (by kernel_rfl)))))
set_option maxRecDepth 100000 in
theorem op284 : Opens Tryz.prog 284 Measurement := opens_struct (fun e : Measurement => (e.pfx, e.face, e.failures)) (fun b => ⟨b.1, b.2.1, b.2.2⟩) (fun _ => rfl) Tryz.underlying284 (show Tryz.prog.cellsOf 284 = 3 by kernel_rfl) (opensF_cons rfl op60 (opensF_cons rfl (opens_int Tryz.underlying3 (by kernel_rfl)) (opensF_one rfl (opens_int Tryz.underlying3 (by kernel_rfl)))))
set_option maxRecDepth 100000 in
theorem op162 : Opens Tryz.prog 162 NodeP := opens_struct (fun e : NodeP => (e.locl, e.cache, e.pending, e.seen, e.routes, e.measurements, e.dropped)) (fun b => ⟨b.1, b.2.1, b.2.2.1, b.2.2.2.1, b.2.2.2.2.1, b.2.2.2.2.2.1, b.2.2.2.2.2.2⟩) (fun _ => rfl) Tryz.underlying162 (show Tryz.prog.cellsOf 162 = 8 by kernel_rfl) (opensF_cons rfl (opens_slice Tryz.underlying28 (by kernel_rfl) op65) (opensF_cons rfl op156 (opensF_cons rfl (opens_slice Tryz.underlying157 (by kernel_rfl) op275) (opensF_cons rfl (opens_slice Tryz.underlying158 (by kernel_rfl) op278) (opensF_cons rfl (opens_slice Tryz.underlying159 (by kernel_rfl) op281) (opensF_cons rfl (opens_slice Tryz.underlying160 (by kernel_rfl) op284) (opensF_one rfl (opens_int Tryz.underlying3 (by kernel_rfl)))))))))
set_option maxRecDepth 100000 in
theorem op62 : Opens Tryz.prog 62 Interest := opens_struct (fun e : Interest => (e.name, e.nonce, e.hopLimit, e.lifetime)) (fun b => ⟨b.1, b.2.1, b.2.2.1, b.2.2.2⟩) (fun _ => rfl) Tryz.underlying62 (show Tryz.prog.cellsOf 62 = 4 by kernel_rfl) (opensF_cons rfl op60 (opensF_cons rfl (opens_int Tryz.underlying3 (by kernel_rfl)) (opensF_cons rfl (opens_int Tryz.underlying3 (by kernel_rfl)) (opensF_one rfl (opens_int Tryz.underlying3 (by kernel_rfl))))))
set_option maxRecDepth 100000 in
theorem op67 : Opens Tryz.prog 67 PacketInFlight := opens_struct (fun e : PacketInFlight => (e.to, e.face, e.isInterest, e.interest, e.data)) (fun b => ⟨b.1, b.2.1, b.2.2.1, b.2.2.2.1, b.2.2.2.2⟩) (fun _ => rfl) Tryz.underlying67 (show Tryz.prog.cellsOf 67 = 12 by kernel_rfl) (opensF_cons rfl (opens_int Tryz.underlying3 (by kernel_rfl)) (opensF_cons rfl (opens_int Tryz.underlying3 (by kernel_rfl)) (opensF_cons rfl (opens_bool Tryz.underlying4 (by kernel_rfl)) (opensF_cons rfl op62 (opensF_one rfl op65)))))
set_option maxRecDepth 100000 in
theorem op165 : Opens Tryz.prog 165 Consumer := opens_struct (fun e : Consumer => (e.node, e.index, e.name, e.attempts, e.wait, e.satisfied, e.data)) (fun b => ⟨b.1, b.2.1, b.2.2.1, b.2.2.2.1, b.2.2.2.2.1, b.2.2.2.2.2.1, b.2.2.2.2.2.2⟩) (fun _ => rfl) Tryz.underlying165 (show Tryz.prog.cellsOf 165 = 11 by kernel_rfl) (opensF_cons rfl (opens_int Tryz.underlying3 (by kernel_rfl)) (opensF_cons rfl (opens_int Tryz.underlying3 (by kernel_rfl)) (opensF_cons rfl op60 (opensF_cons rfl (opens_int Tryz.underlying3 (by kernel_rfl)) (opensF_cons rfl (opens_int Tryz.underlying3 (by kernel_rfl)) (opensF_cons rfl (opens_bool Tryz.underlying4 (by kernel_rfl)) (opensF_one rfl op65)))))))
set_option maxRecDepth 100000 in
theorem op37 : Opens Tryz.prog 37 Network := opens_struct (fun e : Network => (e.topology, e.trust, e.producers, e.nodes, e.downNodes, e.failedLinks, e.inFlight, e.consumers, e.now, e.dropped)) (fun b => ⟨b.1, b.2.1, b.2.2.1, b.2.2.2.1, b.2.2.2.2.1, b.2.2.2.2.2.1, b.2.2.2.2.2.2.1, b.2.2.2.2.2.2.2.1, b.2.2.2.2.2.2.2.2.1, b.2.2.2.2.2.2.2.2.2⟩) (fun _ => rfl) Tryz.underlying37 (show Tryz.prog.cellsOf 37 = 14 by kernel_rfl) (opensF_cons rfl op24 (opensF_cons rfl op30 (opensF_cons rfl (opens_slice Tryz.underlying31 (by kernel_rfl) op152) (opensF_cons rfl (opens_slice Tryz.underlying32 (by kernel_rfl) op162) (opensF_cons rfl (opens_int Tryz.underlying3 (by kernel_rfl)) (opensF_cons rfl (opens_slice Tryz.underlying33 (by kernel_rfl) (opens_int Tryz.underlying3 (by kernel_rfl))) (opensF_cons rfl (opens_slice Tryz.underlying34 (by kernel_rfl) op67) (opensF_cons rfl (opens_slice Tryz.underlying35 (by kernel_rfl) op165) (opensF_cons rfl (opens_int Tryz.underlying3 (by kernel_rfl)) (opensF_one rfl (opens_int Tryz.underlying3 (by kernel_rfl))))))))))))
set_option maxRecDepth 100000 in
theorem lifted (os : Os) (started : os.Started) (H : Type) (enc : TypeId × Value → H) :
    ReturnsInHanded {} Tryz.checked os 5 .any (Rows.fnExactCountersSpec.pre6 enc Tryz.prog Tryz.f5 Rows.fnExactCountersRow.domain false) (Rows.fnExactCountersSpec.post enc Tryz.prog Tryz.f5 false true false false) := by
  refine returnsInHanded_of_change (C := Tryz.checked) own started (by kernel_rfl) Tryz.func5
    (ChangeSpec.witness6 (enc := enc) (C := Tryz.checked) false ⟨#[], #[.agg #[.int .i64 (0), .slice none 0 0, .slice none 0 0, .slice none 0 0, .slice none 0 0, .slice none 0 0, .slice none 0 0, .slice none 0 0, .int .i64 (0), .slice none 0 0, .slice none 0 0, .slice none 0 0, .int .i64 (0), .int .i64 (0)]], []⟩ 8 (by kernel_rfl) (by kernel_rfl) (by kernel_rfl) (by kernel_rfl)) ?_
  intro W base args ds gs before hval0 hW _ _
  have hval : ∀ (j : Nat) t v, Tryz.f5.params[j]? = some t → args[j]? = some v → Value.okWide Tryz.prog W .any base t v := hval0
  have hW' := hW
  obtain ⟨p, q, hA0, _⟩ := hW
  have hA : DataW.TrodAll enc Tryz.prog W 0 (fun _ => true) true Tryz.f5.params.toList args.toList ds p := hA0
  rw [Tryz.params5] at hA hval
  obtain ⟨v0, vs0, d0, ds0, p0, q0, hargs, rfl, rfl, h0, r0⟩ := ChangeShapes.trodAll_cons hA
  obtain ⟨rfl, rfl, rfl⟩ := trodAll_nil r0
  obtain rfl : args = #[v0] := by cases args; simp_all
  obtain ⟨a0, x0, rfl, k0, g0⟩ := (arg_struct Tryz.underlying37 op37) (hval 0 37 _ rfl rfl) h0
  have ht := true_Counters a0 k0
  refine (f5 W 0 (by decide) a0 x0.1.2.1 x0.1.2.2 (g0 (MF.rs .der x0.1.2.1 x0.1.2.2 a0.topology.links) (List.mem_cons_self)) x0.2.1.1.1 x0.2.1.1.2 (g0 (MF.rs .der x0.2.1.1.1 x0.2.1.1.2 a0.trust.keys) (by simp [GoT.fa])) x0.2.1.2.1.1 x0.2.1.2.1.2 (g0 (MF.rs .der x0.2.1.2.1.1 x0.2.1.2.1.2 a0.trust.rules) (by simp [GoT.fa])) x0.2.1.2.2.1.1 x0.2.1.2.2.1.2 (g0 (MF.rs .der x0.2.1.2.2.1.1 x0.2.1.2.2.1.2 a0.trust.anchors) (by simp [GoT.fa])) x0.2.1.2.2.2.1 x0.2.1.2.2.2.2 (g0 (MF.rs .der x0.2.1.2.2.2.1 x0.2.1.2.2.2.2 a0.trust.certificates) (by simp [GoT.fa])) x0.2.2.1.1 x0.2.2.1.2 (g0 (MF.rs .der x0.2.2.1.1 x0.2.2.1.2 a0.producers) (by simp [GoT.fa])) x0.2.2.2.1.1 x0.2.2.2.1.2 (g0 (MF.rs .der x0.2.2.2.1.1 x0.2.2.2.1.2 a0.nodes) (by simp [GoT.fa])) x0.2.2.2.2.2.1.1 x0.2.2.2.2.2.1.2 (g0 (MF.rs .der x0.2.2.2.2.2.1.1 x0.2.2.2.2.2.1.2 a0.failedLinks) (by simp [GoT.fa])) x0.2.2.2.2.2.2.1.1 x0.2.2.2.2.2.2.1.2 (g0 (MF.rs .der x0.2.2.2.2.2.2.1.1 x0.2.2.2.2.2.2.1.2 a0.inFlight) (by simp [GoT.fa])) x0.2.2.2.2.2.2.2.1.1 x0.2.2.2.2.2.2.2.1.2 (g0 (MF.rs .der x0.2.2.2.2.2.2.2.1.1 x0.2.2.2.2.2.2.2.1.2 a0.consumers) (by simp [GoT.fa])) k0).2.mono fun e W1 ⟨v, he, hb, hv⟩ => ?_
  rw [ht] at hv
  obtain ⟨rfl, _⟩ := hv
  subst he
  exact ⟨_, rfl, law_post laid (by kernel_rfl) rfl rfl Tryz.underlying4 (fun ds h => by match ds, h with | [_], _ => rfl) hW' hb.below⟩
theorem over : Rows.fnExactCountersRow.holds Tryz.pinned (OpenSpec.ofChange Rows.fnExactCountersSpec) :=
  OpenClaim.holds_of_wide 5 Tryz.f5 rfl rfl rfl rfl rfl rfl rfl ⟨rfl, rfl, rfl, rfl, rfl⟩ rfl rfl rfl rfl rfl (by kernel_rfl) Tryz.func5 (by kernel_rfl)
    (of_decide_eq_true (by kernel_rfl)) (by unfold Func.isWrapper; first | (rw [if_pos (by decide +kernel)]; kernel_rfl) | (rw [if_neg (by decide +kernel)]; exact ⟨rfl, rfl⟩))
    (fun os started H enc _ => lifted os started H enc)
theorem proved : Rows.FnExactCountersSaid := over
#print axioms proved
end LawCounters
end Go.Proofs.YtcjilfbmdciebaaGreat
