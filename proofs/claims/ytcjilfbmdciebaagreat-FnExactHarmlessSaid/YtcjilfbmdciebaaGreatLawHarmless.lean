/-
  FnExactHarmless: the law returns true at all arguments; conditions: those of the statement, no others. Written by a program (mklaw2.py).
-/
import Derived.Test.YtcjilfbmdciebaaGreatCL7
import Derived.Test.YtcjilfbmdciebaaGreatSame
import Derived.Test.YtcjilfbmdciebaaGreatOpen
namespace Go.Stp
set_option linter.unusedVariables false
set_option linter.unusedSimpArgs false
theorem same_Harmless (aW : Network) (aE : EventP) : impl_Harmless aW aE = spec_Harmless aW aE := same_Harmless' aW aE
theorem true_Harmless (aW : Network) (aE : EventP) (haW : GoT.ok 10 aW) (haE : GoT.ok 10 aE) : laws_FnExactHarmless aW aE = true := by
  unfold laws_FnExactHarmless
  by_cases s0 : laws_szNetwork aW 1048576 < 0
  · simp only [dT s0, cond_true]
  have d0 := dF (show 0 ≤ laws_szNetwork aW 1048576 by omega)
  obtain ⟨t0, z0⟩ := (sz_Network_R aW 1048576 haW (by omega) (by omega)).pos (by omega)
  by_cases s1 : laws_szEvent aE (laws_szNetwork aW 1048576) < 0
  · simp only [dT s1, cond_true, d0, cond_false]
  have d1 := dF (show 0 ≤ laws_szEvent aE (laws_szNetwork aW 1048576) by omega)
  obtain ⟨t1, z1⟩ := (sz_Event_R aE (laws_szNetwork aW 1048576) haE (by omega) (by omega)).pos (by omega)
  simp only [d0, cond_false, d1, to_Network, to_Event, same_Harmless, eq_Network, eq_Event, Bool.not_true, bne_self_F, nbeq_self_F, beq_self_eq_true]
end Go.Stp
namespace Go.Proofs.YtcjilfbmdciebaaGreat
open Go.Stp
open Go.RowKit (Below)
open Go.ChangeShapes Go.WideShapes Go.ChangeAt
namespace LawHarmless
theorem own : ownKnob Tryz.prog.godebug = none := by kernel_rfl
theorem laid : laidOutB Tryz.prog = true := by kernel_rfl
set_option maxRecDepth 100000 in
theorem op235 : Opens Tryz.prog 235 Link := opens_struct (fun e : Link => (e.a, e.b)) (fun b => ⟨b.1, b.2⟩) (fun _ => rfl) Tryz.underlying235 (show Tryz.prog.cellsOf 235 = 2 by kernel_rfl) (opensF_cons rfl (opens_int Tryz.underlying3 (by kernel_rfl)) (opensF_one rfl (opens_int Tryz.underlying3 (by kernel_rfl))))
set_option maxRecDepth 100000 in
theorem op24 : Opens Tryz.prog 24 Topology := opens_struct (fun e : Topology => (e.size, e.links)) (fun b => ⟨b.1, b.2⟩) (fun _ => rfl) Tryz.underlying24 (show Tryz.prog.cellsOf 24 = 2 by kernel_rfl) (opensF_cons rfl (opens_int Tryz.underlying3 (by kernel_rfl)) (opensF_one rfl (opens_slice Tryz.underlying22 (by kernel_rfl) op235)))
set_option maxRecDepth 100000 in
theorem op60 : Opens Tryz.prog 60 Name := opens_struct (fun e : Name => e.parts) (fun b => ⟨b⟩) (fun _ => rfl) Tryz.underlying60 (show Tryz.prog.cellsOf 60 = 1 by kernel_rfl) (opensF_one rfl (opens_slice Tryz.underlying58 (by kernel_rfl) (opens_str Tryz.underlying9 (by kernel_rfl))))
set_option maxRecDepth 100000 in
theorem op224 : Opens Tryz.prog 224 Key := opens_struct (fun e : Key => (e.name, e.secret)) (fun b => ⟨b.1, b.2⟩) (fun _ => rfl) Tryz.underlying224 (show Tryz.prog.cellsOf 224 = 2 by kernel_rfl) (opensF_cons rfl op60 (opensF_one rfl (opens_int Tryz.underlying3 (by kernel_rfl))))
set_option maxRecDepth 100000 in
theorem op226 : Opens Tryz.prog 226 Pattern := opens_struct (fun e : Pattern => e.parts) (fun b => ⟨b⟩) (fun _ => rfl) Tryz.underlying226 (show Tryz.prog.cellsOf 226 = 1 by kernel_rfl) (opensF_one rfl (opens_slice Tryz.underlying58 (by kernel_rfl) (opens_str Tryz.underlying9 (by kernel_rfl))))
set_option maxRecDepth 100000 in
theorem op228 : Opens Tryz.prog 228 Rule := opens_struct (fun e : Rule => (e.dataPattern, e.keyPattern)) (fun b => ⟨b.1, b.2⟩) (fun _ => rfl) Tryz.underlying228 (show Tryz.prog.cellsOf 228 = 2 by kernel_rfl) (opensF_cons rfl op226 (opensF_one rfl op226))
set_option maxRecDepth 100000 in
theorem op65 : Opens Tryz.prog 65 DataP := opens_struct (fun e : DataP => (e.name, e.content, e.keyName, e.freshUntil, e.signature)) (fun b => ⟨b.1, b.2.1, b.2.2.1, b.2.2.2.1, b.2.2.2.2⟩) (fun _ => rfl) Tryz.underlying65 (show Tryz.prog.cellsOf 65 = 5 by kernel_rfl) (opensF_cons rfl op60 (opensF_cons rfl (opens_slice Tryz.underlying63 (by kernel_rfl) (opens_byte Tryz.underlying5 (by kernel_rfl))) (opensF_cons rfl op60 (opensF_cons rfl (opens_int Tryz.underlying3 (by kernel_rfl)) (opensF_one rfl (opens_int Tryz.underlying3 (by kernel_rfl)))))))
set_option maxRecDepth 100000 in
theorem op30 : Opens Tryz.prog 30 TrustPolicy := opens_struct (fun e : TrustPolicy => (e.keys, e.rules, e.anchors, e.certificates)) (fun b => ⟨b.1, b.2.1, b.2.2.1, b.2.2.2⟩) (fun _ => rfl) Tryz.underlying30 (show Tryz.prog.cellsOf 30 = 4 by kernel_rfl) (opensF_cons rfl (opens_slice Tryz.underlying25 (by kernel_rfl) op224) (opensF_cons rfl (opens_slice Tryz.underlying26 (by kernel_rfl) op228) (opensF_cons rfl (opens_slice Tryz.underlying27 (by kernel_rfl) op60) (opensF_one rfl (opens_slice Tryz.underlying28 (by kernel_rfl) op65)))))
set_option maxRecDepth 100000 in
theorem op152 : Opens Tryz.prog 152 TableEntry := opens_struct (fun e : TableEntry => (e.name, e.value)) (fun b => ⟨b.1, b.2⟩) (fun _ => rfl) Tryz.underlying152 (show Tryz.prog.cellsOf 152 = 2 by kernel_rfl) (opensF_cons rfl op60 (opensF_one rfl (opens_int Tryz.underlying3 (by kernel_rfl))))
set_option maxRecDepth 100000 in
theorem op295 : Opens Tryz.prog 295 CacheEntry := opens_struct (fun e : CacheEntry => (e.data, e.lastUsed)) (fun b => ⟨b.1, b.2⟩) (fun _ => rfl) Tryz.underlying295 (show Tryz.prog.cellsOf 295 = 6 by kernel_rfl) (opensF_cons rfl op65 (opensF_one rfl (opens_int Tryz.underlying3 (by kernel_rfl))))
set_option maxRecDepth 100000 in
theorem op156 : Opens Tryz.prog 156 ContentStore := opens_struct (fun e : ContentStore => (e.capacity, e.entries)) (fun b => ⟨b.1, b.2⟩) (fun _ => rfl) Tryz.underlying156 (show Tryz.prog.cellsOf 156 = 2 by kernel_rfl) (opensF_cons rfl (opens_int Tryz.underlying3 (by kernel_rfl)) (opensF_one rfl (opens_slice Tryz.underlying154 (by kernel_rfl) op295)))
set_option maxRecDepth 100000 in
theorem op300 : Opens Tryz.prog 300 Requester := opens_struct (fun e : Requester => (e.face, e.nonce, e.expiry)) (fun b => ⟨b.1, b.2.1, b.2.2⟩) (fun _ => rfl) Tryz.underlying300 (show Tryz.prog.cellsOf 300 = 3 by kernel_rfl) (opensF_cons rfl (opens_int Tryz.underlying3 (by kernel_rfl)) (opensF_cons rfl (opens_int Tryz.underlying3 (by kernel_rfl)) (opensF_one rfl (opens_int Tryz.underlying3 (by kernel_rfl)))))
set_option maxRecDepth 100000 in
theorem op275 : Opens Tryz.prog 275 PendingInterest := opens_struct (fun e : PendingInterest => (e.name, e.requesters, e.lastSent)) (fun b => ⟨b.1, b.2.1, b.2.2⟩) (fun _ => rfl) Tryz.underlying275 (show Tryz.prog.cellsOf 275 = 3 by kernel_rfl) (opensF_cons rfl op60 (opensF_cons rfl (opens_slice Tryz.underlying273 (by kernel_rfl) op300) (opensF_one rfl (opens_int Tryz.underlying3 (by kernel_rfl)))))
set_option maxRecDepth 100000 in
theorem op278 : Opens Tryz.prog 278 SeenNonce := opens_struct (fun e : SeenNonce => (e.name, e.nonce)) (fun b => ⟨b.1, b.2⟩) (fun _ => rfl) Tryz.underlying278 (show Tryz.prog.cellsOf 278 = 2 by kernel_rfl) (opensF_cons rfl op60 (opensF_one rfl (opens_int Tryz.underlying3 (by kernel_rfl))))
set_option maxRecDepth 100000 in
theorem op281 : Opens Tryz.prog 281 Route := opens_struct (fun e : Route => (e.pfx, e.face, e.cost)) (fun b => ⟨b.1, b.2.1, b.2.2⟩) (fun _ => rfl) Tryz.underlying281 (show Tryz.prog.cellsOf 281 = 3 by kernel_rfl) (opensF_cons rfl op60 (opensF_cons rfl (opens_int Tryz.underlying3 (by kernel_rfl)) (opensF_one rfl (opens_int Tryz.underlying3 (by kernel_rfl)))))
set_option maxRecDepth 100000 in
theorem op284 : Opens Tryz.prog 284 Measurement := opens_struct (fun e : Measurement => (e.pfx, e.face, e.failures)) (fun b => ⟨b.1, b.2.1, b.2.2⟩) (fun _ => rfl) Tryz.underlying284 (show Tryz.prog.cellsOf 284 = 3 by kernel_rfl) (opensF_cons rfl op60 (opensF_cons rfl (opens_int Tryz.underlying3 (by kernel_rfl)) (opensF_one rfl (opens_int Tryz.underlying3 (by kernel_rfl)))))
set_option maxRecDepth 100000 in
theorem op162 : Opens Tryz.prog 162 NodeP := opens_struct (fun e : NodeP => (e.locl, e.cache, e.pending, e.seen, e.routes, e.measurements, e.dropped)) (fun b => ⟨b.1, b.2.1, b.2.2.1, b.2.2.2.1, b.2.2.2.2.1, b.2.2.2.2.2.1, b.2.2.2.2.2.2⟩) (fun _ => rfl) Tryz.underlying162 (show Tryz.prog.cellsOf 162 = 8 by kernel_rfl) (opensF_cons rfl (opens_slice Tryz.underlying28 (by kernel_rfl) op65) (opensF_cons rfl op156 (opensF_cons rfl (opens_slice Tryz.underlying157 (by kernel_rfl) op275) (opensF_cons rfl (opens_slice Tryz.underlying158 (by kernel_rfl) op278) (opensF_cons rfl (opens_slice Tryz.underlying159 (by kernel_rfl) op281) (opensF_cons rfl (opens_slice Tryz.underlying160 (by kernel_rfl) op284) (opensF_one rfl (opens_int Tryz.underlying3 (by kernel_rfl)))))))))
set_option maxRecDepth 100000 in
theorem op62 : Opens Tryz.prog 62 Interest := opens_struct (fun e : Interest => (e.name, e.nonce, e.hopLimit, e.lifetime)) (fun b => ⟨b.1, b.2.1, b.2.2.1, b.2.2.2⟩) (fun _ => rfl) Tryz.underlying62 (show Tryz.prog.cellsOf 62 = 4 by kernel_rfl) (opensF_cons rfl op60 (opensF_cons rfl (opens_int Tryz.underlying3 (by kernel_rfl)) (opensF_cons rfl (opens_int Tryz.underlying3 (by kernel_rfl)) (opensF_one rfl (opens_int Tryz.underlying3 (by kernel_rfl))))))
set_option maxRecDepth 100000 in
theorem op67 : Opens Tryz.prog 67 PacketInFlight := opens_struct (fun e : PacketInFlight => (e.to, e.face, e.isInterest, e.interest, e.data)) (fun b => ⟨b.1, b.2.1, b.2.2.1, b.2.2.2.1, b.2.2.2.2⟩) (fun _ => rfl) Tryz.underlying67 (show Tryz.prog.cellsOf 67 = 12 by kernel_rfl) (opensF_cons rfl (opens_int Tryz.underlying3 (by kernel_rfl)) (opensF_cons rfl (opens_int Tryz.underlying3 (by kernel_rfl)) (opensF_cons rfl (opens_bool Tryz.underlying4 (by kernel_rfl)) (opensF_cons rfl op62 (opensF_one rfl op65)))))
set_option maxRecDepth 100000 in
theorem op165 : Opens Tryz.prog 165 Consumer := opens_struct (fun e : Consumer => (e.node, e.index, e.name, e.attempts, e.wait, e.satisfied, e.data)) (fun b => ⟨b.1, b.2.1, b.2.2.1, b.2.2.2.1, b.2.2.2.2.1, b.2.2.2.2.2.1, b.2.2.2.2.2.2⟩) (fun _ => rfl) Tryz.underlying165 (show Tryz.prog.cellsOf 165 = 11 by kernel_rfl) (opensF_cons rfl (opens_int Tryz.underlying3 (by kernel_rfl)) (opensF_cons rfl (opens_int Tryz.underlying3 (by kernel_rfl)) (opensF_cons rfl op60 (opensF_cons rfl (opens_int Tryz.underlying3 (by kernel_rfl)) (opensF_cons rfl (opens_int Tryz.underlying3 (by kernel_rfl)) (opensF_cons rfl (opens_bool Tryz.underlying4 (by kernel_rfl)) (opensF_one rfl op65)))))))
set_option maxRecDepth 100000 in
theorem op37 : Opens Tryz.prog 37 Network := opens_struct (fun e : Network => (e.topology, e.trust, e.producers, e.nodes, e.downNodes, e.failedLinks, e.inFlight, e.consumers, e.now, e.dropped)) (fun b => ⟨b.1, b.2.1, b.2.2.1, b.2.2.2.1, b.2.2.2.2.1, b.2.2.2.2.2.1, b.2.2.2.2.2.2.1, b.2.2.2.2.2.2.2.1, b.2.2.2.2.2.2.2.2.1, b.2.2.2.2.2.2.2.2.2⟩) (fun _ => rfl) Tryz.underlying37 (show Tryz.prog.cellsOf 37 = 14 by kernel_rfl) (opensF_cons rfl op24 (opensF_cons rfl op30 (opensF_cons rfl (opens_slice Tryz.underlying31 (by kernel_rfl) op152) (opensF_cons rfl (opens_slice Tryz.underlying32 (by kernel_rfl) op162) (opensF_cons rfl (opens_int Tryz.underlying3 (by kernel_rfl)) (opensF_cons rfl (opens_slice Tryz.underlying33 (by kernel_rfl) (opens_int Tryz.underlying3 (by kernel_rfl))) (opensF_cons rfl (opens_slice Tryz.underlying34 (by kernel_rfl) op67) (opensF_cons rfl (opens_slice Tryz.underlying35 (by kernel_rfl) op165) (opensF_cons rfl (opens_int Tryz.underlying3 (by kernel_rfl)) (opensF_one rfl (opens_int Tryz.underlying3 (by kernel_rfl))))))))))))
set_option maxRecDepth 100000 in
theorem op69 : Opens Tryz.prog 69 EventP := opens_struct (fun e : EventP => (e.kind, e.n, e.name, e.forged)) (fun b => ⟨b.1, b.2.1, b.2.2.1, b.2.2.2⟩) (fun _ => rfl) Tryz.underlying69 (show Tryz.prog.cellsOf 69 = 15 by kernel_rfl) (opensF_cons rfl (opens_int Tryz.underlying3 (by kernel_rfl)) (opensF_cons rfl (opens_int Tryz.underlying3 (by kernel_rfl)) (opensF_cons rfl op60 (opensF_one rfl op67))))
set_option maxRecDepth 100000 in
theorem lifted (os : Os) (started : os.Started) (H : Type) (enc : TypeId × Value → H) :
    ReturnsInHanded {} Tryz.checked os 4 .any (Rows.fnExactHarmlessSpec.pre6 enc Tryz.prog Tryz.f4 Rows.fnExactHarmlessRow.domain false) (Rows.fnExactHarmlessSpec.post enc Tryz.prog Tryz.f4 false true false false) := by
  refine returnsInHanded_of_change (C := Tryz.checked) own started (by kernel_rfl) Tryz.func4
    (ChangeSpec.witness6 (enc := enc) (C := Tryz.checked) false ⟨#[], #[.agg #[.int .i64 (0), .slice none 0 0, .slice none 0 0, .slice none 0 0, .slice none 0 0, .slice none 0 0, .slice none 0 0, .slice none 0 0, .int .i64 (0), .slice none 0 0, .slice none 0 0, .slice none 0 0, .int .i64 (0), .int .i64 (0)], .agg #[.int .i64 (0), .int .i64 (0), .slice none 0 0, .int .i64 (0), .int .i64 (0), .bool false, .slice none 0 0, .int .i64 (0), .int .i64 (0), .int .i64 (0), .slice none 0 0, .slice none 0 0, .slice none 0 0, .int .i64 (0), .int .i64 (0)]], []⟩ 8 (by kernel_rfl) (by kernel_rfl) (by kernel_rfl) (by kernel_rfl)) ?_
  intro W base args ds gs before hval0 hW _ _
  have hval : ∀ (j : Nat) t v, Tryz.f4.params[j]? = some t → args[j]? = some v → Value.okWide Tryz.prog W .any base t v := hval0
  have hW' := hW
  obtain ⟨p, q, hA0, _⟩ := hW
  have hA : DataW.TrodAll enc Tryz.prog W 0 (fun _ => true) true Tryz.f4.params.toList args.toList ds p := hA0
  rw [Tryz.params4] at hA hval
  obtain ⟨v0, vs0, d0, ds0, p0, q0, hargs, rfl, rfl, h0, r0⟩ := ChangeShapes.trodAll_cons hA
  obtain ⟨v1, vs1, d1, ds1, p1, q1, rfl, rfl, rfl, h1, r1⟩ := ChangeShapes.trodAll_cons r0
  obtain ⟨rfl, rfl, rfl⟩ := trodAll_nil r1
  obtain rfl : args = #[v0, v1] := by cases args; simp_all
  obtain ⟨a0, x0, rfl, k0, g0⟩ := (arg_struct Tryz.underlying37 op37) (hval 0 37 _ rfl rfl) h0
  obtain ⟨a1, x1, rfl, k1, g1⟩ := (arg_struct Tryz.underlying69 op69) (hval 1 69 _ rfl rfl) h1
  have ht := true_Harmless a0 a1 k0 k1
  refine (f4 W 0 (by decide) a0 x0.1.2.1 x0.1.2.2 (g0 (MF.rs .der x0.1.2.1 x0.1.2.2 a0.topology.links) (List.mem_cons_self)) x0.2.1.1.1 x0.2.1.1.2 (g0 (MF.rs .der x0.2.1.1.1 x0.2.1.1.2 a0.trust.keys) (by simp [GoT.fa])) x0.2.1.2.1.1 x0.2.1.2.1.2 (g0 (MF.rs .der x0.2.1.2.1.1 x0.2.1.2.1.2 a0.trust.rules) (by simp [GoT.fa])) x0.2.1.2.2.1.1 x0.2.1.2.2.1.2 (g0 (MF.rs .der x0.2.1.2.2.1.1 x0.2.1.2.2.1.2 a0.trust.anchors) (by simp [GoT.fa])) x0.2.1.2.2.2.1 x0.2.1.2.2.2.2 (g0 (MF.rs .der x0.2.1.2.2.2.1 x0.2.1.2.2.2.2 a0.trust.certificates) (by simp [GoT.fa])) x0.2.2.1.1 x0.2.2.1.2 (g0 (MF.rs .der x0.2.2.1.1 x0.2.2.1.2 a0.producers) (by simp [GoT.fa])) x0.2.2.2.1.1 x0.2.2.2.1.2 (g0 (MF.rs .der x0.2.2.2.1.1 x0.2.2.2.1.2 a0.nodes) (by simp [GoT.fa])) x0.2.2.2.2.2.1.1 x0.2.2.2.2.2.1.2 (g0 (MF.rs .der x0.2.2.2.2.2.1.1 x0.2.2.2.2.2.1.2 a0.failedLinks) (by simp [GoT.fa])) x0.2.2.2.2.2.2.1.1 x0.2.2.2.2.2.2.1.2 (g0 (MF.rs .der x0.2.2.2.2.2.2.1.1 x0.2.2.2.2.2.2.1.2 a0.inFlight) (by simp [GoT.fa])) x0.2.2.2.2.2.2.2.1.1 x0.2.2.2.2.2.2.2.1.2 (g0 (MF.rs .der x0.2.2.2.2.2.2.2.1.1 x0.2.2.2.2.2.2.2.1.2 a0.consumers) (by simp [GoT.fa])) a1 x1.2.2.1.1 x1.2.2.1.2 (g1 (MF.rs .der x1.2.2.1.1 x1.2.2.1.2 a1.name.parts) (List.mem_cons_self)) x1.2.2.2.2.2.2.1.1.1 x1.2.2.2.2.2.2.1.1.2 (g1 (MF.rs .der x1.2.2.2.2.2.2.1.1.1 x1.2.2.2.2.2.2.1.1.2 a1.forged.interest.name.parts) (by simp [GoT.fa])) x1.2.2.2.2.2.2.2.1.1 x1.2.2.2.2.2.2.2.1.2 (g1 (MF.rs .der x1.2.2.2.2.2.2.2.1.1 x1.2.2.2.2.2.2.2.1.2 a1.forged.data.name.parts) (by simp [GoT.fa])) x1.2.2.2.2.2.2.2.2.1.1 x1.2.2.2.2.2.2.2.2.1.2 (g1 (MF.rs .der x1.2.2.2.2.2.2.2.2.1.1 x1.2.2.2.2.2.2.2.2.1.2 a1.forged.data.content) (by simp [GoT.fa])) x1.2.2.2.2.2.2.2.2.2.1.1 x1.2.2.2.2.2.2.2.2.2.1.2 (g1 (MF.rs .der x1.2.2.2.2.2.2.2.2.2.1.1 x1.2.2.2.2.2.2.2.2.2.1.2 a1.forged.data.keyName.parts) (by simp [GoT.fa])) k0 k1).2.mono fun e W1 ⟨v, he, hb, hv⟩ => ?_
  rw [ht] at hv
  obtain ⟨rfl, _⟩ := hv
  subst he
  exact ⟨_, rfl, law_post laid (by kernel_rfl) rfl rfl Tryz.underlying4 (fun ds h => by match ds, h with | [_, _], _ => rfl) hW' hb.below⟩
theorem over : Rows.fnExactHarmlessRow.holds Tryz.pinned (OpenSpec.ofChange Rows.fnExactHarmlessSpec) :=
  OpenClaim.holds_of_wide 4 Tryz.f4 rfl rfl rfl rfl rfl rfl rfl ⟨rfl, rfl, rfl, rfl, rfl⟩ rfl rfl rfl rfl rfl (by kernel_rfl) Tryz.func4 (by kernel_rfl)
    (of_decide_eq_true (by kernel_rfl)) (by unfold Func.isWrapper; first | (rw [if_pos (by decide +kernel)]; kernel_rfl) | (rw [if_neg (by decide +kernel)]; exact ⟨rfl, rfl⟩))
    (fun os started H enc _ => lifted os started H enc)
theorem proved : Rows.FnExactHarmlessSaid := over
#print axioms proved
end LawHarmless
end Go.Proofs.YtcjilfbmdciebaaGreat
