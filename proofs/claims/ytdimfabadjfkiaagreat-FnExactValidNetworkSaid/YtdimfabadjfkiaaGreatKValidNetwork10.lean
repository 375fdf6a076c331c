/-
  ValidNetwork: the law returns true at all arguments; conditions: those of the statement, no others. Written by a program (pack.py, mklaw2.py).
-/
import Derived.Test.YtdimfabadjfkiaaGreatKValidNetwork9
namespace Go.Stp
set_option linter.unusedVariables false
set_option linter.unusedSimpArgs false
theorem same_ValidNetwork (aW : Network) (haW : GoT.ok 10 aW): impl_ValidNetwork aW = spec_ValidNetwork aW := same_ValidNetwork' aW haW
theorem true_ValidNetwork (aW : Network) (haW : GoT.ok 10 aW) : laws_FnExactValidNetwork aW = true := by
  unfold laws_FnExactValidNetwork
  by_cases s0 : laws_szNetwork aW 1048576 < 0
  · simp only [dT s0, cond_true]
  have d0 := dF (show 0 ≤ laws_szNetwork aW 1048576 by omega)
  obtain ⟨t0, z0⟩ := (sz_Network_R aW 1048576 haW (by omega) (by omega)).pos (by omega)
  simp only [d0, cond_false, to_Network, same_ValidNetwork aW haW, eq_Network, Bool.not_true, bne_self_F, nbeq_self_F, beq_self_eq_true]
end Go.Stp
namespace Go.Proofs.YtdimfabadjfkiaaGreat
open Go.Stp
open Go.RowKit (Below)
open Go.ChangeShapes Go.WideShapes Go.ChangeAt
namespace LawValidNetwork
theorem own : ownKnob Tryz.prog.godebug = none := by kernel_rfl
theorem laid : laidOutB Tryz.prog = true := Facts.laid
set_option maxRecDepth 100000 in
theorem op364 : Opens Tryz.prog 364 Link := opens_struct (fun e : Link => (e.a, e.b)) (fun b => ⟨b.1, b.2⟩) (fun _ => rfl) Tryz.underlying364 (show Tryz.prog.cellsOf 364 = 2 by kernel_rfl) (opensF_cons rfl (opens_int Tryz.underlying3 (by kernel_rfl)) (opensF_one rfl (opens_int Tryz.underlying3 (by kernel_rfl))))
set_option maxRecDepth 100000 in
theorem op122 : Opens Tryz.prog 122 Topology := opens_struct (fun e : Topology => (e.size, e.links)) (fun b => ⟨b.1, b.2⟩) (fun _ => rfl) Tryz.underlying122 (show Tryz.prog.cellsOf 122 = 2 by kernel_rfl) (opensF_cons rfl (opens_int Tryz.underlying3 (by kernel_rfl)) (opensF_one rfl (opens_slice Tryz.underlying120 (by kernel_rfl) op364)))
set_option maxRecDepth 100000 in
theorem op88 : Opens Tryz.prog 88 Name := opens_struct (fun e : Name => e.parts) (fun b => ⟨b⟩) (fun _ => rfl) Tryz.underlying88 (show Tryz.prog.cellsOf 88 = 1 by kernel_rfl) (opensF_one rfl (opens_slice Tryz.underlying28 (by kernel_rfl) (opens_str Tryz.underlying9 (by kernel_rfl))))
set_option maxRecDepth 100000 in
theorem op268 : Opens Tryz.prog 268 Key := opens_struct (fun e : Key => (e.name, e.secret)) (fun b => ⟨b.1, b.2⟩) (fun _ => rfl) Tryz.underlying268 (show Tryz.prog.cellsOf 268 = 2 by kernel_rfl) (opensF_cons rfl op88 (opensF_one rfl (opens_int Tryz.underlying3 (by kernel_rfl))))
set_option maxRecDepth 100000 in
theorem op270 : Opens Tryz.prog 270 Pattern := opens_struct (fun e : Pattern => e.parts) (fun b => ⟨b⟩) (fun _ => rfl) Tryz.underlying270 (show Tryz.prog.cellsOf 270 = 1 by kernel_rfl) (opensF_one rfl (opens_slice Tryz.underlying28 (by kernel_rfl) (opens_str Tryz.underlying9 (by kernel_rfl))))
set_option maxRecDepth 100000 in
theorem op272 : Opens Tryz.prog 272 Rule := opens_struct (fun e : Rule => (e.dataPattern, e.keyPattern)) (fun b => ⟨b.1, b.2⟩) (fun _ => rfl) Tryz.underlying272 (show Tryz.prog.cellsOf 272 = 2 by kernel_rfl) (opensF_cons rfl op270 (opensF_one rfl op270))
set_option maxRecDepth 100000 in
theorem op90 : Opens Tryz.prog 90 DataP := opens_struct (fun e : DataP => (e.name, e.content, e.keyName, e.freshUntil, e.signature)) (fun b => ⟨b.1, b.2.1, b.2.2.1, b.2.2.2.1, b.2.2.2.2⟩) (fun _ => rfl) Tryz.underlying90 (show Tryz.prog.cellsOf 90 = 5 by kernel_rfl) (opensF_cons rfl op88 (opensF_cons rfl (opens_slice Tryz.underlying22 (by kernel_rfl) (opens_byte Tryz.underlying5 (by kernel_rfl))) (opensF_cons rfl op88 (opensF_cons rfl (opens_int Tryz.underlying3 (by kernel_rfl)) (opensF_one rfl (opens_int Tryz.underlying3 (by kernel_rfl)))))))
set_option maxRecDepth 100000 in
theorem op98 : Opens Tryz.prog 98 TrustPolicy := opens_struct (fun e : TrustPolicy => (e.keys, e.rules, e.anchors, e.certificates)) (fun b => ⟨b.1, b.2.1, b.2.2.1, b.2.2.2⟩) (fun _ => rfl) Tryz.underlying98 (show Tryz.prog.cellsOf 98 = 4 by kernel_rfl) (opensF_cons rfl (opens_slice Tryz.underlying93 (by kernel_rfl) op268) (opensF_cons rfl (opens_slice Tryz.underlying94 (by kernel_rfl) op272) (opensF_cons rfl (opens_slice Tryz.underlying95 (by kernel_rfl) op88) (opensF_one rfl (opens_slice Tryz.underlying96 (by kernel_rfl) op90)))))
set_option maxRecDepth 100000 in
theorem op287 : Opens Tryz.prog 287 TableEntry := opens_struct (fun e : TableEntry => (e.name, e.value)) (fun b => ⟨b.1, b.2⟩) (fun _ => rfl) Tryz.underlying287 (show Tryz.prog.cellsOf 287 = 2 by kernel_rfl) (opensF_cons rfl op88 (opensF_one rfl (opens_int Tryz.underlying3 (by kernel_rfl))))
set_option maxRecDepth 100000 in
theorem op438 : Opens Tryz.prog 438 CacheEntry := opens_struct (fun e : CacheEntry => (e.data, e.lastUsed)) (fun b => ⟨b.1, b.2⟩) (fun _ => rfl) Tryz.underlying438 (show Tryz.prog.cellsOf 438 = 6 by kernel_rfl) (opensF_cons rfl op90 (opensF_one rfl (opens_int Tryz.underlying3 (by kernel_rfl))))
set_option maxRecDepth 100000 in
theorem op291 : Opens Tryz.prog 291 ContentStore := opens_struct (fun e : ContentStore => (e.capacity, e.entries)) (fun b => ⟨b.1, b.2⟩) (fun _ => rfl) Tryz.underlying291 (show Tryz.prog.cellsOf 291 = 2 by kernel_rfl) (opensF_cons rfl (opens_int Tryz.underlying3 (by kernel_rfl)) (opensF_one rfl (opens_slice Tryz.underlying289 (by kernel_rfl) op438)))
set_option maxRecDepth 100000 in
theorem op452 : Opens Tryz.prog 452 Requester := opens_struct (fun e : Requester => (e.face, e.nonce, e.expiry)) (fun b => ⟨b.1, b.2.1, b.2.2⟩) (fun _ => rfl) Tryz.underlying452 (show Tryz.prog.cellsOf 452 = 3 by kernel_rfl) (opensF_cons rfl (opens_int Tryz.underlying3 (by kernel_rfl)) (opensF_cons rfl (opens_int Tryz.underlying3 (by kernel_rfl)) (opensF_one rfl (opens_int Tryz.underlying3 (by kernel_rfl)))))
set_option maxRecDepth 100000 in
theorem op396 : Opens Tryz.prog 396 PendingInterest := opens_struct (fun e : PendingInterest => (e.name, e.requesters, e.lastSent)) (fun b => ⟨b.1, b.2.1, b.2.2⟩) (fun _ => rfl) Tryz.underlying396 (show Tryz.prog.cellsOf 396 = 3 by kernel_rfl) (opensF_cons rfl op88 (opensF_cons rfl (opens_slice Tryz.underlying394 (by kernel_rfl) op452) (opensF_one rfl (opens_int Tryz.underlying3 (by kernel_rfl)))))
set_option maxRecDepth 100000 in
theorem op399 : Opens Tryz.prog 399 SeenNonce := opens_struct (fun e : SeenNonce => (e.name, e.nonce)) (fun b => ⟨b.1, b.2⟩) (fun _ => rfl) Tryz.underlying399 (show Tryz.prog.cellsOf 399 = 2 by kernel_rfl) (opensF_cons rfl op88 (opensF_one rfl (opens_int Tryz.underlying3 (by kernel_rfl))))
set_option maxRecDepth 100000 in
theorem op402 : Opens Tryz.prog 402 Route := opens_struct (fun e : Route => (e.pfx, e.face, e.cost)) (fun b => ⟨b.1, b.2.1, b.2.2⟩) (fun _ => rfl) Tryz.underlying402 (show Tryz.prog.cellsOf 402 = 3 by kernel_rfl) (opensF_cons rfl op88 (opensF_cons rfl (opens_int Tryz.underlying3 (by kernel_rfl)) (opensF_one rfl (opens_int Tryz.underlying3 (by kernel_rfl)))))
set_option maxRecDepth 100000 in
theorem op405 : Opens Tryz.prog 405 Measurement := opens_struct (fun e : Measurement => (e.pfx, e.face, e.failures)) (fun b => ⟨b.1, b.2.1, b.2.2⟩) (fun _ => rfl) Tryz.underlying405 (show Tryz.prog.cellsOf 405 = 3 by kernel_rfl) (opensF_cons rfl op88 (opensF_cons rfl (opens_int Tryz.underlying3 (by kernel_rfl)) (opensF_one rfl (opens_int Tryz.underlying3 (by kernel_rfl)))))
set_option maxRecDepth 100000 in
theorem op297 : Opens Tryz.prog 297 NodeP := opens_struct (fun e : NodeP => (e.locl, e.cache, e.pending, e.seen, e.routes, e.measurements, e.dropped)) (fun b => ⟨b.1, b.2.1, b.2.2.1, b.2.2.2.1, b.2.2.2.2.1, b.2.2.2.2.2.1, b.2.2.2.2.2.2⟩) (fun _ => rfl) Tryz.underlying297 (show Tryz.prog.cellsOf 297 = 8 by kernel_rfl) (opensF_cons rfl (opens_slice Tryz.underlying96 (by kernel_rfl) op90) (opensF_cons rfl op291 (opensF_cons rfl (opens_slice Tryz.underlying292 (by kernel_rfl) op396) (opensF_cons rfl (opens_slice Tryz.underlying293 (by kernel_rfl) op399) (opensF_cons rfl (opens_slice Tryz.underlying294 (by kernel_rfl) op402) (opensF_cons rfl (opens_slice Tryz.underlying295 (by kernel_rfl) op405) (opensF_one rfl (opens_int Tryz.underlying3 (by kernel_rfl)))))))))
set_option maxRecDepth 100000 in
theorem op300 : Opens Tryz.prog 300 Interest := opens_struct (fun e : Interest => (e.name, e.nonce, e.hopLimit, e.lifetime)) (fun b => ⟨b.1, b.2.1, b.2.2.1, b.2.2.2⟩) (fun _ => rfl) Tryz.underlying300 (show Tryz.prog.cellsOf 300 = 4 by kernel_rfl) (opensF_cons rfl op88 (opensF_cons rfl (opens_int Tryz.underlying3 (by kernel_rfl)) (opensF_cons rfl (opens_int Tryz.underlying3 (by kernel_rfl)) (opensF_one rfl (opens_int Tryz.underlying3 (by kernel_rfl))))))
set_option maxRecDepth 100000 in
theorem op302 : Opens Tryz.prog 302 PacketInFlight := opens_struct (fun e : PacketInFlight => (e.to, e.face, e.isInterest, e.interest, e.data)) (fun b => ⟨b.1, b.2.1, b.2.2.1, b.2.2.2.1, b.2.2.2.2⟩) (fun _ => rfl) Tryz.underlying302 (show Tryz.prog.cellsOf 302 = 12 by kernel_rfl) (opensF_cons rfl (opens_int Tryz.underlying3 (by kernel_rfl)) (opensF_cons rfl (opens_int Tryz.underlying3 (by kernel_rfl)) (opensF_cons rfl (opens_bool Tryz.underlying4 (by kernel_rfl)) (opensF_cons rfl op300 (opensF_one rfl op90)))))
set_option maxRecDepth 100000 in
theorem op92 : Opens Tryz.prog 92 Consumer := opens_struct (fun e : Consumer => (e.node, e.index, e.name, e.attempts, e.wait, e.satisfied, e.data)) (fun b => ⟨b.1, b.2.1, b.2.2.1, b.2.2.2.1, b.2.2.2.2.1, b.2.2.2.2.2.1, b.2.2.2.2.2.2⟩) (fun _ => rfl) Tryz.underlying92 (show Tryz.prog.cellsOf 92 = 11 by kernel_rfl) (opensF_cons rfl (opens_int Tryz.underlying3 (by kernel_rfl)) (opensF_cons rfl (opens_int Tryz.underlying3 (by kernel_rfl)) (opensF_cons rfl op88 (opensF_cons rfl (opens_int Tryz.underlying3 (by kernel_rfl)) (opensF_cons rfl (opens_int Tryz.underlying3 (by kernel_rfl)) (opensF_cons rfl (opens_bool Tryz.underlying4 (by kernel_rfl)) (opensF_one rfl op90)))))))
set_option maxRecDepth 100000 in
theorem op129 : Opens Tryz.prog 129 Network := opens_struct (fun e : Network => (e.topology, e.trust, e.producers, e.nodes, e.downNodes, e.failedLinks, e.inFlight, e.consumers, e.now, e.dropped)) (fun b => ⟨b.1, b.2.1, b.2.2.1, b.2.2.2.1, b.2.2.2.2.1, b.2.2.2.2.2.1, b.2.2.2.2.2.2.1, b.2.2.2.2.2.2.2.1, b.2.2.2.2.2.2.2.2.1, b.2.2.2.2.2.2.2.2.2⟩) (fun _ => rfl) Tryz.underlying129 (show Tryz.prog.cellsOf 129 = 14 by kernel_rfl) (opensF_cons rfl op122 (opensF_cons rfl op98 (opensF_cons rfl (opens_slice Tryz.underlying123 (by kernel_rfl) op287) (opensF_cons rfl (opens_slice Tryz.underlying124 (by kernel_rfl) op297) (opensF_cons rfl (opens_int Tryz.underlying3 (by kernel_rfl)) (opensF_cons rfl (opens_slice Tryz.underlying125 (by kernel_rfl) (opens_int Tryz.underlying3 (by kernel_rfl))) (opensF_cons rfl (opens_slice Tryz.underlying126 (by kernel_rfl) op302) (opensF_cons rfl (opens_slice Tryz.underlying127 (by kernel_rfl) op92) (opensF_cons rfl (opens_int Tryz.underlying3 (by kernel_rfl)) (opensF_one rfl (opens_int Tryz.underlying3 (by kernel_rfl))))))))))))
set_option maxRecDepth 100000 in
theorem lifted (os : Os) (started : os.Started) (H : Type) (enc : TypeId × Value → H) :
    ReturnsInHanded {} Tryz.checked os 6 .any (Rows.fnExactValidNetworkSpec.pre6 enc Tryz.prog Tryz.f6 Rows.fnExactValidNetworkRow.domain false) (Rows.fnExactValidNetworkSpec.post enc Tryz.prog Tryz.f6 false true false false) := by
  refine returnsInHanded_of_change (C := Tryz.checked) own started (by kernel_rfl) Tryz.func6
    (ChangeSpec.witness6 (enc := enc) (C := Tryz.checked) false ⟨#[], #[.agg #[.int .i64 (0), .slice none 0 0, .slice none 0 0, .slice none 0 0, .slice none 0 0, .slice none 0 0, .slice none 0 0, .slice none 0 0, .int .i64 (0), .slice none 0 0, .slice none 0 0, .slice none 0 0, .int .i64 (0), .int .i64 (0)]], []⟩ 8 (by kernel_rfl) (by kernel_rfl) (by kernel_rfl) (by kernel_rfl)) ?_
  intro W base args ds gs before hval0 hW _ _
  have hval : ∀ (j : Nat) t v, Tryz.f6.params[j]? = some t → args[j]? = some v → Value.okWide Tryz.prog W .any base t v := hval0
  have hW' := hW
  obtain ⟨p, q, hA0, _⟩ := hW
  have hA : DataW.TrodAll enc Tryz.prog W 0 (fun _ => true) true Tryz.f6.params.toList args.toList ds p := hA0
  rw [Tryz.params6] at hA hval
  obtain ⟨v0, vs0, d0, ds0, p0, q0, hargs, rfl, rfl, h0, r0⟩ := ChangeShapes.trodAll_cons hA
  obtain ⟨rfl, rfl, rfl⟩ := trodAll_nil r0
  obtain rfl : args = #[v0] := by cases args; simp_all
  obtain ⟨a0, x0, rfl, k0, g0⟩ := (arg_struct Tryz.underlying129 op129) (hval 0 129 _ rfl rfl) h0
  have ht := true_ValidNetwork a0 k0
  refine (f6 W 0 (by decide) a0 x0.1.2.1 x0.1.2.2 (g0 (MF.rs .der x0.1.2.1 x0.1.2.2 a0.topology.links) (List.mem_cons_self)) x0.2.1.1.1 x0.2.1.1.2 (g0 (MF.rs .der x0.2.1.1.1 x0.2.1.1.2 a0.trust.keys) (by simp [GoT.fa])) x0.2.1.2.1.1 x0.2.1.2.1.2 (g0 (MF.rs .der x0.2.1.2.1.1 x0.2.1.2.1.2 a0.trust.rules) (by simp [GoT.fa])) x0.2.1.2.2.1.1 x0.2.1.2.2.1.2 (g0 (MF.rs .der x0.2.1.2.2.1.1 x0.2.1.2.2.1.2 a0.trust.anchors) (by simp [GoT.fa])) x0.2.1.2.2.2.1 x0.2.1.2.2.2.2 (g0 (MF.rs .der x0.2.1.2.2.2.1 x0.2.1.2.2.2.2 a0.trust.certificates) (by simp [GoT.fa])) x0.2.2.1.1 x0.2.2.1.2 (g0 (MF.rs .der x0.2.2.1.1 x0.2.2.1.2 a0.producers) (by simp [GoT.fa])) x0.2.2.2.1.1 x0.2.2.2.1.2 (g0 (MF.rs .der x0.2.2.2.1.1 x0.2.2.2.1.2 a0.nodes) (by simp [GoT.fa])) x0.2.2.2.2.2.1.1 x0.2.2.2.2.2.1.2 (g0 (MF.rs .der x0.2.2.2.2.2.1.1 x0.2.2.2.2.2.1.2 a0.failedLinks) (by simp [GoT.fa])) x0.2.2.2.2.2.2.1.1 x0.2.2.2.2.2.2.1.2 (g0 (MF.rs .der x0.2.2.2.2.2.2.1.1 x0.2.2.2.2.2.2.1.2 a0.inFlight) (by simp [GoT.fa])) x0.2.2.2.2.2.2.2.1.1 x0.2.2.2.2.2.2.2.1.2 (g0 (MF.rs .der x0.2.2.2.2.2.2.2.1.1 x0.2.2.2.2.2.2.2.1.2 a0.consumers) (by simp [GoT.fa])) k0).2.mono fun e W1 ⟨v, he, hb, hv⟩ => ?_
  rw [ht] at hv
  obtain ⟨rfl, _⟩ := hv
  subst he
  exact ⟨_, rfl, law_post laid (by kernel_rfl) rfl rfl Tryz.underlying4 (fun ds h => by match ds, h with | [_], _ => rfl) hW' hb.below⟩
set_option maxRecDepth 100000 in
theorem c_inPlace : (Rows.fnExactValidNetworkRow.inPlace == Tryz.prog.inPlace 6) = true := by kernel_rfl
set_option maxRecDepth 100000 in
theorem c_unfollowed : (Rows.fnExactValidNetworkRow.unfollowed == Tryz.prog.unfollowed 6) = true := by kernel_rfl
set_option maxRecDepth 100000 in
theorem c_recurses : (Rows.fnExactValidNetworkRow.recurses == Tryz.prog.recurses 6) = true := by kernel_rfl
set_option maxRecDepth 100000 in
theorem c_named : (Rows.fnExactValidNetworkRow.named == Tryz.prog.varsNamed 6) = true := by kernel_rfl
set_option maxRecDepth 100000 in
theorem c_read : Tryz.f6.params.all (Tryz.pinned.checked.prog.readableRec ·) = true := by kernel_rfl
set_option maxRecDepth 100000 in
theorem c_maps : (Rows.fnExactValidNetworkRow.maps == (Tryz.f6.params.toList ++ Rows.fnExactValidNetworkSpec.plain.varTypes Tryz.pinned.checked.prog).any (Tryz.pinned.checked.prog.mapsRec ·)) = true := by kernel_rfl
set_option maxRecDepth 100000 in
theorem c_ifaces : (Rows.fnExactValidNetworkRow.ifaces == (Tryz.f6.params.toList ++ Rows.fnExactValidNetworkSpec.plain.varTypes Tryz.pinned.checked.prog).any (Tryz.pinned.checked.prog.ifacesRec ·)) = true := by kernel_rfl
set_option maxRecDepth 100000 in
theorem c_loops : (Rows.fnExactValidNetworkRow.loops == (Tryz.f6.params.toList ++ Rows.fnExactValidNetworkSpec.plain.varTypes Tryz.pinned.checked.prog).any (Tryz.pinned.checked.prog.loopsFrom ·)) = true := by kernel_rfl
set_option maxRecDepth 100000 in
theorem c_wide : (Rows.fnExactValidNetworkRow.wideKeys == (Tryz.f6.params.toList ++ Rows.fnExactValidNetworkSpec.plain.varTypes Tryz.pinned.checked.prog ++ Tryz.f6.resultTypes.toList).any (Tryz.pinned.checked.prog.wideKeysFrom ·)) = true := by kernel_rfl
set_option maxRecDepth 100000 in
theorem c_rread : Tryz.f6.resultTypes.all (fun t => Tryz.pinned.checked.prog.readableRec t && decide (t < Tryz.pinned.checked.prog.types.size)) = true := by kernel_rfl
set_option maxRecDepth 100000 in
theorem c_veiled : (Rows.fnExactValidNetworkRow.veiled == (Tryz.f6.params.toList ++ Rows.fnExactValidNetworkSpec.plain.varTypes Tryz.pinned.checked.prog ++ Tryz.f6.resultTypes.toList).any (Tryz.pinned.checked.prog.veiledRec ·)) = true := by kernel_rfl
set_option maxRecDepth 100000 in
theorem c_vfits : Rows.fnExactValidNetworkRow.veiledFits Tryz.pinned.checked.prog Tryz.f6.params.toList (Tryz.f6.params.toList ++ Rows.fnExactValidNetworkSpec.plain.varTypes Tryz.pinned.checked.prog ++ Tryz.f6.resultTypes.toList) = true := by kernel_rfl
set_option maxRecDepth 100000 in
theorem c_enter : Tryz.pinned.checked.prog.mayEnter = true := by kernel_rfl
set_option maxRecDepth 100000 in
theorem c_heard : Tryz.pinned.checked.prog.stopsHeard = true := by kernel_rfl
set_option maxRecDepth 100000 in
theorem c_lifted : (Rows.fnExactValidNetworkRow.lifted == Tryz.pinned.checked.prog.liftsFinal) = true := by kernel_rfl
set_option maxRecDepth 100000 in
theorem c_plainKeys : (Rows.fnExactValidNetworkRow.plainKeys == Tryz.pinned.checked.prog.plainKeys) = true := by kernel_rfl
set_option maxRecDepth 100000 in
theorem c_make : (Tryz.pinned.checked.prog.make == some Rows.fnExactValidNetworkRow.make) = true := by kernel_rfl
set_option maxRecDepth 100000 in
theorem closed : joinedFacts Tryz.pinned.checked.prog 6 Tryz.f6 Rows.fnExactValidNetworkSpec Rows.fnExactValidNetworkRow = true := by
  unfold joinedFacts
  rw [show laidOutB Tryz.pinned.checked.prog = true from laid, show mapsRowed Tryz.pinned.checked.prog = true from Facts.rowed, show (Rows.fnExactValidNetworkRow.inPlace == Tryz.pinned.checked.prog.inPlace 6) = true from c_inPlace, show (Rows.fnExactValidNetworkRow.unfollowed == Tryz.pinned.checked.prog.unfollowed 6) = true from c_unfollowed, show (Rows.fnExactValidNetworkRow.recurses == Tryz.pinned.checked.prog.recurses 6) = true from c_recurses, show (Rows.fnExactValidNetworkRow.named == Tryz.pinned.checked.prog.varsNamed 6) = true from c_named, c_read, c_maps, c_ifaces, c_loops, c_wide, c_rread, c_veiled, c_vfits, c_enter, c_heard, c_lifted, c_plainKeys, c_make]
  kernel_rfl
theorem over : Rows.fnExactValidNetworkRow.holds Tryz.pinned (OpenSpec.ofChange Rows.fnExactValidNetworkSpec) :=
  OpenClaim.holds_of_wide 6 Tryz.f6 rfl rfl rfl rfl rfl rfl rfl ⟨rfl, rfl, rfl, rfl, rfl⟩ rfl rfl rfl rfl rfl (by kernel_rfl) Tryz.func6 closed
    (of_decide_eq_true (by kernel_rfl)) (by unfold Func.isWrapper; first | (rw [if_pos (by decide +kernel)]; kernel_rfl) | (rw [if_neg (by decide +kernel)]; exact ⟨rfl, rfl⟩))
    (fun os started H enc _ => lifted os started H enc)
theorem proved : Rows.FnExactValidNetworkSaid := over
#print axioms proved
end LawValidNetwork
end Go.Proofs.YtdimfabadjfkiaaGreat

