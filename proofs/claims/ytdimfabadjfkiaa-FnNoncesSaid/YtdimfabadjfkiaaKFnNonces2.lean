/-
  FnNonces: the law returns true at all arguments; conditions: those of the statement, no others. Written by a program (pack.py, mklaw2.py).
-/
import Derived.Laws.Strings
import Derived.Laws.CopyRow
import Derived.Lib.Overlaps
import Derived.Laws.IdiomStrings
import Derived.Carry
import Derived.ChangeArms
import Derived.ProofKit
import Derived.OpenShut
import Derived.JoinedCond
import Derived.Test.YtdimfabadjfkiaaKFnNonces1
namespace Go.Stp
class Sz (α : Type) [GoT α] where
  n : α → Nat
  low : ∀ {a : α}, GoT.ok 10 a → n a ≤ 1048576 → GoT.ok 0 a
def sz {α : Type} [GoT α] [Sz α] (a : α) : Nat := Sz.n a
instance : Sz ByteArray := ⟨fun s => s.size, fun _ h => h⟩
instance : Sz UInt8 := ⟨fun _ => 0, fun _ _ => trivial⟩
instance : Sz Bool := ⟨fun _ => 0, fun _ _ => trivial⟩
instance : Sz Int := ⟨fun _ => 0, fun h _ => h⟩
def szL {α : Type} [GoT α] [Sz α] (l : List α) : Nat := (l.map sz).sum
theorem sz_le_sum {α : Type} [GoT α] [Sz α] : ∀ {l : List α} {a : α}, a ∈ l → sz a ≤ szL l
  | b :: l, a, h => by
    unfold szL
    simp only [List.map_cons, List.sum_cons]
    rcases List.mem_cons.1 h with rfl | h
    · omega
    · have := sz_le_sum h; unfold szL at this; omega
instance {α : Type} [GoT α] [Sz α] : Sz (List α) := ⟨fun l => l.length + szL l, fun h hs => ⟨by rw [bd_0]; omega, fun a ha => Sz.low (h.2 a ha) (by have := sz_le_sum ha; unfold sz at this; omega)⟩⟩
instance {α β : Type} [GoT α] [GoT β] [Sz α] [Sz β] : Sz (α × β) := ⟨fun a => sz a.1 + sz a.2, fun h hs => ⟨Sz.low h.1 (by unfold sz at hs; omega), Sz.low h.2 (by unfold sz at hs; omega)⟩⟩
@[reducible] def Sz.via {α β : Type} [GoT β] [Sz β] (e : α → β) : @Sz α (GoT.via e) := @Sz.mk α (GoT.via e) (fun a => sz (e a)) (fun {a} h hs => Sz.low (a := e a) h hs)
instance : Sz Name := Sz.via (fun e : Name => e.parts)
instance : Sz Pattern := Sz.via (fun e : Pattern => e.parts)
instance : Sz Binding := Sz.via (fun e : Binding => (e.letter, e.value))
instance : Sz TableEntry := Sz.via (fun e : TableEntry => (e.name, e.value))
instance : Sz Interest := Sz.via (fun e : Interest => (e.name, e.nonce, e.hopLimit, e.lifetime))
instance : Sz DataP := Sz.via (fun e : DataP => (e.name, e.content, e.keyName, e.freshUntil, e.signature))
instance : Sz Key := Sz.via (fun e : Key => (e.name, e.secret))
instance : Sz Rule := Sz.via (fun e : Rule => (e.dataPattern, e.keyPattern))
instance : Sz TrustPolicy := Sz.via (fun e : TrustPolicy => (e.keys, e.rules, e.anchors, e.certificates))
instance : Sz CacheEntry := Sz.via (fun e : CacheEntry => (e.data, e.lastUsed))
instance : Sz ContentStore := Sz.via (fun e : ContentStore => (e.capacity, e.entries))
instance : Sz Requester := Sz.via (fun e : Requester => (e.face, e.nonce, e.expiry))
instance : Sz PendingInterest := Sz.via (fun e : PendingInterest => (e.name, e.requesters, e.lastSent))
instance : Sz SeenNonce := Sz.via (fun e : SeenNonce => (e.name, e.nonce))
instance : Sz Route := Sz.via (fun e : Route => (e.pfx, e.face, e.cost))
instance : Sz Measurement := Sz.via (fun e : Measurement => (e.pfx, e.face, e.failures))
instance : Sz NodeP := Sz.via (fun e : NodeP => (e.locl, e.cache, e.pending, e.seen, e.routes, e.measurements, e.dropped))
instance : Sz Outgoing := Sz.via (fun e : Outgoing => (e.face, e.isInterest, e.interest, e.data))
instance : Sz Action := Sz.via (fun e : Action => (e.node, e.outgoing))
instance : Sz Link := Sz.via (fun e : Link => (e.a, e.b))
instance : Sz Topology := Sz.via (fun e : Topology => (e.size, e.links))
instance : Sz Advertisement := Sz.via (fun e : Advertisement => (e.origin, e.version, e.neighbors, e.prefixes))
instance : Sz Manifest := Sz.via (fun e : Manifest => (e.segmentSize, e.length, e.digests))
instance : Sz Segment := Sz.via (fun e : Segment => e.content)
instance : Sz Fetcher := Sz.via (fun e : Fetcher => (e.manifest, e.received, e.segments, e.outstanding, e.window, e.threshold, e.losses))
instance : Sz Grant := Sz.via (fun e : Grant => (e.name, e.secret))
instance : Sz Reader := Sz.via (fun e : Reader => (e.node, e.name, e.epoch))
instance : Sz StateVector := Sz.via (fun e : StateVector => e.entries)
instance : Sz Publication := Sz.via (fun e : Publication => (e.publisher, e.seq, e.content))
instance : Sz Member := Sz.via (fun e : Member => (e.name, e.vector, e.publications))
instance : Sz Record := Sz.via (fun e : Record => (e.kind, e.data))
instance : Sz Log := Sz.via (fun e : Log => (e.durable, e.volatile))
instance : Sz Repository := Sz.via (fun e : Repository => (e.log, e.quota))
instance : Sz Consumer := Sz.via (fun e : Consumer => (e.node, e.index, e.name, e.attempts, e.wait, e.satisfied, e.data))
instance : Sz PacketInFlight := Sz.via (fun e : PacketInFlight => (e.to, e.face, e.isInterest, e.interest, e.data))
instance : Sz Network := Sz.via (fun e : Network => (e.topology, e.trust, e.producers, e.nodes, e.downNodes, e.failedLinks, e.inFlight, e.consumers, e.now, e.dropped))
instance : Sz EventP := Sz.via (fun e : EventP => (e.kind, e.n, e.name, e.forged))
instance : Sz SyncGroup := Sz.via (fun e : SyncGroup => (e.topology, e.members))
instance : Sz AccessController := Sz.via (fun e : AccessController => (e.keys, e.master, e.epoch, e.readers))
end Go.Stp

namespace Go.Stp
set_option linter.unusedVariables false
set_option linter.unusedSimpArgs false
def impl_NonceOf (node : Int) (i : Int) (try_ : Int) : Int :=
  (IntKind.i64.wrap ((IntKind.i64.wrap ((IntKind.i64.wrap (100000 * node)) + (IntKind.i64.wrap (1000 * i)))) + try_))
end Go.Stp

namespace Go.Stp
open GoT (X k ok sh fa oa)
section
variable {α : Type} [GoT α]
theorem RdL.take {G : GH} : ∀ {xs : List Value} {l : List α} (i : Nat), RdL G xs l → RdL G (xs.take (i * k α)) (l.take i)
  | xs, [], i, h => by
    have : xs = [] := h
    subst this
    simp only [List.take_nil]; rfl
  | xs, a :: l, 0, _ => by simp only [Nat.zero_mul, List.take_zero]; rfl
  | xs, a :: l, i + 1, ⟨x, ys, h1, h2, h3⟩ => by
    refine ⟨x, ys.take (i * k α), ?_, h2, h3.take i⟩
    rw [h1, Nat.add_mul, Nat.one_mul, List.take_append, GoT.len, List.take_of_length_le (by rw [GoT.len]; omega), Nat.add_sub_cancel]
theorem RdL.drop {G : GH} : ∀ {xs : List Value} {l : List α} (i : Nat), RdL G xs l → RdL G (xs.drop (i * k α)) (l.drop i)
  | xs, [], i, h => by
    have : xs = [] := h
    subst this
    simp only [List.drop_nil]; rfl
  | xs, a :: l, 0, h => by simp only [Nat.zero_mul, List.drop_zero]; exact h
  | xs, a :: l, i + 1, ⟨x, ys, h1, h2, h3⟩ => by
    have := h3.drop i
    rw [h1, Nat.add_mul, Nat.one_mul, List.drop_append, GoT.len, List.drop_eq_nil_of_le (by rw [GoT.len]; omega), Nat.add_sub_cancel]
    exact this
theorem RdSl.pre {G : GH} {p : Option Addr} {c : Nat} {l : List α} (h : RdSl G p c l) (i : Nat) : RdSl G p c (l.take i) := by
  obtain ⟨h1, h2, xs, h3, h4⟩ := h
  refine ⟨by rw [List.length_take]; omega, by rw [List.length_take]; omega, xs.take (i * k α), fun j u hj => h3 j u ?_, h4.take i⟩
  rw [List.getElem?_take] at hj
  split at hj
  · exact hj
  · cases hj
end
end Go.Stp

namespace Go.Stp
open GoT (X k ok sh fa oa)
section
variable {α : Type}
def keepC (kk : Nat) (f : α → Bool) : List α → List Value → List Value
  | [], _ => []
  | a :: l, xs => bif f a then keepC kk f l (xs.drop kk) else xs.take kk ++ keepC kk f l (xs.drop kk)
theorem keepC_snoc (kk : Nat) (f : α → Bool) : ∀ (l : List α) (a : α) (xs : List Value), keepC kk f (l ++ [a]) xs = keepC kk f l xs ++ (bif f a then [] else (xs.drop (l.length * kk)).take kk)
  | [], a, xs => by cases hf : f a <;> simp [keepC, hf]
  | b :: l, a, xs => by
    have e : (b :: l).length * kk = kk + l.length * kk := by rw [List.length_cons, Nat.add_mul]; omega
    simp only [List.cons_append, keepC, keepC_snoc kk f l a, e, ← List.drop_drop]
    cases f b <;> simp
end
section
variable {α : Type} [GoT α]
theorem OwL.keep (f : α → Bool) : ∀ {h : GH} {xs : List Value} {l : List α}, OwL h xs l → OwL h (keepC (k α) f l xs) (l.filter fun a => !f a)
  | h, xs, [], _ => rfl
  | h, xs, a :: l, ⟨x, ys, q1, q2, e, r1, r2, r3, r4, r5⟩ => by
    have h1 : xs.take (k α) = sh a x := by rw [e, ← GoT.len a x, List.take_left]
    have h2 : xs.drop (k α) = ys := by rw [e, ← GoT.len a x, List.drop_left]
    simp only [keepC, h1, h2]
    cases hf : f a
    · rw [List.filter_cons_of_pos (by simp [hf])]
      exact ⟨x, _, q1, q2, rfl, r1, r2, r3, r4, OwL.keep f r5⟩
    · rw [List.filter_cons_of_neg (by simp [hf])]
      exact (OwL.keep f r5).mono r2
structure DelInv (f : α → Bool) (l : List α) (xs0 : List Value) (i j : Nat) (xs : List Value) : Prop where
  ij : i < j
  jn : j ≤ l.length
  len : xs.length = l.length * k α
  pre : xs.take (i * k α) = keepC (k α) f (l.take j) xs0
  cnt : i = ((l.take j).filter fun a => !f a).length
  rest : ∀ m, j * k α ≤ m → xs[m]? = xs0[m]?
theorem DelInv.skip {f : α → Bool} {l : List α} {xs0 xs : List Value} {i j : Nat} {a : α} (h : DelInv f l xs0 i j xs) (hj : l[j]? = some a) (ha : f a = true) : DelInv f l xs0 i (j + 1) xs := by
  have hlt := (List.getElem?_eq_some_iff.1 hj).1
  have htk : l.take (j + 1) = l.take j ++ [a] := by rw [List.take_add_one, hj]; rfl
  refine ⟨by have := h.ij; omega, by omega, h.len, ?_, ?_, fun m hm => h.rest m (by rw [Nat.add_mul] at hm; omega)⟩
  · rw [htk, keepC_snoc, ha, cond_true, List.append_nil]; exact h.pre
  · rw [htk, List.filter_append]; simp only [List.filter_cons, ha, Bool.not_true, Bool.false_eq_true, if_false, List.filter_nil, List.append_nil]; exact h.cnt
theorem DelInv.keep {f : α → Bool} {l : List α} {xs0 xs vs : List Value} {i j : Nat} {a : α} (h0 : xs0.length = l.length * k α) (h : DelInv f l xs0 i j xs) (hj : l[j]? = some a) (ha : f a = false) (hv : vs.length = k α) (hx : ∀ q u, vs[q]? = some u → xs0[j * k α + q]? = some u) :
    DelInv f l xs0 (i + 1) (j + 1) (xs.take (i * k α + 0) ++ vs ++ xs.drop (i * k α + 0 + vs.length)) := by
  have hlt := (List.getElem?_eq_some_iff.1 hj).1
  have htk : l.take (j + 1) = l.take j ++ [a] := by rw [List.take_add_one, hj]; rfl
  have htj : (l.take j).length = j := by simp; omega
  have hij := h.ij
  have hik : (i + 1) * k α ≤ j * k α := Nat.mul_le_mul_right _ hij
  have hjk : (j + 1) * k α ≤ l.length * k α := Nat.mul_le_mul_right _ hlt
  have hlen := h.len
  rw [Nat.add_mul, Nat.one_mul] at hik hjk
  have hvs : vs = (xs0.drop (j * k α)).take (k α) := by
    apply List.ext_getElem?
    intro q
    by_cases hq : q < k α
    · rw [List.getElem?_take, if_pos hq, List.getElem?_drop]
      have : vs[q]? = some (vs[q]'(by omega)) := List.getElem?_eq_getElem (by omega)
      rw [this]; exact (hx q _ this).symm
    · rw [List.getElem?_eq_none (by omega), List.getElem?_eq_none (by simp; omega)]
  have hlt1 : (xs.take (i * k α) ++ vs).length = (i + 1) * k α := by rw [Nat.add_mul, Nat.one_mul, List.length_append, List.length_take, hv]; omega
  refine ⟨by omega, by omega, ?_, ?_, ?_, fun m hm => ?_⟩
  · simp only [List.length_append, List.length_take, List.length_drop]; omega
  · rw [Nat.add_zero (i * k α), ← hlt1, List.take_left, htk, keepC_snoc, ha, cond_false, h.pre, htj, hvs]
  · rw [htk, List.filter_append]; simp only [List.filter_cons, ha, Bool.not_false, if_true, List.filter_nil, List.length_append, List.length_cons, List.length_nil]; rw [← h.cnt]
  · rw [Nat.add_mul, Nat.one_mul] at hm
    rw [Nat.add_zero (i * k α), List.getElem?_append_right (by rw [hlt1, Nat.add_mul, Nat.one_mul]; omega), List.getElem?_drop, hlt1, hv, Nat.add_mul, Nat.one_mul, show i * k α + k α + (m - (i * k α + k α)) = m by omega]
    exact h.rest m (by omega)
end
theorem Kp.lent {H : GH} {w w1 w2 : World} (h : Kp H w w1) (k : Kp emp w1 w2) : Kp H w w2 := h.trans (k.wide fun _ _ _ => rfl)
end Go.Stp

namespace Go.Stp
open GoT (X k ok sh fa oa)
def LooksP (C : Cx) (env : Env) (o : Oper) (sv : SV) : Prop := ∀ a w bs, At C.fn.ntmps env bs a → (execOp a.eval o).run C.P w = .ok (.value (conc bs sv)) w
theorem DX.seeP {C : Cx} {ops : Array Oper} {tl : List Nat} {s : List It} {bs : Nat → Nat} {G0 : GH} {fuel : Nat} {listed : Array Bool} {env : Env} {L : Locs} {R : Rows} {Γ : Facts} {d : Nat} {o : Oper} {sv : SV} (i : Nat) (hb : mayP ops listed i = true) (hi : getO ops.toList i = some o)
    (hg : gd ops env o = some true) (hd : o.dst = some d) (hlt : Nat.blt d C.fn.ntmps = true) (hl : LooksP C env o sv)
    (k : DX C ops tl s bs G0 fuel (listed.setIfInBounds i true) ((d, sv) :: env) L R Γ) : DX C ops tl s bs G0 (fuel + 1) listed env L R Γ := by
  rw [getO_eq] at hi
  exact DX.takeP hb (by simpa using hi) hd (by simpa [Nat.blt_eq] using hlt) hg (fun _ => hl) (fun h => by cases h) k
theorem looksP_wrap {C : Cx} {env : Env} {o : Oper} {b : BinOp} {x y : Operand} {T T' : Nat} {m n q : Int} (ho : o.op = .binOp b T x y T')
    (hx : ev env x = some (.v (.int .i64 m))) (hy : ev env y = some (.v (.int .i64 n))) (hq : arithO b m n = some q) : LooksP C env o (.v (.int .i64 (IntKind.i64.wrap q))) := by
  intro a w bs hA
  unfold execOp
  simp only [ho, ev_conc hA hx, ev_conc hA hy, conc]
  cases b <;> simp [arithO] at hq <;> subst hq <;> simp [eqGuard, binOp, Op.intArith]
section
variable {α : Type} [GoT α]
end
end Go.Stp

namespace Go.Stp
open GoT (X k ok sh fa oa)
def Gr {α : Type} (P : Program) (m : Sem α) : Prop := ∀ w v w', m.run P w = .ok v w' → Kp emp w w'
theorem Gr.bind {α β : Type} {P : Program} {m : Sem α} {f : α → Sem β} (hm : Gr P m) (hf : ∀ v, Gr P (f v)) : Gr P (m >>= f) := fun w v w' h => by
  rw [Sem.run_bind] at h
  cases hr : m.run P w with
  | ok x w1 => rw [hr] at h; exact (hm w x w1 hr).trans (hf x w1 v w' h)
  | _ => rw [hr] at h; cases h
theorem gr_pure {α : Type} {P : Program} (x : α) : Gr P (pure x : Sem α) := fun w v w' h => by
  rw [Sem.run_pure] at h; cases h; exact Kp.refl _ _
theorem gr_halt {α : Type} {P : Program} (x : Halt) : Gr P (.halt x : Sem α) := fun w v w' h => by cases h
theorem gr_program {P : Program} : Gr P program := fun w v w' h => by cases h; exact Kp.refl _ _
theorem gr_underlying {P : Program} (t : TypeId) : Gr P (underlying t) := Gr.bind gr_program fun _ => by
  split
  · exact gr_pure _
  · exact gr_halt _
theorem gr_typeInfo {P : Program} (t : TypeId) : Gr P (typeInfo t) := Gr.bind gr_program fun _ => by
  split
  · exact gr_pure _
  · exact gr_halt _
theorem gr_sizeOf {P : Program} (t : TypeId) : Gr P (Go.sizeOf t) := Gr.bind (gr_typeInfo t) fun _ => gr_pure _
theorem gr_zeroValue {P : Program} (t : TypeId) : Gr P (zeroValue t) := Gr.bind (gr_typeInfo t) fun _ => by
  split
  · exact gr_pure _
  · exact gr_halt _
theorem gr_newRow {P : Program} (e : TypeId) (cs : Array Value) : Gr P (newRow e cs) := Gr.bind (fun w v w' h => by
  have h' : Result.ok w.heap.size (w.alloc (Obj.cells cs e)) = .ok v w' := h
  cases h'
  exact (Kp.refl emp w).alloc _) fun _ => gr_pure _
theorem gr_buildSlice {P : Program} (t : TypeId) (n : Nat) (ps : Array (Nat × Value)) : Gr P (Instr.buildSlice t n ps) := by
  unfold Instr.buildSlice
  refine Gr.bind (gr_underlying _) fun d => ?_
  split
  · rename_i el
    refine Gr.bind (gr_sizeOf _) fun size => ?_
    have key : ∀ z : Array Value, Gr P (match Instr.fill (fun i => some (i * size, size)) ((Array.range (n * size)).map (z[· % z.size]!)) ps.toList with
        | some cells => do pure (Value.slice (some (← newRow el cells)) n n)
        | _ => stuck "buildSlice: a part of the wrong size") := fun z => by
      split
      · exact Gr.bind (gr_newRow _ _) fun _ => gr_pure _
      · exact gr_halt _
    have rest : Gr P (do
        let zero ← if n * size = 0 then pure #[] else do pure (← zeroValue el).cells
        match Instr.fill (fun i => some (i * size, size)) ((Array.range (n * size)).map (zero[· % zero.size]!)) ps.toList with
        | some cells => do pure (Value.slice (some (← newRow el cells)) n n)
        | _ => stuck "buildSlice: a part of the wrong size") := by
      by_cases h2 : n * size = 0
      · rw [if_pos h2]; exact Gr.bind (gr_pure _) fun z => key z
      · rw [if_neg h2]; first | exact Gr.bind (gr_zeroValue el) fun v => key v.cells | exact Gr.bind (m := (do pure (← zeroValue el).cells)) (Gr.bind (gr_zeroValue el) fun _ => gr_pure _) fun z => key z | exact Gr.bind (gr_zeroValue el) fun v => Gr.bind (gr_pure _) fun z => key z
    by_cases h2 : n * size = 0
    · simp only [if_pos h2] at rest ⊢
      by_cases h1 : n * size > 2 ^ 24
      · rw [if_pos h1]; exact Gr.bind (gr_halt _) fun _ => rest
      · rw [if_neg h1]; exact rest
    · simp only [if_neg h2] at rest ⊢
      by_cases h1 : n * size > 2 ^ 24
      · rw [if_pos h1]; exact Gr.bind (gr_halt _) fun _ => rest
      · rw [if_neg h1]; exact rest
  · exact gr_halt _
def presO : Op → Bool
  | .alloc _ => true
  | .box _ _ => true
  | .buildSlice _ _ _ => true
  | _ => false
theorem gr_pres {P : Program} {ev : Operand → Value} {o : Oper} (h : presO o.op = true) : Gr P (execOp ev o) := by
  unfold execOp
  cases ho : o.op <;> rw [ho] at h <;> simp only [presO, Bool.false_eq_true] at h
  · exact Gr.bind (Gr.bind (gr_zeroValue _) fun _ => Gr.bind (gr_newRow _ _) fun _ => gr_pure _) fun _ => gr_pure _
  · exact Gr.bind (Gr.bind (gr_newRow _ _) fun _ => gr_pure _) fun _ => gr_pure _
  · exact Gr.bind (gr_buildSlice _ _ _) fun _ => gr_pure _
theorem presO_enter {P : Program} {ev : Operand → Value} {o : Oper} (h : presO o.op = true) {w w' : World} {x : Next} (hr : (execOp ev o).run P w = .ok x w') : ∃ v, x = .value v := by
  unfold execOp at hr
  cases ho : o.op <;> rw [ho] at h <;> simp only [presO, Bool.false_eq_true] at h <;> rw [ho] at hr <;> simp only [Sem.run_bind] at hr
  all_goals (
    revert hr
    generalize (Sem.run P _ w) = q
    intro hr
    cases q with
    | ok y w1 => simp only [Result.andThen_ok, Sem.run_pure] at hr; cases hr; exact ⟨_, rfl⟩
    | _ => cases hr)
theorem wpOp_pres {P : Program} {ops : Array Oper} {Q : Exit → Act → World → Prop} {k : Nat} {o : Oper} (ho : ops[k]? = some o) (hp : presO o.op = true) {K : Act → World → Prop} {a : Act} {w : World} (h : wpOp P ops Q k K a w) : wpOp P ops Q k (fun a' w' => Kp emp w w' ∧ K a' w') a w := by
  unfold wpOp at h ⊢
  simp only [ho] at h ⊢
  split at h
  · rename_i hw
    rw [if_pos hw]
    refine h.imp (fun h => ?_) id
    unfold Oper.wp at h ⊢
    generalize hr : (execOp a.eval o).run P w = r at h ⊢
    cases r with
    | ok x w' =>
      obtain ⟨v, rfl⟩ := presO_enter hp hr
      exact ⟨gr_pres hp _ _ _ hr, h⟩
    | halt x w' => cases x <;> exact h
  · rename_i hw
    rw [if_neg hw]
    exact ⟨Kp.refl _ _, h⟩
def presB (ops : Array Oper) (k : Nat) : Bool := match getO ops.toList k with | some o => presO o.op | none => false
def seqL2 (ops : Array Oper) (tl : List Nat) : List Nat → Array Bool → Bool
  | [], listed => (Region.ready .any ops listed).isEmpty
  | k :: r, listed => decide (Region.ready .any ops listed = [k]) && (tl.contains k || presB ops k) && seqL2 ops tl r (listed.setIfInBounds k true)
theorem wpAnyT_of_seq2 {P : Program} {ops : Array Oper} {Q : Exit → Act → World → Prop} {S : World → Prop} {tl : List Nat} (hS : ∀ w w', Kp emp w w' → S w → S w') : ∀ (is : List Nat) (l : List Oper) (listed : Array Bool) (a : Act) (w : World), pickO ops.toList is = some l → seqL2 ops tl is listed = true → wpList P ops Q l a w → wpAnyT P ops Q S tl is.length listed a w
  | [], l, _, _, _, hl, hB, h => by simp [pickO] at hl; subst hl; exact ⟨by simpa [seqL2] using hB, h⟩
  | k :: is, l, listed, a, w, hl, hB, h => by
    simp only [pickO] at hl
    split at hl
    · rename_i o ho
      split at hl
      · rename_i q hq
        simp at hl; subst hl
        have ho2 := ho
        rw [getO_eq] at ho
        have h0 : ops[k]? = some o := by simpa using ho
        simp only [seqL2, Bool.and_eq_true, decide_eq_true_eq, Bool.or_eq_true] at hB
        refine ⟨fun h1 => (by rw [hB.1.1] at h1; cases h1), fun i hi => ?_⟩
        rw [hB.1.1] at hi
        have hik : i = k := by simpa using hi
        subst hik
        have hw : wpOp P ops Q i (wpList P ops Q q) a w := by unfold wpOp; simp only [h0]; exact h
        rcases hB.1.2 with ht | hp
        · exact wpOp_mono (fun a' w' h' => ⟨fun h => (by rw [ht] at h; cases h), wpAnyT_of_seq2 hS is q _ a' w' hq hB.2 h'⟩) hw
        · have hp' : presO o.op = true := by unfold presB at hp; rw [ho2] at hp; exact hp
          exact wpOp_mono (fun a' w' h' => ⟨fun _ => hS _ _ h'.1, wpAnyT_of_seq2 hS is q _ a' w' hq hB.2 h'.2⟩) (wpOp_pres h0 hp' hw)
      · cases hl
    · cases hl
theorem SB.keep {C : Cx} {bs : Nat → Nat} {G0 : GH} {L : Locs} {R : Rows} {w w' : World} (hb : Kp emp w w') (h : SB C bs G0 L R w) : SB C bs G0 L R w' := by
  obtain ⟨G, hle, hI⟩ := h
  exact ⟨_, hle.trans (le_join_l (cut G emp) emp), (hI.called (emp_le _) (fun _ _ h => by cases h) hb (emp_le _) (fun _ _ h => by cases h)).1⟩
theorem DX.tail2 {C : Cx} {ops : Array Oper} {tl : List Nat} {s : List It} {bs : Nat → Nat} {G0 : GH} {fuel : Nat} {listed : Array Bool} {env : Env} {L : Locs} {R : Rows} {Γ : Facts} {rest : List Oper} (is : List Nat) (hr : pickO ops.toList is = some rest) (hf : fuel = is.length) (hs : seqL2 ops tl is listed = true)
    (k : WX C (.ops ops rest :: s) env L R Γ) : DX C ops tl s bs G0 fuel listed env L R Γ := by
  intro _ a w G _ hS
  subst hf
  exact wpAnyT_of_seq2 (fun _ _ hb h => h.keep hb) is rest listed a w hr hs (k a w ⟨G, bs, hS⟩)
def DXS (C : Cx) (ops : Array Oper) (tl : List Nat) (s : List It) (S : World → Prop) (bs : Nat → Nat) (G0 : GH) (fuel : Nat) (listed : Array Bool) (env : Env) (L : Locs) (R : Rows) (Γ : Facts) : Prop :=
  Closed ops listed → ∀ a w G, Le G0 G → SatB C env L R Γ G bs a w → wpAnyT C.P ops (cont C s) S tl fuel listed a w
structure DXA (C : Cx) (ops : Array Oper) (tl : List Nat) (s : List It) (bs : Nat → Nat) (G0 : GH) (fuel : Nat) (listed : Array Bool) (env : Env) (L : Locs) (R : Rows) (Γ : Facts) (j d : Nat) (l : Loc) : Prop where
  no : DXS C ops tl s (SB C bs G0 L R) bs G0 (fuel + 1) listed env L R Γ
  yes : ∀ b, DXS C ops tl s (SB C bs G0 L R) (fun i => if i = d then b else bs i) G0 fuel (listed.setIfInBounds j true) ((d, .p d 0) :: env) ((d, l) :: L) R Γ
theorem HInv.unalloc {C : Cx} {w : World} {G : GH} {bs : Nat → Nat} {L : Locs} {R : Rows} {d b : Nat} {l : Loc} (hI : HInv C w G (fun i => if i = d then b else bs i) ((d, l) :: L) R) (hL : keyHas d L = false) (hR : keyHas d R = false) (h999 : d ≠ 999) : HInv C w G bs L R := by
  have hnL : ∀ {i : Nat} {x : Loc}, look L i = some x → i ≠ d := fun h => keyHas_not hL h
  have hnR : ∀ {i : Nat} {x : Row}, look R i = some x → i ≠ d := fun h => keyHas_not hR h
  have hup : ∀ {i : Nat} {x : Loc}, look L i = some x → look ((d, l) :: L) i = some x := fun h => by rw [look_cons, if_neg (Ne.symm (hnL h))]; exact h
  have hact : ∀ {i : Nat}, Acts L R i → Acts ((d, l) :: L) R i ∧ i ≠ d := fun h => by
    rcases h with ⟨x, hx⟩ | ⟨r, hr, hc⟩
    · exact ⟨.inl ⟨x, hup hx⟩, hnL hx⟩
    · exact ⟨.inr ⟨r, hr, hc⟩, hnR hr⟩
  refine ⟨hI.keep, hI.le, fun i x hx => ?_, fun i r hr => ?_, fun i j hij hi hj => ?_, fun i x r hx hr => hI.dis i x r (hup hx) hr, fun b' hb' => ?_, hI.nr⟩
  · have := hI.loc i x (hup hx)
    simpa only [if_neg (hnL hx)] using this
  · have := hI.row i r hr
    simpa only [if_neg (hnR hr)] using this
  · obtain ⟨h1, h2⟩ := hact hi
    obtain ⟨h3, h4⟩ := hact hj
    have := hI.inj i j hij h1 h3
    simpa only [if_neg h2, if_neg h4] using this
  · have := hI.pin b' hb'
    simpa only [if_neg (Ne.symm h999)] using this
theorem At.less {n d : Nat} {s : SV} {env : Env} {bs : Nat → Nat} {a : Act} (h : At n ((d, s) :: env) bs a) (hd : look env d = none) : At n env bs a := by
  refine ⟨h.size, h.dfr, fun e x hx => h.slot e x ?_⟩
  rw [look_cons]
  split
  · rename_i he; subst he; rw [hd] at hx; cases hx
  · exact hx
theorem At.swap {n d e : Nat} {s t : SV} {env : Env} {bs : Nat → Nat} {a : Act} (h : At n ((e, t) :: (d, s) :: env) bs a) (hde : Nat.beq e d = false) : At n ((d, s) :: (e, t) :: env) bs a := by
  have hne : e ≠ d := fun h => by subst h; simp at hde
  refine ⟨h.size, h.dfr, fun i x hx => h.slot i x ?_⟩
  rw [look_cons] at hx ⊢
  split
  · rename_i he; subst he
    rw [if_neg (Ne.symm hne), look_cons, if_pos rfl] at hx; exact hx
  · rename_i he
    rw [look_cons]
    split
    · rename_i hd; subst hd; rw [if_pos rfl] at hx; exact hx
    · rename_i hd; rw [if_neg hd, look_cons, if_neg he] at hx; exact hx
theorem pend_step {C : Cx} {ops : Array Oper} {tl : List Nat} {s : List It} {bs : Nat → Nat} {G0 G : GH} {fuel : Nat} {listed : Array Bool} {env : Env} {L : Locs} {R : Rows} {Γ : Facts} {j d : Nat} {l : Loc} {oj : Oper} {a : Act} {w : World} (ht : TabOk C.P C.tt) (hj : ops[j]? = some oj) (hd : oj.dst = some d) (hlt : d < C.fn.ntmps) (hg : gd ops env oj = some true) (hl : ladd C.tt env oj.op = some l) (hnl : labHas d env L R = false)
    (hle : Le G0 G) (hS : SatB C env L R Γ G bs a w) (hc : Closed ops (listed.setIfInBounds j true))
    (k : ∀ b, DXS C ops tl s (SB C bs G0 L R) (fun i => if i = d then b else bs i) G0 fuel (listed.setIfInBounds j true) ((d, .p d 0) :: env) ((d, l) :: L) R Γ) :
    wpOp C.P ops (cont C s) j (fun a' w' => (tl.contains j = false → SB C bs G0 L R w → SB C bs G0 L R w') ∧ wpAnyT C.P ops (cont C s) (SB C bs G0 L R) tl fuel (listed.setIfInBounds j true) a' w') a w := by
  obtain ⟨hA, hI, hΓ⟩ := hS
  unfold wpOp
  simp only [hj]
  rw [if_pos (gd_sound hA hg)]
  refine .inl ?_
  unfold Oper.wp
  rw [ladd_sound ht hA hl]
  simp only [Oper.upon, hd]
  have hI' := hI.alloc d (labHas_not hnl).2.2.2 (labHas_not hnl).2.1 (labHas_not hnl).2.2.1 l
  have hA' := (hA.notH (d := d) (bs' := fun j => if j = d then w.heap.size else bs j) (labHas_not hnl).1 (fun i hi => if_neg hi)).put hlt (.p d 0)
  simp only [conc, if_true] at hA'
  exact ⟨fun _ _ => ⟨G, hle, hI'.unalloc (labHas_not hnl).2.1 (labHas_not hnl).2.2.1 (labHas_not hnl).2.2.2⟩, k _ hc _ _ G hle ⟨hA', hI', hΓ⟩⟩
theorem DXA.tail {C : Cx} {ops : Array Oper} {tl : List Nat} {s : List It} {bs : Nat → Nat} {G0 : GH} {fuel : Nat} {listed : Array Bool} {env : Env} {L : Locs} {R : Rows} {Γ : Facts} {j d : Nat} {l : Loc} {oj : Oper} {rest : List Oper} (is : List Nat) (ht : TabOk C.P C.tt) (hj : getO ops.toList j = some oj) (hd : oj.dst = some d) (hlt : Nat.blt d C.fn.ntmps = true) (hg : gd ops env oj = some true) (hl : ladd C.tt env oj.op = some l) (hnl : labHas d env L R = false)
    (hr : Region.ready .any ops listed = [j]) (hp : pickO ops.toList is = some rest) (hf : fuel = is.length) (hs : seqL2 ops tl is (listed.setIfInBounds j true) = true) (k : WX C (.ops ops rest :: s) ((d, .p d 0) :: env) ((d, l) :: L) R Γ) : DXA C ops tl s bs G0 fuel listed env L R Γ j d l := by
  rw [getO_eq] at hj
  have hj' : ops[j]? = some oj := by simpa using hj
  have yes : ∀ b, DXS C ops tl s (SB C bs G0 L R) (fun i => if i = d then b else bs i) G0 fuel (listed.setIfInBounds j true) ((d, .p d 0) :: env) ((d, l) :: L) R Γ := fun b _ a w G _ hS => by
    subst hf
    exact wpAnyT_of_seq2 (fun _ _ hb h => h.keep hb) is rest _ a w hp hs (k a w ⟨G, _, hS⟩)
  refine ⟨fun hc a w G hle hS => ⟨fun h => (by rw [hr] at h; cases h), fun i hi => ?_⟩, yes⟩
  have hc' := hc.set hi
  rw [hr] at hi
  obtain rfl : i = j := by simpa using hi
  exact pend_step ht hj' hd (by simpa [Nat.blt_eq] using hlt) hg hl hnl hle hS hc' yes
theorem DXA.take {C : Cx} {ops : Array Oper} {tl : List Nat} {s : List It} {bs : Nat → Nat} {G0 : GH} {fuel : Nat} {listed : Array Bool} {env : Env} {L : Locs} {R : Rows} {Γ : Facts} {j d e : Nat} {l : Loc} {o : Oper} {sv : SV} (i : Nat) (hb : mayP ops listed i = true) (hb2 : mayP ops (listed.setIfInBounds j true) i = true) (hij : Nat.beq i j = false) (hi : getO ops.toList i = some o)
    (hg : gd ops env o = some true) (hg2 : gd ops ((d, .p d 0) :: env) o = some true) (he : o.dst = some e) (hlt : Nat.blt e C.fn.ntmps = true) (hed : Nat.beq e d = false) (hnd : look env d = none) (hl : LooksP C env o sv)
    (k : DXA C ops tl s bs G0 fuel (listed.setIfInBounds i true) ((e, sv) :: env) L R Γ j d l) : DXA C ops tl s bs G0 (fuel + 1) listed env L R Γ j d l := by
  rw [getO_eq] at hi
  have hi' : ops[i]? = some o := by simpa using hi
  have hne : i ≠ j := fun h => by subst h; simp at hij
  have hlt' : e < C.fn.ntmps := by simpa [Nat.blt_eq] using hlt
  have first : ∀ {bs' : Nat → Nat} {env' : Env} {L' : Locs} {f : Nat} {li : Array Bool}, mayP ops li i = true → gd ops env' o = some true → (∀ a w bs'', At C.fn.ntmps env' bs'' a → (execOp a.eval o).run C.P w = .ok (.value (conc bs'' sv)) w) →
      DXS C ops tl s (SB C bs G0 L R) bs' G0 f (li.setIfInBounds i true) ((e, sv) :: env') L' R Γ → DXS C ops tl s (SB C bs G0 L R) bs' G0 (f + 1) li env' L' R Γ := by
    intro bs' env' L' f li hm hgd hlk kk hcl a w G hle hS
    obtain ⟨hA, hI, hΓ⟩ := hS
    simp only [mayP, Bool.and_eq_true] at hm
    obtain ⟨⟨h1, h4⟩, h5⟩ := hm
    have hr : i ∈ Region.ready .any ops li := by simpa using h5
    refine wpAnyT_firstP hi' (Region.noSelect_spec h1) (fun c a w h => (cont_panic C s c _ _ h).elim) f li a w (Region.free_spec hi' h4) hr (v := conc bs' sv) (.inl ⟨gd_sound hA hgd, fun w' _ => hlk a w' bs' hA⟩) ?_
    rw [he]
    exact kk (hcl.set hr) _ _ G hle ⟨hA.put hlt' sv, hI, hΓ⟩
  refine ⟨first hb hg hl k.no, fun b => first hb2 hg2 (fun a w bs'' hA => hl a w bs'' (hA.less hnd)) ?_⟩
  intro hcl a w G hle ⟨hA, hI, hΓ⟩
  have := k.yes b
  rw [Array.setIfInBounds_comm _ _ (Ne.symm hne)] at hcl ⊢
  exact this hcl a w G hle ⟨hA.swap hed, hI, hΓ⟩
theorem DXA.der {C : Cx} {ops : Array Oper} {tl : List Nat} {s : List It} {bs : Nat → Nat} {G0 : GH} {fuel : Nat} {listed : Array Bool} {env : Env} {L : Locs} {R : Rows} {Γ : Facts} {j d : Nat} {l : Loc} (m : Nat) (f : MF) (hk : f.k = .der) (h : ∀ G, AllK C.M G Γ → f.p G)
    (k : DXA C ops tl s bs G0 fuel listed env L R ((m, f) :: Γ) j d l) : DXA C ops tl s bs G0 fuel listed env L R Γ j d l :=
  ⟨fun hcl a w G hle ⟨hA, hI, hΓ⟩ => k.no hcl a w G hle ⟨hA, hI, hΓ.der m f hk (h G hΓ)⟩, fun b hcl a w G hle ⟨hA, hI, hΓ⟩ => k.yes b hcl a w G hle ⟨hA, hI, hΓ.der m f hk (h G hΓ)⟩⟩
theorem DXA.callG {C : Cx} {ops : Array Oper} {tl : List Nat} {st : List It} {bs : Nat → Nat} {G0 : GH} {fuel : Nat} {listed : Array Bool} {env : Env} {L : Locs} {R : Rows} {Γ : Facts} {j d e : Nat} {l : Loc} {o oj : Oper} (i : Nat) {f : Operand} {args : List Operand} {ats : Array TypeId} {g : FuncId} {sf : SV} {svs : List SV} {caps : (Nat → Nat) → List Value}
    {ι : Type} {Q : Prop} {val : ι → Value} {Γ' : ι → Facts} {Ψ : World → Value → World → Prop} (ht : TabOk C.P C.tt) (hj : getO ops.toList j = some oj) (hd : oj.dst = some d) (hlt : Nat.blt d C.fn.ntmps = true) (hg : gd ops env oj = some true) (hl : ladd C.tt env oj.op = some l) (hnl : labHas d env L R = false) (hnd : look env d = none)
    (hr : (Region.ready .any ops listed).all (fun x => Nat.beq x i || Nat.beq x j) = true) (hr1 : (Region.ready .any ops listed).contains i = true) (hr2 : Region.ready .any ops (listed.setIfInBounds j true) = [i]) (hij : Nat.beq i j = false)
    (hi : getO ops.toList i = some o) (hgi : gd ops env o = some true) (hgi2 : gd ops ((d, .p d 0) :: env) o = some true) (he : o.dst = some e) (hlte : Nat.blt e C.fn.ntmps = true) (hed : Nat.beq e d = false) (ho : o.op = .call { callee := .value f, args := args.toArray, argTypes := ats })
    (hf : ev env f = some sf) (hf2 : ev ((d, .p d 0) :: env) f = some sf) (hsf : ∀ bs, conc bs sf = .func (.func g) #[] (caps bs).toArray) (hargs : evs env args = some svs) (hargs2 : evs ((d, .p d 0) :: env) args = some svs)
    (hc : ∀ w G bs, HInv C w G bs L R → AllK C.M (hp w) Γ → Does C.P g (svs.map (conc bs) ++ caps bs).toArray w emp (Ψ w))
    (hΨ : ∀ w v w' G bs (L : Locs) (R : Rows), HInv C w G bs L R → AllK C.M G Γ → Kp emp w w' → Ψ w v w' → ∃ x G', Q ∧ v = val x ∧ Le G G' ∧ HInv C w' G' bs L R ∧ AllK C.M G' (Γ' x))
    (k : ∀ x, Q → DXA C ops tl st bs G0 fuel (listed.setIfInBounds i true) ((e, .v (val x)) :: env) L R (Γ' x) j d l) : DXA C ops tl st bs G0 (fuel + 1) listed env L R Γ j d l := by
  rw [getO_eq] at hi hj
  have hi' : ops[i]? = some o := by simpa using hi
  have hj' : ops[j]? = some oj := by simpa using hj
  have hne : i ≠ j := fun h => by subst h; simp at hij
  have hlte' : e < C.fn.ntmps := by simpa [Nat.blt_eq] using hlte
  obtain ⟨l1, l2, l3, l4⟩ := labHas_not hnl
  have step : ∀ {bs' : Nat → Nat} {env' : Env} {L' : Locs} {fu : Nat} {li : Array Bool} {a : Act} {w : World} {G : GH}, gd ops env' o = some true → ev env' f = some sf → evs env' args = some svs → Le G0 G → SatB C env' L' R Γ G bs' a w → (∀ w G, HInv C w G bs' L' R → HInv C w G bs' L R) → (∀ w G, HInv C w G bs' L' R → HInv C w G bs L R) → Closed ops (li.setIfInBounds i true) →
      (∀ x, Q → DXS C ops tl st (SB C bs G0 L R) bs' G0 fu (li.setIfInBounds i true) ((e, .v (val x)) :: env') L' R (Γ' x)) →
      wpOp C.P ops (cont C st) i (fun a' w' => (tl.contains i = false → SB C bs G0 L R w → SB C bs G0 L R w') ∧ wpAnyT C.P ops (cont C st) (SB C bs G0 L R) tl fu (li.setIfInBounds i true) a' w') a w := by
    intro bs' env' L' fu li a w G h1 h2 h3 hle hS hsub hsub2 hcl kk
    obtain ⟨hA, hI, hΓ⟩ := hS
    unfold wpOp
    simp only [hi']
    rw [if_pos (gd_sound hA h1)]
    refine .inl ?_
    unfold Oper.wp
    obtain ⟨hen, hcalls⟩ := hc w G bs' (hsub w G hI) (hΓ.mono hI.le)
    rw [exec_call hen ho (by rw [ev_conc hA h2, hsf]) (evs_sound hA args svs h3)]
    simp only [Oper.upon]
    refine hcalls.mono fun ee w' ⟨v, hv, hb, hψ⟩ => ?_
    subst hv
    rw [he]
    obtain ⟨x, G', hq, hv, hGG, hI', hΓ'⟩ := hΨ w v w' G bs' L' R hI hΓ hb hψ
    subst hv
    exact ⟨fun _ _ => ⟨G', hle.trans hGG, hsub2 w' G' hI'⟩, kk x hq hcl _ _ G' (hle.trans hGG) ⟨hA.put hlte' (.v (val x)), hI', hΓ'⟩⟩
  have yes : ∀ b, DXS C ops tl st (SB C bs G0 L R) (fun i => if i = d then b else bs i) G0 (fuel + 1) (listed.setIfInBounds j true) ((d, .p d 0) :: env) ((d, l) :: L) R Γ := fun b hcl a w G hle hS => by
    refine ⟨fun h => (by rw [hr2] at h; cases h), fun x hx => ?_⟩
    have hcl' := hcl.set hx
    rw [hr2] at hx
    obtain rfl : x = i := by simpa using hx
    refine step hgi2 hf2 hargs2 hle hS (fun w G h => h.sub (fun q y hy => by rw [look_cons, if_neg (Ne.symm (keyHas_not l2 hy))]; exact hy) (Sub.refl _)) (fun w G h => h.unalloc l2 l3 l4) hcl' (fun x hq => ?_)
    intro hcl2 a w G hle ⟨hA, hI, hΓ⟩
    have := (k x hq).yes b
    rw [Array.setIfInBounds_comm _ _ (Ne.symm hne)] at hcl2 ⊢
    exact this hcl2 a w G hle ⟨hA.swap hed, hI, hΓ⟩
  refine ⟨fun hcl a w G hle hS => ⟨fun h => (by rw [h] at hr1; simp at hr1), fun x hx => ?_⟩, yes⟩
  have hcl' := hcl.set hx
  have hx' := List.all_eq_true.1 hr x hx
  simp only [Bool.or_eq_true] at hx'
  rcases hx' with h | h
  · have := Nat.eq_of_beq_eq_true h
    subst this
    exact step hgi hf hargs hle hS (fun _ _ h => h) (fun _ _ h => h) hcl' (fun x hq => (k x hq).no)
  · have := Nat.eq_of_beq_eq_true h
    subst this
    exact pend_step ht hj' hd (by simpa [Nat.blt_eq] using hlt) hg hl hnl hle hS hcl' yes
theorem DXA.callV {C : Cx} {ops : Array Oper} {tl : List Nat} {st : List It} {bs : Nat → Nat} {G0 : GH} {fuel : Nat} {listed : Array Bool} {env : Env} {L : Locs} {R : Rows} {Γ : Facts} {j d e : Nat} {l : Loc} {o oj : Oper} (i : Nat) {f : Operand} {args : List Operand} {ats : Array TypeId} {g : FuncId} {sf : SV} {svs : List SV} {caps : (Nat → Nat) → List Value}
    {c : Value} {Q : Prop} (ht : TabOk C.P C.tt) (hj : getO ops.toList j = some oj) (hd : oj.dst = some d) (hlt : Nat.blt d C.fn.ntmps = true) (hg : gd ops env oj = some true) (hl : ladd C.tt env oj.op = some l) (hnl : labHas d env L R = false) (hnd : look env d = none)
    (hr : (Region.ready .any ops listed).all (fun x => Nat.beq x i || Nat.beq x j) = true) (hr1 : (Region.ready .any ops listed).contains i = true) (hr2 : Region.ready .any ops (listed.setIfInBounds j true) = [i]) (hij : Nat.beq i j = false)
    (hi : getO ops.toList i = some o) (hgi : gd ops env o = some true) (hgi2 : gd ops ((d, .p d 0) :: env) o = some true) (he : o.dst = some e) (hlte : Nat.blt e C.fn.ntmps = true) (hed : Nat.beq e d = false) (ho : o.op = .call { callee := .value f, args := args.toArray, argTypes := ats })
    (hf : ev env f = some sf) (hf2 : ev ((d, .p d 0) :: env) f = some sf) (hsf : ∀ bs, conc bs sf = .func (.func g) #[] (caps bs).toArray) (hargs : evs env args = some svs) (hargs2 : evs ((d, .p d 0) :: env) args = some svs)
    (hc : ∀ w G bs, HInv C w G bs L R → AllK C.M (hp w) Γ → Does C.P g (svs.map (conc bs) ++ caps bs).toArray w emp fun v _ => v = c ∧ Q)
    (k : Q → DXA C ops tl st bs G0 fuel (listed.setIfInBounds i true) ((e, .v c) :: env) L R Γ j d l) : DXA C ops tl st bs G0 (fuel + 1) listed env L R Γ j d l :=
  DXA.callG (ι := Unit) (Q := Q) (val := fun _ => c) (Γ' := fun _ => Γ) (Ψ := fun _ v _ => v = c ∧ Q) i ht hj hd hlt hg hl hnl hnd hr hr1 hr2 hij hi hgi hgi2 he hlte hed ho hf hf2 hsf hargs hargs2 hc
    (fun w v w' G bs L R hI hΓ hb ⟨hv, hq⟩ => ⟨(), join (cut G emp) emp, hq, hv, le_join_l (cut G emp) emp, (hI.called (emp_le _) (fun _ _ h => by cases h) hb (emp_le _) (fun _ _ h => by cases h)).1, hΓ.mono (le_join_l (cut G emp) emp)⟩) (fun _ => k)
theorem DXA.callF {C : Cx} {ops : Array Oper} {tl : List Nat} {st : List It} {bs : Nat → Nat} {G0 : GH} {fuel : Nat} {listed : Array Bool} {env : Env} {L : Locs} {R : Rows} {Γ : Facts} {j d e : Nat} {l : Loc} {o oj : Oper} (i m : Nat) {f : Operand} {args : List Operand} {ats : Array TypeId} {g : FuncId} {sf : SV} {svs : List SV} {caps : (Nat → Nat) → List Value}
    {ι : Type} {val val' : ι → Value} {gs ds : ι → List MF} {Q : Prop} {Γ' : ι → Facts} (hds : ∀ i h, Sep h (gs i) → All h (ds i)) (hdk : ∀ i, ∀ f ∈ ds i, f.k = .der) (ht : TabOk C.P C.tt) (hj : getO ops.toList j = some oj) (hd : oj.dst = some d) (hlt : Nat.blt d C.fn.ntmps = true) (hg : gd ops env oj = some true) (hl : ladd C.tt env oj.op = some l) (hnl : labHas d env L R = false) (hnd : look env d = none)
    (hr : (Region.ready .any ops listed).all (fun x => Nat.beq x i || Nat.beq x j) = true) (hr1 : (Region.ready .any ops listed).contains i = true) (hr2 : Region.ready .any ops (listed.setIfInBounds j true) = [i]) (hij : Nat.beq i j = false)
    (hi : getO ops.toList i = some o) (hgi : gd ops env o = some true) (hgi2 : gd ops ((d, .p d 0) :: env) o = some true) (he : o.dst = some e) (hlte : Nat.blt e C.fn.ntmps = true) (hed : Nat.beq e d = false) (ho : o.op = .call { callee := .value f, args := args.toArray, argTypes := ats })
    (hf : ev env f = some sf) (hf2 : ev ((d, .p d 0) :: env) f = some sf) (hsf : ∀ bs, conc bs sf = .func (.func g) #[] (caps bs).toArray) (hargs : evs env args = some svs) (hargs2 : evs ((d, .p d 0) :: env) args = some svs)
    (hc : ∀ w G bs, HInv C w G bs L R → AllK C.M (hp w) Γ → Does C.P g (svs.map (conc bs) ++ caps bs).toArray w emp (Post w emp val gs Q))
    (hv : ∀ i, normV (val i) = some (val' i)) (hΓ' : ∀ i, addF m (ds i ++ gs i) Γ = some (Γ' i))
    (k : ∀ x, Q → DXA C ops tl st bs G0 fuel (listed.setIfInBounds i true) ((e, .v (val' x)) :: env) L R (Γ' x) j d l) : DXA C ops tl st bs G0 (fuel + 1) listed env L R Γ j d l :=
  DXA.callG (ι := ι) (Q := Q) (val := val') (Γ' := Γ') (Ψ := fun w v w' => Post w emp val gs Q v w') i ht hj hd hlt hg hl hnl hnd hr hr1 hr2 hij hi hgi hgi2 he hlte hed ho hf hf2 hsf hargs hargs2 hc
    (fun w v w' G bs L R hI hΓ hb hv' => by
      obtain ⟨x, h, rfl, hq, hle1, hdom, hs⟩ := hv'
      obtain ⟨hI', hdj⟩ := hI.called (emp_le _) (fun _ _ h => by cases h) hb hle1 hdom
      exact ⟨x, join (cut G emp) h, hq, (normV_eq (hv x)).symm, le_join_l (cut G emp) h, hI', hΓ.after hdj (fun b o hb' => .inl ((hdom b o hb').elim (Nat.le_trans hI.keep.size) (fun h => absurd rfl h))) hs (hdk x) (hds x h hs) (hΓ' x)⟩) k
end Go.Stp

namespace Go.Stp
def TX (C : Cx) (ops : Array Oper) (tl : List Nat) (s : List It) (S : World → Prop) (fuel : Nat) (listed : Array Bool) (env : Env) (L : Locs) (R : Rows) (Γ : Facts) : Prop :=
  (∀ w w', Kp emp w w' → S w → S w') → ∀ a w, Sat C env L R Γ a w → wpAnyT C.P ops (cont C s) S tl fuel listed a w
def TXI (C : Cx) (ops : Array Oper) (tl : List Nat) (s : List It) (S : World → Prop) (fuel : Nat) (listed : Array Bool) : Act → World → Prop := fun a w => (∀ w w', Kp emp w w' → S w → S w') → wpAnyT C.P ops (cont C s) S tl fuel listed a w
theorem upon_then {P : Program} {o : Oper} {a : Act} {next I : Act → World → Prop} {Q : Exit → Act → World → Prop} {r : Result Next} (h : o.upon P a next (Exit.then I Q) r) : o.upon P a next Q r := by
  cases r with
  | ok x w => cases x <;> exact h
  | halt x w => cases x <;> exact h
theorem TX.step {C : Cx} {ops : Array Oper} {tl : List Nat} {s : List It} {S : World → Prop} {fuel : Nat} {listed : Array Bool} {env : Env} {L : Locs} {R : Rows} {Γ : Facts} {x : Nat} {o : Oper} (hS : ∀ w w', Kp emp w w' → S w → S w') (hi : ops[x]? = some o) (hp : tl.contains x = true ∨ presO o.op = true)
    (kx : WX C (.ops ops [o] :: .iter (TXI C ops tl s S fuel (listed.setIfInBounds x true)) :: s) env L R Γ) {a : Act} {w : World} (hSat : Sat C env L R Γ a w) :
    wpOp C.P ops (cont C s) x (fun a' w' => (tl.contains x = false → S w → S w') ∧ wpAnyT C.P ops (cont C s) S tl fuel (listed.setIfInBounds x true) a' w') a w := by
  have h : wpOp C.P ops (cont C s) x (TXI C ops tl s S fuel (listed.setIfInBounds x true)) a w := by
    have h1 : wpList C.P ops (Exit.then (TXI C ops tl s S fuel (listed.setIfInBounds x true)) (cont C s)) [o] a w := kx a w hSat
    unfold wpOp
    simp only [hi]
    unfold wpList at h1
    split at h1
    · rename_i hw
      rw [if_pos hw]
      exact h1.imp (fun h => upon_then (o := o) h) id
    · rename_i hw
      rw [if_neg hw]
      exact h1
  rcases hp with ht | hp
  · exact wpOp_mono (fun a' w' h' => ⟨fun h => (by rw [ht] at h; cases h), h' hS⟩) h
  · exact wpOp_mono (fun a' w' h' => ⟨fun _ => hS _ _ h'.1, h'.2 hS⟩) (wpOp_pres hi hp h)
def tlB (ops : Array Oper) (tl : List Nat) (x : Nat) : Bool := tl.contains x || presB ops x
theorem tlB_spec {ops : Array Oper} {tl : List Nat} {x : Nat} {o : Oper} (hi : getO ops.toList x = some o) (h : tlB ops tl x = true) : ops[x]? = some o ∧ (tl.contains x = true ∨ presO o.op = true) := by
  unfold tlB presB at h
  rw [hi] at h
  rw [getO_eq] at hi
  exact ⟨by simpa using hi, by simpa using h⟩
theorem TX.one {C : Cx} {ops : Array Oper} {tl : List Nat} {s : List It} {S : World → Prop} {fuel : Nat} {listed : Array Bool} {env : Env} {L : Locs} {R : Rows} {Γ : Facts} {o : Oper} (x : Nat) (hr : Region.ready .any ops listed = [x]) (hi : getO ops.toList x = some o) (hp : tlB ops tl x = true)
    (kx : WX C (.ops ops [o] :: .iter (TXI C ops tl s S fuel (listed.setIfInBounds x true)) :: s) env L R Γ) : TX C ops tl s S (fuel + 1) listed env L R Γ := fun hS a w hSat => by
  obtain ⟨h1, h2⟩ := tlB_spec hi hp
  refine ⟨fun h => (by rw [hr] at h; cases h), fun j hj => ?_⟩
  rw [hr] at hj
  obtain rfl : j = x := by simpa using hj
  exact TX.step hS h1 h2 kx hSat
theorem TX.tail {C : Cx} {ops : Array Oper} {tl : List Nat} {s : List It} {S : World → Prop} {fuel : Nat} {listed : Array Bool} {env : Env} {L : Locs} {R : Rows} {Γ : Facts} {rest : List Oper} (is : List Nat) (hr : pickO ops.toList is = some rest) (hf : fuel = is.length) (hs : seqL2 ops tl is listed = true)
    (k : WX C (.ops ops rest :: s) env L R Γ) : TX C ops tl s S fuel listed env L R Γ := fun hS a w hSat => by
  subst hf
  exact wpAnyT_of_seq2 hS is rest listed a w hr hs (k a w hSat)
end Go.Stp

namespace Go.Stp
def TS (C : Cx) (ops : Array Oper) (tl : List Nat) (s : List It) (S : World → Prop) (fuel : Nat) (listed : Array Bool) (env : Env) (L : Locs) (R : Rows) (Γ : Facts) (x : Nat) : Prop :=
  (∀ w w', Kp emp w w' → S w → S w') → ∀ a w, Sat C env L R Γ a w → wpOp C.P ops (cont C s) x (fun a' w' => (tl.contains x = false → S w → S w') ∧ wpAnyT C.P ops (cont C s) S tl fuel (listed.setIfInBounds x true) a' w') a w
theorem TS.op {C : Cx} {ops : Array Oper} {tl : List Nat} {s : List It} {S : World → Prop} {fuel : Nat} {listed : Array Bool} {env : Env} {L : Locs} {R : Rows} {Γ : Facts} {o : Oper} (x : Nat) (hi : getO ops.toList x = some o) (hp : tlB ops tl x = true)
    (kx : WX C (.ops ops [o] :: .iter (TXI C ops tl s S fuel (listed.setIfInBounds x true)) :: s) env L R Γ) : TS C ops tl s S fuel listed env L R Γ x := fun hS a w hSat => by
  obtain ⟨h1, h2⟩ := tlB_spec hi hp
  exact TX.step hS h1 h2 kx hSat
theorem TS.callG {C : Cx} {ops : Array Oper} {tl : List Nat} {st : List It} {S : World → Prop} {fuel : Nat} {listed : Array Bool} {env : Env} {L : Locs} {R : Rows} {Γ : Facts} {o : Oper} (i : Nat) {f : Operand} {args : List Operand} {ats : Array TypeId} {g : FuncId} {sf : SV} {svs : List SV} {caps : (Nat → Nat) → List Value}
    {Ψ : World → Value → World → Prop} {d : Nat} (hi : getO ops.toList i = some o) (hg : gd ops env o = some true) (hd : o.dst = some d) (ho : o.op = .call { callee := .value f, args := args.toArray, argTypes := ats })
    (hf : ev env f = some sf) (hsf : ∀ bs, conc bs sf = .func (.func g) #[] (caps bs).toArray) (hargs : evs env args = some svs)
    (hc : ∀ w G bs, HInv C w G bs L R → AllK C.M (hp w) Γ → Does C.P g (svs.map (conc bs) ++ caps bs).toArray w emp (Ψ w))
    (k : ∀ a w w' G bs v, (∀ w w', Kp emp w w' → S w → S w') → At C.fn.ntmps env bs a → HInv C w G bs L R → AllK C.M G Γ → Kp emp w w' → Ψ w v w' → wpAnyT C.P ops (cont C st) S tl fuel (listed.setIfInBounds i true) (a.put (some d) v) w') : TS C ops tl st S fuel listed env L R Γ i := by
  intro hS a w ⟨G, bs, hA, hI, hΓ⟩
  rw [getO_eq] at hi
  have hi' : ops[i]? = some o := by simpa using hi
  unfold wpOp
  simp only [hi']
  rw [if_pos (gd_sound hA hg)]
  refine .inl ?_
  unfold Oper.wp
  obtain ⟨he, hcalls⟩ := hc w G bs hI (hΓ.mono hI.le)
  rw [exec_call he ho (by rw [ev_conc hA hf, hsf]) (evs_sound hA args svs hargs)]
  simp only [Oper.upon]
  refine hcalls.mono fun e w' ⟨v, hv, hb, hψ⟩ => ?_
  subst hv
  rw [hd]
  exact ⟨fun _ hs => hS _ _ hb hs, k a w w' G bs v hS hA hI hΓ hb hψ⟩
theorem TS.callV {C : Cx} {ops : Array Oper} {tl : List Nat} {st : List It} {S : World → Prop} {fuel : Nat} {listed : Array Bool} {env : Env} {L : Locs} {R : Rows} {Γ : Facts} {o : Oper} (i : Nat) {f : Operand} {args : List Operand} {ats : Array TypeId} {g : FuncId} {sf : SV} {svs : List SV} {caps : (Nat → Nat) → List Value}
    {c : Value} {Q : Prop} {d : Nat} (hi : getO ops.toList i = some o) (hg : gd ops env o = some true) (hd : o.dst = some d) (hlt : Nat.blt d C.fn.ntmps = true) (ho : o.op = .call { callee := .value f, args := args.toArray, argTypes := ats })
    (hf : ev env f = some sf) (hsf : ∀ bs, conc bs sf = .func (.func g) #[] (caps bs).toArray) (hargs : evs env args = some svs)
    (hc : ∀ w G bs, HInv C w G bs L R → AllK C.M (hp w) Γ → Does C.P g (svs.map (conc bs) ++ caps bs).toArray w emp fun v _ => v = c ∧ Q)
    (k : Q → TX C ops tl st S fuel (listed.setIfInBounds i true) ((d, .v c) :: env) L R Γ) : TS C ops tl st S fuel listed env L R Γ i :=
  TS.callG (Ψ := fun _ v _ => v = c ∧ Q) i hi hg hd ho hf hsf hargs hc fun a w w' G bs v hS hA hI hΓ hb ⟨hv, hq⟩ => by
    subst hv
    have hI' := (hI.called (emp_le _) (fun _ _ h => by cases h) hb (emp_le _) (fun _ _ h => by cases h)).1
    exact k hq hS _ _ ⟨_, _, hA.put (by simpa [Nat.blt_eq] using hlt) (.v v), hI', hΓ.mono (le_join_l (cut G emp) emp)⟩
theorem TS.callF {C : Cx} {ops : Array Oper} {tl : List Nat} {st : List It} {S : World → Prop} {fuel : Nat} {listed : Array Bool} {env : Env} {L : Locs} {R : Rows} {Γ : Facts} {o : Oper} (i m : Nat) {f : Operand} {args : List Operand} {ats : Array TypeId} {g : FuncId} {sf : SV} {svs : List SV} {caps : (Nat → Nat) → List Value}
    {ι : Type} {val val' : ι → Value} {gs ds : ι → List MF} {Q : Prop} {d : Nat} {Γ' : ι → Facts} (hds : ∀ i h, Sep h (gs i) → All h (ds i)) (hdk : ∀ i, ∀ f ∈ ds i, f.k = .der) (hi : getO ops.toList i = some o) (hg : gd ops env o = some true) (hd : o.dst = some d) (hlt : Nat.blt d C.fn.ntmps = true) (ho : o.op = .call { callee := .value f, args := args.toArray, argTypes := ats })
    (hf : ev env f = some sf) (hsf : ∀ bs, conc bs sf = .func (.func g) #[] (caps bs).toArray) (hargs : evs env args = some svs)
    (hc : ∀ w G bs, HInv C w G bs L R → AllK C.M (hp w) Γ → Does C.P g (svs.map (conc bs) ++ caps bs).toArray w emp (Post w emp val gs Q))
    (hv : ∀ i, normV (val i) = some (val' i)) (hΓ' : ∀ i, addF m (ds i ++ gs i) Γ = some (Γ' i))
    (k : ∀ j, Q → TX C ops tl st S fuel (listed.setIfInBounds i true) ((d, .v (val' j)) :: env) L R (Γ' j)) : TS C ops tl st S fuel listed env L R Γ i :=
  TS.callG (Ψ := fun w v w' => Post w emp val gs Q v w') i hi hg hd ho hf hsf hargs hc fun a w w' G bs v hS hA hI hΓ hb hv' => by
    obtain ⟨j, h, rfl, hq, hle1, hdom, hs⟩ := hv'
    rw [← normV_eq (hv j)]
    obtain ⟨hI', hdj⟩ := hI.called (emp_le _) (fun _ _ h => by cases h) hb hle1 hdom
    exact k j hq hS _ _ ⟨_, _, hA.put (by simpa [Nat.blt_eq] using hlt) (.v _), hI', hΓ.after hdj (fun b o hb' => .inl ((hdom b o hb').elim (Nat.le_trans hI.keep.size) (fun h => absurd rfl h))) hs (hdk j) (hds j h hs) (hΓ' j)⟩
theorem TX.der {C : Cx} {ops : Array Oper} {tl : List Nat} {s : List It} {S : World → Prop} {fuel : Nat} {listed : Array Bool} {env : Env} {L : Locs} {R : Rows} {Γ : Facts} (m : Nat) (f : MF) (hk : f.k = .der) (h : ∀ G, AllK C.M G Γ → f.p G)
    (k : TX C ops tl s S fuel listed env L R ((m, f) :: Γ)) : TX C ops tl s S fuel listed env L R Γ := fun hS a w ⟨G, bs, hA, hI, hΓ⟩ => k hS a w ⟨G, bs, hA, hI, hΓ.der m f hk (h G hΓ)⟩
theorem TS.der {C : Cx} {ops : Array Oper} {tl : List Nat} {s : List It} {S : World → Prop} {fuel : Nat} {listed : Array Bool} {env : Env} {L : Locs} {R : Rows} {Γ : Facts} {x : Nat} (m : Nat) (f : MF) (hk : f.k = .der) (h : ∀ G, AllK C.M G Γ → f.p G)
    (k : TS C ops tl s S fuel listed env L R ((m, f) :: Γ) x) : TS C ops tl s S fuel listed env L R Γ x := fun hS a w ⟨G, bs, hA, hI, hΓ⟩ => k hS a w ⟨G, bs, hA, hI, hΓ.der m f hk (h G hΓ)⟩
end Go.Stp

namespace Go.Stp
def NN (x : Int) : Prop := 0 ≤ x ∧ x ≤ 9223372036854775807
theorem NN.i64 {x : Int} (h : NN x) : -9223372036854775808 ≤ x ∧ x ≤ 9223372036854775807 := ⟨by have := h.1; omega, h.2⟩
open GoT (X k ok sh fa oa)
def sgl (b : Nat) (o : Obj) : GH := fun x => if x = b then some o else none
theorem sgl_self (b : Nat) (o : Obj) : sgl b o b = some o := by simp [sgl]
theorem sgl_ne {b x : Nat} (o : Obj) (h : x ≠ b) : sgl b o x = none := by simp [sgl, h]
theorem sgl_le {b : Nat} {o : Obj} {G : GH} (h : G b = some o) : Le (sgl b o) G := fun x q hx => by
  by_cases hb : x = b
  · subst hb; rw [sgl_self] at hx; cases hx; exact h
  · rw [sgl_ne o hb] at hx; cases hx
theorem sgl_dj {b : Nat} {o : Obj} {G : GH} (h : G b = none) : Dj (sgl b o) G := fun x => by
  by_cases hb : x = b
  · subst hb; exact .inr h
  · exact .inl (sgl_ne o hb)
theorem cut_none' {G h : GH} {b : Nat} (hg : G b = none) : cut G h b = none := by
  unfold cut; cases h b <;> simp [hg]
theorem cut_some' {G h : GH} {b : Nat} {o : Obj} (hg : h b = some o) : cut G h b = none := by
  unfold cut; rw [hg]
theorem RowOk.less {M : Nat → Prop} {w : World} {G G' : GH} {b : Nat} {r : Row} (h : RowOk M w G b r) (hg : r.c ≠ 0 → G b = none → G' b = none) : RowOk M w G' b r := by
  refine ⟨h.1, ?_⟩
  rcases h.2 with h0 | ⟨o, h1, h2, h3, h4⟩
  · exact .inl h0
  · by_cases hc : r.c = 0
    · exact .inl ⟨hc, by omega⟩
    · exact .inr ⟨o, h1, h2, hg hc h3, h4⟩
def delL : Locs → Nat → Locs
  | [], _ => []
  | (j, l) :: r, i => (match Nat.beq j i with | true => delL r i | false => (j, l) :: delL r i)
theorem look_delL : ∀ (L : Locs) (i j : Nat), look (delL L i) j = if i = j then none else look L j
  | [], i, j => by simp [delL, look]
  | (m, l) :: r, i, j => by
    simp only [delL]
    split
    · rename_i h
      have hm : m = i := Nat.eq_of_beq_eq_true h
      subst hm
      rw [look_delL r, look_cons]
      by_cases h2 : m = j <;> simp [h2]
    · rename_i h
      have hm : m ≠ i := Nat.ne_of_beq_eq_false h
      rw [look_cons, look_cons, look_delL r]
      by_cases h2 : m = j
      · subst h2; simp [Ne.symm hm]
      · simp [h2]
abbrev lobj (l : Loc) : Obj := .cells l.cs.toArray l.T (0, 0)
theorem HInv.drop {C : Cx} {w : World} {G : GH} {bs : Nat → Nat} {L : Locs} {R : Rows} (hI : HInv C w G bs L R) {i : Nat} {l : Loc} (hl : look L i = some l) : HInv C w (join G (sgl (bs i) (lobj l))) bs (delL L i) R := by
  obtain ⟨h1, h2, h3⟩ := hI.loc i l hl
  have up : ∀ {j : Nat} {x : Loc}, look (delL L i) j = some x → i ≠ j ∧ look L j = some x := fun {j x} h => by
    rw [look_delL] at h
    by_cases hij : i = j
    · simp [hij] at h
    · simp [hij] at h; exact ⟨hij, h⟩
  have act : ∀ {j : Nat}, Acts (delL L i) R j → Acts L R j := fun h => by
    rcases h with ⟨x, hx⟩ | h
    · exact .inl ⟨x, (up hx).2⟩
    · exact .inr h
  have none : ∀ {j : Nat}, i ≠ j → Acts L R j → G (bs j) = none → join G (sgl (bs i) (lobj l)) (bs j) = none := fun {j} hij ha hg => by
    unfold join; rw [hg]
    exact sgl_ne _ (fun e => hI.inj i j hij (.inl ⟨l, hl⟩) ha e.symm)
  refine ⟨hI.keep, join_le hI.le (sgl_le h1), fun j x hx => ?_, fun j r hr => ?_, fun j m hjm ha hb => hI.inj j m hjm (act ha) (act hb), fun j x r hx hr => hI.dis j x r (up hx).2 hr, hI.pin, hI.nr⟩
  · obtain ⟨hij, hx'⟩ := up hx
    obtain ⟨q1, q2, q3⟩ := hI.loc j x hx'
    exact ⟨q1, q2, none hij (.inl ⟨x, hx'⟩) q3⟩
  · exact (hI.row j r hr).less fun hc hg => none (fun e => by subst e; exact hI.dis i l r hl hr) (.inr ⟨r, hr, hc⟩) hg
theorem HInv.take {C : Cx} {w : World} {G : GH} {bs : Nat → Nat} {L L' : Locs} {R : Rows} (hI : HInv C w G bs L R) {i : Nat} {l : Loc} (hL : ∀ j, look L' j = if i = j then some l else look L j) (hR : ∀ r, look R i ≠ some r) (hg : G (bs i) = some (lobj l)) (hM : C.M (bs i)) : HInv C w (cut G (sgl (bs i) (lobj l))) bs L' R := by
  have hcut : ∀ b, G b = none → cut G (sgl (bs i) (lobj l)) b = none := fun b h => cut_none' h
  have ne : ∀ {j : Nat}, G (bs j) = none → bs i ≠ bs j := fun h e => by rw [← e, hg] at h; cases h
  have gn : ∀ {j : Nat}, Acts L R j → G (bs j) = none := fun {j} ha => by
    rcases ha with ⟨x, hx⟩ | ⟨r, hr, hc⟩
    · exact (hI.loc j x hx).2.2
    · rcases (hI.row j r hr).2 with ⟨h0, _⟩ | ⟨_, _, _, h3, _⟩
      · exact absurd h0 hc
      · exact h3
  have act : ∀ {j : Nat}, i ≠ j → Acts L' R j → Acts L R j := fun {j} hij h => by
    rcases h with ⟨x, hx⟩ | h
    · rw [hL, if_neg hij] at hx; exact .inl ⟨x, hx⟩
    · exact .inr h
  refine ⟨hI.keep, (cut_le _ _).trans hI.le, fun j x hx => ?_, fun j r hr => (hI.row j r hr).less fun _ h => hcut _ h, fun j m hjm ha hb => ?_, fun j x r hx hr => ?_, hI.pin, hI.nr⟩
  · rw [hL] at hx
    by_cases hij : i = j
    · subst hij; simp at hx; subst hx
      exact ⟨hI.le _ _ hg, hM, cut_some' (sgl_self _ _)⟩
    · simp [hij] at hx
      obtain ⟨q1, q2, q3⟩ := hI.loc j x hx
      exact ⟨q1, q2, hcut _ q3⟩
  · by_cases hij : i = j
    · subst hij
      exact ne (gn (act hjm hb))
    · by_cases him : i = m
      · subst him
        exact fun e => ne (gn (act hij ha)) e.symm
      · exact hI.inj j m hjm (act hij ha) (act him hb)
  · rw [hL] at hx
    by_cases hij : i = j
    · subst hij; exact hR r hr
    · simp [hij] at hx; exact hI.dis j x r hx hr
theorem WX.callP {C : Cx} {ops : Array Oper} {o : Oper} {r : List Oper} {s : List It} {env : Env} {L : Locs} {R : Rows} {Γ : Facts} {f : Operand} {args : List Operand} {ats : Array TypeId} {g : FuncId} {sf : SV} {svs : List SV} {caps : (Nat → Nat) → List Value} {T : Nat} {cs : List Value}
    {ι : Type} {val val' : ι → Value} {cs' : ι → List Value} {gs ds : ι → List MF} {Q : Prop} {d : Nat} {Γ' : ι → Facts} (lab n : Nat) (hl : look L lab = some ⟨T, cs⟩) (hds : ∀ i h, Sep h (gs i) → All h (ds i)) (hdk : ∀ i, ∀ f ∈ ds i, f.k = .der) (hg : gd ops env o = some true) (hd : o.dst = some d) (hlt : Nat.blt d C.fn.ntmps = true) (ho : o.op = .call { callee := .value f, args := args.toArray, argTypes := ats })
    (hf : ev env f = some sf) (hsf : ∀ bs, conc bs sf = .func (.func g) #[] (caps bs).toArray) (hargs : evs env args = some svs)
    (hc : ∀ w G bs H, HInv C w G bs L R → Le H (hp w) → Sep H [MF.bx (bs lab) T cs] → AllK C.M (cut (hp w) H) Γ → Does C.P g (svs.map (conc bs) ++ caps bs).toArray w H (Post w H val (fun i => MF.bx (bs lab) T (cs' i) :: gs i) Q))
    (hv : ∀ i, normV (val i) = some (val' i)) (hΓ' : ∀ i, addF n (ds i ++ gs i) Γ = some (Γ' i))
    (k : ∀ i, Q → WX C (.ops ops r :: s) ((d, .v (val' i)) :: env) (setL L lab (cs' i)) R (Γ' i)) : WX C (.ops ops (o :: r) :: s) env L R Γ := by
  rintro a w ⟨G, bs, hA, hI, hΓ⟩
  show wpList C.P ops (cont C s) (o :: r) a w
  unfold wpList
  rw [if_pos (gd_sound hA hg)]
  refine .inl ?_
  unfold Oper.wp
  obtain ⟨h1, h2, h3⟩ := hI.loc lab _ hl
  have hGH : Le G (cut (hp w) (sgl (bs lab) (lobj ⟨T, cs⟩))) := le_cut hI.le (sgl_dj h3).symm
  obtain ⟨he, hcalls⟩ := hc w G bs (sgl (bs lab) (lobj ⟨T, cs⟩)) hI (sgl_le h1) ⟨_, emp, Le.refl _, emp_le _, (emp_dj _).symm, sgl_self _ _, trivial⟩ (hΓ.mono hGH)
  rw [exec_call he ho (by rw [ev_conc hA hf, hsf]) (evs_sound hA args svs hargs)]
  simp only [Oper.upon]
  refine hcalls.mono fun e w' ⟨v, hve, hb, hψ⟩ => ?_
  subst hve
  obtain ⟨i, h, rfl, hq, hle, hdom, ha, hr, a1, a2, a3, a4, a5⟩ := hψ
  have a4' : ha (bs lab) = some (lobj ⟨T, cs' i⟩) := a4
  rw [hd, ← normV_eq (hv i)]
  obtain ⟨hI', hdj⟩ := (hI.drop hl).called (Hc := sgl (bs lab) (lobj ⟨T, cs⟩)) (le_join_r (sgl_dj h3).symm) (fun b q hx => by
    by_cases hbb : b = bs lab
    · subst hbb; exact h2
    · rw [sgl_ne _ hbb] at hx; cases hx) hb hle hdom
  have hG1 : Le G (cut (join G (sgl (bs lab) (lobj ⟨T, cs⟩))) (sgl (bs lab) (lobj ⟨T, cs⟩))) := le_cut (le_join_l _ _) (sgl_dj h3).symm
  have hlab : h (bs lab) = some (lobj ⟨T, cs' i⟩) := a1 _ _ a4'
  have hG2 : join (cut (join G (sgl (bs lab) (lobj ⟨T, cs⟩))) (sgl (bs lab) (lobj ⟨T, cs⟩))) h (bs lab) = some (lobj ⟨T, cs' i⟩) := le_join_r hdj.symm _ _ hlab
  have hI2 := hI'.take (i := lab) (l := ⟨T, cs' i⟩) (L' := setL L lab (cs' i)) (fun j => by
    rw [look_setL, look_delL]
    by_cases hij : lab = j
    · subst hij; simp [hl]
    · simp [hij]) (fun r hr' => hI.dis lab _ r hl hr') hG2 h2
  have hdr : Dj hr G := hdj.mono a2 hG1
  have hΓ2 := hΓ.after (h := hr) (n := n) (ds := ds i) hdr (fun b q hx => by
    rcases hdom b q (a2 b q hx) with h4 | h4
    · exact .inl (Nat.le_trans hI.keep.size h4)
    · by_cases hbb : b = bs lab
      · subst hbb; exact h2
      · exact absurd (sgl_ne _ hbb) h4) a5 (hdk i) (hds i hr a5) (hΓ' i)
  refine k i hq _ _ ⟨_, bs, hA.put (by simpa [Nat.blt_eq] using hlt) (.v _), hI2, hΓ2.mono (join_le ?_ ?_)⟩
  · exact le_cut (hG1.trans (le_join_l _ _)) (sgl_dj h3).symm
  · refine le_cut (a2.trans (le_join_r hdj.symm)) (sgl_dj ?_).symm
    cases hx : hr (bs lab) with
    | none => rfl
    | some q => rcases a3 (bs lab) with h5 | h5
                · rw [a4'] at h5; cases h5
                · rw [hx] at h5; cases h5
theorem Post.ofL {C : Cx} {w : World} {G : GH} {bs : Nat → Nat} {L : Locs} {R : Rows} {Γ Γ1 : Facts} {ι : Type} {val : ι → Value} {gs : ι → List MF} {Q : Prop} {v : Value} {fs : List MF} {T : Nat} {cs : List Value} (lab : Nat) (ks : List Nat) (i : ι) (hI : HInv C w G bs L R) (hΓ : AllK C.M G Γ) (hl : look L lab = some ⟨T, cs⟩) (hk : giveK ks Γ = some (fs, Γ1)) (hv : v = val i) (hf : gs i = MF.bx (bs lab) T cs :: fs) (hq : Q) : Post C.w0 C.H val gs Q v w := by
  obtain ⟨H, q1, q2, q3, q4⟩ := giveK_spec hk hΓ
  obtain ⟨h1, h2, h3⟩ := hI.loc lab _ hl
  have hd : Dj (sgl (bs lab) (lobj ⟨T, cs⟩)) H := (sgl_dj h3).mono (Le.refl _) q1
  refine ⟨i, join (sgl (bs lab) (lobj ⟨T, cs⟩)) H, hv, hq, join_le (sgl_le h1) (q1.trans hI.le), fun b o hx => ?_, ?_⟩
  · by_cases hbb : b = bs lab
    · subst hbb; exact h2
    · unfold join at hx; rw [sgl_ne _ hbb] at hx; exact q2 b o hx
  · rw [hf]
    exact ⟨_, H, le_join_l _ _, le_join_r hd, hd, sgl_self _ _, q3⟩
theorem WX.adopt {C : Cx} {s : List It} {env : Env} {L : Locs} {R : Rows} {Γ Γ1 : Facts} {b T : Nat} {cs : List Value} (d n : Nat) (hsl : look env d = some (.v (.pointer (some ⟨b, 0, none⟩)))) (hn : labHas d env L R = false) (hks : giveK [n] Γ = some ([MF.bx b T cs], Γ1))
    (k : WX C s ((d, .p d 0) :: env) ((d, ⟨T, cs⟩) :: L) R Γ1) : WX C s env L R Γ := by
  rintro a w ⟨G, bs, hA, hI, hΓ⟩
  obtain ⟨H, q1, q2, q3, q4⟩ := giveK_spec hks hΓ
  obtain ⟨h1, _, a1, _, _, a4, _⟩ := q3
  have a4' : h1 b = some (lobj ⟨T, cs⟩) := a4
  have hHb := a1 _ _ a4'
  have hGb := q1 _ _ hHb
  obtain ⟨n1, n2, n3, n4⟩ := labHas_not hn
  have hnL : ∀ {i : Nat} {x : Loc}, look L i = some x → i ≠ d := fun h => keyHas_not n2 h
  have hnR : ∀ {i : Nat} {x : Row}, look R i = some x → i ≠ d := fun h => keyHas_not n3 h
  have act : ∀ {i : Nat}, i ≠ d → Acts ((d, (⟨T, cs⟩ : Loc)) :: L) R i → Acts L R i := fun {i} hne h => by
    rcases h with ⟨x, hx⟩ | h
    · rw [look_cons, if_neg (Ne.symm hne)] at hx; exact .inl ⟨x, hx⟩
    · exact .inr h
  have gn : ∀ {j : Nat}, Acts L R j → G (bs j) = none := fun {j} ha => by
    rcases ha with ⟨x, hx⟩ | ⟨r, hr, hc⟩
    · exact (hI.loc j x hx).2.2
    · rcases (hI.row j r hr).2 with ⟨h0, _⟩ | ⟨_, _, _, h3, _⟩
      · exact absurd h0 hc
      · exact h3
  have ne : ∀ {j : Nat}, Acts L R j → b ≠ bs j := fun ha e => by have := gn ha; rw [← e, hGb] at this; cases this
  refine k a w ⟨cut G H, fun j => if j = d then b else bs j, ?_, ⟨hI.keep, (cut_le _ _).trans hI.le, fun i l hl => ?_, fun i r hr => ?_, fun i j hij hi hj => ?_, fun i l r hl hr => ?_, fun b' hb' => by simp only [if_neg (Ne.symm n4)]; exact hI.pin b' hb', hI.nr⟩, q4⟩
  · have hA' := hA.notH (d := d) (bs' := fun j => if j = d then b else bs j) n1 (fun i hi => if_neg hi)
    refine ⟨hA'.size, hA'.dfr, fun e x hx => ?_⟩
    rw [look_cons] at hx
    split at hx
    · rename_i he; subst he
      simp at hx; subst hx
      have := hA.slot d _ hsl
      rw [this]; simp [conc]
    · exact hA'.slot e x hx
  · rw [look_cons] at hl
    split at hl
    · rename_i he; subst he
      simp at hl; subst hl
      simp only [if_true]
      exact ⟨hI.le _ _ hGb, q2 _ _ hHb, cut_some' hHb⟩
    · rename_i he
      obtain ⟨p1, p2, p3⟩ := hI.loc i l hl
      simp only [if_neg (Ne.symm he)]
      exact ⟨p1, p2, cut_none' p3⟩
  · simp only [if_neg (hnR hr)]
    exact (hI.row i r hr).less fun _ h => cut_none' h
  · by_cases hid : i = d
    · subst hid
      simp only [if_true, if_neg (Ne.symm hij)]
      exact ne (act (Ne.symm hij) hj)
    · by_cases hjd : j = d
      · subst hjd
        simp only [if_true, if_neg hid]
        exact fun e => ne (act hid hi) e.symm
      · simp only [if_neg hid, if_neg hjd]
        exact hI.inj i j hij (act hid hi) (act hjd hj)
  · rw [look_cons, if_neg (Ne.symm (hnR hr))] at hl
    exact hI.dis i l r hl hr
def resQ (env : Env) : List ResultVar → Option (List SV)
  | [] => some []
  | .tmp t :: r => (match look env t with
    | some sv => (match resQ env r with | some q => some (sv :: q) | none => none)
    | none => none)
  | .cell _ _ :: _ => none
theorem resQ_sound {C : Cx} {env : Env} {bs : Nat → Nat} {a : Act} {w : World} (hA : At C.fn.ntmps env bs a) :
    ∀ (rs : List ResultVar) (ss : List SV), resQ env rs = some ss →
      (rs.mapM (m := Sem) fun | .tmp t => pure (a.tmps.getD t undef) | .cell x t => do loadVar t (← asAddr (a.tmps.getD x undef))).run C.P w = .ok (ss.map (conc bs)) w
  | [], ss, h => by simp [resQ] at h; subst h; simp
  | .tmp t :: r, ss, h => by
    simp only [resQ] at h
    split at h
    · rename_i sv hsv
      split at h
      · rename_i q hq
        simp only [Option.some.injEq] at h; subst h
        have ih := resQ_sound (w := w) hA r q hq
        have hs := hA.slot t _ hsv
        simp only [List.mapM_cons, Sem.run_bind, Sem.run_pure, Result.andThen_ok, ih, hs, List.map_cons]
      · cases h
    · cases h
  | .cell _ _ :: _, ss, h => by simp [resQ] at h
theorem WX.retQ {C : Cx} {s : List It} {env : Env} {L : Locs} {R : Rows} {Γ : Facts} {ss : List SV} (hv : resQ env C.fn.results.toList = some ss)
    (k : ∀ w G bs, HInv C w G bs L R → AllK C.M G Γ → C.Φ (tup (ss.map (conc bs))) w) : WX C (.code .ret :: s) env L R Γ := by
  rintro a w ⟨G, bs, hA, hI, hΓ⟩
  show Code.ret.wp C.P (cont C s) a w
  refine wp_ret ?_
  have key : ∀ s : List It, bodyPost C.P C.fn (Ret C.w0 C.H C.Φ) .ret a w → cont C s .ret a w := by
    intro s h
    induction s with
    | nil => exact h
    | cons x s ih => cases x <;> exact ih
  exact key s ⟨hA.dfr, tup (ss.map (conc bs)), results_run (resQ_sound hA _ _ hv), tup (ss.map (conc bs)), rfl, hI.keep, k w G bs hI hΓ⟩
end Go.Stp

namespace Go.Proofs.Ytdimfabadjfkiaa
open Go.Stp
set_option linter.unusedVariables false
set_option linter.unusedSimpArgs false
theorem f8 (w : World) (n : Nat) (hn : n + 0 ≤ 9) (node : Int) (i : Int) (try_ : Int) (hoknode : GoT.ok n node) (hoki : GoT.ok n i) (hoktry_ : GoT.ok n try_) :
    Does Try.prog 8 #[.int .i64 (node), .int .i64 (i), .int .i64 (try_)] w emp (fun (rv : Value) (_ : World) => rv = .int .i64 ((impl_NonceOf node i try_)) ∧ GoT.ok n ((impl_NonceOf node i try_) : Int)) := by
  refine WX.enter (tt := tt) (Γ := []) Try.func8 rfl (by kernel_rfl) rfl allS_nil ?_
  refine WX.run ttOk rfl ?_
  refine WX.see rfl rfl rfl (fun _ hΓ => looks_wrap rfl rfl rfl rfl) ?_
  refine WX.run ttOk rfl ?_
  refine WX.see rfl rfl rfl (fun _ hΓ => looks_wrap rfl rfl rfl rfl) ?_
  refine WX.see rfl rfl rfl (fun _ hΓ => looks_wrap rfl rfl rfl rfl) ?_
  refine WX.run ttOk rfl ?_
  refine WX.see rfl rfl rfl (fun _ hΓ => looks_wrap rfl rfl rfl rfl) ?_
  refine WX.run ttOk rfl ?_
  have hP1 : impl_NonceOf node i try_ = (IntKind.i64.wrap ((IntKind.i64.wrap ((IntKind.i64.wrap (100000 * node)) + (IntKind.i64.wrap (1000 * i)))) + try_)) := by simp only [impl_NonceOf, cond_true, cond_false]
  refine WX.ret ttOk rfl ?_
  intro w1 G bs hI hΓ
  rw [hP1]
  exact ⟨rfl, (i64_wrap _)⟩
end Go.Proofs.Ytdimfabadjfkiaa

namespace Go.Stp
set_option linter.unusedVariables false
set_option linter.unusedSimpArgs false
def laws_big (code : (List UInt8)) : Bool :=
  (decide ((((code).length : Nat) : Int) > 1048576))
def laws_at (code : (List UInt8)) (i : Int) : Int :=
  bif decide (i < (((code).length : Nat) : Int)) then
    match (code)[(i).toNat]? with
      | none => default
      | some e1 =>
        ((e1).toNat : Int)
  else
    (Int.tmod (IntKind.i64.wrap ((IntKind.i64.wrap (i * 31)) + (IntKind.i64.wrap ((((code).length : Nat) : Int) * 7)))) 256)
theorem bitAnd255 (x : Int) : 0 ≤ bitO .and x 255 ∧ bitO .and x 255 ≤ 255 := by
  have h : (BitVec.ofInt 64 x).toNat &&& 255 ≤ 255 := Nat.and_le_right
  have h2 : (BitVec.ofInt 64 (255 : Int)).toNat = 255 := by decide
  simp only [bitO, BitVec.toNat_and, h2]
  rw [wrap_i64 (by unfold I64; omega)]
  omega
theorem wrapS {x : Int} (h : -9223372036854775808 ≤ x ∧ x ≤ 9223372036854775807) : IntKind.i64.wrap x = x := wrap_i64 h
theorem tmod_below {x n : Int} (h : 0 ≤ x) (hn : 0 < n) : 0 ≤ Int.tmod x n ∧ (Int.tmod x n < n ∨ (Int.tmod x n = 0 ∧ n ≤ 0)) :=
  ⟨Int.tmod_nonneg n h, .inl (Int.tmod_lt_of_pos x hn)⟩
set_option maxRecDepth 100000 in
def spec_l1New_L1 : List UInt8 → Nat → Int → Int
  | [], i, h_ => h_
  | e1 :: rest_, i, h_ =>
    bif decide (((i : Nat) : Int) < 4000) then
      spec_l1New_L1 rest_ (i + 1) (bitO .and (IntKind.i64.wrap ((IntKind.i64.wrap ((IntKind.i64.wrap (h_ * 137)) + ((e1).toNat : Int))) + 11)) 1073741823)
    else
      h_
set_option maxRecDepth 100000 in
def spec_l1New (code : (List UInt8)) : Int × Int :=
  match spec_l1New_L1 code 0 (IntKind.i64.wrap (192917 + (((code).length : Nat) : Int))) with
    | h_ =>
      (0, h_)
set_option maxRecDepth 100000 in
theorem spec_l1New_L1_eqs : True := by
  have h1 := @spec_l1New_L1.eq_1
  have h2 := @spec_l1New_L1.eq_2
  trivial
def spec_l1Byte (c_b : (List UInt8)) (c_i : Int) (c_h : Int) : Int × Int × Int :=
  bif decide (c_i < (((c_b).length : Nat) : Int)) then
    match (c_b)[(c_i).toNat]? with
      | none => default
      | some e1 =>
        ((bitO .and (IntKind.i64.wrap ((bitO .and (bitO .xor (Int.fdiv (IntKind.i64.wrap ((IntKind.i64.wrap (c_h * 6364136223846793005)) + 1442695040888963407)) (2 ^ (min (Int.toNat (33 : Int)) 64))) (Int.fdiv (IntKind.i64.wrap ((IntKind.i64.wrap (c_h * 6364136223846793005)) + 1442695040888963407)) (2 ^ (min (Int.toNat (47 : Int)) 64)))) 255) + ((e1).toNat : Int))) 255), c_i + 1, IntKind.i64.wrap ((IntKind.i64.wrap (c_h * 6364136223846793005)) + 1442695040888963407))
  else
    ((bitO .and (bitO .xor (Int.fdiv (IntKind.i64.wrap ((IntKind.i64.wrap (c_h * 6364136223846793005)) + 1442695040888963407)) (2 ^ (min (Int.toNat (33 : Int)) 64))) (Int.fdiv (IntKind.i64.wrap ((IntKind.i64.wrap (c_h * 6364136223846793005)) + 1442695040888963407)) (2 ^ (min (Int.toNat (47 : Int)) 64)))) 255), c_i, IntKind.i64.wrap ((IntKind.i64.wrap (c_h * 6364136223846793005)) + 1442695040888963407))
theorem l1Byte_rng (b : List UInt8) (i h : Int) : 0 ≤ (spec_l1Byte b i h).1 ∧ (spec_l1Byte b i h).1 ≤ 255 := by
  unfold spec_l1Byte
  cases decide (i < ((b.length : Nat) : Int))
  · exact bitAnd255 _
  · simp only [cond_true]
    cases b[i.toNat]? with
    | none => exact ⟨Int.le_refl (0 : Int), (by decide : (0 : Int) ≤ 255)⟩
    | some e => exact bitAnd255 _
def spec_l1Below (c_b : (List UInt8)) (c_i : Int) (c_h : Int) (n_ : Int) : Int × Int × Int :=
  bif decide (n_ ≤ 0) then
    (0, c_i, c_h)
  else
    bif decide (n_ ≤ 256) then
      match spec_l1Byte c_b c_i c_h with
        | (u1, u2, u3) =>
          ((Int.tmod u1 n_), u2, u3)
    else
      match spec_l1Byte c_b c_i c_h with
        | (u4, u5, u6) =>
          match spec_l1Byte c_b u5 u6 with
            | (u7, u8, u9) =>
              match spec_l1Byte c_b u8 u9 with
                | (u10, u11, u12) =>
                  ((Int.tmod (((u4 * 65536) + (u7 * 256)) + u10) n_), u11, u12)
theorem l1Below_rng (b : List UInt8) (i h n : Int) : 0 ≤ (spec_l1Below b i h n).1 ∧ ((spec_l1Below b i h n).1 < n ∨ ((spec_l1Below b i h n).1 = 0 ∧ n ≤ 0)) := by
  unfold spec_l1Below
  cases hn : decide (n ≤ 0)
  · have h0 := of_decide_eq_false hn
    simp only [cond_false]
    cases decide (n ≤ 256)
    · simp only [cond_false]
      have q1 := l1Byte_rng b i h
      rcases e1 : spec_l1Byte b i h with ⟨x1, i1, h1⟩
      have q2 := l1Byte_rng b i1 h1
      rcases e2 : spec_l1Byte b i1 h1 with ⟨x2, i2, h2⟩
      have q3 := l1Byte_rng b i2 h2
      rcases e3 : spec_l1Byte b i2 h2 with ⟨x3, i3, h3⟩
      rw [e1] at q1
      rw [e2] at q2
      rw [e3] at q3
      dsimp only at q1 q2 q3 ⊢
      exact tmod_below (by omega) (by omega)
    · exact tmod_below (l1Byte_rng _ _ _).1 (by omega)
  · have h0 := of_decide_eq_true hn
    exact ⟨Int.le_refl _, .inr ⟨rfl, h0⟩⟩
def spec_DrawNonceOf (code : (List UInt8)) : Int × Int × Int :=
  match spec_l1New code with
    | (u1, u2) =>
      match spec_l1Below code u1 u2 6 with
        | (u3, u4, u5) =>
          match spec_l1Below code u4 u5 8 with
            | (u6, u7, u8) =>
              match spec_l1Below code u7 u8 900 with
                | (u9, u10, u11) =>
                  (u3, u6, u9)
end Go.Stp

namespace Go.Stp
open GoT (X k ok sh fa oa)
theorem RdL.bytes (G : GH) : ∀ (l : List UInt8), RdL G (l.map fun b => Value.int .u8 b.toNat) l
  | [] => rfl
  | _ :: l => ⟨(), _, rfl, All.nil, RdL.bytes G l⟩
end Go.Stp

namespace Go.Proofs.Ytdimfabadjfkiaa
open Go.Stp
set_option linter.unusedVariables false
set_option linter.unusedSimpArgs false
theorem f5 (w : World) (n : Nat) (code : (List UInt8)) (pcode : Option Addr) (ccode : Nat) (hpcode : RdSl (hp w) pcode ccode code) (hokcode : GoT.ok n code) :
    Does Try.prog 5 #[.slice pcode ((code).length) ccode] w emp (fun (rv : Value) (_ : World) => rv = .bool (laws_big code) ∧ True) := by
  refine WX.enter (tt := tt) (Γ := [(0, MF.rs .stb pcode ccode code)]) Try.func5 rfl (by kernel_rfl) rfl (allS_cons rfl hpcode allS_nil) ?_
  refine WX.run ttOk rfl ?_
  have hP1 : laws_big code = (decide ((((code).length : Nat) : Int) > 1048576)) := by simp only [laws_big, cond_true, cond_false]
  refine WX.ret ttOk rfl ?_
  intro w1 G bs hI hΓ
  rw [hP1]
  exact ⟨rfl, trivial⟩
theorem f7 (w : World) (n : Nat) (hn : n + 0 ≤ 9) (code : (List UInt8)) (pcode : Option Addr) (ccode : Nat) (hpcode : RdSl (hp w) pcode ccode code) (i : Int) (hq0 : 0 ≤ i) (hokcode : GoT.ok n code) (hoki : GoT.ok n i) :
    Does Try.prog 7 #[.slice pcode ((code).length) ccode, .int .i64 (i)] w emp (fun (rv : Value) (_ : World) => rv = .int .i64 ((laws_at code i)) ∧ GoT.ok n ((laws_at code i) : Int)) := by
  have hbP := bd_pos n
  have hbB := bd_big (n := n) (by omega)
  refine WX.enter (tt := tt) (Γ := [(0, MF.rs .stb pcode ccode code)]) Try.func7 rfl (by kernel_rfl) rfl (allS_cons rfl hpcode allS_nil) ?_
  refine WX.run ttOk rfl ?_
  refine WX.cases 8 rfl (fun h1 => ?_) (fun h1 => ?_)
  · skip
    have h1d := B.dt h1
    refine WX.run ttOk rfl ?_
    have r1 : -9223372036854775808 ≤ i ∧ i ≤ 9223372036854775807 := hoki
    refine WX.slot 10 (y := .v (.int .i64 (((i).toNat : Nat) : Int))) rfl (fun _ => congrArg (Value.int .i64) (show i = (((i).toNat : Nat) : Int) from by omega)) ?_
    have e1i : (i).toNat < (code).length := (by first | assumption | omega)
    obtain ⟨e1, e1h⟩ : ∃ e1, (code)[(i).toNat]? = some e1 := ⟨_, List.getElem?_eq_getElem e1i⟩
    refine WX.idx 0 ((i).toNat) ttOk rfl rfl rfl rfl rfl rfl rfl rfl rfl rfl e1i ?_
    rintro ad1 rfl
    refine WX.ldE 0 1 e1 ttOk rfl rfl rfl rfl rfl rfl rfl rfl e1h (fun _ => rfl) (fun _ => rfl) ?_
    rintro ⟨⟩
    refine WX.see rfl rfl rfl (fun _ hΓ => looks_ofU8 ttOk rfl rfl rfl rfl rfl rfl) ?_
    refine WX.run ttOk rfl ?_
    have hP1 : laws_at code i = ((e1).toNat : Int) := by simp only [laws_at, h1, e1h, cond_true, cond_false]
    have r2 : (e1).toNat < 256 := UInt8.toNat_lt _
    refine WX.ret ttOk rfl ?_
    intro w1 G bs hI hΓ
    rw [hP1]
    exact ⟨rfl, (show I64 ((e1).toNat : Int) from (by unfold I64; omega))⟩
  · skip
    have h1d := B.df h1
    refine WX.run ttOk rfl ?_
    refine WX.see rfl rfl rfl (fun _ hΓ => looks_wrap rfl rfl rfl rfl) ?_
    refine WX.run ttOk rfl ?_
    refine WX.see rfl rfl rfl (fun _ hΓ => looks_wrap rfl rfl rfl rfl) ?_
    refine WX.see rfl rfl rfl (fun _ hΓ => looks_wrap rfl rfl rfl rfl) ?_
    have r3 := tmod_rng (IntKind.i64.wrap ((IntKind.i64.wrap (i * 31)) + (IntKind.i64.wrap ((((code).length : Nat) : Int) * 7)))) (show (0 : Int) < 256 by omega)
    refine WX.see rfl rfl rfl (fun _ hΓ => looks_rem rfl rfl rfl (by decide)) ?_
    refine WX.run ttOk rfl ?_
    have hP2 : laws_at code i = (Int.tmod (IntKind.i64.wrap ((IntKind.i64.wrap (i * 31)) + (IntKind.i64.wrap ((((code).length : Nat) : Int) * 7)))) 256) := by simp only [laws_at, h1, cond_true, cond_false]
    have r4 : (code).length ≤ bd n := (okl hokcode).1
    have r5 : -9223372036854775808 ≤ i ∧ i ≤ 9223372036854775807 := hoki
    refine WX.ret ttOk rfl ?_
    intro w1 G bs hI hΓ
    rw [hP2]
    exact ⟨rfl, (show I64 (Int.tmod (IntKind.i64.wrap ((IntKind.i64.wrap (i * 31)) + (IntKind.i64.wrap ((((code).length : Nat) : Int) * 7)))) 256) from (by unfold I64; omega))⟩
theorem f34 (w : World) (n : Nat) (hn : n + 0 ≤ 9) (code : (List UInt8)) (pcode : Option Addr) (ccode : Nat) (hpcode : RdSl (hp w) pcode ccode code) (hokcode : GoT.ok n code) (o0_ : Int) (o1_ : Int) (hres : spec_l1New code = (o0_, o1_)) :
    Does Try.prog 34 #[.slice pcode ((code).length) ccode] w emp (Post w emp (fun b_ : Nat => .pointer (some ⟨b_, 0, none⟩)) (fun b_ => [MF.bx b_ 80 [.slice pcode ((code).length) ccode, .int .i64 (o0_), .int .i64 (o1_)]]) (NN (o0_) ∧ I64 (o1_))) := by
  have hbP := bd_pos n
  have hbB := bd_big (n := n) (by omega)
  refine WX.enter (tt := tt) (Γ := [(0, MF.rs .stb pcode ccode code)]) Try.func34 rfl (by kernel_rfl) rfl (allS_cons rfl hpcode allS_nil) ?_
  refine WX.run ttOk rfl ?_
  refine WX.see rfl rfl rfl (fun _ hΓ => looks_wrap rfl rfl rfl rfl) ?_
  refine WX.run ttOk rfl ?_
  have r1 : (code).length ≤ bd n := (okl hokcode).1
  refine WX.loop (ι := Int × Nat) ⟨fun | (h_, i) => (i ≤ (code).length) ∧ (-9223372036854775808 ≤ h_ ∧ h_ ≤ 9223372036854775807) ∧ (spec_l1New_L1 code 0 (IntKind.i64.wrap (192917 + (((code).length : Nat) : Int))) = spec_l1New_L1 ((code).drop i) i h_), fun | (h_, i) => (code).length - i, fun | (h_, i) => [(3, .v (.int .i64 (h_))), (4, .v (.int .i64 (((i : Nat) : Int)))), (0, .v (.slice pcode ((code).length) ccode))], fun | (h_, i) => [], fun | (h_, i) => [], fun | (h_, i) => [(0, MF.rs .stb pcode ccode code)]⟩ (IntKind.i64.wrap (192917 + (((code).length : Nat) : Int)), 0) ⟨(Nat.zero_le _), (i64_wrap _), rfl⟩
    (.cons rfl (.cons rfl (.cons rfl (.nil)))) .nil .nil [0] rfl ?_
  rintro ⟨h_, i⟩ hpre
  have hpre_ : (i ≤ (code).length) ∧ (-9223372036854775808 ≤ h_ ∧ h_ ≤ 9223372036854775807) ∧ (spec_l1New_L1 code 0 (IntKind.i64.wrap (192917 + (((code).length : Nat) : Int))) = spec_l1New_L1 ((code).drop i) i h_) := hpre
  clear hpre
  obtain ⟨v1, v2, v3⟩ := hpre_
  refine WX.run ttOk rfl ?_
  refine WX.cases 12 rfl (fun h1 => ?_) (fun h1 => ?_)
  · skip
    have h1d := B.dt h1
    have e1i : i < (code).length := (by omega)
    obtain ⟨e1, e1h⟩ : ∃ e1, (code)[i]? = some e1 := ⟨_, List.getElem?_eq_getElem e1i⟩
    refine WX.run ttOk rfl ?_
    refine WX.cases 15 rfl (fun h2 => ?_) (fun h2 => ?_)
    · skip
      have h2d := B.dt h2
      refine WX.run ttOk rfl ?_
      refine WX.see rfl rfl rfl (fun _ hΓ => looks_wrap rfl rfl rfl rfl) ?_
      refine WX.run ttOk rfl ?_
      refine WX.idx 0 i ttOk rfl rfl rfl rfl rfl rfl rfl rfl rfl rfl e1i ?_
      rintro ad1 rfl
      refine WX.ldE 0 1 e1 ttOk rfl rfl rfl rfl rfl rfl rfl rfl e1h (fun _ => rfl) (fun _ => rfl) ?_
      rintro ⟨⟩
      refine WX.see rfl rfl rfl (fun _ hΓ => looks_ofU8 ttOk rfl rfl rfl rfl rfl rfl) ?_
      refine WX.see rfl rfl rfl (fun _ hΓ => looks_wrap rfl rfl rfl rfl) ?_
      refine WX.see rfl rfl rfl (fun _ hΓ => looks_wrap rfl rfl rfl rfl) ?_
      refine WX.see rfl rfl rfl (fun _ hΓ => looks_bits rfl rfl rfl rfl) ?_
      refine WX.run ttOk rfl ?_
      refine WX.see rfl rfl rfl (fun _ hΓ => looks_arith rfl rfl rfl rfl (by unfold I64; first | omega | (simp only [List.length_take, List.length_drop] at *; omega) | (dsimp only; omega))) ?_
      refine WX.run ttOk rfl ?_
      exact WX.iter (bitO .and (IntKind.i64.wrap ((IntKind.i64.wrap ((IntKind.i64.wrap (h_ * 137)) + ((e1).toNat : Int))) + 11)) 1073741823, i + 1) ⟨(by omega), (bitO_I64 .and (IntKind.i64.wrap ((IntKind.i64.wrap ((IntKind.i64.wrap (h_ * 137)) + ((e1).toNat : Int))) + 11)) 1073741823), (by rw [v3, drop_get e1h]; simp only [spec_l1New_L1, h2, cond_true, cond_false])⟩ (by first | (dsimp only; omega) | omega) (.cons rfl (.cons rfl (.cons rfl (.nil)))) .nil .nil [0] rfl
    · skip
      have h2d := B.df h2
      refine WX.run ttOk rfl ?_
      have hX1 : spec_l1New_L1 code 0 (IntKind.i64.wrap (192917 + (((code).length : Nat) : Int))) = h_ := by rw [v3, drop_get e1h]; simp only [spec_l1New_L1, h2, cond_true, cond_false]
      have hP1 : spec_l1New code = (0, h_) := by simp only [spec_l1New, hX1, cond_true, cond_false]
      have hz1 := hP1.symm.trans hres
      obtain ⟨hz1, hz2⟩ := Prod.mk.inj hz1
      subst hz1
      subst hz2
      refine WX.retQ rfl ?_
      intro w1 G bs hI hΓ
      exact Post.ofL 31 [] (bs 31) hI hΓ rfl rfl rfl rfl (⟨(show NN 0 from by unfold NN; omega), v2⟩)
  · skip
    have h1d := B.df h1
    refine WX.run ttOk rfl ?_
    have hX2 : spec_l1New_L1 code 0 (IntKind.i64.wrap (192917 + (((code).length : Nat) : Int))) = h_ := by rw [v3, List.drop_eq_nil_of_le (show (code).length ≤ i by omega)]; simp only [spec_l1New_L1, cond_true, cond_false]
    have hP2 : spec_l1New code = (0, h_) := by simp only [spec_l1New, hX2, cond_true, cond_false]
    have hz1 := hP2.symm.trans hres
    obtain ⟨hz1, hz2⟩ := Prod.mk.inj hz1
    subst hz1
    subst hz2
    refine WX.retQ rfl ?_
    intro w1 G bs hI hΓ
    exact Post.ofL 31 [] (bs 31) hI hΓ rfl rfl rfl rfl (⟨(show NN 0 from by unfold NN; omega), v2⟩)
theorem f66 (w : World) (n : Nat) (hn : n + 0 ≤ 9) (H : GH) (hH : Le H (hp w)) (bc_ : Nat) (c_b : (List UInt8)) (pc_b : Option Addr) (cc_b : Nat) (hpc_b : RdSl (cut (hp w) H) pc_b cc_b c_b) (c_i : Int) (c_h : Int) (hown : Sep H [MF.bx bc_ 80 [.slice pc_b ((c_b).length) cc_b, .int .i64 (c_i), .int .i64 (c_h)]]) (hokc_b : GoT.ok n c_b) (hokc_i : NN c_i) (hokc_h : GoT.ok n c_h) (o0_ : Int) (o1_ : Int) (o2_ : Int) (hres : spec_l1Byte c_b c_i c_h = (o0_, o1_, o2_)) :
    Does Try.prog 66 #[.pointer (some ⟨bc_, 0, none⟩)] w H (Post w H (fun _ : Unit => .int .i64 (o0_)) (fun _ => [MF.bx bc_ 80 [.slice pc_b ((c_b).length) cc_b, .int .i64 (o1_), .int .i64 (o2_)]]) (GoT.ok n (o0_ : Int) ∧ NN (o1_) ∧ I64 (o2_))) := by
  have hbP := bd_pos n
  have hbB := bd_big (n := n) (by omega)
  have hc_bz : (c_b).length ≤ bd n := (okl hokc_b).1
  refine WX.enterP (tt := tt) (Γ := [(0, MF.rs .stb pc_b cc_b c_b)]) 1 Try.func66 rfl (by kernel_rfl) rfl (allS_cons rfl hpc_b allS_nil) hH hown (fun f hf => by cases hf) rfl ?_
  refine WX.run ttOk rfl ?_
  refine WX.see rfl rfl rfl (fun _ hΓ => looks_wrap rfl rfl rfl rfl) ?_
  refine WX.see rfl rfl rfl (fun _ hΓ => looks_wrap rfl rfl rfl rfl) ?_
  refine WX.run ttOk rfl ?_
  refine WX.draw [] mixed ?_
  intro bs G0 hΓ0
  refine DX.takes (fuel := 9) ttOk [(0, true), (1, true), (2, true), (3, false)] (by kernel_rfl) rfl ?_
  refine DX.see 4 (by kernel_rfl) rfl rfl rfl rfl (looks_shr rfl rfl rfl (by decide)) ?_
  refine DX.takes (fuel := 4) ttOk [(5, true), (6, true), (7, true), (8, false)] (by kernel_rfl) rfl ?_
  refine DX.see 9 (by kernel_rfl) rfl rfl rfl rfl (looks_shr rfl rfl rfl (by decide)) ?_
  refine DX.see 10 (by kernel_rfl) rfl rfl rfl rfl (looks_bits rfl rfl rfl rfl) ?_
  refine DX.see 11 (by kernel_rfl) rfl rfl rfl rfl (looks_bits rfl rfl rfl rfl) ?_
  refine DX.takes (fuel := 0) ttOk [(12, true)] (by kernel_rfl) rfl ?_
  refine DX.tail2 [] rfl rfl (by kernel_rfl) ?_
  refine WX.run ttOk rfl ?_
  refine WX.draw [] mixed ?_
  intro bs G0 hΓ0
  refine DX.takes (fuel := 0) ttOk [(0, true), (1, true), (2, true), (3, false), (4, true), (5, true), (6, true), (7, false), (8, true), (9, true)] (by kernel_rfl) rfl ?_
  refine DX.tail2 [] rfl rfl (by kernel_rfl) ?_
  refine WX.run ttOk rfl ?_
  refine WX.cases 34 rfl (fun h1 => ?_) (fun h1 => ?_)
  · skip
    have h1d := B.dt h1
    refine WX.run ttOk rfl ?_
    refine WX.draw [] mixed ?_
    intro bs G0 hΓ0
    refine DX.takes (fuel := 6) ttOk [(0, true), (1, true), (2, true), (3, true), (4, false), (5, true), (6, true), (7, true), (8, false)] (by kernel_rfl) rfl ?_
    have r1 : 0 ≤ c_i ∧ c_i ≤ 9223372036854775807 := hokc_i
    refine DX.slot 43 (y := .v (.int .i64 (((c_i).toNat : Nat) : Int))) rfl (fun _ => congrArg (Value.int .i64) (show c_i = (((c_i).toNat : Nat) : Int) from by omega)) ?_
    have e1i : (c_i).toNat < (c_b).length := (by first | assumption | omega)
    obtain ⟨e1, e1h⟩ : ∃ e1, (c_b)[(c_i).toNat]? = some e1 := ⟨_, List.getElem?_eq_getElem e1i⟩
    refine DX.idx 9 0 ((c_i).toNat) ttOk hΓ0 (by kernel_rfl) rfl rfl rfl rfl rfl rfl rfl rfl rfl rfl rfl e1i ?_
    rintro ad1 rfl
    refine DX.ldE 10 0 2 e1 ttOk hΓ0 (by kernel_rfl) rfl rfl rfl rfl rfl rfl rfl rfl e1h (fun _ => rfl) (fun _ => rfl) ?_
    rintro ⟨⟩
    refine DX.see 11 (by kernel_rfl) rfl rfl rfl rfl (looks_ofU8 ttOk rfl rfl rfl rfl rfl rfl) ?_
    refine DX.seeP 12 (by kernel_rfl) rfl rfl rfl rfl (looksP_wrap rfl rfl rfl rfl) ?_
    refine DX.see 13 (by kernel_rfl) rfl rfl rfl rfl (looks_bits rfl rfl rfl rfl) ?_
    refine DX.takes (fuel := 0) ttOk [(14, true)] (by kernel_rfl) rfl ?_
    refine DX.tail2 [] rfl rfl (by kernel_rfl) ?_
    refine WX.run ttOk rfl ?_
    refine WX.see rfl rfl rfl (fun _ hΓ => looks_arith rfl rfl rfl rfl (by unfold I64; first | omega | (simp only [List.length_take, List.length_drop] at *; omega) | (dsimp only; omega))) ?_
    refine WX.run ttOk rfl ?_
    have hP1 : spec_l1Byte c_b c_i c_h = (bitO .and (IntKind.i64.wrap ((bitO .and (bitO .xor (Int.fdiv (IntKind.i64.wrap ((IntKind.i64.wrap (c_h * 6364136223846793005)) + 1442695040888963407)) (2 ^ (min (Int.toNat (33 : Int)) 64))) (Int.fdiv (IntKind.i64.wrap ((IntKind.i64.wrap (c_h * 6364136223846793005)) + 1442695040888963407)) (2 ^ (min (Int.toNat (47 : Int)) 64)))) 255) + ((e1).toNat : Int))) 255, c_i + 1, IntKind.i64.wrap ((IntKind.i64.wrap (c_h * 6364136223846793005)) + 1442695040888963407)) := by simp only [spec_l1Byte, h1, e1h, cond_true, cond_false]
    have hz1 := hP1.symm.trans hres
    obtain ⟨hz1, hz2⟩ := Prod.mk.inj hz1
    obtain ⟨hz2, hz3⟩ := Prod.mk.inj hz2
    subst hz1
    subst hz2
    subst hz3
    refine WX.ret ttOk rfl ?_
    intro w1 G bs hI hΓ
    exact Post.ofL 999 [] () hI hΓ rfl rfl rfl (by rw [hI.pin _ rfl]) (⟨(show I64 (bitO .and (IntKind.i64.wrap ((bitO .and (bitO .xor (Int.fdiv (IntKind.i64.wrap ((IntKind.i64.wrap (c_h * 6364136223846793005)) + 1442695040888963407)) (2 ^ (min (Int.toNat (33 : Int)) 64))) (Int.fdiv (IntKind.i64.wrap ((IntKind.i64.wrap (c_h * 6364136223846793005)) + 1442695040888963407)) (2 ^ (min (Int.toNat (47 : Int)) 64)))) 255) + ((e1).toNat : Int))) 255) from bitO_I64 _ _ _), ⟨(show NN (c_i + 1) from by unfold NN; omega), (i64_wrap _)⟩⟩)
  · skip
    have h1d := B.df h1
    refine WX.run ttOk rfl ?_
    have hP2 : spec_l1Byte c_b c_i c_h = (bitO .and (bitO .xor (Int.fdiv (IntKind.i64.wrap ((IntKind.i64.wrap (c_h * 6364136223846793005)) + 1442695040888963407)) (2 ^ (min (Int.toNat (33 : Int)) 64))) (Int.fdiv (IntKind.i64.wrap ((IntKind.i64.wrap (c_h * 6364136223846793005)) + 1442695040888963407)) (2 ^ (min (Int.toNat (47 : Int)) 64)))) 255, c_i, IntKind.i64.wrap ((IntKind.i64.wrap (c_h * 6364136223846793005)) + 1442695040888963407)) := by simp only [spec_l1Byte, h1, cond_true, cond_false]
    have hz1 := hP2.symm.trans hres
    obtain ⟨hz1, hz2⟩ := Prod.mk.inj hz1
    obtain ⟨hz2, hz3⟩ := Prod.mk.inj hz2
    subst hz1
    subst hz2
    subst hz3
    refine WX.ret ttOk rfl ?_
    intro w1 G bs hI hΓ
    exact Post.ofL 999 [] () hI hΓ rfl rfl rfl (by rw [hI.pin _ rfl]) (⟨(show I64 (bitO .and (bitO .xor (Int.fdiv (IntKind.i64.wrap ((IntKind.i64.wrap (c_h * 6364136223846793005)) + 1442695040888963407)) (2 ^ (min (Int.toNat (33 : Int)) 64))) (Int.fdiv (IntKind.i64.wrap ((IntKind.i64.wrap (c_h * 6364136223846793005)) + 1442695040888963407)) (2 ^ (min (Int.toNat (47 : Int)) 64)))) 255) from bitO_I64 _ _ _), ⟨hokc_i, (i64_wrap _)⟩⟩)
theorem f35 (w : World) (n : Nat) (hn : n + 0 ≤ 9) (H : GH) (hH : Le H (hp w)) (bc_ : Nat) (c_b : (List UInt8)) (pc_b : Option Addr) (cc_b : Nat) (hpc_b : RdSl (cut (hp w) H) pc_b cc_b c_b) (c_i : Int) (c_h : Int) (n_ : Int) (hown : Sep H [MF.bx bc_ 80 [.slice pc_b ((c_b).length) cc_b, .int .i64 (c_i), .int .i64 (c_h)]]) (hokc_b : GoT.ok n c_b) (hokc_i : NN c_i) (hokc_h : GoT.ok n c_h) (hokn_ : GoT.ok n n_) (o0_ : Int) (o1_ : Int) (o2_ : Int) (hres : spec_l1Below c_b c_i c_h n_ = (o0_, o1_, o2_)) :
    Does Try.prog 35 #[.pointer (some ⟨bc_, 0, none⟩), .int .i64 (n_)] w H (Post w H (fun _ : Unit => .int .i64 (o0_)) (fun _ => [MF.bx bc_ 80 [.slice pc_b ((c_b).length) cc_b, .int .i64 (o1_), .int .i64 (o2_)]]) (GoT.ok n (o0_ : Int) ∧ NN (o1_) ∧ I64 (o2_))) := by
  have hbP := bd_pos n
  have hbB := bd_big (n := n) (by omega)
  have hc_bz : (c_b).length ≤ bd n := (okl hokc_b).1
  refine WX.enterP (tt := tt) (Γ := [(0, MF.rs .stb pc_b cc_b c_b)]) 1 Try.func35 rfl (by kernel_rfl) rfl (allS_cons rfl hpc_b allS_nil) hH hown (fun f hf => by cases hf) rfl ?_
  refine WX.run ttOk rfl ?_
  refine WX.cases 9 rfl (fun h1 => ?_) (fun h1 => ?_)
  · skip
    have h1d := B.dt h1
    refine WX.run ttOk rfl ?_
    have hP1 : spec_l1Below c_b c_i c_h n_ = (0, c_i, c_h) := by simp only [spec_l1Below, h1, cond_true, cond_false]
    have hz1 := hP1.symm.trans hres
    obtain ⟨hz1, hz2⟩ := Prod.mk.inj hz1
    obtain ⟨hz2, hz3⟩ := Prod.mk.inj hz2
    subst hz1
    subst hz2
    subst hz3
    refine WX.ret ttOk rfl ?_
    intro w1 G bs hI hΓ
    exact Post.ofL 999 [] () hI hΓ rfl rfl rfl (by rw [hI.pin _ rfl]) (⟨(show I64 0 from (by unfold I64; omega)), ⟨hokc_i, hokc_h⟩⟩)
  · skip
    have h1d := B.df h1
    refine WX.run ttOk rfl ?_
    refine WX.cases 11 rfl (fun h2 => ?_) (fun h2 => ?_)
    · skip
      have h2d := B.dt h2
      refine WX.run ttOk rfl ?_
      obtain ⟨⟨u1, u2, u3⟩, hu1⟩ : ∃ r_, spec_l1Byte c_b c_i c_h = r_ := ⟨_, rfl⟩
      refine WX.callP (ds := fun _ => [])  999 2 rfl (fun _ _ _ => All.nil) (fun _ f hf => by cases hf) rfl rfl rfl rfl rfl (fun _ => rfl) rfl (fun w G bs H hI hH hs hΓ => f66 w n (by omega) H hH (bs 999) c_b pc_b cc_b (hΓ.get 0 rfl) c_i c_h hs hokc_b hokc_i hokc_h u1 u2 u3 hu1) (fun _ => rfl) (fun _ => rfl) ?_
      rintro ⟨⟩ hq1
      have q1 := l1Byte_rng c_b c_i c_h
      rw [hu1] at q1
      try dsimp only at q1
      refine WX.run ttOk rfl ?_
      have r1 := tmod_rng u1 (show (0 : Int) < n_ by omega)
      refine WX.see rfl rfl rfl (fun _ hΓ => looks_rem rfl rfl rfl (by omega)) ?_
      refine WX.run ttOk rfl ?_
      have hP2 : spec_l1Below c_b c_i c_h n_ = (Int.tmod u1 n_, u2, u3) := by simp only [spec_l1Below, h1, h2, hu1, cond_true, cond_false]
      have r2 : -9223372036854775808 ≤ n_ ∧ n_ ≤ 9223372036854775807 := hokn_
      have r3 : -9223372036854775808 ≤ u1 ∧ u1 ≤ 9223372036854775807 := hq1.1
      have hz1 := hP2.symm.trans hres
      obtain ⟨hz1, hz2⟩ := Prod.mk.inj hz1
      obtain ⟨hz2, hz3⟩ := Prod.mk.inj hz2
      subst hz1
      subst hz2
      subst hz3
      refine WX.ret ttOk rfl ?_
      intro w1 G bs hI hΓ
      exact Post.ofL 999 [] () hI hΓ rfl rfl rfl (by rw [hI.pin _ rfl]) (⟨(show I64 (Int.tmod u1 n_) from (by unfold I64; omega)), ⟨hq1.2.1, hq1.2.2⟩⟩)
    · skip
      have h2d := B.df h2
      refine WX.run ttOk rfl ?_
      obtain ⟨⟨u4, u5, u6⟩, hu2⟩ : ∃ r_, spec_l1Byte c_b c_i c_h = r_ := ⟨_, rfl⟩
      refine WX.callP (ds := fun _ => [])  999 3 rfl (fun _ _ _ => All.nil) (fun _ f hf => by cases hf) rfl rfl rfl rfl rfl (fun _ => rfl) rfl (fun w G bs H hI hH hs hΓ => f66 w n (by omega) H hH (bs 999) c_b pc_b cc_b (hΓ.get 0 rfl) c_i c_h hs hokc_b hokc_i hokc_h u4 u5 u6 hu2) (fun _ => rfl) (fun _ => rfl) ?_
      rintro ⟨⟩ hq2
      have q2 := l1Byte_rng c_b c_i c_h
      rw [hu2] at q2
      try dsimp only at q2
      refine WX.run ttOk rfl ?_
      obtain ⟨⟨u7, u8, u9⟩, hu3⟩ : ∃ r_, spec_l1Byte c_b u5 u6 = r_ := ⟨_, rfl⟩
      refine WX.callP (ds := fun _ => [])  999 4 rfl (fun _ _ _ => All.nil) (fun _ f hf => by cases hf) rfl rfl rfl rfl rfl (fun _ => rfl) rfl (fun w G bs H hI hH hs hΓ => f66 w n (by omega) H hH (bs 999) c_b pc_b cc_b (hΓ.get 0 rfl) u5 u6 hs hokc_b hq2.2.1 hq2.2.2 u7 u8 u9 hu3) (fun _ => rfl) (fun _ => rfl) ?_
      rintro ⟨⟩ hq3
      have q3 := l1Byte_rng c_b u5 u6
      rw [hu3] at q3
      try dsimp only at q3
      refine WX.run ttOk rfl ?_
      obtain ⟨⟨u10, u11, u12⟩, hu4⟩ : ∃ r_, spec_l1Byte c_b u8 u9 = r_ := ⟨_, rfl⟩
      refine WX.callP (ds := fun _ => [])  999 5 rfl (fun _ _ _ => All.nil) (fun _ f hf => by cases hf) rfl rfl rfl rfl rfl (fun _ => rfl) rfl (fun w G bs H hI hH hs hΓ => f66 w n (by omega) H hH (bs 999) c_b pc_b cc_b (hΓ.get 0 rfl) u8 u9 hs hokc_b hq3.2.1 hq3.2.2 u10 u11 u12 hu4) (fun _ => rfl) (fun _ => rfl) ?_
      rintro ⟨⟩ hq4
      have q4 := l1Byte_rng c_b u8 u9
      rw [hu4] at q4
      try dsimp only at q4
      refine WX.run ttOk rfl ?_
      have r4 : -9223372036854775808 ≤ u4 ∧ u4 ≤ 9223372036854775807 := hq2.1
      refine WX.see rfl rfl rfl (fun _ hΓ => looks_arith rfl rfl rfl rfl (by unfold I64; first | omega | (simp only [List.length_take, List.length_drop] at *; omega) | (dsimp only; omega))) ?_
      refine WX.run ttOk rfl ?_
      have r5 : -9223372036854775808 ≤ u7 ∧ u7 ≤ 9223372036854775807 := hq3.1
      refine WX.see rfl rfl rfl (fun _ hΓ => looks_arith rfl rfl rfl rfl (by unfold I64; first | omega | (simp only [List.length_take, List.length_drop] at *; omega) | (dsimp only; omega))) ?_
      refine WX.see rfl rfl rfl (fun _ hΓ => looks_arith rfl rfl rfl rfl (by unfold I64; first | omega | (simp only [List.length_take, List.length_drop] at *; omega) | (dsimp only; omega))) ?_
      refine WX.run ttOk rfl ?_
      have r6 : -9223372036854775808 ≤ u10 ∧ u10 ≤ 9223372036854775807 := hq4.1
      refine WX.see rfl rfl rfl (fun _ hΓ => looks_arith rfl rfl rfl rfl (by unfold I64; first | omega | (simp only [List.length_take, List.length_drop] at *; omega) | (dsimp only; omega))) ?_
      refine WX.run ttOk rfl ?_
      have r7 := tmod_rng (((u4 * 65536) + (u7 * 256)) + u10) (show (0 : Int) < n_ by omega)
      refine WX.see rfl rfl rfl (fun _ hΓ => looks_rem rfl rfl rfl (by omega)) ?_
      refine WX.run ttOk rfl ?_
      have hP3 : spec_l1Below c_b c_i c_h n_ = (Int.tmod (((u4 * 65536) + (u7 * 256)) + u10) n_, u11, u12) := by simp only [spec_l1Below, h1, h2, hu2, hu3, hu4, cond_true, cond_false]
      have r8 : -9223372036854775808 ≤ n_ ∧ n_ ≤ 9223372036854775807 := hokn_
      have hz1 := hP3.symm.trans hres
      obtain ⟨hz1, hz2⟩ := Prod.mk.inj hz1
      obtain ⟨hz2, hz3⟩ := Prod.mk.inj hz2
      subst hz1
      subst hz2
      subst hz3
      refine WX.ret ttOk rfl ?_
      intro w1 G bs hI hΓ
      exact Post.ofL 999 [] () hI hΓ rfl rfl rfl (by rw [hI.pin _ rfl]) (⟨(show I64 (Int.tmod (((u4 * 65536) + (u7 * 256)) + u10) n_) from (by unfold I64; omega)), ⟨hq4.2.1, hq4.2.2⟩⟩)
theorem f6 (w : World) (n : Nat) (hn : n + 0 ≤ 9) (code : (List UInt8)) (pcode : Option Addr) (ccode : Nat) (hpcode : RdSl (hp w) pcode ccode code) (hokcode : GoT.ok n code) :
    Does Try.prog 6 #[.slice pcode ((code).length) ccode] w emp (fun (rv : Value) (_ : World) => rv = .tuple #[.int .i64 ((spec_DrawNonceOf code).1), .int .i64 ((spec_DrawNonceOf code).2.1), .int .i64 ((spec_DrawNonceOf code).2.2)] ∧ GoT.ok n ((spec_DrawNonceOf code).1 : Int) ∧ GoT.ok n ((spec_DrawNonceOf code).2.1 : Int) ∧ GoT.ok n ((spec_DrawNonceOf code).2.2 : Int)) := by
  have hbP := bd_pos n
  have hbB := bd_big (n := n) (by omega)
  refine WX.enter (tt := tt) (Γ := [(0, MF.rs .stb pcode ccode code)]) Try.func6 rfl (by kernel_rfl) rfl (allS_cons rfl hpcode allS_nil) ?_
  refine WX.run ttOk rfl ?_
  obtain ⟨⟨u1, u2⟩, hu1⟩ : ∃ r_, spec_l1New code = r_ := ⟨_, rfl⟩
  refine WX.callF (ds := fun _ => []) 1 (fun _ _ _ => All.nil) (fun _ f hf => by cases hf) rfl rfl rfl rfl rfl (fun _ => rfl) rfl (fun w G bs hI hΓ => f34 w n (by omega) code pcode ccode (hΓ.get 0 rfl) hokcode u1 u2 hu1) (fun _ => rfl) (fun _ => rfl) ?_
  rintro bn1 hq1
  refine WX.adopt 7 1 rfl rfl rfl ?_
  refine WX.run ttOk rfl ?_
  obtain ⟨⟨u3, u4, u5⟩, hu2⟩ : ∃ r_, spec_l1Below code u1 u2 6 = r_ := ⟨_, rfl⟩
  refine WX.callP (ds := fun _ => [])  7 2 rfl (fun _ _ _ => All.nil) (fun _ f hf => by cases hf) rfl rfl rfl rfl rfl (fun _ => rfl) rfl (fun w G bs H hI hH hs hΓ => f35 w n (by omega) H hH (bs 7) code pcode ccode (hΓ.get 0 rfl) u1 u2 6 hs hokcode hq1.1 hq1.2 (show I64 6 from (by unfold I64; omega)) u3 u4 u5 hu2) (fun _ => rfl) (fun _ => rfl) ?_
  rintro ⟨⟩ hq2
  have q1 := l1Below_rng code u1 u2 6
  rw [hu2] at q1
  try dsimp only at q1
  refine WX.run ttOk rfl ?_
  obtain ⟨⟨u6, u7, u8⟩, hu3⟩ : ∃ r_, spec_l1Below code u4 u5 8 = r_ := ⟨_, rfl⟩
  refine WX.callP (ds := fun _ => [])  7 3 rfl (fun _ _ _ => All.nil) (fun _ f hf => by cases hf) rfl rfl rfl rfl rfl (fun _ => rfl) rfl (fun w G bs H hI hH hs hΓ => f35 w n (by omega) H hH (bs 7) code pcode ccode (hΓ.get 0 rfl) u4 u5 8 hs hokcode hq2.2.1 hq2.2.2 (show I64 8 from (by unfold I64; omega)) u6 u7 u8 hu3) (fun _ => rfl) (fun _ => rfl) ?_
  rintro ⟨⟩ hq3
  have q2 := l1Below_rng code u4 u5 8
  rw [hu3] at q2
  try dsimp only at q2
  refine WX.run ttOk rfl ?_
  obtain ⟨⟨u9, u10, u11⟩, hu4⟩ : ∃ r_, spec_l1Below code u7 u8 900 = r_ := ⟨_, rfl⟩
  refine WX.callP (ds := fun _ => [])  7 4 rfl (fun _ _ _ => All.nil) (fun _ f hf => by cases hf) rfl rfl rfl rfl rfl (fun _ => rfl) rfl (fun w G bs H hI hH hs hΓ => f35 w n (by omega) H hH (bs 7) code pcode ccode (hΓ.get 0 rfl) u7 u8 900 hs hokcode hq3.2.1 hq3.2.2 (show I64 900 from (by unfold I64; omega)) u9 u10 u11 hu4) (fun _ => rfl) (fun _ => rfl) ?_
  rintro ⟨⟩ hq4
  have q3 := l1Below_rng code u7 u8 900
  rw [hu4] at q3
  try dsimp only at q3
  refine WX.run ttOk rfl ?_
  have hP1 : spec_DrawNonceOf code = (u3, u6, u9) := by simp only [spec_DrawNonceOf, hu1, hu2, hu3, hu4, cond_true, cond_false]
  refine WX.ret ttOk rfl ?_
  intro w1 G bs hI hΓ
  rw [hP1]
  exact ⟨rfl, ⟨hq2.1, ⟨hq3.1, hq4.1⟩⟩⟩
end Go.Proofs.Ytdimfabadjfkiaa

namespace Go.Stp
set_option linter.unusedVariables false
set_option linter.unusedSimpArgs false
def laws_FnNonces (code : (List UInt8)) : Bool :=
  bif (laws_big code) then
    true
  else
    bif ((spec_DrawNonceOf code).1 == Int.tmod (laws_at code 4) 6) then
      bif ((spec_DrawNonceOf code).2.1 == Int.tmod (laws_at code 5) 8) then
        bif (((impl_NonceOf ((spec_DrawNonceOf code).1) ((spec_DrawNonceOf code).2.1) ((spec_DrawNonceOf code).2.2)) == (impl_NonceOf (Int.tmod (laws_at code 4) 6) (Int.tmod (laws_at code 5) 8) (IntKind.i64.wrap ((laws_at code 6) * 3)))) == ((spec_DrawNonceOf code).2.2 == IntKind.i64.wrap ((laws_at code 6) * 3))) then
          bif decide ((impl_NonceOf ((spec_DrawNonceOf code).1) ((spec_DrawNonceOf code).2.1) ((spec_DrawNonceOf code).2.2)) < 700000) then
            (decide ((impl_NonceOf ((spec_DrawNonceOf code).1) ((spec_DrawNonceOf code).2.1) ((spec_DrawNonceOf code).2.2)) ≥ 0))
          else
            false
        else
          false
      else
        bif (((impl_NonceOf ((spec_DrawNonceOf code).1) ((spec_DrawNonceOf code).2.1) ((spec_DrawNonceOf code).2.2)) == (impl_NonceOf (Int.tmod (laws_at code 4) 6) (Int.tmod (laws_at code 5) 8) (IntKind.i64.wrap ((laws_at code 6) * 3)))) == false) then
          bif decide ((impl_NonceOf ((spec_DrawNonceOf code).1) ((spec_DrawNonceOf code).2.1) ((spec_DrawNonceOf code).2.2)) < 700000) then
            (decide ((impl_NonceOf ((spec_DrawNonceOf code).1) ((spec_DrawNonceOf code).2.1) ((spec_DrawNonceOf code).2.2)) ≥ 0))
          else
            false
        else
          false
    else
      bif (((impl_NonceOf ((spec_DrawNonceOf code).1) ((spec_DrawNonceOf code).2.1) ((spec_DrawNonceOf code).2.2)) == (impl_NonceOf (Int.tmod (laws_at code 4) 6) (Int.tmod (laws_at code 5) 8) (IntKind.i64.wrap ((laws_at code 6) * 3)))) == false) then
        bif decide ((impl_NonceOf ((spec_DrawNonceOf code).1) ((spec_DrawNonceOf code).2.1) ((spec_DrawNonceOf code).2.2)) < 700000) then
          (decide ((impl_NonceOf ((spec_DrawNonceOf code).1) ((spec_DrawNonceOf code).2.1) ((spec_DrawNonceOf code).2.2)) ≥ 0))
        else
          false
      else
        false
end Go.Stp

namespace Go.Proofs.Ytdimfabadjfkiaa
open Go.Stp
set_option linter.unusedVariables false
set_option linter.unusedSimpArgs false
theorem f3 (w : World) (n : Nat) (hn : n + 0 ≤ 9) (code : (List UInt8)) (pcode : Option Addr) (ccode : Nat) (hpcode : RdSl (hp w) pcode ccode code) (hokcode : GoT.ok 10 code) :
    Does Try.prog 3 #[.slice pcode ((code).length) ccode] w emp (fun (rv : Value) (_ : World) => rv = .bool (laws_FnNonces code) ∧ True) := by
  have hbP := bd_pos n
  have hbB := bd_big (n := n) (by omega)
  refine WX.enter (tt := tt) (Γ := [(0, MF.rs .stb pcode ccode code)]) Try.func3 rfl (by kernel_rfl) rfl (allS_cons rfl hpcode allS_nil) ?_
  refine WX.run ttOk rfl ?_
  refine WX.callV rfl rfl rfl rfl rfl (fun _ => rfl) rfl (fun w G bs hI hΓ => f5 w 10 code pcode ccode (hΓ.get 0 rfl) hokcode) ?_
  intro hq1
  refine WX.run ttOk rfl ?_
  refine WX.cases 10 rfl (fun h1 => ?_) (fun h1 => ?_)
  · skip
    refine WX.run ttOk rfl ?_
    have hP1 : laws_FnNonces code = true := by simp only [laws_FnNonces, h1, cond_true, cond_false]
    refine WX.ret ttOk rfl ?_
    intro w1 G bs hI hΓ
    rw [hP1]
    exact ⟨rfl, trivial⟩
  · skip
    have hk1l : ¬ ((((code).length : Nat) : Int) > 1048576) := of_decide_eq_false (show decide ((((code).length : Nat) : Int) > 1048576) = false from h1)
    have hk1 : GoT.ok n code := okl_mk (show (code).length ≤ bd n by omega) (fun _ _ => trivial)
    refine WX.run ttOk rfl ?_
    refine WX.callV rfl rfl rfl rfl rfl (fun _ => rfl) rfl (fun w G bs hI hΓ => f6 w n (by omega) code pcode ccode (hΓ.get 0 rfl) hk1) ?_
    intro hq2
    refine WX.run ttOk rfl ?_
    refine WX.callV rfl rfl rfl rfl rfl (fun _ => rfl) rfl (fun w G bs hI hΓ => f7 w n (by omega) code pcode ccode (hΓ.get 0 rfl) 4 (by first | assumption | omega) hk1 (show I64 4 from (by unfold I64; omega))) ?_
    intro hq3
    have r1 := tmod_rng (laws_at code 4) (show (0 : Int) < 6 by omega)
    refine WX.see rfl rfl rfl (fun _ hΓ => looks_rem rfl rfl rfl (by decide)) ?_
    refine WX.run ttOk rfl ?_
    refine WX.callV rfl rfl rfl rfl rfl (fun _ => rfl) rfl (fun w G bs hI hΓ => f7 w n (by omega) code pcode ccode (hΓ.get 0 rfl) 5 (by first | assumption | omega) hk1 (show I64 5 from (by unfold I64; omega))) ?_
    intro hq4
    have r2 := tmod_rng (laws_at code 5) (show (0 : Int) < 8 by omega)
    refine WX.see rfl rfl rfl (fun _ hΓ => looks_rem rfl rfl rfl (by decide)) ?_
    refine WX.run ttOk rfl ?_
    refine WX.callV rfl rfl rfl rfl rfl (fun _ => rfl) rfl (fun w G bs hI hΓ => f7 w n (by omega) code pcode ccode (hΓ.get 0 rfl) 6 (by first | assumption | omega) hk1 (show I64 6 from (by unfold I64; omega))) ?_
    intro hq5
    refine WX.see rfl rfl rfl (fun _ hΓ => looks_wrap rfl rfl rfl rfl) ?_
    refine WX.run ttOk rfl ?_
    refine WX.callV rfl rfl rfl rfl rfl (fun _ => rfl) rfl (fun w G bs hI hΓ => f8 w n (by omega) ((spec_DrawNonceOf code).1) ((spec_DrawNonceOf code).2.1) ((spec_DrawNonceOf code).2.2) hq2.1 hq2.2.1 hq2.2.2) ?_
    intro hq6
    refine WX.run ttOk rfl ?_
    have r3 : (code).length ≤ bd n := (okl hk1).1
    have r4 : -9223372036854775808 ≤ (laws_at code 4) ∧ (laws_at code 4) ≤ 9223372036854775807 := hq3
    have r5 : -9223372036854775808 ≤ (laws_at code 5) ∧ (laws_at code 5) ≤ 9223372036854775807 := hq4
    refine WX.callV rfl rfl rfl rfl rfl (fun _ => rfl) rfl (fun w G bs hI hΓ => f8 w n (by omega) (Int.tmod (laws_at code 4) 6) (Int.tmod (laws_at code 5) 8) (IntKind.i64.wrap ((laws_at code 6) * 3)) (show I64 (Int.tmod (laws_at code 4) 6) from (by unfold I64; omega)) (show I64 (Int.tmod (laws_at code 5) 8) from (by unfold I64; omega)) (i64_wrap _)) ?_
    intro hq7
    refine WX.run ttOk rfl ?_
    refine WX.cases 38 rfl (fun h2 => ?_) (fun h2 => ?_)
    · skip
      have h2d := B.et h2
      refine WX.run ttOk rfl ?_
      refine WX.cases 43 rfl (fun h3 => ?_) (fun h3 => ?_)
      · skip
        have h3d := B.et h3
        refine WX.run ttOk rfl ?_
        refine WX.see rfl rfl rfl (fun _ hΓ => looks_beq ttOk rfl rfl rfl rfl rfl rfl) ?_
        refine WX.run ttOk rfl ?_
        refine WX.cases 49 rfl (fun h4 => ?_) (fun h4 => ?_)
        · skip
          refine WX.run ttOk rfl ?_
          refine WX.callV rfl rfl rfl rfl rfl (fun _ => rfl) rfl (fun w G bs hI hΓ => f8 w n (by omega) ((spec_DrawNonceOf code).1) ((spec_DrawNonceOf code).2.1) ((spec_DrawNonceOf code).2.2) hq2.1 hq2.2.1 hq2.2.2) ?_
          intro hq8
          refine WX.run ttOk rfl ?_
          refine WX.cases 56 rfl (fun h5 => ?_) (fun h5 => ?_)
          · skip
            have h5d := B.dt h5
            refine WX.run ttOk rfl ?_
            refine WX.callV rfl rfl rfl rfl rfl (fun _ => rfl) rfl (fun w G bs hI hΓ => f8 w n (by omega) ((spec_DrawNonceOf code).1) ((spec_DrawNonceOf code).2.1) ((spec_DrawNonceOf code).2.2) hq2.1 hq2.2.1 hq2.2.2) ?_
            intro hq9
            refine WX.run ttOk rfl ?_
            have hP2 : laws_FnNonces code = (decide ((impl_NonceOf ((spec_DrawNonceOf code).1) ((spec_DrawNonceOf code).2.1) ((spec_DrawNonceOf code).2.2)) ≥ 0)) := by simp only [laws_FnNonces, h1, h2, h3, h4, h5, cond_true, cond_false]
            refine WX.ret ttOk rfl ?_
            intro w1 G bs hI hΓ
            rw [hP2]
            exact ⟨rfl, trivial⟩
          · skip
            have h5d := B.df h5
            refine WX.run ttOk rfl ?_
            have hP3 : laws_FnNonces code = false := by simp only [laws_FnNonces, h1, h2, h3, h4, h5, cond_true, cond_false]
            refine WX.ret ttOk rfl ?_
            intro w1 G bs hI hΓ
            rw [hP3]
            exact ⟨rfl, trivial⟩
        · skip
          refine WX.run ttOk rfl ?_
          have hP4 : laws_FnNonces code = false := by simp only [laws_FnNonces, h1, h2, h3, h4, cond_true, cond_false]
          refine WX.ret ttOk rfl ?_
          intro w1 G bs hI hΓ
          rw [hP4]
          exact ⟨rfl, trivial⟩
      · skip
        have h3d := B.ef h3
        refine WX.run ttOk rfl ?_
        refine WX.slot 47 (y := .v (.bool false)) rfl (fun _ => rfl) ?_
        refine WX.see rfl rfl rfl (fun _ hΓ => looks_beq ttOk rfl rfl rfl rfl rfl rfl) ?_
        refine WX.run ttOk rfl ?_
        refine WX.cases 49 rfl (fun h6 => ?_) (fun h6 => ?_)
        · skip
          refine WX.run ttOk rfl ?_
          refine WX.callV rfl rfl rfl rfl rfl (fun _ => rfl) rfl (fun w G bs hI hΓ => f8 w n (by omega) ((spec_DrawNonceOf code).1) ((spec_DrawNonceOf code).2.1) ((spec_DrawNonceOf code).2.2) hq2.1 hq2.2.1 hq2.2.2) ?_
          intro hq10
          refine WX.run ttOk rfl ?_
          refine WX.cases 56 rfl (fun h7 => ?_) (fun h7 => ?_)
          · skip
            have h7d := B.dt h7
            refine WX.run ttOk rfl ?_
            refine WX.callV rfl rfl rfl rfl rfl (fun _ => rfl) rfl (fun w G bs hI hΓ => f8 w n (by omega) ((spec_DrawNonceOf code).1) ((spec_DrawNonceOf code).2.1) ((spec_DrawNonceOf code).2.2) hq2.1 hq2.2.1 hq2.2.2) ?_
            intro hq11
            refine WX.run ttOk rfl ?_
            have hP5 : laws_FnNonces code = (decide ((impl_NonceOf ((spec_DrawNonceOf code).1) ((spec_DrawNonceOf code).2.1) ((spec_DrawNonceOf code).2.2)) ≥ 0)) := by simp only [laws_FnNonces, h1, h2, h3, h6, h7, cond_true, cond_false]
            refine WX.ret ttOk rfl ?_
            intro w1 G bs hI hΓ
            rw [hP5]
            exact ⟨rfl, trivial⟩
          · skip
            have h7d := B.df h7
            refine WX.run ttOk rfl ?_
            have hP6 : laws_FnNonces code = false := by simp only [laws_FnNonces, h1, h2, h3, h6, h7, cond_true, cond_false]
            refine WX.ret ttOk rfl ?_
            intro w1 G bs hI hΓ
            rw [hP6]
            exact ⟨rfl, trivial⟩
        · skip
          refine WX.run ttOk rfl ?_
          have hP7 : laws_FnNonces code = false := by simp only [laws_FnNonces, h1, h2, h3, h6, cond_true, cond_false]
          refine WX.ret ttOk rfl ?_
          intro w1 G bs hI hΓ
          rw [hP7]
          exact ⟨rfl, trivial⟩
    · skip
      have h2d := B.ef h2
      refine WX.run ttOk rfl ?_
      refine WX.slot 47 (y := .v (.bool false)) rfl (fun _ => rfl) ?_
      refine WX.see rfl rfl rfl (fun _ hΓ => looks_beq ttOk rfl rfl rfl rfl rfl rfl) ?_
      refine WX.run ttOk rfl ?_
      refine WX.cases 49 rfl (fun h8 => ?_) (fun h8 => ?_)
      · skip
        refine WX.run ttOk rfl ?_
        refine WX.callV rfl rfl rfl rfl rfl (fun _ => rfl) rfl (fun w G bs hI hΓ => f8 w n (by omega) ((spec_DrawNonceOf code).1) ((spec_DrawNonceOf code).2.1) ((spec_DrawNonceOf code).2.2) hq2.1 hq2.2.1 hq2.2.2) ?_
        intro hq12
        refine WX.run ttOk rfl ?_
        refine WX.cases 56 rfl (fun h9 => ?_) (fun h9 => ?_)
        · skip
          have h9d := B.dt h9
          refine WX.run ttOk rfl ?_
          refine WX.callV rfl rfl rfl rfl rfl (fun _ => rfl) rfl (fun w G bs hI hΓ => f8 w n (by omega) ((spec_DrawNonceOf code).1) ((spec_DrawNonceOf code).2.1) ((spec_DrawNonceOf code).2.2) hq2.1 hq2.2.1 hq2.2.2) ?_
          intro hq13
          refine WX.run ttOk rfl ?_
          have hP8 : laws_FnNonces code = (decide ((impl_NonceOf ((spec_DrawNonceOf code).1) ((spec_DrawNonceOf code).2.1) ((spec_DrawNonceOf code).2.2)) ≥ 0)) := by simp only [laws_FnNonces, h1, h2, h8, h9, cond_true, cond_false]
          refine WX.ret ttOk rfl ?_
          intro w1 G bs hI hΓ
          rw [hP8]
          exact ⟨rfl, trivial⟩
        · skip
          have h9d := B.df h9
          refine WX.run ttOk rfl ?_
          have hP9 : laws_FnNonces code = false := by simp only [laws_FnNonces, h1, h2, h8, h9, cond_true, cond_false]
          refine WX.ret ttOk rfl ?_
          intro w1 G bs hI hΓ
          rw [hP9]
          exact ⟨rfl, trivial⟩
      · skip
        refine WX.run ttOk rfl ?_
        have hP10 : laws_FnNonces code = false := by simp only [laws_FnNonces, h1, h2, h8, cond_true, cond_false]
        refine WX.ret ttOk rfl ?_
        intro w1 G bs hI hΓ
        rw [hP10]
        exact ⟨rfl, trivial⟩
end Go.Proofs.Ytdimfabadjfkiaa

namespace Go.Stp
def SzR (r left : Int) (s : Nat) : Prop := r = -1 ∨ ((s : Int) ≤ left ∧ r = left - s)
theorem SzR.pos {r left : Int} {s : Nat} (h : SzR r left s) (hr : 0 ≤ r) : (s : Int) ≤ left ∧ r = left - s := by
  rcases h with h | h
  · omega
  · exact h
end Go.Stp

namespace Go.Stp
open Go.RowKit (Below)
open GoT (X k ok sh fa oa)
def Opens (P : Program) (T : TypeId) (α : Type) [GoT α] : Prop :=
  P.cellsOf T = k α ∧ ∀ {H : Type} {enc : TypeId × Value → H} {w : World} {spare : Nat → Bool} {held : Bool} {fuel : Nat} {cs : List Value} {x : DataW H × List MemPlace}, DataW.trod enc P w 0 spare held fuel T cs = some x →
    ∃ (a : α) (y : X α), cs = sh a y ∧ ok 10 a ∧ All (hp w) (fa .der a y)
theorem opens_byte {P : Program} {T : TypeId} (h : P.underlying T = some (.int .u8)) (hc : P.cellsOf T = 1) : Opens P T UInt8 := ⟨hc, fun h' => by
  obtain ⟨n, rfl, _, hw⟩ := DataW.trod_int h h'
  have hn : 0 ≤ n ∧ n ≤ 255 := by simpa [Lit.wf, IntKind.min, IntKind.max, IntKind.signed, IntKind.bits] using hw
  refine ⟨UInt8.ofNat n.toNat, (), ?_, trivial, (fun _ h_ => by cases h_)⟩
  have : ((UInt8.ofNat n.toNat).toNat : Int) = n := by
    rw [UInt8.toNat_ofNat', Nat.mod_eq_of_lt (by omega)]; omega
  simp only [sh]
  rw [this]⟩
theorem cells?_each {w : World} {a : Addr} {n : Nat} {cs : List Value} (h : w.cells? 0 a n = some cs) : ∀ j u, cs[j]? = some u → w.cell? (a.add j) = some u := by
  intro j u hj
  obtain ⟨_, h1, h2⟩ := World.cells?_some h
  rw [h2 j (by rw [← h1]; exact (List.getElem?_eq_some_iff.1 hj).1)]; exact hj
theorem opens_slice {P : Program} {T E : TypeId} {α : Type} [GoT α] (h : P.underlying T = some (.slice E)) (hc : P.cellsOf T = 1) (he : Opens P E α) : Opens P T (List α) := ⟨hc, fun {H enc w spare held fuel cs x} h' => by
  rcases DataW.trod_slice h h' with ⟨rfl, _⟩ | ⟨a, len, cap, elems, rest, n, _, rfl, _, _, hl, hm, hlen, hel, _, _⟩
  · exact ⟨[], (none, 0), rfl, ⟨Nat.zero_le _, fun _ h_ => by cases h_⟩, fun f hf => by
      obtain rfl := List.mem_singleton.1 hf
      exact ⟨Nat.zero_le _, Nat.zero_le _, [], fun j u h => by simp at h, rfl⟩⟩
  · have key : ∀ m, m ≤ len → ∃ (l : List α) (xs : List Value), l.length = m ∧ xs.length = m * k α ∧ RdL (hp w) xs l ∧ (∀ b ∈ l, ok 10 b) ∧ CellsAt (hp w) (some a) xs := by
      intro m
      induction m with
      | zero => exact fun _ => ⟨[], [], rfl, by simp, rfl, by simp, fun j u h => by simp at h⟩
      | succ m ih =>
        intro hmle
        obtain ⟨l, xs, h1, h2, h3, h4, h5⟩ := ih (by omega)
        have hm' := hel m (by omega)
        rw [he.1] at hm'
        obtain ⟨y, hy⟩ : ∃ y, elems[m]? = some y := ⟨_, List.getElem?_eq_getElem (by omega)⟩
        rw [hy, Option.bind_eq_some_iff] at hm'
        obtain ⟨cs', hcs, htr⟩ := hm'
        obtain ⟨b, yb, rfl, hok, hfa⟩ := he.2 htr
        refine ⟨l ++ [b], xs ++ sh b yb, by simp [h1], by rw [List.length_append, h2, GoT.len, Nat.add_mul]; omega, h3.snoc hfa, ?_, ?_⟩
        · intro c hc
          rcases List.mem_append.1 hc with hc | hc
          · exact h4 c hc
          · simp at hc; subst hc; exact hok
        · intro j u hj
          refine ⟨a, rfl, ?_⟩
          by_cases hlt : j < xs.length
          · rw [List.getElem?_append_left hlt] at hj
            obtain ⟨a', ha', hg⟩ := h5 j u hj
            simp at ha'; subst ha'; exact hg
          · rw [List.getElem?_append_right (by omega)] at hj
            have := cells?_each hcs _ _ hj
            rw [addr_add_add, h2, show m * k α + (j - m * k α) = j by omega] at this
            exact this
    obtain ⟨l, xs, h1, h2, h3, h4, h5⟩ := key len (Nat.le_refl _)
    have hm' : len ≤ 9223372036854775807 := by simp only [maxLen] at hm; omega
    refine ⟨l, (some a, cap), by simp [sh, h1], ⟨by show l.length ≤ 9223372036854775807; omega, h4⟩, fun f hf => ?_⟩
    obtain rfl := List.mem_singleton.1 hf
    exact ⟨by omega, by omega, xs, h5, h3⟩⟩
def Arg (P : Program) (T : TypeId) (α : Type) [GoT α] (mk : List Value → Value) : Prop :=
  ∀ {H : Type} {enc : TypeId × Value → H} {W : World} {b0 : Nat} {spare : Nat → Bool} {held : Bool} {v : Value} {d : DataW H} {ps : List MemPlace}, Value.okWide P W .any b0 T v → DataW.Trod enc P W 0 spare held T v d ps →
    ∃ (a : α) (y : X α), v = mk (sh a y) ∧ ok 10 a ∧ All (hp W) (fa .der a y)
theorem arg_slice {P : Program} {T E : TypeId} {α : Type} [GoT α] (h : P.underlying T = some (.slice E)) (ho : Opens P T (List α)) : Arg P T (List α) (fun cs => cs.headD undef) := by
  intro H enc W b0 spare held v d ps hval ⟨fuel, hf⟩
  obtain ⟨a, y, h1, h2, h3⟩ := ho.2 hf
  refine ⟨a, y, ?_, h2, h3⟩
  cases v with
  | agg cs => simp [Value.okWide, h, Cell.okWide, Cell.ok] at hval
  | _ => first | (simp [Value.cells, sh] at h1; done) | (simp [Value.cells, sh] at h1; simp [sh, h1])
theorem trodAll_stays {H : Type} {enc : TypeId × Value → H} {P : Program} (hl : laidOutB P = true) {W W' : World} {sp : Nat → Bool} : ∀ {ts : List TypeId} {vs : List Value} {ds : List (DataW H)} {ps : List MemPlace},
    ts.all (fun t => P.readableRec t && decide (t < P.types.size)) = true → DataW.TrodAll enc P W 0 (fun _ => true) true ts vs ds ps → (∀ p ∈ ps, W.sameAt W' p) → (∀ p ∈ ps, sp p.block = true) → DataW.TrodAll enc P W' 0 sp true ts vs ds ps
  | [], [], [], _, _, h, _, _ => h
  | t :: ts, v :: vs, d :: ds, ps, ha, ⟨p, q, h1, h2, e⟩, hs, hsp => by
    simp only [List.all_cons, Bool.and_eq_true, decide_eq_true_eq] at ha
    subst e
    exact ⟨p, q, WideElems.Trod_stays hl ha.1.1 ha.1.2 h1 (fun x hx => hs x (List.mem_append_left _ hx)) (fun x hx => hsp x (List.mem_append_left _ hx)),
      trodAll_stays hl ha.2 h2 (fun x hx => hs x (List.mem_append_right _ hx)) (fun x hx => hsp x (List.mem_append_right _ hx)), rfl⟩
theorem trodAll_len {H : Type} {enc : TypeId × Value → H} {P : Program} {W : World} {b : Nat} {sp : Nat → Bool} {hd : Bool} : ∀ {ts : List TypeId} {vs : List Value} {ds : List (DataW H)} {ps : List MemPlace}, DataW.TrodAll enc P W b sp hd ts vs ds ps → ds.length = ts.length
  | [], [], [], _, _ => rfl
  | _ :: _, _ :: _, _ :: _, _, ⟨_, _, _, h2, _⟩ => by simp [trodAll_len h2]
theorem law_post {H : Type} {enc : TypeId × Value → H} {P : Program} {f : Func} {s : ChangeSpec} {W W' : World} {args : Array Value} {ds gs : List (DataW H)} {before : List MemPlace} {B : TypeId}
    (hl : laidOutB P = true) (hpar : f.params.toList.all (fun t => P.readableRec t && decide (t < P.types.size)) = true) (hvars : s.vars = []) (hB : f.resultTypes = #[B]) (hu : P.underlying B = some .bool)
    (hfn : ∀ ds : List (DataW H), ds.length = f.params.size → s.fn H ds = { results := [.lit (.bool true)], args := ds })
    (hW : DataW.Whole enc P f.params.toList s.vars false W args.toList ds gs before) (hb : Below W.heap.size W W') : s.post enc P f false true false false W args (.bool true) W' := by
  have hW' := hW
  have hlt : ∀ p ∈ before, p.block < W.heap.size := fun p hp => hW.lt p hp
  obtain ⟨p, q, hA, hV, rfl, hfz, hnd⟩ := hW'
  rw [hvars] at hV
  obtain ⟨rfl, rfl⟩ := ChangeShapes.trodVars_none hV
  have hlen : ds.length = f.params.size := by simpa using trodAll_len hA
  have hdd : s.fn H (ds ++ []) = { results := [.lit (.bool true)], args := ds } := by rw [List.append_nil]; exact hfn ds hlen
  have hres : ∀ (b : Nat) (sp : Nat → Bool) (hd : Bool), DataW.TrodAll enc P W' b sp hd f.resultTypes.toList ((Value.bool true).resultList f.resultTypes.size) (s.fn H (ds ++ [])).results [] := by
    intro b sp hd
    rw [hdd, hB]
    exact trodAll_cons_mk (RowKit.shut_bool hu _) ChangeShapes.trodAll_mk0
  have hargs : ∀ sp : Nat → Bool, (∀ x ∈ p ++ [], sp x.block = true) → DataW.TrodAll enc P W' 0 sp true f.params.toList args.toList (s.fn H (ds ++ [])).args p := by
    intro sp hsp
    rw [hdd]
    exact trodAll_stays hl hpar hA (fun x hx => hb.same (hlt x (by simpa using hx))) (fun x hx => hsp x (by simpa using hx))
  have hvars' : ∀ sp : Nat → Bool, DataW.TrodVars enc P W' sp s.vars (s.fn H (ds ++ [])).vars [] := by
    intro sp; rw [hvars, hdd]; rfl
  have hold : ∀ x ∈ p ++ [], (fun b => decide (b < W.heap.size)) x.block = true := fun x hx => by simpa using hlt x hx
  refine ⟨ds, [], p ++ [], [], p, [], hW, hres _ _ _, hargs _ hold, hvars' _, World.keptBut_mono (fun x hx => ⟨hx, Or.inr (by simpa using hx)⟩) (hb.frame (· ∈ p ++ [])), fun h => (by cases h)⟩
end Go.Stp

namespace Go.Proofs.Ytdimfabadjfkiaa.Facts
set_option maxRecDepth 100000
theorem laid : laidOutB Try.prog = true := by kernel_rfl
theorem rowed : mapsRowed Try.prog = true := by kernel_rfl
end Go.Proofs.Ytdimfabadjfkiaa.Facts

namespace Go.Stp
set_option linter.unusedVariables false
set_option linter.unusedSimpArgs false
theorem laws_at_rng (code : List UInt8) (i : Int) (hi : 0 ≤ i ∧ i ≤ 100) (hl : code.length ≤ 1048576) : 0 ≤ laws_at code i ∧ laws_at code i ≤ 255 := by
  unfold laws_at
  cases hd : decide (i < ((code.length : Nat) : Int))
  · have h1 : IntKind.i64.wrap (i * 31) = i * 31 := wrapS (by omega)
    have h2 : IntKind.i64.wrap ((((code).length : Nat) : Int) * 7) = (((code).length : Nat) : Int) * 7 := wrapS (by omega)
    simp only [cond_false, h1, h2]
    rw [wrapS (by omega)]
    have h3 : 0 ≤ i * 31 + (((code).length : Nat) : Int) * 7 := by omega
    have h4 := Int.tmod_nonneg 256 h3
    have h5 := Int.tmod_lt_of_pos (i * 31 + (((code).length : Nat) : Int) * 7) (show (0 : Int) < 256 by decide)
    omega
  · simp only [cond_true]
    cases code[i.toNat]? with
    | none => exact ⟨Int.le_refl (0 : Int), (by decide : (0 : Int) ≤ 255)⟩
    | some e =>
      have := UInt8.toNat_lt e
      show 0 ≤ ((e.toNat : Nat) : Int) ∧ ((e.toNat : Nat) : Int) ≤ 255
      omega
theorem drawN (code : List UInt8) : (0 ≤ (spec_DrawNonceOf code).1 ∧ (spec_DrawNonceOf code).1 < 6) ∧ (0 ≤ (spec_DrawNonceOf code).2.1 ∧ (spec_DrawNonceOf code).2.1 < 8) ∧ (0 ≤ (spec_DrawNonceOf code).2.2 ∧ (spec_DrawNonceOf code).2.2 < 900) := by
  unfold spec_DrawNonceOf
  have q : ∀ (b : List UInt8) (i h n : Int), 0 < n → 0 ≤ (spec_l1Below b i h n).1 ∧ (spec_l1Below b i h n).1 < n := fun b i h n hn => by have := l1Below_rng b i h n; omega
  exact ⟨q _ _ _ _ (by decide), q _ _ _ _ (by decide), q _ _ _ _ (by decide)⟩
theorem nonce_eq {a b c : Int} (ha : 0 ≤ a ∧ a < 6) (hb : 0 ≤ b ∧ b < 8) (hc : 0 ≤ c ∧ c < 900) : impl_NonceOf a b c = 100000 * a + 1000 * b + c := by
  unfold impl_NonceOf
  rw [wrapS (x := 100000 * a) (by omega), wrapS (x := 1000 * b) (by omega), wrapS (x := 100000 * a + 1000 * b) (by omega), wrapS (by omega)]
theorem true_FnNonces (code : List UInt8) (hcode : GoT.ok 10 code) : laws_FnNonces code = true := by
  unfold laws_FnNonces
  cases hbig : laws_big code
  · have hl : code.length ≤ 1048576 := by have := of_decide_eq_false (show decide (((code.length : Nat) : Int) > 1048576) = false from hbig); omega
    obtain ⟨h1, h2, h3⟩ := drawN code
    have h4 := laws_at_rng code 4 (by omega) hl
    have h5 := laws_at_rng code 5 (by omega) hl
    have h6 := laws_at_rng code 6 (by omega) hl
    have k4 : 0 ≤ Int.tmod (laws_at code 4) 6 ∧ Int.tmod (laws_at code 4) 6 < 6 := ⟨Int.tmod_nonneg _ h4.1, Int.tmod_lt_of_pos _ (by decide)⟩
    have k5 : 0 ≤ Int.tmod (laws_at code 5) 8 ∧ Int.tmod (laws_at code 5) 8 < 8 := ⟨Int.tmod_nonneg _ h5.1, Int.tmod_lt_of_pos _ (by decide)⟩
    have k6 : IntKind.i64.wrap ((laws_at code 6) * 3) = (laws_at code 6) * 3 := wrapS (by omega)
    simp only [cond_false, k6]
    revert h1 h2 h3 k4 k5 h6
    generalize (spec_DrawNonceOf code).1 = a
    generalize (spec_DrawNonceOf code).2.1 = b
    generalize (spec_DrawNonceOf code).2.2 = c
    generalize Int.tmod (laws_at code 4) 6 = d
    generalize Int.tmod (laws_at code 5) 8 = e
    generalize laws_at code 6 = g
    intro h1 h2 h3 h6 k4 k5
    rw [nonce_eq h1 h2 h3, nonce_eq k4 k5 (by omega)]
    have t1 : decide (100000 * a + 1000 * b + c < 700000) = true := decide_eq_true (by omega)
    have t2 : decide (100000 * a + 1000 * b + c ≥ 0) = true := decide_eq_true (by omega)
    rw [t1, t2]
    by_cases hd : a = d
    · by_cases he : b = e
      · by_cases hf : c = g * 3
        · simp [hd, he, hf]
        · have t3 : (100000 * d + 1000 * e + c == 100000 * d + 1000 * e + g * 3) = false := beq_eq_false_iff_ne.2 (by omega)
          have t4 : (c == g * 3) = false := beq_eq_false_iff_ne.2 hf
          subst hd
          subst he
          simp [t3, t4]
      · have : ¬ (100000 * a + 1000 * b + c = 100000 * d + 1000 * e + g * 3) := by omega
        simp [he, this]
    · have : ¬ (100000 * a + 1000 * b + c = 100000 * d + 1000 * e + g * 3) := by omega
      simp [hd, this]
  · rfl
end Go.Stp
namespace Go.Proofs.Ytdimfabadjfkiaa
open Go.Stp
open Go.RowKit (Below)
open Go.ChangeShapes Go.WideShapes Go.ChangeAt
namespace LawFnNonces
theorem own : ownKnob Try.prog.godebug = none := by kernel_rfl
theorem laid : laidOutB Try.prog = true := Facts.laid
set_option maxRecDepth 100000 in
theorem lifted (os : Os) (started : os.Started) (H : Type) (enc : TypeId × Value → H) :
    ReturnsInHanded {} Try.checked os 3 .any (Rows.fnNoncesSpec.pre6 enc Try.prog Try.f3 Rows.fnNoncesRow.domain false) (Rows.fnNoncesSpec.post enc Try.prog Try.f3 false true false false) := by
  refine returnsInHanded_of_change (C := Try.checked) own started (by kernel_rfl) Try.func3
    (ChangeSpec.witness6 (enc := enc) (C := Try.checked) false ⟨#[], #[.slice none 0 0], []⟩ 8 (by kernel_rfl) (by kernel_rfl) (by kernel_rfl) (by kernel_rfl)) ?_
  intro W base args ds gs before hval0 hW _ _
  have hval : ∀ (j : Nat) t v, Try.f3.params[j]? = some t → args[j]? = some v → Value.okWide Try.prog W .any base t v := hval0
  have hW' := hW
  obtain ⟨p, q, hA0, _⟩ := hW
  have hA : DataW.TrodAll enc Try.prog W 0 (fun _ => true) true Try.f3.params.toList args.toList ds p := hA0
  rw [Try.params3] at hA hval
  obtain ⟨v0, vs0, d0, ds0, p0, q0, hargs, rfl, rfl, h0, r0⟩ := ChangeShapes.trodAll_cons hA
  obtain ⟨rfl, rfl, rfl⟩ := trodAll_nil r0
  obtain rfl : args = #[v0] := by cases args; simp_all
  obtain ⟨a0, x0, rfl, k0, g0⟩ := (arg_slice Try.underlying22 (opens_slice Try.underlying22 (by kernel_rfl) (opens_byte Try.underlying5 (by kernel_rfl)))) (hval 0 22 _ rfl rfl) h0
  have ht := true_FnNonces a0 k0
  refine (f3 W 0 (by decide) a0 x0.1 x0.2 (g0 (MF.rs .der x0.1 x0.2 a0) (List.mem_cons_self)) k0).2.mono fun e W1 ⟨v, he, hb, hv⟩ => ?_
  rw [ht] at hv
  obtain ⟨rfl, _⟩ := hv
  subst he
  exact ⟨_, rfl, law_post laid (by kernel_rfl) rfl rfl Try.underlying4 (fun ds h => by match ds, h with | [_], _ => rfl) hW' hb.below⟩
set_option maxRecDepth 100000 in
theorem c_inPlace : (Rows.fnNoncesRow.inPlace == Try.prog.inPlace 3) = true := by kernel_rfl
set_option maxRecDepth 100000 in
theorem c_unfollowed : (Rows.fnNoncesRow.unfollowed == Try.prog.unfollowed 3) = true := by kernel_rfl
set_option maxRecDepth 100000 in
theorem c_recurses : (Rows.fnNoncesRow.recurses == Try.prog.recurses 3) = true := by kernel_rfl
set_option maxRecDepth 100000 in
theorem c_named : (Rows.fnNoncesRow.named == Try.prog.varsNamed 3) = true := by kernel_rfl
set_option maxRecDepth 100000 in
theorem c_read : Try.f3.params.all (Try.pinned.checked.prog.readableRec ·) = true := by kernel_rfl
set_option maxRecDepth 100000 in
theorem c_maps : (Rows.fnNoncesRow.maps == (Try.f3.params.toList ++ Rows.fnNoncesSpec.plain.varTypes Try.pinned.checked.prog).any (Try.pinned.checked.prog.mapsRec ·)) = true := by kernel_rfl
set_option maxRecDepth 100000 in
theorem c_ifaces : (Rows.fnNoncesRow.ifaces == (Try.f3.params.toList ++ Rows.fnNoncesSpec.plain.varTypes Try.pinned.checked.prog).any (Try.pinned.checked.prog.ifacesRec ·)) = true := by kernel_rfl
set_option maxRecDepth 100000 in
theorem c_loops : (Rows.fnNoncesRow.loops == (Try.f3.params.toList ++ Rows.fnNoncesSpec.plain.varTypes Try.pinned.checked.prog).any (Try.pinned.checked.prog.loopsFrom ·)) = true := by kernel_rfl
set_option maxRecDepth 100000 in
theorem c_wide : (Rows.fnNoncesRow.wideKeys == (Try.f3.params.toList ++ Rows.fnNoncesSpec.plain.varTypes Try.pinned.checked.prog ++ Try.f3.resultTypes.toList).any (Try.pinned.checked.prog.wideKeysFrom ·)) = true := by kernel_rfl
set_option maxRecDepth 100000 in
theorem c_rread : Try.f3.resultTypes.all (fun t => Try.pinned.checked.prog.readableRec t && decide (t < Try.pinned.checked.prog.types.size)) = true := by kernel_rfl
set_option maxRecDepth 100000 in
theorem c_veiled : (Rows.fnNoncesRow.veiled == (Try.f3.params.toList ++ Rows.fnNoncesSpec.plain.varTypes Try.pinned.checked.prog ++ Try.f3.resultTypes.toList).any (Try.pinned.checked.prog.veiledRec ·)) = true := by kernel_rfl
set_option maxRecDepth 100000 in
theorem c_vfits : Rows.fnNoncesRow.veiledFits Try.pinned.checked.prog Try.f3.params.toList (Try.f3.params.toList ++ Rows.fnNoncesSpec.plain.varTypes Try.pinned.checked.prog ++ Try.f3.resultTypes.toList) = true := by kernel_rfl
set_option maxRecDepth 100000 in
theorem c_enter : Try.pinned.checked.prog.mayEnter = true := by kernel_rfl
set_option maxRecDepth 100000 in
theorem c_heard : Try.pinned.checked.prog.stopsHeard = true := by kernel_rfl
set_option maxRecDepth 100000 in
theorem c_lifted : (Rows.fnNoncesRow.lifted == Try.pinned.checked.prog.liftsFinal) = true := by kernel_rfl
set_option maxRecDepth 100000 in
theorem c_plainKeys : (Rows.fnNoncesRow.plainKeys == Try.pinned.checked.prog.plainKeys) = true := by kernel_rfl
set_option maxRecDepth 100000 in
theorem c_make : (Try.pinned.checked.prog.make == some Rows.fnNoncesRow.make) = true := by kernel_rfl
set_option maxRecDepth 100000 in
theorem closed : joinedFacts Try.pinned.checked.prog 3 Try.f3 Rows.fnNoncesSpec Rows.fnNoncesRow = true := by
  unfold joinedFacts
  rw [show laidOutB Try.pinned.checked.prog = true from laid, show mapsRowed Try.pinned.checked.prog = true from Facts.rowed, show (Rows.fnNoncesRow.inPlace == Try.pinned.checked.prog.inPlace 3) = true from c_inPlace, show (Rows.fnNoncesRow.unfollowed == Try.pinned.checked.prog.unfollowed 3) = true from c_unfollowed, show (Rows.fnNoncesRow.recurses == Try.pinned.checked.prog.recurses 3) = true from c_recurses, show (Rows.fnNoncesRow.named == Try.pinned.checked.prog.varsNamed 3) = true from c_named, c_read, c_maps, c_ifaces, c_loops, c_wide, c_rread, c_veiled, c_vfits, c_enter, c_heard, c_lifted, c_plainKeys, c_make]
  kernel_rfl
theorem over : Rows.fnNoncesRow.holds Try.pinned (OpenSpec.ofChange Rows.fnNoncesSpec) :=
  OpenClaim.holds_of_wide 3 Try.f3 rfl rfl rfl rfl rfl rfl rfl ⟨rfl, rfl, rfl, rfl, rfl⟩ rfl rfl rfl rfl rfl (by kernel_rfl) Try.func3 closed
    (of_decide_eq_true (by kernel_rfl)) (by unfold Func.isWrapper; first | (rw [if_pos (by decide +kernel)]; kernel_rfl) | (rw [if_neg (by decide +kernel)]; exact ⟨rfl, rfl⟩))
    (fun os started H enc _ => lifted os started H enc)
theorem proved : Rows.FnNoncesSaid := over
#print axioms proved
end LawFnNonces
end Go.Proofs.Ytdimfabadjfkiaa

