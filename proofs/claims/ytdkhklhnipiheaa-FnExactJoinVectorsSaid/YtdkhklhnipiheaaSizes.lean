/-
  How much the laws count of a value. No program, no condition. Written by a program (mktypes2.py).
-/
import Derived.Test.YtdkhklhnipiheaaTypes
import Derived.Laws.Strings
namespace Go.Stp
class Sz (α : Type) [GoT α] where
  n : α → Nat
  low : ∀ {a : α}, GoT.ok 10 a → n a ≤ 1048576 → GoT.ok 0 a
def sz {α : Type} [GoT α] [Sz α] (a : α) : Nat := Sz.n a
instance : Sz ByteArray := ⟨fun s => s.size, fun _ h => h⟩
instance : Sz UInt8 := ⟨fun _ => 0, fun _ _ => trivial⟩
instance : Sz Bool := ⟨fun _ => 0, fun _ _ => trivial⟩
instance : Sz Int := ⟨fun _ => 0, fun h _ => h⟩
def szL {α : Type} [GoT α] [Sz α] (l : List α) : Nat := (l.map sz).sum
theorem sz_le_sum {α : Type} [GoT α] [Sz α] : ∀ {l : List α} {a : α}, a ∈ l → sz a ≤ szL l
  | b :: l, a, h => by
    unfold szL
    simp only [List.map_cons, List.sum_cons]
    rcases List.mem_cons.1 h with rfl | h
    · omega
    · have := sz_le_sum h; unfold szL at this; omega
instance {α : Type} [GoT α] [Sz α] : Sz (List α) := ⟨fun l => l.length + szL l, fun h hs => ⟨by rw [bd_0]; omega, fun a ha => Sz.low (h.2 a ha) (by have := sz_le_sum ha; unfold sz at this; omega)⟩⟩
instance {α β : Type} [GoT α] [GoT β] [Sz α] [Sz β] : Sz (α × β) := ⟨fun a => sz a.1 + sz a.2, fun h hs => ⟨Sz.low h.1 (by unfold sz at hs; omega), Sz.low h.2 (by unfold sz at hs; omega)⟩⟩
@[reducible] def Sz.via {α β : Type} [GoT β] [Sz β] (e : α → β) : @Sz α (GoT.via e) := @Sz.mk α (GoT.via e) (fun a => sz (e a)) (fun {a} h hs => Sz.low (a := e a) h hs)
theorem sz_list {α : Type} [GoT α] [Sz α] (l : List α) : sz l = l.length + szL l := rfl
theorem sz_str (s : Str) : sz s = s.size := rfl
instance : Sz Name := Sz.via (fun e : Name => e.parts)
theorem sz_Name (a : Name) : sz a = sz a.parts := by
  show sz a.parts = sz a.parts
  omega
instance : Sz Pattern := Sz.via (fun e : Pattern => e.parts)
theorem sz_Pattern (a : Pattern) : sz a = sz a.parts := by
  show sz a.parts = sz a.parts
  omega
instance : Sz Binding := Sz.via (fun e : Binding => (e.letter, e.value))
theorem sz_Binding (a : Binding) : sz a = sz a.letter + sz a.value := by
  show (sz a.letter + sz a.value) = sz a.letter + sz a.value
  omega
instance : Sz TableEntry := Sz.via (fun e : TableEntry => (e.name, e.value))
theorem sz_TableEntry (a : TableEntry) : sz a = sz a.name := by
  show (sz a.name + 0) = sz a.name
  omega
instance : Sz Interest := Sz.via (fun e : Interest => (e.name, e.nonce, e.hopLimit, e.lifetime))
theorem sz_Interest (a : Interest) : sz a = sz a.name := by
  show (sz a.name + (0 + (0 + 0))) = sz a.name
  omega
instance : Sz DataP := Sz.via (fun e : DataP => (e.name, e.content, e.keyName, e.freshUntil, e.signature))
theorem sz_DataP (a : DataP) : sz a = sz a.name + sz a.content + sz a.keyName := by
  show (sz a.name + (sz a.content + (sz a.keyName + (0 + 0)))) = sz a.name + sz a.content + sz a.keyName
  omega
instance : Sz Key := Sz.via (fun e : Key => (e.name, e.secret))
theorem sz_Key (a : Key) : sz a = sz a.name := by
  show (sz a.name + 0) = sz a.name
  omega
instance : Sz Rule := Sz.via (fun e : Rule => (e.dataPattern, e.keyPattern))
theorem sz_Rule (a : Rule) : sz a = sz a.dataPattern + sz a.keyPattern := by
  show (sz a.dataPattern + sz a.keyPattern) = sz a.dataPattern + sz a.keyPattern
  omega
instance : Sz TrustPolicy := Sz.via (fun e : TrustPolicy => (e.keys, e.rules, e.anchors, e.certificates))
theorem sz_TrustPolicy (a : TrustPolicy) : sz a = sz a.keys + sz a.rules + sz a.anchors + sz a.certificates := by
  show (sz a.keys + (sz a.rules + (sz a.anchors + sz a.certificates))) = sz a.keys + sz a.rules + sz a.anchors + sz a.certificates
  omega
instance : Sz CacheEntry := Sz.via (fun e : CacheEntry => (e.data, e.lastUsed))
theorem sz_CacheEntry (a : CacheEntry) : sz a = sz a.data := by
  show (sz a.data + 0) = sz a.data
  omega
instance : Sz ContentStore := Sz.via (fun e : ContentStore => (e.capacity, e.entries))
theorem sz_ContentStore (a : ContentStore) : sz a = sz a.entries := by
  show (0 + sz a.entries) = sz a.entries
  omega
instance : Sz Requester := Sz.via (fun e : Requester => (e.face, e.nonce, e.expiry))
theorem sz_Requester (a : Requester) : sz a = 0 := by
  show (0 + (0 + 0)) = 0
  omega
instance : Sz PendingInterest := Sz.via (fun e : PendingInterest => (e.name, e.requesters, e.lastSent))
theorem sz_PendingInterest (a : PendingInterest) : sz a = sz a.name + sz a.requesters := by
  show (sz a.name + (sz a.requesters + 0)) = sz a.name + sz a.requesters
  omega
instance : Sz SeenNonce := Sz.via (fun e : SeenNonce => (e.name, e.nonce))
theorem sz_SeenNonce (a : SeenNonce) : sz a = sz a.name := by
  show (sz a.name + 0) = sz a.name
  omega
instance : Sz Route := Sz.via (fun e : Route => (e.pfx, e.face, e.cost))
theorem sz_Route (a : Route) : sz a = sz a.pfx := by
  show (sz a.pfx + (0 + 0)) = sz a.pfx
  omega
instance : Sz Measurement := Sz.via (fun e : Measurement => (e.pfx, e.face, e.failures))
theorem sz_Measurement (a : Measurement) : sz a = sz a.pfx := by
  show (sz a.pfx + (0 + 0)) = sz a.pfx
  omega
instance : Sz NodeP := Sz.via (fun e : NodeP => (e.locl, e.cache, e.pending, e.seen, e.routes, e.measurements, e.dropped))
theorem sz_NodeP (a : NodeP) : sz a = sz a.locl + sz a.cache + sz a.pending + sz a.seen + sz a.routes + sz a.measurements := by
  show (sz a.locl + (sz a.cache + (sz a.pending + (sz a.seen + (sz a.routes + (sz a.measurements + 0)))))) = sz a.locl + sz a.cache + sz a.pending + sz a.seen + sz a.routes + sz a.measurements
  omega
instance : Sz Outgoing := Sz.via (fun e : Outgoing => (e.face, e.isInterest, e.interest, e.data))
theorem sz_Outgoing (a : Outgoing) : sz a = sz a.interest + sz a.data := by
  show (0 + (0 + (sz a.interest + sz a.data))) = sz a.interest + sz a.data
  omega
instance : Sz Action := Sz.via (fun e : Action => (e.node, e.outgoing))
theorem sz_Action (a : Action) : sz a = sz a.node + sz a.outgoing := by
  show (sz a.node + sz a.outgoing) = sz a.node + sz a.outgoing
  omega
instance : Sz Link := Sz.via (fun e : Link => (e.a, e.b))
theorem sz_Link (a : Link) : sz a = 0 := by
  show (0 + 0) = 0
  omega
instance : Sz Topology := Sz.via (fun e : Topology => (e.size, e.links))
theorem sz_Topology (a : Topology) : sz a = sz a.links := by
  show (0 + sz a.links) = sz a.links
  omega
instance : Sz Advertisement := Sz.via (fun e : Advertisement => (e.origin, e.version, e.neighbors, e.prefixes))
theorem sz_Advertisement (a : Advertisement) : sz a = sz a.neighbors + sz a.prefixes := by
  show (0 + (0 + (sz a.neighbors + sz a.prefixes))) = sz a.neighbors + sz a.prefixes
  omega
instance : Sz Manifest := Sz.via (fun e : Manifest => (e.segmentSize, e.length, e.digests))
theorem sz_Manifest (a : Manifest) : sz a = sz a.digests := by
  show (0 + (0 + sz a.digests)) = sz a.digests
  omega
instance : Sz Segment := Sz.via (fun e : Segment => e.content)
theorem sz_Segment (a : Segment) : sz a = sz a.content := by
  show sz a.content = sz a.content
  omega
instance : Sz Fetcher := Sz.via (fun e : Fetcher => (e.manifest, e.received, e.segments, e.outstanding, e.window, e.threshold, e.losses))
theorem sz_Fetcher (a : Fetcher) : sz a = sz a.manifest + sz a.segments := by
  show (sz a.manifest + (0 + (sz a.segments + (0 + (0 + (0 + 0)))))) = sz a.manifest + sz a.segments
  omega
instance : Sz Grant := Sz.via (fun e : Grant => (e.name, e.secret))
theorem sz_Grant (a : Grant) : sz a = sz a.name := by
  show (sz a.name + 0) = sz a.name
  omega
instance : Sz Reader := Sz.via (fun e : Reader => (e.node, e.name, e.epoch))
theorem sz_Reader (a : Reader) : sz a = sz a.name := by
  show (0 + (sz a.name + 0)) = sz a.name
  omega
instance : Sz StateVector := Sz.via (fun e : StateVector => e.entries)
theorem sz_StateVector (a : StateVector) : sz a = sz a.entries := by
  show sz a.entries = sz a.entries
  omega
instance : Sz Publication := Sz.via (fun e : Publication => (e.publisher, e.seq, e.content))
theorem sz_Publication (a : Publication) : sz a = sz a.publisher + sz a.content := by
  show (sz a.publisher + (0 + sz a.content)) = sz a.publisher + sz a.content
  omega
instance : Sz Member := Sz.via (fun e : Member => (e.name, e.vector, e.publications))
theorem sz_Member (a : Member) : sz a = sz a.name + sz a.vector + sz a.publications := by
  show (sz a.name + (sz a.vector + sz a.publications)) = sz a.name + sz a.vector + sz a.publications
  omega
instance : Sz Record := Sz.via (fun e : Record => (e.kind, e.data))
theorem sz_Record (a : Record) : sz a = sz a.data := by
  show (0 + sz a.data) = sz a.data
  omega
instance : Sz Log := Sz.via (fun e : Log => (e.durable, e.volatile))
theorem sz_Log (a : Log) : sz a = sz a.durable + sz a.volatile := by
  show (sz a.durable + sz a.volatile) = sz a.durable + sz a.volatile
  omega
instance : Sz Repository := Sz.via (fun e : Repository => (e.log, e.quota))
theorem sz_Repository (a : Repository) : sz a = sz a.log := by
  show (sz a.log + 0) = sz a.log
  omega
instance : Sz Consumer := Sz.via (fun e : Consumer => (e.node, e.index, e.name, e.attempts, e.wait, e.satisfied, e.data))
theorem sz_Consumer (a : Consumer) : sz a = sz a.name + sz a.data := by
  show (0 + (0 + (sz a.name + (0 + (0 + (0 + sz a.data)))))) = sz a.name + sz a.data
  omega
instance : Sz PacketInFlight := Sz.via (fun e : PacketInFlight => (e.to, e.face, e.isInterest, e.interest, e.data))
theorem sz_PacketInFlight (a : PacketInFlight) : sz a = sz a.interest + sz a.data := by
  show (0 + (0 + (0 + (sz a.interest + sz a.data)))) = sz a.interest + sz a.data
  omega
instance : Sz Network := Sz.via (fun e : Network => (e.topology, e.trust, e.producers, e.nodes, e.downNodes, e.failedLinks, e.inFlight, e.consumers, e.now, e.dropped))
theorem sz_Network (a : Network) : sz a = sz a.topology + sz a.trust + sz a.producers + sz a.nodes + sz a.failedLinks + sz a.inFlight + sz a.consumers := by
  show (sz a.topology + (sz a.trust + (sz a.producers + (sz a.nodes + (0 + (sz a.failedLinks + (sz a.inFlight + (sz a.consumers + (0 + 0))))))))) = sz a.topology + sz a.trust + sz a.producers + sz a.nodes + sz a.failedLinks + sz a.inFlight + sz a.consumers
  omega
instance : Sz EventP := Sz.via (fun e : EventP => (e.kind, e.n, e.name, e.forged))
theorem sz_EventP (a : EventP) : sz a = sz a.name + sz a.forged := by
  show (0 + (0 + (sz a.name + sz a.forged))) = sz a.name + sz a.forged
  omega
instance : Sz SyncGroup := Sz.via (fun e : SyncGroup => (e.topology, e.members))
theorem sz_SyncGroup (a : SyncGroup) : sz a = sz a.topology + sz a.members := by
  show (sz a.topology + sz a.members) = sz a.topology + sz a.members
  omega
instance : Sz AccessController := Sz.via (fun e : AccessController => (e.keys, e.master, e.epoch, e.readers))
theorem sz_AccessController (a : AccessController) : sz a = sz a.keys + sz a.readers := by
  show (sz a.keys + (0 + (0 + sz a.readers))) = sz a.keys + sz a.readers
  omega
end Go.Stp
