/-
  How much the laws count of a value. No program, no condition. Written by a program (mktypes.py).
-/
import Derived.Test.YtkgehljhlmbdmaaTypes
import Derived.Laws.Strings
namespace Go.Stp
class Sz (α : Type) where
  n : α → Nat
def sz {α : Type} [Sz α] (a : α) : Nat := Sz.n a
instance : Sz ByteArray := ⟨fun s => s.size⟩
instance : Sz UInt8 := ⟨fun _ => 0⟩
instance : Sz Int := ⟨fun _ => 0⟩
def szL {α : Type} [Sz α] (l : List α) : Nat := (l.map sz).sum
instance {α : Type} [Sz α] : Sz (List α) := ⟨fun l => l.length + szL l⟩
theorem sz_list {α : Type} [Sz α] (l : List α) : sz l = l.length + szL l := rfl
theorem sz_str (s : Str) : sz s = s.size := rfl
theorem szL_zero {α : Type} [Sz α] (h : ∀ a : α, sz a = 0) (l : List α) : szL l = 0 := by
  unfold szL
  induction l with
  | nil => rfl
  | cons a l ih => simp [h a] at ih ⊢; exact ih
instance : Sz Name := ⟨fun a => sz a.parts⟩
theorem sz_Name (a : Name) : sz a = sz a.parts := rfl
instance : Sz Pattern := ⟨fun a => sz a.parts⟩
theorem sz_Pattern (a : Pattern) : sz a = sz a.parts := rfl
instance : Sz Binding := ⟨fun a => sz a.letter + sz a.value⟩
theorem sz_Binding (a : Binding) : sz a = sz a.letter + sz a.value := rfl
instance : Sz TableEntry := ⟨fun a => sz a.name⟩
theorem sz_TableEntry (a : TableEntry) : sz a = sz a.name := rfl
instance : Sz Interest := ⟨fun a => sz a.name⟩
theorem sz_Interest (a : Interest) : sz a = sz a.name := rfl
instance : Sz DataP := ⟨fun a => sz a.name + sz a.content + sz a.keyName⟩
theorem sz_DataP (a : DataP) : sz a = sz a.name + sz a.content + sz a.keyName := rfl
instance : Sz Key := ⟨fun a => sz a.name⟩
theorem sz_Key (a : Key) : sz a = sz a.name := rfl
instance : Sz Rule := ⟨fun a => sz a.dataPattern + sz a.keyPattern⟩
theorem sz_Rule (a : Rule) : sz a = sz a.dataPattern + sz a.keyPattern := rfl
instance : Sz TrustPolicy := ⟨fun a => sz a.keys + sz a.rules + sz a.anchors + sz a.certificates⟩
theorem sz_TrustPolicy (a : TrustPolicy) : sz a = sz a.keys + sz a.rules + sz a.anchors + sz a.certificates := rfl
instance : Sz CacheEntry := ⟨fun a => sz a.data⟩
theorem sz_CacheEntry (a : CacheEntry) : sz a = sz a.data := rfl
instance : Sz ContentStore := ⟨fun a => sz a.entries⟩
theorem sz_ContentStore (a : ContentStore) : sz a = sz a.entries := rfl
instance : Sz Requester := ⟨fun _ => 0⟩
theorem sz_Requester (a : Requester) : sz a = 0 := rfl
instance : Sz PendingInterest := ⟨fun a => sz a.name + sz a.requesters⟩
theorem sz_PendingInterest (a : PendingInterest) : sz a = sz a.name + sz a.requesters := rfl
instance : Sz SeenNonce := ⟨fun a => sz a.name⟩
theorem sz_SeenNonce (a : SeenNonce) : sz a = sz a.name := rfl
instance : Sz Route := ⟨fun a => sz a.pfx⟩
theorem sz_Route (a : Route) : sz a = sz a.pfx := rfl
instance : Sz Measurement := ⟨fun a => sz a.pfx⟩
theorem sz_Measurement (a : Measurement) : sz a = sz a.pfx := rfl
instance : Sz NodeP := ⟨fun a => sz a.locl + sz a.cache + sz a.pending + sz a.seen + sz a.routes + sz a.measurements⟩
theorem sz_NodeP (a : NodeP) : sz a = sz a.locl + sz a.cache + sz a.pending + sz a.seen + sz a.routes + sz a.measurements := rfl
instance : Sz Outgoing := ⟨fun a => sz a.interest + sz a.data⟩
theorem sz_Outgoing (a : Outgoing) : sz a = sz a.interest + sz a.data := rfl
instance : Sz Action := ⟨fun a => sz a.node + sz a.outgoing⟩
theorem sz_Action (a : Action) : sz a = sz a.node + sz a.outgoing := rfl
instance : Sz Link := ⟨fun _ => 0⟩
theorem sz_Link (a : Link) : sz a = 0 := rfl
instance : Sz Topology := ⟨fun a => sz a.links⟩
theorem sz_Topology (a : Topology) : sz a = sz a.links := rfl
instance : Sz Advertisement := ⟨fun a => sz a.neighbors + sz a.prefixes⟩
theorem sz_Advertisement (a : Advertisement) : sz a = sz a.neighbors + sz a.prefixes := rfl
instance : Sz Manifest := ⟨fun a => sz a.digests⟩
theorem sz_Manifest (a : Manifest) : sz a = sz a.digests := rfl
instance : Sz Segment := ⟨fun a => sz a.content⟩
theorem sz_Segment (a : Segment) : sz a = sz a.content := rfl
instance : Sz Fetcher := ⟨fun a => sz a.manifest + sz a.segments⟩
theorem sz_Fetcher (a : Fetcher) : sz a = sz a.manifest + sz a.segments := rfl
instance : Sz Grant := ⟨fun a => sz a.name⟩
theorem sz_Grant (a : Grant) : sz a = sz a.name := rfl
instance : Sz Reader := ⟨fun a => sz a.name⟩
theorem sz_Reader (a : Reader) : sz a = sz a.name := rfl
instance : Sz StateVector := ⟨fun a => sz a.entries⟩
theorem sz_StateVector (a : StateVector) : sz a = sz a.entries := rfl
instance : Sz Publication := ⟨fun a => sz a.publisher + sz a.content⟩
theorem sz_Publication (a : Publication) : sz a = sz a.publisher + sz a.content := rfl
instance : Sz Member := ⟨fun a => sz a.name + sz a.vector + sz a.publications⟩
theorem sz_Member (a : Member) : sz a = sz a.name + sz a.vector + sz a.publications := rfl
instance : Sz Record := ⟨fun a => sz a.data⟩
theorem sz_Record (a : Record) : sz a = sz a.data := rfl
instance : Sz Log := ⟨fun a => sz a.durable + sz a.volatile⟩
theorem sz_Log (a : Log) : sz a = sz a.durable + sz a.volatile := rfl
instance : Sz Repository := ⟨fun a => sz a.log⟩
theorem sz_Repository (a : Repository) : sz a = sz a.log := rfl
instance : Sz Consumer := ⟨fun a => sz a.name + sz a.data⟩
theorem sz_Consumer (a : Consumer) : sz a = sz a.name + sz a.data := rfl
instance : Sz PacketInFlight := ⟨fun a => sz a.interest + sz a.data⟩
theorem sz_PacketInFlight (a : PacketInFlight) : sz a = sz a.interest + sz a.data := rfl
instance : Sz Network := ⟨fun a => sz a.topology + sz a.trust + sz a.producers + sz a.nodes + sz a.failedLinks + sz a.inFlight + sz a.consumers⟩
theorem sz_Network (a : Network) : sz a = sz a.topology + sz a.trust + sz a.producers + sz a.nodes + sz a.failedLinks + sz a.inFlight + sz a.consumers := rfl
instance : Sz EventP := ⟨fun a => sz a.name + sz a.forged⟩
theorem sz_EventP (a : EventP) : sz a = sz a.name + sz a.forged := rfl
instance : Sz SyncGroup := ⟨fun a => sz a.topology + sz a.members⟩
theorem sz_SyncGroup (a : SyncGroup) : sz a = sz a.topology + sz a.members := rfl
instance : Sz AccessController := ⟨fun a => sz a.keys + sz a.readers⟩
theorem sz_AccessController (a : AccessController) : sz a = sz a.keys + sz a.readers := rfl
end Go.Stp
