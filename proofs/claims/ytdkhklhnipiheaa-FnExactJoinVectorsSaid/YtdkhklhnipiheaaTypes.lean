/-
  The program's structs, as Lean has them. No condition. Written by a program (mktypes.py).
-/
import Derived.Test.YtdkhklhnipiheaaMore
namespace Go.Stp
structure Name where
  parts : List Str
instance : Inhabited Name := ⟨⟨default⟩⟩
instance : GoT Name := GoT.via fun e => e.parts
theorem ok_Name {n : Nat} {a : Name} (h : GoT.ok n a) : GoT.ok n a.parts := h
structure Pattern where
  parts : List Str
instance : Inhabited Pattern := ⟨⟨default⟩⟩
instance : GoT Pattern := GoT.via fun e => e.parts
theorem ok_Pattern {n : Nat} {a : Pattern} (h : GoT.ok n a) : GoT.ok n a.parts := h
structure Binding where
  letter : Str
  value : Str
instance : Inhabited Binding := ⟨⟨default, default⟩⟩
instance : GoT Binding := GoT.via fun e => (e.letter, e.value)
theorem ok_Binding {n : Nat} {a : Binding} (h : GoT.ok n a) : GoT.ok n a.letter ∧ GoT.ok n a.value := h
instance : Flat Binding := ⟨fun a x => Flat.f (let e := a; (e.letter, e.value)) x, fun a x => Flat.o (let e := a; (e.letter, e.value)) x⟩
structure TableEntry where
  name : Name
  value : Int
instance : Inhabited TableEntry := ⟨⟨default, default⟩⟩
instance : GoT TableEntry := GoT.via fun e => (e.name, e.value)
theorem ok_TableEntry {n : Nat} {a : TableEntry} (h : GoT.ok n a) : GoT.ok n a.name ∧ GoT.ok n a.value := h
structure Interest where
  name : Name
  nonce : Int
  hopLimit : Int
  lifetime : Int
instance : Inhabited Interest := ⟨⟨default, default, default, default⟩⟩
instance : GoT Interest := GoT.via fun e => (e.name, e.nonce, e.hopLimit, e.lifetime)
theorem ok_Interest {n : Nat} {a : Interest} (h : GoT.ok n a) : GoT.ok n a.name ∧ GoT.ok n a.nonce ∧ GoT.ok n a.hopLimit ∧ GoT.ok n a.lifetime := h
structure DataP where
  name : Name
  content : List UInt8
  keyName : Name
  freshUntil : Int
  signature : Int
instance : Inhabited DataP := ⟨⟨default, default, default, default, default⟩⟩
instance : GoT DataP := GoT.via fun e => (e.name, e.content, e.keyName, e.freshUntil, e.signature)
theorem ok_DataP {n : Nat} {a : DataP} (h : GoT.ok n a) : GoT.ok n a.name ∧ GoT.ok n a.content ∧ GoT.ok n a.keyName ∧ GoT.ok n a.freshUntil ∧ GoT.ok n a.signature := h
structure Key where
  name : Name
  secret : Int
instance : Inhabited Key := ⟨⟨default, default⟩⟩
instance : GoT Key := GoT.via fun e => (e.name, e.secret)
theorem ok_Key {n : Nat} {a : Key} (h : GoT.ok n a) : GoT.ok n a.name ∧ GoT.ok n a.secret := h
structure Rule where
  dataPattern : Pattern
  keyPattern : Pattern
instance : Inhabited Rule := ⟨⟨default, default⟩⟩
instance : GoT Rule := GoT.via fun e => (e.dataPattern, e.keyPattern)
theorem ok_Rule {n : Nat} {a : Rule} (h : GoT.ok n a) : GoT.ok n a.dataPattern ∧ GoT.ok n a.keyPattern := h
structure TrustPolicy where
  keys : List Key
  rules : List Rule
  anchors : List Name
  certificates : List DataP
instance : Inhabited TrustPolicy := ⟨⟨default, default, default, default⟩⟩
instance : GoT TrustPolicy := GoT.via fun e => (e.keys, e.rules, e.anchors, e.certificates)
theorem ok_TrustPolicy {n : Nat} {a : TrustPolicy} (h : GoT.ok n a) : GoT.ok n a.keys ∧ GoT.ok n a.rules ∧ GoT.ok n a.anchors ∧ GoT.ok n a.certificates := h
structure CacheEntry where
  data : DataP
  lastUsed : Int
instance : Inhabited CacheEntry := ⟨⟨default, default⟩⟩
instance : GoT CacheEntry := GoT.via fun e => (e.data, e.lastUsed)
theorem ok_CacheEntry {n : Nat} {a : CacheEntry} (h : GoT.ok n a) : GoT.ok n a.data ∧ GoT.ok n a.lastUsed := h
structure ContentStore where
  capacity : Int
  entries : List CacheEntry
instance : Inhabited ContentStore := ⟨⟨default, default⟩⟩
instance : GoT ContentStore := GoT.via fun e => (e.capacity, e.entries)
theorem ok_ContentStore {n : Nat} {a : ContentStore} (h : GoT.ok n a) : GoT.ok n a.capacity ∧ GoT.ok n a.entries := h
structure Requester where
  face : Int
  nonce : Int
  expiry : Int
instance : Inhabited Requester := ⟨⟨default, default, default⟩⟩
instance : GoT Requester := GoT.via fun e => (e.face, e.nonce, e.expiry)
theorem ok_Requester {n : Nat} {a : Requester} (h : GoT.ok n a) : GoT.ok n a.face ∧ GoT.ok n a.nonce ∧ GoT.ok n a.expiry := h
instance : Flat Requester := ⟨fun a x => Flat.f (let e := a; (e.face, e.nonce, e.expiry)) x, fun a x => Flat.o (let e := a; (e.face, e.nonce, e.expiry)) x⟩
structure PendingInterest where
  name : Name
  requesters : List Requester
  lastSent : Int
instance : Inhabited PendingInterest := ⟨⟨default, default, default⟩⟩
instance : GoT PendingInterest := GoT.via fun e => (e.name, e.requesters, e.lastSent)
theorem ok_PendingInterest {n : Nat} {a : PendingInterest} (h : GoT.ok n a) : GoT.ok n a.name ∧ GoT.ok n a.requesters ∧ GoT.ok n a.lastSent := h
structure SeenNonce where
  name : Name
  nonce : Int
instance : Inhabited SeenNonce := ⟨⟨default, default⟩⟩
instance : GoT SeenNonce := GoT.via fun e => (e.name, e.nonce)
theorem ok_SeenNonce {n : Nat} {a : SeenNonce} (h : GoT.ok n a) : GoT.ok n a.name ∧ GoT.ok n a.nonce := h
structure Route where
  pfx : Name
  face : Int
  cost : Int
instance : Inhabited Route := ⟨⟨default, default, default⟩⟩
instance : GoT Route := GoT.via fun e => (e.pfx, e.face, e.cost)
theorem ok_Route {n : Nat} {a : Route} (h : GoT.ok n a) : GoT.ok n a.pfx ∧ GoT.ok n a.face ∧ GoT.ok n a.cost := h
structure Measurement where
  pfx : Name
  face : Int
  failures : Int
instance : Inhabited Measurement := ⟨⟨default, default, default⟩⟩
instance : GoT Measurement := GoT.via fun e => (e.pfx, e.face, e.failures)
theorem ok_Measurement {n : Nat} {a : Measurement} (h : GoT.ok n a) : GoT.ok n a.pfx ∧ GoT.ok n a.face ∧ GoT.ok n a.failures := h
structure NodeP where
  locl : List DataP
  cache : ContentStore
  pending : List PendingInterest
  seen : List SeenNonce
  routes : List Route
  measurements : List Measurement
  dropped : Int
instance : Inhabited NodeP := ⟨⟨default, default, default, default, default, default, default⟩⟩
instance : GoT NodeP := GoT.via fun e => (e.locl, e.cache, e.pending, e.seen, e.routes, e.measurements, e.dropped)
theorem ok_NodeP {n : Nat} {a : NodeP} (h : GoT.ok n a) : GoT.ok n a.locl ∧ GoT.ok n a.cache ∧ GoT.ok n a.pending ∧ GoT.ok n a.seen ∧ GoT.ok n a.routes ∧ GoT.ok n a.measurements ∧ GoT.ok n a.dropped := h
structure Outgoing where
  face : Int
  isInterest : Bool
  interest : Interest
  data : DataP
instance : Inhabited Outgoing := ⟨⟨default, default, default, default⟩⟩
instance : GoT Outgoing := GoT.via fun e => (e.face, e.isInterest, e.interest, e.data)
theorem ok_Outgoing {n : Nat} {a : Outgoing} (h : GoT.ok n a) : GoT.ok n a.face ∧ GoT.ok n a.isInterest ∧ GoT.ok n a.interest ∧ GoT.ok n a.data := h
structure Action where
  node : NodeP
  outgoing : List Outgoing
instance : Inhabited Action := ⟨⟨default, default⟩⟩
instance : GoT Action := GoT.via fun e => (e.node, e.outgoing)
theorem ok_Action {n : Nat} {a : Action} (h : GoT.ok n a) : GoT.ok n a.node ∧ GoT.ok n a.outgoing := h
structure Link where
  a : Int
  b : Int
instance : Inhabited Link := ⟨⟨default, default⟩⟩
instance : GoT Link := GoT.via fun e => (e.a, e.b)
theorem ok_Link {n : Nat} {a : Link} (h : GoT.ok n a) : GoT.ok n a.a ∧ GoT.ok n a.b := h
instance : Flat Link := ⟨fun a x => Flat.f (let e := a; (e.a, e.b)) x, fun a x => Flat.o (let e := a; (e.a, e.b)) x⟩
structure Topology where
  size : Int
  links : List Link
instance : Inhabited Topology := ⟨⟨default, default⟩⟩
instance : GoT Topology := GoT.via fun e => (e.size, e.links)
theorem ok_Topology {n : Nat} {a : Topology} (h : GoT.ok n a) : GoT.ok n a.size ∧ GoT.ok n a.links := h
structure Advertisement where
  origin : Int
  version : Int
  neighbors : List Int
  prefixes : List Name
instance : Inhabited Advertisement := ⟨⟨default, default, default, default⟩⟩
instance : GoT Advertisement := GoT.via fun e => (e.origin, e.version, e.neighbors, e.prefixes)
theorem ok_Advertisement {n : Nat} {a : Advertisement} (h : GoT.ok n a) : GoT.ok n a.origin ∧ GoT.ok n a.version ∧ GoT.ok n a.neighbors ∧ GoT.ok n a.prefixes := h
structure Manifest where
  segmentSize : Int
  length : Int
  digests : List Int
instance : Inhabited Manifest := ⟨⟨default, default, default⟩⟩
instance : GoT Manifest := GoT.via fun e => (e.segmentSize, e.length, e.digests)
theorem ok_Manifest {n : Nat} {a : Manifest} (h : GoT.ok n a) : GoT.ok n a.segmentSize ∧ GoT.ok n a.length ∧ GoT.ok n a.digests := h
structure Segment where
  content : List UInt8
instance : Inhabited Segment := ⟨⟨default⟩⟩
instance : GoT Segment := GoT.via fun e => e.content
theorem ok_Segment {n : Nat} {a : Segment} (h : GoT.ok n a) : GoT.ok n a.content := h
structure Fetcher where
  manifest : Manifest
  received : Int
  segments : List Segment
  outstanding : Int
  window : Int
  threshold : Int
  losses : Int
instance : Inhabited Fetcher := ⟨⟨default, default, default, default, default, default, default⟩⟩
instance : GoT Fetcher := GoT.via fun e => (e.manifest, e.received, e.segments, e.outstanding, e.window, e.threshold, e.losses)
theorem ok_Fetcher {n : Nat} {a : Fetcher} (h : GoT.ok n a) : GoT.ok n a.manifest ∧ GoT.ok n a.received ∧ GoT.ok n a.segments ∧ GoT.ok n a.outstanding ∧ GoT.ok n a.window ∧ GoT.ok n a.threshold ∧ GoT.ok n a.losses := h
structure Grant where
  name : Name
  secret : Int
instance : Inhabited Grant := ⟨⟨default, default⟩⟩
instance : GoT Grant := GoT.via fun e => (e.name, e.secret)
theorem ok_Grant {n : Nat} {a : Grant} (h : GoT.ok n a) : GoT.ok n a.name ∧ GoT.ok n a.secret := h
structure Reader where
  node : Int
  name : Name
  epoch : Int
instance : Inhabited Reader := ⟨⟨default, default, default⟩⟩
instance : GoT Reader := GoT.via fun e => (e.node, e.name, e.epoch)
theorem ok_Reader {n : Nat} {a : Reader} (h : GoT.ok n a) : GoT.ok n a.node ∧ GoT.ok n a.name ∧ GoT.ok n a.epoch := h
structure StateVector where
  entries : List TableEntry
instance : Inhabited StateVector := ⟨⟨default⟩⟩
instance : GoT StateVector := GoT.via fun e => e.entries
theorem ok_StateVector {n : Nat} {a : StateVector} (h : GoT.ok n a) : GoT.ok n a.entries := h
structure Publication where
  publisher : Name
  seq : Int
  content : List UInt8
instance : Inhabited Publication := ⟨⟨default, default, default⟩⟩
instance : GoT Publication := GoT.via fun e => (e.publisher, e.seq, e.content)
theorem ok_Publication {n : Nat} {a : Publication} (h : GoT.ok n a) : GoT.ok n a.publisher ∧ GoT.ok n a.seq ∧ GoT.ok n a.content := h
structure Member where
  name : Name
  vector : StateVector
  publications : List Publication
instance : Inhabited Member := ⟨⟨default, default, default⟩⟩
instance : GoT Member := GoT.via fun e => (e.name, e.vector, e.publications)
theorem ok_Member {n : Nat} {a : Member} (h : GoT.ok n a) : GoT.ok n a.name ∧ GoT.ok n a.vector ∧ GoT.ok n a.publications := h
structure Record where
  kind : Int
  data : DataP
instance : Inhabited Record := ⟨⟨default, default⟩⟩
instance : GoT Record := GoT.via fun e => (e.kind, e.data)
theorem ok_Record {n : Nat} {a : Record} (h : GoT.ok n a) : GoT.ok n a.kind ∧ GoT.ok n a.data := h
structure Log where
  durable : List Record
  volatile : List Record
instance : Inhabited Log := ⟨⟨default, default⟩⟩
instance : GoT Log := GoT.via fun e => (e.durable, e.volatile)
theorem ok_Log {n : Nat} {a : Log} (h : GoT.ok n a) : GoT.ok n a.durable ∧ GoT.ok n a.volatile := h
structure Repository where
  log : Log
  quota : Int
instance : Inhabited Repository := ⟨⟨default, default⟩⟩
instance : GoT Repository := GoT.via fun e => (e.log, e.quota)
theorem ok_Repository {n : Nat} {a : Repository} (h : GoT.ok n a) : GoT.ok n a.log ∧ GoT.ok n a.quota := h
structure Consumer where
  node : Int
  index : Int
  name : Name
  attempts : Int
  wait : Int
  satisfied : Bool
  data : DataP
instance : Inhabited Consumer := ⟨⟨default, default, default, default, default, default, default⟩⟩
instance : GoT Consumer := GoT.via fun e => (e.node, e.index, e.name, e.attempts, e.wait, e.satisfied, e.data)
theorem ok_Consumer {n : Nat} {a : Consumer} (h : GoT.ok n a) : GoT.ok n a.node ∧ GoT.ok n a.index ∧ GoT.ok n a.name ∧ GoT.ok n a.attempts ∧ GoT.ok n a.wait ∧ GoT.ok n a.satisfied ∧ GoT.ok n a.data := h
structure PacketInFlight where
  to : Int
  face : Int
  isInterest : Bool
  interest : Interest
  data : DataP
instance : Inhabited PacketInFlight := ⟨⟨default, default, default, default, default⟩⟩
instance : GoT PacketInFlight := GoT.via fun e => (e.to, e.face, e.isInterest, e.interest, e.data)
theorem ok_PacketInFlight {n : Nat} {a : PacketInFlight} (h : GoT.ok n a) : GoT.ok n a.to ∧ GoT.ok n a.face ∧ GoT.ok n a.isInterest ∧ GoT.ok n a.interest ∧ GoT.ok n a.data := h
structure Network where
  topology : Topology
  trust : TrustPolicy
  producers : List TableEntry
  nodes : List NodeP
  downNodes : Int
  failedLinks : List Int
  inFlight : List PacketInFlight
  consumers : List Consumer
  now : Int
  dropped : Int
instance : Inhabited Network := ⟨⟨default, default, default, default, default, default, default, default, default, default⟩⟩
instance : GoT Network := GoT.via fun e => (e.topology, e.trust, e.producers, e.nodes, e.downNodes, e.failedLinks, e.inFlight, e.consumers, e.now, e.dropped)
theorem ok_Network {n : Nat} {a : Network} (h : GoT.ok n a) : GoT.ok n a.topology ∧ GoT.ok n a.trust ∧ GoT.ok n a.producers ∧ GoT.ok n a.nodes ∧ GoT.ok n a.downNodes ∧ GoT.ok n a.failedLinks ∧ GoT.ok n a.inFlight ∧ GoT.ok n a.consumers ∧ GoT.ok n a.now ∧ GoT.ok n a.dropped := h
structure EventP where
  kind : Int
  n : Int
  name : Name
  forged : PacketInFlight
instance : Inhabited EventP := ⟨⟨default, default, default, default⟩⟩
instance : GoT EventP := GoT.via fun e => (e.kind, e.n, e.name, e.forged)
theorem ok_EventP {n : Nat} {a : EventP} (h : GoT.ok n a) : GoT.ok n a.kind ∧ GoT.ok n a.n ∧ GoT.ok n a.name ∧ GoT.ok n a.forged := h
structure SyncGroup where
  topology : Topology
  members : List Member
instance : Inhabited SyncGroup := ⟨⟨default, default⟩⟩
instance : GoT SyncGroup := GoT.via fun e => (e.topology, e.members)
theorem ok_SyncGroup {n : Nat} {a : SyncGroup} (h : GoT.ok n a) : GoT.ok n a.topology ∧ GoT.ok n a.members := h
structure AccessController where
  keys : List Key
  master : Int
  epoch : Int
  readers : List Reader
instance : Inhabited AccessController := ⟨⟨default, default, default, default⟩⟩
instance : GoT AccessController := GoT.via fun e => (e.keys, e.master, e.epoch, e.readers)
theorem ok_AccessController {n : Nat} {a : AccessController} (h : GoT.ok n a) : GoT.ok n a.keys ∧ GoT.ok n a.master ∧ GoT.ok n a.epoch ∧ GoT.ok n a.readers := h
end Go.Stp
