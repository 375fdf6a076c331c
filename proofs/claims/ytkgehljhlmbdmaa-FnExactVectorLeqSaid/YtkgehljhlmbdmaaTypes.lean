/-
  The program's structs, as Lean has them. No condition. Written by a program (mktypes.py).
-/
import Derived.Test.YtkgehljhlmbdmaaData
namespace Go.Stp
structure Name where
  parts : List Str
instance : GoT Name := GoT.via fun e => e.parts
structure Pattern where
  parts : List Str
instance : GoT Pattern := GoT.via fun e => e.parts
structure Binding where
  letter : Str
  value : Str
instance : GoT Binding := GoT.via fun e => (e.letter, e.value)
structure TableEntry where
  name : Name
  value : Int
instance : GoT TableEntry := GoT.via fun e => (e.name, e.value)
structure Interest where
  name : Name
  nonce : Int
  hopLimit : Int
  lifetime : Int
instance : GoT Interest := GoT.via fun e => (e.name, e.nonce, e.hopLimit, e.lifetime)
structure DataP where
  name : Name
  content : List UInt8
  keyName : Name
  freshUntil : Int
  signature : Int
instance : GoT DataP := GoT.via fun e => (e.name, e.content, e.keyName, e.freshUntil, e.signature)
structure Key where
  name : Name
  secret : Int
instance : GoT Key := GoT.via fun e => (e.name, e.secret)
structure Rule where
  dataPattern : Pattern
  keyPattern : Pattern
instance : GoT Rule := GoT.via fun e => (e.dataPattern, e.keyPattern)
structure TrustPolicy where
  keys : List Key
  rules : List Rule
  anchors : List Name
  certificates : List DataP
instance : GoT TrustPolicy := GoT.via fun e => (e.keys, e.rules, e.anchors, e.certificates)
structure CacheEntry where
  data : DataP
  lastUsed : Int
instance : GoT CacheEntry := GoT.via fun e => (e.data, e.lastUsed)
structure ContentStore where
  capacity : Int
  entries : List CacheEntry
instance : GoT ContentStore := GoT.via fun e => (e.capacity, e.entries)
structure Requester where
  face : Int
  nonce : Int
  expiry : Int
instance : GoT Requester := GoT.via fun e => (e.face, e.nonce, e.expiry)
structure PendingInterest where
  name : Name
  requesters : List Requester
  lastSent : Int
instance : GoT PendingInterest := GoT.via fun e => (e.name, e.requesters, e.lastSent)
structure SeenNonce where
  name : Name
  nonce : Int
instance : GoT SeenNonce := GoT.via fun e => (e.name, e.nonce)
structure Route where
  pfx : Name
  face : Int
  cost : Int
instance : GoT Route := GoT.via fun e => (e.pfx, e.face, e.cost)
structure Measurement where
  pfx : Name
  face : Int
  failures : Int
instance : GoT Measurement := GoT.via fun e => (e.pfx, e.face, e.failures)
structure NodeP where
  locl : List DataP
  cache : ContentStore
  pending : List PendingInterest
  seen : List SeenNonce
  routes : List Route
  measurements : List Measurement
  dropped : Int
instance : GoT NodeP := GoT.via fun e => (e.locl, e.cache, e.pending, e.seen, e.routes, e.measurements, e.dropped)
structure Outgoing where
  face : Int
  isInterest : Bool
  interest : Interest
  data : DataP
instance : GoT Outgoing := GoT.via fun e => (e.face, e.isInterest, e.interest, e.data)
structure Action where
  node : NodeP
  outgoing : List Outgoing
instance : GoT Action := GoT.via fun e => (e.node, e.outgoing)
structure Link where
  a : Int
  b : Int
instance : GoT Link := GoT.via fun e => (e.a, e.b)
structure Topology where
  size : Int
  links : List Link
instance : GoT Topology := GoT.via fun e => (e.size, e.links)
structure Advertisement where
  origin : Int
  version : Int
  neighbors : List Int
  prefixes : List Name
instance : GoT Advertisement := GoT.via fun e => (e.origin, e.version, e.neighbors, e.prefixes)
structure Manifest where
  segmentSize : Int
  length : Int
  digests : List Int
instance : GoT Manifest := GoT.via fun e => (e.segmentSize, e.length, e.digests)
structure Segment where
  content : List UInt8
instance : GoT Segment := GoT.via fun e => e.content
structure Fetcher where
  manifest : Manifest
  received : Int
  segments : List Segment
  outstanding : Int
  window : Int
  threshold : Int
  losses : Int
instance : GoT Fetcher := GoT.via fun e => (e.manifest, e.received, e.segments, e.outstanding, e.window, e.threshold, e.losses)
structure Grant where
  name : Name
  secret : Int
instance : GoT Grant := GoT.via fun e => (e.name, e.secret)
structure Reader where
  node : Int
  name : Name
  epoch : Int
instance : GoT Reader := GoT.via fun e => (e.node, e.name, e.epoch)
structure StateVector where
  entries : List TableEntry
instance : GoT StateVector := GoT.via fun e => e.entries
structure Publication where
  publisher : Name
  seq : Int
  content : List UInt8
instance : GoT Publication := GoT.via fun e => (e.publisher, e.seq, e.content)
structure Member where
  name : Name
  vector : StateVector
  publications : List Publication
instance : GoT Member := GoT.via fun e => (e.name, e.vector, e.publications)
structure Record where
  kind : Int
  data : DataP
instance : GoT Record := GoT.via fun e => (e.kind, e.data)
structure Log where
  durable : List Record
  volatile : List Record
instance : GoT Log := GoT.via fun e => (e.durable, e.volatile)
structure Repository where
  log : Log
  quota : Int
instance : GoT Repository := GoT.via fun e => (e.log, e.quota)
structure Consumer where
  node : Int
  index : Int
  name : Name
  attempts : Int
  wait : Int
  satisfied : Bool
  data : DataP
instance : GoT Consumer := GoT.via fun e => (e.node, e.index, e.name, e.attempts, e.wait, e.satisfied, e.data)
structure PacketInFlight where
  to : Int
  face : Int
  isInterest : Bool
  interest : Interest
  data : DataP
instance : GoT PacketInFlight := GoT.via fun e => (e.to, e.face, e.isInterest, e.interest, e.data)
structure Network where
  topology : Topology
  trust : TrustPolicy
  producers : List TableEntry
  nodes : List NodeP
  downNodes : Int
  failedLinks : List Int
  inFlight : List PacketInFlight
  consumers : List Consumer
  now : Int
  dropped : Int
instance : GoT Network := GoT.via fun e => (e.topology, e.trust, e.producers, e.nodes, e.downNodes, e.failedLinks, e.inFlight, e.consumers, e.now, e.dropped)
structure EventP where
  kind : Int
  n : Int
  name : Name
  forged : PacketInFlight
instance : GoT EventP := GoT.via fun e => (e.kind, e.n, e.name, e.forged)
structure SyncGroup where
  topology : Topology
  members : List Member
instance : GoT SyncGroup := GoT.via fun e => (e.topology, e.members)
structure AccessController where
  keys : List Key
  master : Int
  epoch : Int
  readers : List Reader
instance : GoT AccessController := GoT.via fun e => (e.keys, e.master, e.epoch, e.readers)
end Go.Stp
