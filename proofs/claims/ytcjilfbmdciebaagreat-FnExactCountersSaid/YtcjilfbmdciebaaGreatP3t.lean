/-
  What functions of the program compute, as Lean functions. No condition. Written by a program (gen2.py).
-/
import Derived.Test.YtcjilfbmdciebaaGreatP3e
namespace Go.Stp
set_option linter.unusedVariables false
set_option linter.unusedSimpArgs false
def laws_toLink (a : Link) : Link :=
  a
def laws_toLinkS_L1 : List Link → Nat → (List Link) → (List Link)
  | [], i, out => ((out) : List Link)
  | e1 :: rest_, i, out =>
    match (out)[i]? with
      | none => default
      | some e2 =>
        laws_toLinkS_L1 rest_ (i + 1) (((out.set i (laws_toLink e1))) : List Link)
def laws_toLinkS (a : (List Link)) : (List Link) :=
  match laws_toLinkS_L1 a 0 ((List.replicate ((a).length) (Link.mk 0 0)) : List Link) with
    | out =>
      out
def laws_toTopology (a : Topology) : Topology :=
  (Topology.mk a.size (laws_toLinkS a.links))
def laws_toStringS_L1 : List Str → Nat → (List Str) → (List Str)
  | [], i, out => ((out) : List Str)
  | e1 :: rest_, i, out =>
    match (out)[i]? with
      | none => default
      | some e2 =>
        laws_toStringS_L1 rest_ (i + 1) (((out.set i e1)) : List Str)
def laws_toStringS (a : (List Str)) : (List Str) :=
  match laws_toStringS_L1 a 0 ((List.replicate ((a).length) (⟨#[]⟩ : Str)) : List Str) with
    | out =>
      out
def laws_toName (a : Name) : Name :=
  (Name.mk (laws_toStringS a.parts))
def laws_toKey (a : Key) : Key :=
  (Key.mk (laws_toName a.name) a.secret)
def laws_toKeyS_L1 : List Key → Nat → (List Key) → (List Key)
  | [], i, out => ((out) : List Key)
  | e1 :: rest_, i, out =>
    match (out)[i]? with
      | none => default
      | some e2 =>
        laws_toKeyS_L1 rest_ (i + 1) (((out.set i (laws_toKey e1))) : List Key)
def laws_toKeyS (a : (List Key)) : (List Key) :=
  match laws_toKeyS_L1 a 0 ((List.replicate ((a).length) (Key.mk (Name.mk ([])) 0)) : List Key) with
    | out =>
      out
def laws_toPattern (a : Pattern) : Pattern :=
  (Pattern.mk (laws_toStringS a.parts))
def laws_toRule (a : Rule) : Rule :=
  (Rule.mk (laws_toPattern a.dataPattern) (laws_toPattern a.keyPattern))
def laws_toRuleS_L1 : List Rule → Nat → (List Rule) → (List Rule)
  | [], i, out => ((out) : List Rule)
  | e1 :: rest_, i, out =>
    match (out)[i]? with
      | none => default
      | some e2 =>
        laws_toRuleS_L1 rest_ (i + 1) (((out.set i (laws_toRule e1))) : List Rule)
def laws_toRuleS (a : (List Rule)) : (List Rule) :=
  match laws_toRuleS_L1 a 0 ((List.replicate ((a).length) (Rule.mk (Pattern.mk ([])) (Pattern.mk ([])))) : List Rule) with
    | out =>
      out
def laws_toNameS_L1 : List Name → Nat → (List Name) → (List Name)
  | [], i, out => ((out) : List Name)
  | e1 :: rest_, i, out =>
    match (out)[i]? with
      | none => default
      | some e2 =>
        laws_toNameS_L1 rest_ (i + 1) (((out.set i (laws_toName e1))) : List Name)
def laws_toNameS (a : (List Name)) : (List Name) :=
  match laws_toNameS_L1 a 0 ((List.replicate ((a).length) (Name.mk ([]))) : List Name) with
    | out =>
      out
def laws_toByteS_L1 : List UInt8 → Nat → (List UInt8) → (List UInt8)
  | [], i, out => ((out) : List UInt8)
  | e1 :: rest_, i, out =>
    match (out)[i]? with
      | none => default
      | some e2 =>
        laws_toByteS_L1 rest_ (i + 1) (((out.set i e1)) : List UInt8)
def laws_toByteS (a : (List UInt8)) : (List UInt8) :=
  match laws_toByteS_L1 a 0 ((List.replicate ((a).length) (0 : UInt8)) : List UInt8) with
    | out =>
      out
def laws_toData (a : DataP) : DataP :=
  (DataP.mk (laws_toName a.name) (laws_toByteS a.content) (laws_toName a.keyName) a.freshUntil a.signature)
def laws_toDataS_L1 : List DataP → Nat → (List DataP) → (List DataP)
  | [], i, out => ((out) : List DataP)
  | e1 :: rest_, i, out =>
    match (out)[i]? with
      | none => default
      | some e2 =>
        laws_toDataS_L1 rest_ (i + 1) (((out.set i (laws_toData e1))) : List DataP)
def laws_toDataS (a : (List DataP)) : (List DataP) :=
  match laws_toDataS_L1 a 0 ((List.replicate ((a).length) (DataP.mk (Name.mk ([])) ([]) (Name.mk ([])) 0 0)) : List DataP) with
    | out =>
      out
def laws_toTrustPolicy (a : TrustPolicy) : TrustPolicy :=
  (TrustPolicy.mk (laws_toKeyS a.keys) (laws_toRuleS a.rules) (laws_toNameS a.anchors) (laws_toDataS a.certificates))
def laws_toTableEntry (a : TableEntry) : TableEntry :=
  (TableEntry.mk (laws_toName a.name) a.value)
def laws_toTableEntryS_L1 : List TableEntry → Nat → (List TableEntry) → (List TableEntry)
  | [], i, out => ((out) : List TableEntry)
  | e1 :: rest_, i, out =>
    match (out)[i]? with
      | none => default
      | some e2 =>
        laws_toTableEntryS_L1 rest_ (i + 1) (((out.set i (laws_toTableEntry e1))) : List TableEntry)
def laws_toTableEntryS (a : (List TableEntry)) : (List TableEntry) :=
  match laws_toTableEntryS_L1 a 0 ((List.replicate ((a).length) (TableEntry.mk (Name.mk ([])) 0)) : List TableEntry) with
    | out =>
      out
def laws_toCacheEntry (a : CacheEntry) : CacheEntry :=
  (CacheEntry.mk (laws_toData a.data) a.lastUsed)
def laws_toCacheEntryS_L1 : List CacheEntry → Nat → (List CacheEntry) → (List CacheEntry)
  | [], i, out => ((out) : List CacheEntry)
  | e1 :: rest_, i, out =>
    match (out)[i]? with
      | none => default
      | some e2 =>
        laws_toCacheEntryS_L1 rest_ (i + 1) (((out.set i (laws_toCacheEntry e1))) : List CacheEntry)
def laws_toCacheEntryS (a : (List CacheEntry)) : (List CacheEntry) :=
  match laws_toCacheEntryS_L1 a 0 ((List.replicate ((a).length) (CacheEntry.mk (DataP.mk (Name.mk ([])) ([]) (Name.mk ([])) 0 0) 0)) : List CacheEntry) with
    | out =>
      out
def laws_toContentStore (a : ContentStore) : ContentStore :=
  (ContentStore.mk a.capacity (laws_toCacheEntryS a.entries))
def laws_toRequester (a : Requester) : Requester :=
  a
def laws_toRequesterS_L1 : List Requester → Nat → (List Requester) → (List Requester)
  | [], i, out => ((out) : List Requester)
  | e1 :: rest_, i, out =>
    match (out)[i]? with
      | none => default
      | some e2 =>
        laws_toRequesterS_L1 rest_ (i + 1) (((out.set i (laws_toRequester e1))) : List Requester)
def laws_toRequesterS (a : (List Requester)) : (List Requester) :=
  match laws_toRequesterS_L1 a 0 ((List.replicate ((a).length) (Requester.mk 0 0 0)) : List Requester) with
    | out =>
      out
def laws_toPendingInterest (a : PendingInterest) : PendingInterest :=
  (PendingInterest.mk (laws_toName a.name) (laws_toRequesterS a.requesters) a.lastSent)
def laws_toPendingInterestS_L1 : List PendingInterest → Nat → (List PendingInterest) → (List PendingInterest)
  | [], i, out => ((out) : List PendingInterest)
  | e1 :: rest_, i, out =>
    match (out)[i]? with
      | none => default
      | some e2 =>
        laws_toPendingInterestS_L1 rest_ (i + 1) (((out.set i (laws_toPendingInterest e1))) : List PendingInterest)
def laws_toPendingInterestS (a : (List PendingInterest)) : (List PendingInterest) :=
  match laws_toPendingInterestS_L1 a 0 ((List.replicate ((a).length) (PendingInterest.mk (Name.mk ([])) ([]) 0)) : List PendingInterest) with
    | out =>
      out
def laws_toSeenNonce (a : SeenNonce) : SeenNonce :=
  (SeenNonce.mk (laws_toName a.name) a.nonce)
def laws_toSeenNonceS_L1 : List SeenNonce → Nat → (List SeenNonce) → (List SeenNonce)
  | [], i, out => ((out) : List SeenNonce)
  | e1 :: rest_, i, out =>
    match (out)[i]? with
      | none => default
      | some e2 =>
        laws_toSeenNonceS_L1 rest_ (i + 1) (((out.set i (laws_toSeenNonce e1))) : List SeenNonce)
def laws_toSeenNonceS (a : (List SeenNonce)) : (List SeenNonce) :=
  match laws_toSeenNonceS_L1 a 0 ((List.replicate ((a).length) (SeenNonce.mk (Name.mk ([])) 0)) : List SeenNonce) with
    | out =>
      out
def laws_toRoute (a : Route) : Route :=
  (Route.mk (laws_toName a.pfx) a.face a.cost)
def laws_toRouteS_L1 : List Route → Nat → (List Route) → (List Route)
  | [], i, out => ((out) : List Route)
  | e1 :: rest_, i, out =>
    match (out)[i]? with
      | none => default
      | some e2 =>
        laws_toRouteS_L1 rest_ (i + 1) (((out.set i (laws_toRoute e1))) : List Route)
def laws_toRouteS (a : (List Route)) : (List Route) :=
  match laws_toRouteS_L1 a 0 ((List.replicate ((a).length) (Route.mk (Name.mk ([])) 0 0)) : List Route) with
    | out =>
      out
def laws_toMeasurement (a : Measurement) : Measurement :=
  (Measurement.mk (laws_toName a.pfx) a.face a.failures)
def laws_toMeasurementS_L1 : List Measurement → Nat → (List Measurement) → (List Measurement)
  | [], i, out => ((out) : List Measurement)
  | e1 :: rest_, i, out =>
    match (out)[i]? with
      | none => default
      | some e2 =>
        laws_toMeasurementS_L1 rest_ (i + 1) (((out.set i (laws_toMeasurement e1))) : List Measurement)
def laws_toMeasurementS (a : (List Measurement)) : (List Measurement) :=
  match laws_toMeasurementS_L1 a 0 ((List.replicate ((a).length) (Measurement.mk (Name.mk ([])) 0 0)) : List Measurement) with
    | out =>
      out
def laws_toNode (a : NodeP) : NodeP :=
  (NodeP.mk (laws_toDataS a.locl) (laws_toContentStore a.cache) (laws_toPendingInterestS a.pending) (laws_toSeenNonceS a.seen) (laws_toRouteS a.routes) (laws_toMeasurementS a.measurements) a.dropped)
def laws_toNodeS_L1 : List NodeP → Nat → (List NodeP) → (List NodeP)
  | [], i, out => ((out) : List NodeP)
  | e1 :: rest_, i, out =>
    match (out)[i]? with
      | none => default
      | some e2 =>
        laws_toNodeS_L1 rest_ (i + 1) (((out.set i (laws_toNode e1))) : List NodeP)
def laws_toNodeS (a : (List NodeP)) : (List NodeP) :=
  match laws_toNodeS_L1 a 0 ((List.replicate ((a).length) (NodeP.mk ([]) (ContentStore.mk 0 ([])) ([]) ([]) ([]) ([]) 0)) : List NodeP) with
    | out =>
      out
def laws_toIntS_L1 : List Int → Nat → (List Int) → (List Int)
  | [], i, out => ((out) : List Int)
  | e1 :: rest_, i, out =>
    match (out)[i]? with
      | none => default
      | some e2 =>
        laws_toIntS_L1 rest_ (i + 1) (((out.set i e1)) : List Int)
def laws_toIntS (a : (List Int)) : (List Int) :=
  match laws_toIntS_L1 a 0 ((List.replicate ((a).length) 0) : List Int) with
    | out =>
      out
def laws_toInterest (a : Interest) : Interest :=
  (Interest.mk (laws_toName a.name) a.nonce a.hopLimit a.lifetime)
def laws_toPacketInFlight (a : PacketInFlight) : PacketInFlight :=
  (PacketInFlight.mk a.to a.face a.isInterest (laws_toInterest a.interest) (laws_toData a.data))
def laws_toPacketInFlightS_L1 : List PacketInFlight → Nat → (List PacketInFlight) → (List PacketInFlight)
  | [], i, out => ((out) : List PacketInFlight)
  | e1 :: rest_, i, out =>
    match (out)[i]? with
      | none => default
      | some e2 =>
        laws_toPacketInFlightS_L1 rest_ (i + 1) (((out.set i (laws_toPacketInFlight e1))) : List PacketInFlight)
def laws_toPacketInFlightS (a : (List PacketInFlight)) : (List PacketInFlight) :=
  match laws_toPacketInFlightS_L1 a 0 ((List.replicate ((a).length) (PacketInFlight.mk 0 0 false (Interest.mk (Name.mk ([])) 0 0 0) (DataP.mk (Name.mk ([])) ([]) (Name.mk ([])) 0 0))) : List PacketInFlight) with
    | out =>
      out
def laws_toConsumer (a : Consumer) : Consumer :=
  (Consumer.mk a.node a.index (laws_toName a.name) a.attempts a.wait a.satisfied (laws_toData a.data))
def laws_toConsumerS_L1 : List Consumer → Nat → (List Consumer) → (List Consumer)
  | [], i, out => ((out) : List Consumer)
  | e1 :: rest_, i, out =>
    match (out)[i]? with
      | none => default
      | some e2 =>
        laws_toConsumerS_L1 rest_ (i + 1) (((out.set i (laws_toConsumer e1))) : List Consumer)
def laws_toConsumerS (a : (List Consumer)) : (List Consumer) :=
  match laws_toConsumerS_L1 a 0 ((List.replicate ((a).length) (Consumer.mk 0 0 (Name.mk ([])) 0 0 false (DataP.mk (Name.mk ([])) ([]) (Name.mk ([])) 0 0))) : List Consumer) with
    | out =>
      out
def laws_toNetwork (a : Network) : Network :=
  (Network.mk (laws_toTopology a.topology) (laws_toTrustPolicy a.trust) (laws_toTableEntryS a.producers) (laws_toNodeS a.nodes) a.downNodes (laws_toIntS a.failedLinks) (laws_toPacketInFlightS a.inFlight) (laws_toConsumerS a.consumers) a.now a.dropped)
def laws_toEvent (a : EventP) : EventP :=
  (EventP.mk a.kind a.n (laws_toName a.name) (laws_toPacketInFlight a.forged))
end Go.Stp
