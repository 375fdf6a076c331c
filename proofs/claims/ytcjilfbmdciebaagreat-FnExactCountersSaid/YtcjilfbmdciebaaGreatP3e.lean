/-
  What functions of the program compute, as Lean functions. No condition. Written by a program (gen2.py).
-/
import Derived.Test.YtcjilfbmdciebaaGreatP3
namespace Go.Stp
set_option linter.unusedVariables false
set_option linter.unusedSimpArgs false
def laws_eqIntS_L1 (b : (List Int)) : List Int → Nat → Option (Bool)
  | [], i => none
  | e1 :: rest_, i =>
    match (b)[i]? with
      | none => default
      | some e2 =>
        bif (e1 != e2) then
          (some false)
        else
          laws_eqIntS_L1 b rest_ (i + 1)
def laws_eqIntS (a : (List Int)) (b : (List Int)) : Bool :=
  bif ((((a).length : Nat) : Int) != (((b).length : Nat) : Int)) then
    false
  else
    match laws_eqIntS_L1 b a 0 with
      | some r_ => r_
      | none =>
        true
def laws_eqLink (a : Link) (b : Link) : Bool :=
  bif (a.a != b.a) then
    false
  else
    bif (a.b != b.b) then
      false
    else
      true
def laws_eqLinkS_L1 (b : (List Link)) : List Link → Nat → Option (Bool)
  | [], i => none
  | e1 :: rest_, i =>
    match (b)[i]? with
      | none => default
      | some e2 =>
        bif (!(laws_eqLink e1 e2)) then
          (some false)
        else
          laws_eqLinkS_L1 b rest_ (i + 1)
def laws_eqLinkS (a : (List Link)) (b : (List Link)) : Bool :=
  bif ((((a).length : Nat) : Int) != (((b).length : Nat) : Int)) then
    false
  else
    match laws_eqLinkS_L1 b a 0 with
      | some r_ => r_
      | none =>
        true
def laws_eqTopology (a : Topology) (b : Topology) : Bool :=
  bif (a.size != b.size) then
    false
  else
    bif (!(laws_eqLinkS a.links b.links)) then
      false
    else
      true
def laws_eqStringS_L1 (b : (List Str)) : List Str → Nat → Option (Bool)
  | [], i => none
  | e1 :: rest_, i =>
    match (b)[i]? with
      | none => default
      | some e2 =>
        bif (!((e1).toList == (e2).toList)) then
          (some false)
        else
          laws_eqStringS_L1 b rest_ (i + 1)
def laws_eqStringS (a : (List Str)) (b : (List Str)) : Bool :=
  bif ((((a).length : Nat) : Int) != (((b).length : Nat) : Int)) then
    false
  else
    match laws_eqStringS_L1 b a 0 with
      | some r_ => r_
      | none =>
        true
def laws_eqName (a : Name) (b : Name) : Bool :=
  bif (!(laws_eqStringS a.parts b.parts)) then
    false
  else
    true
def laws_eqKey (a : Key) (b : Key) : Bool :=
  bif (!(laws_eqName a.name b.name)) then
    false
  else
    bif (a.secret != b.secret) then
      false
    else
      true
def laws_eqKeyS_L1 (b : (List Key)) : List Key → Nat → Option (Bool)
  | [], i => none
  | e1 :: rest_, i =>
    match (b)[i]? with
      | none => default
      | some e2 =>
        bif (!(laws_eqKey e1 e2)) then
          (some false)
        else
          laws_eqKeyS_L1 b rest_ (i + 1)
def laws_eqKeyS (a : (List Key)) (b : (List Key)) : Bool :=
  bif ((((a).length : Nat) : Int) != (((b).length : Nat) : Int)) then
    false
  else
    match laws_eqKeyS_L1 b a 0 with
      | some r_ => r_
      | none =>
        true
def laws_eqPattern (a : Pattern) (b : Pattern) : Bool :=
  bif (!(laws_eqStringS a.parts b.parts)) then
    false
  else
    true
def laws_eqRule (a : Rule) (b : Rule) : Bool :=
  bif (!(laws_eqPattern a.dataPattern b.dataPattern)) then
    false
  else
    bif (!(laws_eqPattern a.keyPattern b.keyPattern)) then
      false
    else
      true
def laws_eqRuleS_L1 (b : (List Rule)) : List Rule → Nat → Option (Bool)
  | [], i => none
  | e1 :: rest_, i =>
    match (b)[i]? with
      | none => default
      | some e2 =>
        bif (!(laws_eqRule e1 e2)) then
          (some false)
        else
          laws_eqRuleS_L1 b rest_ (i + 1)
def laws_eqRuleS (a : (List Rule)) (b : (List Rule)) : Bool :=
  bif ((((a).length : Nat) : Int) != (((b).length : Nat) : Int)) then
    false
  else
    match laws_eqRuleS_L1 b a 0 with
      | some r_ => r_
      | none =>
        true
def laws_eqNameS_L1 (b : (List Name)) : List Name → Nat → Option (Bool)
  | [], i => none
  | e1 :: rest_, i =>
    match (b)[i]? with
      | none => default
      | some e2 =>
        bif (!(laws_eqName e1 e2)) then
          (some false)
        else
          laws_eqNameS_L1 b rest_ (i + 1)
def laws_eqNameS (a : (List Name)) (b : (List Name)) : Bool :=
  bif ((((a).length : Nat) : Int) != (((b).length : Nat) : Int)) then
    false
  else
    match laws_eqNameS_L1 b a 0 with
      | some r_ => r_
      | none =>
        true
def laws_eqByteS_L1 (b : (List UInt8)) : List UInt8 → Nat → Option (Bool)
  | [], i => none
  | e1 :: rest_, i =>
    match (b)[i]? with
      | none => default
      | some e2 =>
        bif (((e1).toNat : Int) != ((e2).toNat : Int)) then
          (some false)
        else
          laws_eqByteS_L1 b rest_ (i + 1)
def laws_eqByteS (a : (List UInt8)) (b : (List UInt8)) : Bool :=
  bif ((((a).length : Nat) : Int) != (((b).length : Nat) : Int)) then
    false
  else
    match laws_eqByteS_L1 b a 0 with
      | some r_ => r_
      | none =>
        true
def laws_eqData (a : DataP) (b : DataP) : Bool :=
  bif (!(laws_eqName a.name b.name)) then
    false
  else
    bif (!(laws_eqByteS a.content b.content)) then
      false
    else
      bif (!(laws_eqName a.keyName b.keyName)) then
        false
      else
        bif (a.freshUntil != b.freshUntil) then
          false
        else
          bif (a.signature != b.signature) then
            false
          else
            true
def laws_eqDataS_L1 (b : (List DataP)) : List DataP → Nat → Option (Bool)
  | [], i => none
  | e1 :: rest_, i =>
    match (b)[i]? with
      | none => default
      | some e2 =>
        bif (!(laws_eqData e1 e2)) then
          (some false)
        else
          laws_eqDataS_L1 b rest_ (i + 1)
def laws_eqDataS (a : (List DataP)) (b : (List DataP)) : Bool :=
  bif ((((a).length : Nat) : Int) != (((b).length : Nat) : Int)) then
    false
  else
    match laws_eqDataS_L1 b a 0 with
      | some r_ => r_
      | none =>
        true
def laws_eqTrustPolicy (a : TrustPolicy) (b : TrustPolicy) : Bool :=
  bif (!(laws_eqKeyS a.keys b.keys)) then
    false
  else
    bif (!(laws_eqRuleS a.rules b.rules)) then
      false
    else
      bif (!(laws_eqNameS a.anchors b.anchors)) then
        false
      else
        bif (!(laws_eqDataS a.certificates b.certificates)) then
          false
        else
          true
def laws_eqTableEntry (a : TableEntry) (b : TableEntry) : Bool :=
  bif (!(laws_eqName a.name b.name)) then
    false
  else
    bif (a.value != b.value) then
      false
    else
      true
def laws_eqTableEntryS_L1 (b : (List TableEntry)) : List TableEntry → Nat → Option (Bool)
  | [], i => none
  | e1 :: rest_, i =>
    match (b)[i]? with
      | none => default
      | some e2 =>
        bif (!(laws_eqTableEntry e1 e2)) then
          (some false)
        else
          laws_eqTableEntryS_L1 b rest_ (i + 1)
def laws_eqTableEntryS (a : (List TableEntry)) (b : (List TableEntry)) : Bool :=
  bif ((((a).length : Nat) : Int) != (((b).length : Nat) : Int)) then
    false
  else
    match laws_eqTableEntryS_L1 b a 0 with
      | some r_ => r_
      | none =>
        true
def laws_eqCacheEntry (a : CacheEntry) (b : CacheEntry) : Bool :=
  bif (!(laws_eqData a.data b.data)) then
    false
  else
    bif (a.lastUsed != b.lastUsed) then
      false
    else
      true
def laws_eqCacheEntryS_L1 (b : (List CacheEntry)) : List CacheEntry → Nat → Option (Bool)
  | [], i => none
  | e1 :: rest_, i =>
    match (b)[i]? with
      | none => default
      | some e2 =>
        bif (!(laws_eqCacheEntry e1 e2)) then
          (some false)
        else
          laws_eqCacheEntryS_L1 b rest_ (i + 1)
def laws_eqCacheEntryS (a : (List CacheEntry)) (b : (List CacheEntry)) : Bool :=
  bif ((((a).length : Nat) : Int) != (((b).length : Nat) : Int)) then
    false
  else
    match laws_eqCacheEntryS_L1 b a 0 with
      | some r_ => r_
      | none =>
        true
def laws_eqContentStore (a : ContentStore) (b : ContentStore) : Bool :=
  bif (a.capacity != b.capacity) then
    false
  else
    bif (!(laws_eqCacheEntryS a.entries b.entries)) then
      false
    else
      true
def laws_eqRequester (a : Requester) (b : Requester) : Bool :=
  bif (a.face != b.face) then
    false
  else
    bif (a.nonce != b.nonce) then
      false
    else
      bif (a.expiry != b.expiry) then
        false
      else
        true
def laws_eqRequesterS_L1 (b : (List Requester)) : List Requester → Nat → Option (Bool)
  | [], i => none
  | e1 :: rest_, i =>
    match (b)[i]? with
      | none => default
      | some e2 =>
        bif (!(laws_eqRequester e1 e2)) then
          (some false)
        else
          laws_eqRequesterS_L1 b rest_ (i + 1)
def laws_eqRequesterS (a : (List Requester)) (b : (List Requester)) : Bool :=
  bif ((((a).length : Nat) : Int) != (((b).length : Nat) : Int)) then
    false
  else
    match laws_eqRequesterS_L1 b a 0 with
      | some r_ => r_
      | none =>
        true
def laws_eqPendingInterest (a : PendingInterest) (b : PendingInterest) : Bool :=
  bif (!(laws_eqName a.name b.name)) then
    false
  else
    bif (!(laws_eqRequesterS a.requesters b.requesters)) then
      false
    else
      bif (a.lastSent != b.lastSent) then
        false
      else
        true
def laws_eqPendingInterestS_L1 (b : (List PendingInterest)) : List PendingInterest → Nat → Option (Bool)
  | [], i => none
  | e1 :: rest_, i =>
    match (b)[i]? with
      | none => default
      | some e2 =>
        bif (!(laws_eqPendingInterest e1 e2)) then
          (some false)
        else
          laws_eqPendingInterestS_L1 b rest_ (i + 1)
def laws_eqPendingInterestS (a : (List PendingInterest)) (b : (List PendingInterest)) : Bool :=
  bif ((((a).length : Nat) : Int) != (((b).length : Nat) : Int)) then
    false
  else
    match laws_eqPendingInterestS_L1 b a 0 with
      | some r_ => r_
      | none =>
        true
def laws_eqSeenNonce (a : SeenNonce) (b : SeenNonce) : Bool :=
  bif (!(laws_eqName a.name b.name)) then
    false
  else
    bif (a.nonce != b.nonce) then
      false
    else
      true
def laws_eqSeenNonceS_L1 (b : (List SeenNonce)) : List SeenNonce → Nat → Option (Bool)
  | [], i => none
  | e1 :: rest_, i =>
    match (b)[i]? with
      | none => default
      | some e2 =>
        bif (!(laws_eqSeenNonce e1 e2)) then
          (some false)
        else
          laws_eqSeenNonceS_L1 b rest_ (i + 1)
def laws_eqSeenNonceS (a : (List SeenNonce)) (b : (List SeenNonce)) : Bool :=
  bif ((((a).length : Nat) : Int) != (((b).length : Nat) : Int)) then
    false
  else
    match laws_eqSeenNonceS_L1 b a 0 with
      | some r_ => r_
      | none =>
        true
def laws_eqRoute (a : Route) (b : Route) : Bool :=
  bif (!(laws_eqName a.pfx b.pfx)) then
    false
  else
    bif (a.face != b.face) then
      false
    else
      bif (a.cost != b.cost) then
        false
      else
        true
def laws_eqRouteS_L1 (b : (List Route)) : List Route → Nat → Option (Bool)
  | [], i => none
  | e1 :: rest_, i =>
    match (b)[i]? with
      | none => default
      | some e2 =>
        bif (!(laws_eqRoute e1 e2)) then
          (some false)
        else
          laws_eqRouteS_L1 b rest_ (i + 1)
def laws_eqRouteS (a : (List Route)) (b : (List Route)) : Bool :=
  bif ((((a).length : Nat) : Int) != (((b).length : Nat) : Int)) then
    false
  else
    match laws_eqRouteS_L1 b a 0 with
      | some r_ => r_
      | none =>
        true
def laws_eqMeasurement (a : Measurement) (b : Measurement) : Bool :=
  bif (!(laws_eqName a.pfx b.pfx)) then
    false
  else
    bif (a.face != b.face) then
      false
    else
      bif (a.failures != b.failures) then
        false
      else
        true
def laws_eqMeasurementS_L1 (b : (List Measurement)) : List Measurement → Nat → Option (Bool)
  | [], i => none
  | e1 :: rest_, i =>
    match (b)[i]? with
      | none => default
      | some e2 =>
        bif (!(laws_eqMeasurement e1 e2)) then
          (some false)
        else
          laws_eqMeasurementS_L1 b rest_ (i + 1)
def laws_eqMeasurementS (a : (List Measurement)) (b : (List Measurement)) : Bool :=
  bif ((((a).length : Nat) : Int) != (((b).length : Nat) : Int)) then
    false
  else
    match laws_eqMeasurementS_L1 b a 0 with
      | some r_ => r_
      | none =>
        true
def laws_eqNode (a : NodeP) (b : NodeP) : Bool :=
  bif (!(laws_eqDataS a.locl b.locl)) then
    false
  else
    bif (!(laws_eqContentStore a.cache b.cache)) then
      false
    else
      bif (!(laws_eqPendingInterestS a.pending b.pending)) then
        false
      else
        bif (!(laws_eqSeenNonceS a.seen b.seen)) then
          false
        else
          bif (!(laws_eqRouteS a.routes b.routes)) then
            false
          else
            bif (!(laws_eqMeasurementS a.measurements b.measurements)) then
              false
            else
              bif (a.dropped != b.dropped) then
                false
              else
                true
def laws_eqNodeS_L1 (b : (List NodeP)) : List NodeP → Nat → Option (Bool)
  | [], i => none
  | e1 :: rest_, i =>
    match (b)[i]? with
      | none => default
      | some e2 =>
        bif (!(laws_eqNode e1 e2)) then
          (some false)
        else
          laws_eqNodeS_L1 b rest_ (i + 1)
def laws_eqNodeS (a : (List NodeP)) (b : (List NodeP)) : Bool :=
  bif ((((a).length : Nat) : Int) != (((b).length : Nat) : Int)) then
    false
  else
    match laws_eqNodeS_L1 b a 0 with
      | some r_ => r_
      | none =>
        true
def laws_eqInterest (a : Interest) (b : Interest) : Bool :=
  bif (!(laws_eqName a.name b.name)) then
    false
  else
    bif (a.nonce != b.nonce) then
      false
    else
      bif (a.hopLimit != b.hopLimit) then
        false
      else
        bif (a.lifetime != b.lifetime) then
          false
        else
          true
def laws_eqPacketInFlight (a : PacketInFlight) (b : PacketInFlight) : Bool :=
  bif (a.to != b.to) then
    false
  else
    bif (a.face != b.face) then
      false
    else
      bif (!(a.isInterest == b.isInterest)) then
        false
      else
        bif (!(laws_eqInterest a.interest b.interest)) then
          false
        else
          bif (!(laws_eqData a.data b.data)) then
            false
          else
            true
def laws_eqPacketInFlightS_L1 (b : (List PacketInFlight)) : List PacketInFlight → Nat → Option (Bool)
  | [], i => none
  | e1 :: rest_, i =>
    match (b)[i]? with
      | none => default
      | some e2 =>
        bif (!(laws_eqPacketInFlight e1 e2)) then
          (some false)
        else
          laws_eqPacketInFlightS_L1 b rest_ (i + 1)
def laws_eqPacketInFlightS (a : (List PacketInFlight)) (b : (List PacketInFlight)) : Bool :=
  bif ((((a).length : Nat) : Int) != (((b).length : Nat) : Int)) then
    false
  else
    match laws_eqPacketInFlightS_L1 b a 0 with
      | some r_ => r_
      | none =>
        true
def laws_eqConsumer (a : Consumer) (b : Consumer) : Bool :=
  bif (a.node != b.node) then
    false
  else
    bif (a.index != b.index) then
      false
    else
      bif (!(laws_eqName a.name b.name)) then
        false
      else
        bif (a.attempts != b.attempts) then
          false
        else
          bif (a.wait != b.wait) then
            false
          else
            bif (!(a.satisfied == b.satisfied)) then
              false
            else
              bif (!(laws_eqData a.data b.data)) then
                false
              else
                true
def laws_eqConsumerS_L1 (b : (List Consumer)) : List Consumer → Nat → Option (Bool)
  | [], i => none
  | e1 :: rest_, i =>
    match (b)[i]? with
      | none => default
      | some e2 =>
        bif (!(laws_eqConsumer e1 e2)) then
          (some false)
        else
          laws_eqConsumerS_L1 b rest_ (i + 1)
def laws_eqConsumerS (a : (List Consumer)) (b : (List Consumer)) : Bool :=
  bif ((((a).length : Nat) : Int) != (((b).length : Nat) : Int)) then
    false
  else
    match laws_eqConsumerS_L1 b a 0 with
      | some r_ => r_
      | none =>
        true
def laws_eqNetwork (a : Network) (b : Network) : Bool :=
  bif (!(laws_eqTopology a.topology b.topology)) then
    false
  else
    bif (!(laws_eqTrustPolicy a.trust b.trust)) then
      false
    else
      bif (!(laws_eqTableEntryS a.producers b.producers)) then
        false
      else
        bif (!(laws_eqNodeS a.nodes b.nodes)) then
          false
        else
          bif (a.downNodes != b.downNodes) then
            false
          else
            bif (!(laws_eqIntS a.failedLinks b.failedLinks)) then
              false
            else
              bif (!(laws_eqPacketInFlightS a.inFlight b.inFlight)) then
                false
              else
                bif (!(laws_eqConsumerS a.consumers b.consumers)) then
                  false
                else
                  bif (a.now != b.now) then
                    false
                  else
                    bif (a.dropped != b.dropped) then
                      false
                    else
                      true
def laws_eqEvent (a : EventP) (b : EventP) : Bool :=
  bif (a.kind != b.kind) then
    false
  else
    bif (a.n != b.n) then
      false
    else
      bif (!(laws_eqName a.name b.name)) then
        false
      else
        bif (!(laws_eqPacketInFlight a.forged b.forged)) then
          false
        else
          true
end Go.Stp
