/-
  What functions of the program compute, as Lean functions. No condition. Written by a program (gen2.py).
-/
import Derived.Test.YtcjilfbmdciebaaGreatP3t
namespace Go.Stp
set_option linter.unusedVariables false
set_option linter.unusedSimpArgs false
def laws_markText_L1 (k2 : Int) (out : Str) : Int × Str :=
  if k2 > 0 then
    laws_markText_L1 (IntKind.i64.wrap (Int.tdiv k2 10)) ((bstr ([(toU8 (IntKind.i64.wrap (48 + (Int.tmod k2 10))))])) ++ out)
  else
    (k2, out)
termination_by k2.toNat
decreasing_by exact wrap_quo10 ‹_›
def laws_markText (k : Int) : Str :=
  bif decide (k ≤ 0) then
    (⟨#[109, 48]⟩ : Str)
  else
    match laws_markText_L1 k (⟨#[]⟩ : Str) with
      | (k2, out) =>
        ((⟨#[109]⟩ : Str) ++ out)
def laws_markIntS_L1 : Nat → Nat → (List Int) → Int → (List Int) × Int
  | 0, i, a2, k2 => (((a2) : List Int), k2)
  | m_ + 1, i, a2, k2 =>
    match (a2)[i]? with
      | none => default
      | some e1 =>
        laws_markIntS_L1 m_ (i + 1) (((a2.set i k2)) : List Int) (IntKind.i64.wrap (k2 + 1))
def laws_markIntS (a : (List Int)) (k : Int) : Int × (List Int) :=
  match laws_markIntS_L1 ((a).length) 0 (a : List Int) k with
    | (a2, k2) =>
      (k2, a2)
def laws_markLinkS_L1 : Nat → Nat → (List Link) → Int → (List Link) × Int
  | 0, i, a2, k2 => (((a2) : List Link), k2)
  | m_ + 1, i, a2, k2 =>
    match (a2)[i]? with
      | none => default
      | some e1 =>
        laws_markLinkS_L1 m_ (i + 1) (((a2.set i (Link.mk k2 (IntKind.i64.wrap (k2 + 1))))) : List Link) (IntKind.i64.wrap ((IntKind.i64.wrap (k2 + 1)) + 1))
def laws_markLinkS (a : (List Link)) (k : Int) : Int × (List Link) :=
  match laws_markLinkS_L1 ((a).length) 0 (a : List Link) k with
    | (a2, k2) =>
      (k2, a2)
def laws_markTopology (a : Topology) (k : Int) : Int × Topology :=
  (((laws_markLinkS a.links k).1), (Topology.mk a.size ((laws_markLinkS a.links k).2)))
def laws_markStringS_L1 : Nat → Nat → (List Str) → Int → (List Str) × Int
  | 0, i, a2, k2 => (((a2) : List Str), k2)
  | m_ + 1, i, a2, k2 =>
    match (a2)[i]? with
      | none => default
      | some e1 =>
        laws_markStringS_L1 m_ (i + 1) (((a2.set i (laws_markText k2))) : List Str) (IntKind.i64.wrap (k2 + 1))
def laws_markStringS (a : (List Str)) (k : Int) : Int × (List Str) :=
  match laws_markStringS_L1 ((a).length) 0 (a : List Str) k with
    | (a2, k2) =>
      (k2, a2)
def laws_markKeyS_L1 : Nat → Nat → (List Key) → Int → (List Key) × Int
  | 0, i, a2, k2 => (((a2) : List Key), k2)
  | m_ + 1, i, a2, k2 =>
    match (a2)[i]? with
      | none => default
      | some e1 =>
        laws_markKeyS_L1 m_ (i + 1) (((a2.set i (Key.mk (Name.mk ((laws_markStringS e1.name.parts k2).2)) ((laws_markStringS e1.name.parts k2).1)))) : List Key) (IntKind.i64.wrap (((laws_markStringS e1.name.parts k2).1) + 1))
def laws_markKeyS (a : (List Key)) (k : Int) : Int × (List Key) :=
  match laws_markKeyS_L1 ((a).length) 0 (a : List Key) k with
    | (a2, k2) =>
      (k2, a2)
def laws_markRuleS_L1 : Nat → Nat → (List Rule) → Int → (List Rule) × Int
  | 0, i, a2, k2 => (((a2) : List Rule), k2)
  | m_ + 1, i, a2, k2 =>
    match (a2)[i]? with
      | none => default
      | some e1 =>
        laws_markRuleS_L1 m_ (i + 1) (((a2.set i (Rule.mk (Pattern.mk ((laws_markStringS e1.dataPattern.parts k2).2)) (Pattern.mk ((laws_markStringS e1.keyPattern.parts ((laws_markStringS e1.dataPattern.parts k2).1)).2))))) : List Rule) ((laws_markStringS e1.keyPattern.parts ((laws_markStringS e1.dataPattern.parts k2).1)).1)
def laws_markRuleS (a : (List Rule)) (k : Int) : Int × (List Rule) :=
  match laws_markRuleS_L1 ((a).length) 0 (a : List Rule) k with
    | (a2, k2) =>
      (k2, a2)
def laws_markNameS_L1 : Nat → Nat → (List Name) → Int → (List Name) × Int
  | 0, i, a2, k2 => (((a2) : List Name), k2)
  | m_ + 1, i, a2, k2 =>
    match (a2)[i]? with
      | none => default
      | some e1 =>
        laws_markNameS_L1 m_ (i + 1) (((a2.set i (Name.mk ((laws_markStringS e1.parts k2).2)))) : List Name) ((laws_markStringS e1.parts k2).1)
def laws_markNameS (a : (List Name)) (k : Int) : Int × (List Name) :=
  match laws_markNameS_L1 ((a).length) 0 (a : List Name) k with
    | (a2, k2) =>
      (k2, a2)
def laws_markByteS_L1 : Nat → Nat → (List UInt8) → Int → (List UInt8) × Int
  | 0, i, a2, k2 => (((a2) : List UInt8), k2)
  | m_ + 1, i, a2, k2 =>
    match (a2)[i]? with
      | none => default
      | some e1 =>
        laws_markByteS_L1 m_ (i + 1) (((a2.set i (toU8 k2))) : List UInt8) (IntKind.i64.wrap (k2 + 1))
def laws_markByteS (a : (List UInt8)) (k : Int) : Int × (List UInt8) :=
  match laws_markByteS_L1 ((a).length) 0 (a : List UInt8) k with
    | (a2, k2) =>
      (k2, a2)
def laws_markDataS_L1 : Nat → Nat → (List DataP) → Int → (List DataP) × Int
  | 0, i, a2, k2 => (((a2) : List DataP), k2)
  | m_ + 1, i, a2, k2 =>
    match (a2)[i]? with
      | none => default
      | some e1 =>
        laws_markDataS_L1 m_ (i + 1) (((a2.set i (DataP.mk (Name.mk ((laws_markStringS e1.name.parts k2).2)) ((laws_markByteS e1.content ((laws_markStringS e1.name.parts k2).1)).2) (Name.mk ((laws_markStringS e1.keyName.parts ((laws_markByteS e1.content ((laws_markStringS e1.name.parts k2).1)).1)).2)) ((laws_markStringS e1.keyName.parts ((laws_markByteS e1.content ((laws_markStringS e1.name.parts k2).1)).1)).1) (IntKind.i64.wrap (((laws_markStringS e1.keyName.parts ((laws_markByteS e1.content ((laws_markStringS e1.name.parts k2).1)).1)).1) + 1))))) : List DataP) (IntKind.i64.wrap ((IntKind.i64.wrap (((laws_markStringS e1.keyName.parts ((laws_markByteS e1.content ((laws_markStringS e1.name.parts k2).1)).1)).1) + 1)) + 1))
def laws_markDataS (a : (List DataP)) (k : Int) : Int × (List DataP) :=
  match laws_markDataS_L1 ((a).length) 0 (a : List DataP) k with
    | (a2, k2) =>
      (k2, a2)
def laws_markTrustPolicy (a : TrustPolicy) (k : Int) : Int × TrustPolicy :=
  (((laws_markDataS a.certificates ((laws_markNameS a.anchors ((laws_markRuleS a.rules ((laws_markKeyS a.keys k).1)).1)).1)).1), (TrustPolicy.mk ((laws_markKeyS a.keys k).2) ((laws_markRuleS a.rules ((laws_markKeyS a.keys k).1)).2) ((laws_markNameS a.anchors ((laws_markRuleS a.rules ((laws_markKeyS a.keys k).1)).1)).2) ((laws_markDataS a.certificates ((laws_markNameS a.anchors ((laws_markRuleS a.rules ((laws_markKeyS a.keys k).1)).1)).1)).2)))
def laws_markTableEntryS_L1 : Nat → Nat → (List TableEntry) → Int → (List TableEntry) × Int
  | 0, i, a2, k2 => (((a2) : List TableEntry), k2)
  | m_ + 1, i, a2, k2 =>
    match (a2)[i]? with
      | none => default
      | some e1 =>
        laws_markTableEntryS_L1 m_ (i + 1) (((a2.set i (TableEntry.mk (Name.mk ((laws_markStringS e1.name.parts k2).2)) ((laws_markStringS e1.name.parts k2).1)))) : List TableEntry) (IntKind.i64.wrap (((laws_markStringS e1.name.parts k2).1) + 1))
def laws_markTableEntryS (a : (List TableEntry)) (k : Int) : Int × (List TableEntry) :=
  match laws_markTableEntryS_L1 ((a).length) 0 (a : List TableEntry) k with
    | (a2, k2) =>
      (k2, a2)
def laws_markCacheEntryS_L1 : Nat → Nat → (List CacheEntry) → Int → (List CacheEntry) × Int
  | 0, i, a2, k2 => (((a2) : List CacheEntry), k2)
  | m_ + 1, i, a2, k2 =>
    match (a2)[i]? with
      | none => default
      | some e1 =>
        laws_markCacheEntryS_L1 m_ (i + 1) (((a2.set i (CacheEntry.mk (DataP.mk (Name.mk ((laws_markStringS e1.data.name.parts k2).2)) ((laws_markByteS e1.data.content ((laws_markStringS e1.data.name.parts k2).1)).2) (Name.mk ((laws_markStringS e1.data.keyName.parts ((laws_markByteS e1.data.content ((laws_markStringS e1.data.name.parts k2).1)).1)).2)) ((laws_markStringS e1.data.keyName.parts ((laws_markByteS e1.data.content ((laws_markStringS e1.data.name.parts k2).1)).1)).1) (IntKind.i64.wrap (((laws_markStringS e1.data.keyName.parts ((laws_markByteS e1.data.content ((laws_markStringS e1.data.name.parts k2).1)).1)).1) + 1))) (IntKind.i64.wrap ((IntKind.i64.wrap (((laws_markStringS e1.data.keyName.parts ((laws_markByteS e1.data.content ((laws_markStringS e1.data.name.parts k2).1)).1)).1) + 1)) + 1))))) : List CacheEntry) (IntKind.i64.wrap ((IntKind.i64.wrap ((IntKind.i64.wrap (((laws_markStringS e1.data.keyName.parts ((laws_markByteS e1.data.content ((laws_markStringS e1.data.name.parts k2).1)).1)).1) + 1)) + 1)) + 1))
def laws_markCacheEntryS (a : (List CacheEntry)) (k : Int) : Int × (List CacheEntry) :=
  match laws_markCacheEntryS_L1 ((a).length) 0 (a : List CacheEntry) k with
    | (a2, k2) =>
      (k2, a2)
def laws_markRequesterS_L1 : Nat → Nat → (List Requester) → Int → (List Requester) × Int
  | 0, i, a2, k2 => (((a2) : List Requester), k2)
  | m_ + 1, i, a2, k2 =>
    match (a2)[i]? with
      | none => default
      | some e1 =>
        laws_markRequesterS_L1 m_ (i + 1) (((a2.set i (Requester.mk k2 (IntKind.i64.wrap (k2 + 1)) (IntKind.i64.wrap ((IntKind.i64.wrap (k2 + 1)) + 1))))) : List Requester) (IntKind.i64.wrap ((IntKind.i64.wrap ((IntKind.i64.wrap (k2 + 1)) + 1)) + 1))
def laws_markRequesterS (a : (List Requester)) (k : Int) : Int × (List Requester) :=
  match laws_markRequesterS_L1 ((a).length) 0 (a : List Requester) k with
    | (a2, k2) =>
      (k2, a2)
def laws_markPendingInterestS_L1 : Nat → Nat → (List PendingInterest) → Int → (List PendingInterest) × Int
  | 0, i, a2, k2 => (((a2) : List PendingInterest), k2)
  | m_ + 1, i, a2, k2 =>
    match (a2)[i]? with
      | none => default
      | some e1 =>
        laws_markPendingInterestS_L1 m_ (i + 1) (((a2.set i (PendingInterest.mk (Name.mk ((laws_markStringS e1.name.parts k2).2)) ((laws_markRequesterS e1.requesters ((laws_markStringS e1.name.parts k2).1)).2) ((laws_markRequesterS e1.requesters ((laws_markStringS e1.name.parts k2).1)).1)))) : List PendingInterest) (IntKind.i64.wrap (((laws_markRequesterS e1.requesters ((laws_markStringS e1.name.parts k2).1)).1) + 1))
def laws_markPendingInterestS (a : (List PendingInterest)) (k : Int) : Int × (List PendingInterest) :=
  match laws_markPendingInterestS_L1 ((a).length) 0 (a : List PendingInterest) k with
    | (a2, k2) =>
      (k2, a2)
def laws_markSeenNonceS_L1 : Nat → Nat → (List SeenNonce) → Int → (List SeenNonce) × Int
  | 0, i, a2, k2 => (((a2) : List SeenNonce), k2)
  | m_ + 1, i, a2, k2 =>
    match (a2)[i]? with
      | none => default
      | some e1 =>
        laws_markSeenNonceS_L1 m_ (i + 1) (((a2.set i (SeenNonce.mk (Name.mk ((laws_markStringS e1.name.parts k2).2)) ((laws_markStringS e1.name.parts k2).1)))) : List SeenNonce) (IntKind.i64.wrap (((laws_markStringS e1.name.parts k2).1) + 1))
def laws_markSeenNonceS (a : (List SeenNonce)) (k : Int) : Int × (List SeenNonce) :=
  match laws_markSeenNonceS_L1 ((a).length) 0 (a : List SeenNonce) k with
    | (a2, k2) =>
      (k2, a2)
def laws_markRouteS_L1 : Nat → Nat → (List Route) → Int → (List Route) × Int
  | 0, i, a2, k2 => (((a2) : List Route), k2)
  | m_ + 1, i, a2, k2 =>
    match (a2)[i]? with
      | none => default
      | some e1 =>
        laws_markRouteS_L1 m_ (i + 1) (((a2.set i (Route.mk (Name.mk ((laws_markStringS e1.pfx.parts k2).2)) ((laws_markStringS e1.pfx.parts k2).1) (IntKind.i64.wrap (((laws_markStringS e1.pfx.parts k2).1) + 1))))) : List Route) (IntKind.i64.wrap ((IntKind.i64.wrap (((laws_markStringS e1.pfx.parts k2).1) + 1)) + 1))
def laws_markRouteS (a : (List Route)) (k : Int) : Int × (List Route) :=
  match laws_markRouteS_L1 ((a).length) 0 (a : List Route) k with
    | (a2, k2) =>
      (k2, a2)
def laws_markMeasurementS_L1 : Nat → Nat → (List Measurement) → Int → (List Measurement) × Int
  | 0, i, a2, k2 => (((a2) : List Measurement), k2)
  | m_ + 1, i, a2, k2 =>
    match (a2)[i]? with
      | none => default
      | some e1 =>
        laws_markMeasurementS_L1 m_ (i + 1) (((a2.set i (Measurement.mk (Name.mk ((laws_markStringS e1.pfx.parts k2).2)) ((laws_markStringS e1.pfx.parts k2).1) (IntKind.i64.wrap (((laws_markStringS e1.pfx.parts k2).1) + 1))))) : List Measurement) (IntKind.i64.wrap ((IntKind.i64.wrap (((laws_markStringS e1.pfx.parts k2).1) + 1)) + 1))
def laws_markMeasurementS (a : (List Measurement)) (k : Int) : Int × (List Measurement) :=
  match laws_markMeasurementS_L1 ((a).length) 0 (a : List Measurement) k with
    | (a2, k2) =>
      (k2, a2)
def laws_markNodeS_L1 : Nat → Nat → (List NodeP) → Int → (List NodeP) × Int
  | 0, i, a2, k2 => (((a2) : List NodeP), k2)
  | m_ + 1, i, a2, k2 =>
    match (a2)[i]? with
      | none => default
      | some e1 =>
        laws_markNodeS_L1 m_ (i + 1) (((a2.set i (NodeP.mk ((laws_markDataS e1.locl k2).2) (ContentStore.mk ((laws_markDataS e1.locl k2).1) ((laws_markCacheEntryS e1.cache.entries (IntKind.i64.wrap (((laws_markDataS e1.locl k2).1) + 1))).2)) ((laws_markPendingInterestS e1.pending ((laws_markCacheEntryS e1.cache.entries (IntKind.i64.wrap (((laws_markDataS e1.locl k2).1) + 1))).1)).2) ((laws_markSeenNonceS e1.seen ((laws_markPendingInterestS e1.pending ((laws_markCacheEntryS e1.cache.entries (IntKind.i64.wrap (((laws_markDataS e1.locl k2).1) + 1))).1)).1)).2) ((laws_markRouteS e1.routes ((laws_markSeenNonceS e1.seen ((laws_markPendingInterestS e1.pending ((laws_markCacheEntryS e1.cache.entries (IntKind.i64.wrap (((laws_markDataS e1.locl k2).1) + 1))).1)).1)).1)).2) ((laws_markMeasurementS e1.measurements ((laws_markRouteS e1.routes ((laws_markSeenNonceS e1.seen ((laws_markPendingInterestS e1.pending ((laws_markCacheEntryS e1.cache.entries (IntKind.i64.wrap (((laws_markDataS e1.locl k2).1) + 1))).1)).1)).1)).1)).2) ((laws_markMeasurementS e1.measurements ((laws_markRouteS e1.routes ((laws_markSeenNonceS e1.seen ((laws_markPendingInterestS e1.pending ((laws_markCacheEntryS e1.cache.entries (IntKind.i64.wrap (((laws_markDataS e1.locl k2).1) + 1))).1)).1)).1)).1)).1)))) : List NodeP) (IntKind.i64.wrap (((laws_markMeasurementS e1.measurements ((laws_markRouteS e1.routes ((laws_markSeenNonceS e1.seen ((laws_markPendingInterestS e1.pending ((laws_markCacheEntryS e1.cache.entries (IntKind.i64.wrap (((laws_markDataS e1.locl k2).1) + 1))).1)).1)).1)).1)).1) + 1))
def laws_markNodeS (a : (List NodeP)) (k : Int) : Int × (List NodeP) :=
  match laws_markNodeS_L1 ((a).length) 0 (a : List NodeP) k with
    | (a2, k2) =>
      (k2, a2)
def laws_markPacketInFlightS_L1 : Nat → Nat → (List PacketInFlight) → Int → (List PacketInFlight) × Int
  | 0, i, a2, k2 => (((a2) : List PacketInFlight), k2)
  | m_ + 1, i, a2, k2 =>
    match (a2)[i]? with
      | none => default
      | some e1 =>
        laws_markPacketInFlightS_L1 m_ (i + 1) (((a2.set i (PacketInFlight.mk k2 (IntKind.i64.wrap (k2 + 1)) (Int.tmod (IntKind.i64.wrap ((IntKind.i64.wrap (k2 + 1)) + 1)) 3 == 0) (Interest.mk (Name.mk ((laws_markStringS e1.interest.name.parts (IntKind.i64.wrap ((IntKind.i64.wrap ((IntKind.i64.wrap (k2 + 1)) + 1)) + 1))).2)) ((laws_markStringS e1.interest.name.parts (IntKind.i64.wrap ((IntKind.i64.wrap ((IntKind.i64.wrap (k2 + 1)) + 1)) + 1))).1) (IntKind.i64.wrap (((laws_markStringS e1.interest.name.parts (IntKind.i64.wrap ((IntKind.i64.wrap ((IntKind.i64.wrap (k2 + 1)) + 1)) + 1))).1) + 1)) (IntKind.i64.wrap ((IntKind.i64.wrap (((laws_markStringS e1.interest.name.parts (IntKind.i64.wrap ((IntKind.i64.wrap ((IntKind.i64.wrap (k2 + 1)) + 1)) + 1))).1) + 1)) + 1))) (DataP.mk (Name.mk ((laws_markStringS e1.data.name.parts (IntKind.i64.wrap ((IntKind.i64.wrap ((IntKind.i64.wrap (((laws_markStringS e1.interest.name.parts (IntKind.i64.wrap ((IntKind.i64.wrap ((IntKind.i64.wrap (k2 + 1)) + 1)) + 1))).1) + 1)) + 1)) + 1))).2)) ((laws_markByteS e1.data.content ((laws_markStringS e1.data.name.parts (IntKind.i64.wrap ((IntKind.i64.wrap ((IntKind.i64.wrap (((laws_markStringS e1.interest.name.parts (IntKind.i64.wrap ((IntKind.i64.wrap ((IntKind.i64.wrap (k2 + 1)) + 1)) + 1))).1) + 1)) + 1)) + 1))).1)).2) (Name.mk ((laws_markStringS e1.data.keyName.parts ((laws_markByteS e1.data.content ((laws_markStringS e1.data.name.parts (IntKind.i64.wrap ((IntKind.i64.wrap ((IntKind.i64.wrap (((laws_markStringS e1.interest.name.parts (IntKind.i64.wrap ((IntKind.i64.wrap ((IntKind.i64.wrap (k2 + 1)) + 1)) + 1))).1) + 1)) + 1)) + 1))).1)).1)).2)) ((laws_markStringS e1.data.keyName.parts ((laws_markByteS e1.data.content ((laws_markStringS e1.data.name.parts (IntKind.i64.wrap ((IntKind.i64.wrap ((IntKind.i64.wrap (((laws_markStringS e1.interest.name.parts (IntKind.i64.wrap ((IntKind.i64.wrap ((IntKind.i64.wrap (k2 + 1)) + 1)) + 1))).1) + 1)) + 1)) + 1))).1)).1)).1) (IntKind.i64.wrap (((laws_markStringS e1.data.keyName.parts ((laws_markByteS e1.data.content ((laws_markStringS e1.data.name.parts (IntKind.i64.wrap ((IntKind.i64.wrap ((IntKind.i64.wrap (((laws_markStringS e1.interest.name.parts (IntKind.i64.wrap ((IntKind.i64.wrap ((IntKind.i64.wrap (k2 + 1)) + 1)) + 1))).1) + 1)) + 1)) + 1))).1)).1)).1) + 1)))))) : List PacketInFlight) (IntKind.i64.wrap ((IntKind.i64.wrap (((laws_markStringS e1.data.keyName.parts ((laws_markByteS e1.data.content ((laws_markStringS e1.data.name.parts (IntKind.i64.wrap ((IntKind.i64.wrap ((IntKind.i64.wrap (((laws_markStringS e1.interest.name.parts (IntKind.i64.wrap ((IntKind.i64.wrap ((IntKind.i64.wrap (k2 + 1)) + 1)) + 1))).1) + 1)) + 1)) + 1))).1)).1)).1) + 1)) + 1))
def laws_markPacketInFlightS (a : (List PacketInFlight)) (k : Int) : Int × (List PacketInFlight) :=
  match laws_markPacketInFlightS_L1 ((a).length) 0 (a : List PacketInFlight) k with
    | (a2, k2) =>
      (k2, a2)
def laws_markConsumerS_L1 : Nat → Nat → (List Consumer) → Int → (List Consumer) × Int
  | 0, i, a2, k2 => (((a2) : List Consumer), k2)
  | m_ + 1, i, a2, k2 =>
    match (a2)[i]? with
      | none => default
      | some e1 =>
        laws_markConsumerS_L1 m_ (i + 1) (((a2.set i (Consumer.mk k2 (IntKind.i64.wrap (k2 + 1)) (Name.mk ((laws_markStringS e1.name.parts (IntKind.i64.wrap ((IntKind.i64.wrap (k2 + 1)) + 1))).2)) ((laws_markStringS e1.name.parts (IntKind.i64.wrap ((IntKind.i64.wrap (k2 + 1)) + 1))).1) (IntKind.i64.wrap (((laws_markStringS e1.name.parts (IntKind.i64.wrap ((IntKind.i64.wrap (k2 + 1)) + 1))).1) + 1)) (Int.tmod (IntKind.i64.wrap ((IntKind.i64.wrap (((laws_markStringS e1.name.parts (IntKind.i64.wrap ((IntKind.i64.wrap (k2 + 1)) + 1))).1) + 1)) + 1)) 3 == 0) (DataP.mk (Name.mk ((laws_markStringS e1.data.name.parts (IntKind.i64.wrap ((IntKind.i64.wrap ((IntKind.i64.wrap (((laws_markStringS e1.name.parts (IntKind.i64.wrap ((IntKind.i64.wrap (k2 + 1)) + 1))).1) + 1)) + 1)) + 1))).2)) ((laws_markByteS e1.data.content ((laws_markStringS e1.data.name.parts (IntKind.i64.wrap ((IntKind.i64.wrap ((IntKind.i64.wrap (((laws_markStringS e1.name.parts (IntKind.i64.wrap ((IntKind.i64.wrap (k2 + 1)) + 1))).1) + 1)) + 1)) + 1))).1)).2) (Name.mk ((laws_markStringS e1.data.keyName.parts ((laws_markByteS e1.data.content ((laws_markStringS e1.data.name.parts (IntKind.i64.wrap ((IntKind.i64.wrap ((IntKind.i64.wrap (((laws_markStringS e1.name.parts (IntKind.i64.wrap ((IntKind.i64.wrap (k2 + 1)) + 1))).1) + 1)) + 1)) + 1))).1)).1)).2)) ((laws_markStringS e1.data.keyName.parts ((laws_markByteS e1.data.content ((laws_markStringS e1.data.name.parts (IntKind.i64.wrap ((IntKind.i64.wrap ((IntKind.i64.wrap (((laws_markStringS e1.name.parts (IntKind.i64.wrap ((IntKind.i64.wrap (k2 + 1)) + 1))).1) + 1)) + 1)) + 1))).1)).1)).1) (IntKind.i64.wrap (((laws_markStringS e1.data.keyName.parts ((laws_markByteS e1.data.content ((laws_markStringS e1.data.name.parts (IntKind.i64.wrap ((IntKind.i64.wrap ((IntKind.i64.wrap (((laws_markStringS e1.name.parts (IntKind.i64.wrap ((IntKind.i64.wrap (k2 + 1)) + 1))).1) + 1)) + 1)) + 1))).1)).1)).1) + 1)))))) : List Consumer) (IntKind.i64.wrap ((IntKind.i64.wrap (((laws_markStringS e1.data.keyName.parts ((laws_markByteS e1.data.content ((laws_markStringS e1.data.name.parts (IntKind.i64.wrap ((IntKind.i64.wrap ((IntKind.i64.wrap (((laws_markStringS e1.name.parts (IntKind.i64.wrap ((IntKind.i64.wrap (k2 + 1)) + 1))).1) + 1)) + 1)) + 1))).1)).1)).1) + 1)) + 1))
def laws_markConsumerS (a : (List Consumer)) (k : Int) : Int × (List Consumer) :=
  match laws_markConsumerS_L1 ((a).length) 0 (a : List Consumer) k with
    | (a2, k2) =>
      (k2, a2)
def laws_markNetwork (a : Network) (k : Int) : Int × Network :=
  (((laws_markConsumerS a.consumers ((laws_markPacketInFlightS a.inFlight ((laws_markIntS a.failedLinks ((laws_markNodeS a.nodes ((laws_markTableEntryS a.producers ((laws_markTrustPolicy a.trust ((laws_markTopology a.topology k).1)).1)).1)).1)).1)).1)).1), (Network.mk (Topology.mk a.topology.size ((laws_markTopology a.topology k).2.links)) ((laws_markTrustPolicy a.trust ((laws_markTopology a.topology k).1)).2) ((laws_markTableEntryS a.producers ((laws_markTrustPolicy a.trust ((laws_markTopology a.topology k).1)).1)).2) ((laws_markNodeS a.nodes ((laws_markTableEntryS a.producers ((laws_markTrustPolicy a.trust ((laws_markTopology a.topology k).1)).1)).1)).2) a.downNodes ((laws_markIntS a.failedLinks ((laws_markNodeS a.nodes ((laws_markTableEntryS a.producers ((laws_markTrustPolicy a.trust ((laws_markTopology a.topology k).1)).1)).1)).1)).2) ((laws_markPacketInFlightS a.inFlight ((laws_markIntS a.failedLinks ((laws_markNodeS a.nodes ((laws_markTableEntryS a.producers ((laws_markTrustPolicy a.trust ((laws_markTopology a.topology k).1)).1)).1)).1)).1)).2) ((laws_markConsumerS a.consumers ((laws_markPacketInFlightS a.inFlight ((laws_markIntS a.failedLinks ((laws_markNodeS a.nodes ((laws_markTableEntryS a.producers ((laws_markTrustPolicy a.trust ((laws_markTopology a.topology k).1)).1)).1)).1)).1)).1)).2) a.now a.dropped))
end Go.Stp
