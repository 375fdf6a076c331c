/-
  What functions of the program compute, as Lean functions. No condition. Written by a program (gen2.py).
-/
import Derived.Test.YtcjilfbmdciebaaGreatP2
namespace Go.Stp
set_option linter.unusedVariables false
set_option linter.unusedSimpArgs false
def laws_szLinkS (a : (List Link)) (left : Int) : Int :=
  bif decide (IntKind.i64.wrap (left - (((a).length : Nat) : Int)) < 0) then
    (-1)
  else
    (IntKind.i64.wrap (left - (((a).length : Nat) : Int)))
def laws_szTopology (a : Topology) (left : Int) : Int :=
  bif decide ((laws_szLinkS a.links left) < 0) then
    (-1)
  else
    (laws_szLinkS a.links left)
def laws_szStringS_L1 : List Str → Int → Ctl (Int) (Int)
  | [], left2 => (Ctl.nxt left2)
  | e1 :: rest_, left2 =>
    bif decide (IntKind.i64.wrap (left2 - (((e1).size : Nat) : Int)) < 0) then
      (Ctl.ret (-1))
    else
      laws_szStringS_L1 rest_ (IntKind.i64.wrap (left2 - (((e1).size : Nat) : Int)))
def laws_szStringS (a : (List Str)) (left : Int) : Int :=
  bif decide (IntKind.i64.wrap (left - (((a).length : Nat) : Int)) < 0) then
    (-1)
  else
    match laws_szStringS_L1 a (IntKind.i64.wrap (left - (((a).length : Nat) : Int))) with
      | .ret r_ => r_
      | .nxt left2 =>
        left2
def laws_szName (a : Name) (left : Int) : Int :=
  bif decide ((laws_szStringS a.parts left) < 0) then
    (-1)
  else
    (laws_szStringS a.parts left)
def laws_szKey (a : Key) (left : Int) : Int :=
  bif decide ((laws_szName a.name left) < 0) then
    (-1)
  else
    (laws_szName a.name left)
def laws_szKeyS_L1 : List Key → Int → Ctl (Int) (Int)
  | [], left2 => (Ctl.nxt left2)
  | e1 :: rest_, left2 =>
    bif decide ((laws_szKey e1 left2) < 0) then
      (Ctl.ret (-1))
    else
      laws_szKeyS_L1 rest_ (laws_szKey e1 left2)
def laws_szKeyS (a : (List Key)) (left : Int) : Int :=
  bif decide (IntKind.i64.wrap (left - (((a).length : Nat) : Int)) < 0) then
    (-1)
  else
    match laws_szKeyS_L1 a (IntKind.i64.wrap (left - (((a).length : Nat) : Int))) with
      | .ret r_ => r_
      | .nxt left2 =>
        left2
def laws_szPattern (a : Pattern) (left : Int) : Int :=
  bif decide ((laws_szStringS a.parts left) < 0) then
    (-1)
  else
    (laws_szStringS a.parts left)
def laws_szRule (a : Rule) (left : Int) : Int :=
  bif decide ((laws_szPattern a.dataPattern left) < 0) then
    (-1)
  else
    bif decide ((laws_szPattern a.keyPattern (laws_szPattern a.dataPattern left)) < 0) then
      (-1)
    else
      (laws_szPattern a.keyPattern (laws_szPattern a.dataPattern left))
def laws_szRuleS_L1 : List Rule → Int → Ctl (Int) (Int)
  | [], left2 => (Ctl.nxt left2)
  | e1 :: rest_, left2 =>
    bif decide ((laws_szRule e1 left2) < 0) then
      (Ctl.ret (-1))
    else
      laws_szRuleS_L1 rest_ (laws_szRule e1 left2)
def laws_szRuleS (a : (List Rule)) (left : Int) : Int :=
  bif decide (IntKind.i64.wrap (left - (((a).length : Nat) : Int)) < 0) then
    (-1)
  else
    match laws_szRuleS_L1 a (IntKind.i64.wrap (left - (((a).length : Nat) : Int))) with
      | .ret r_ => r_
      | .nxt left2 =>
        left2
def laws_szNameS_L1 : List Name → Int → Ctl (Int) (Int)
  | [], left2 => (Ctl.nxt left2)
  | e1 :: rest_, left2 =>
    bif decide ((laws_szName e1 left2) < 0) then
      (Ctl.ret (-1))
    else
      laws_szNameS_L1 rest_ (laws_szName e1 left2)
def laws_szNameS (a : (List Name)) (left : Int) : Int :=
  bif decide (IntKind.i64.wrap (left - (((a).length : Nat) : Int)) < 0) then
    (-1)
  else
    match laws_szNameS_L1 a (IntKind.i64.wrap (left - (((a).length : Nat) : Int))) with
      | .ret r_ => r_
      | .nxt left2 =>
        left2
def laws_szByteS (a : (List UInt8)) (left : Int) : Int :=
  bif decide (IntKind.i64.wrap (left - (((a).length : Nat) : Int)) < 0) then
    (-1)
  else
    (IntKind.i64.wrap (left - (((a).length : Nat) : Int)))
def laws_szData (a : DataP) (left : Int) : Int :=
  bif decide ((laws_szName a.name left) < 0) then
    (-1)
  else
    bif decide ((laws_szByteS a.content (laws_szName a.name left)) < 0) then
      (-1)
    else
      bif decide ((laws_szName a.keyName (laws_szByteS a.content (laws_szName a.name left))) < 0) then
        (-1)
      else
        (laws_szName a.keyName (laws_szByteS a.content (laws_szName a.name left)))
def laws_szDataS_L1 : List DataP → Int → Ctl (Int) (Int)
  | [], left2 => (Ctl.nxt left2)
  | e1 :: rest_, left2 =>
    bif decide ((laws_szData e1 left2) < 0) then
      (Ctl.ret (-1))
    else
      laws_szDataS_L1 rest_ (laws_szData e1 left2)
def laws_szDataS (a : (List DataP)) (left : Int) : Int :=
  bif decide (IntKind.i64.wrap (left - (((a).length : Nat) : Int)) < 0) then
    (-1)
  else
    match laws_szDataS_L1 a (IntKind.i64.wrap (left - (((a).length : Nat) : Int))) with
      | .ret r_ => r_
      | .nxt left2 =>
        left2
def laws_szTrustPolicy (a : TrustPolicy) (left : Int) : Int :=
  bif decide ((laws_szKeyS a.keys left) < 0) then
    (-1)
  else
    bif decide ((laws_szRuleS a.rules (laws_szKeyS a.keys left)) < 0) then
      (-1)
    else
      bif decide ((laws_szNameS a.anchors (laws_szRuleS a.rules (laws_szKeyS a.keys left))) < 0) then
        (-1)
      else
        bif decide ((laws_szDataS a.certificates (laws_szNameS a.anchors (laws_szRuleS a.rules (laws_szKeyS a.keys left)))) < 0) then
          (-1)
        else
          (laws_szDataS a.certificates (laws_szNameS a.anchors (laws_szRuleS a.rules (laws_szKeyS a.keys left))))
def laws_szTableEntry (a : TableEntry) (left : Int) : Int :=
  bif decide ((laws_szName a.name left) < 0) then
    (-1)
  else
    (laws_szName a.name left)
def laws_szTableEntryS_L1 : List TableEntry → Int → Ctl (Int) (Int)
  | [], left2 => (Ctl.nxt left2)
  | e1 :: rest_, left2 =>
    bif decide ((laws_szTableEntry e1 left2) < 0) then
      (Ctl.ret (-1))
    else
      laws_szTableEntryS_L1 rest_ (laws_szTableEntry e1 left2)
def laws_szTableEntryS (a : (List TableEntry)) (left : Int) : Int :=
  bif decide (IntKind.i64.wrap (left - (((a).length : Nat) : Int)) < 0) then
    (-1)
  else
    match laws_szTableEntryS_L1 a (IntKind.i64.wrap (left - (((a).length : Nat) : Int))) with
      | .ret r_ => r_
      | .nxt left2 =>
        left2
def laws_szCacheEntry (a : CacheEntry) (left : Int) : Int :=
  bif decide ((laws_szData a.data left) < 0) then
    (-1)
  else
    (laws_szData a.data left)
def laws_szCacheEntryS_L1 : List CacheEntry → Int → Ctl (Int) (Int)
  | [], left2 => (Ctl.nxt left2)
  | e1 :: rest_, left2 =>
    bif decide ((laws_szCacheEntry e1 left2) < 0) then
      (Ctl.ret (-1))
    else
      laws_szCacheEntryS_L1 rest_ (laws_szCacheEntry e1 left2)
def laws_szCacheEntryS (a : (List CacheEntry)) (left : Int) : Int :=
  bif decide (IntKind.i64.wrap (left - (((a).length : Nat) : Int)) < 0) then
    (-1)
  else
    match laws_szCacheEntryS_L1 a (IntKind.i64.wrap (left - (((a).length : Nat) : Int))) with
      | .ret r_ => r_
      | .nxt left2 =>
        left2
def laws_szContentStore (a : ContentStore) (left : Int) : Int :=
  bif decide ((laws_szCacheEntryS a.entries left) < 0) then
    (-1)
  else
    (laws_szCacheEntryS a.entries left)
def laws_szRequesterS (a : (List Requester)) (left : Int) : Int :=
  bif decide (IntKind.i64.wrap (left - (((a).length : Nat) : Int)) < 0) then
    (-1)
  else
    (IntKind.i64.wrap (left - (((a).length : Nat) : Int)))
def laws_szPendingInterest (a : PendingInterest) (left : Int) : Int :=
  bif decide ((laws_szName a.name left) < 0) then
    (-1)
  else
    bif decide ((laws_szRequesterS a.requesters (laws_szName a.name left)) < 0) then
      (-1)
    else
      (laws_szRequesterS a.requesters (laws_szName a.name left))
def laws_szPendingInterestS_L1 : List PendingInterest → Int → Ctl (Int) (Int)
  | [], left2 => (Ctl.nxt left2)
  | e1 :: rest_, left2 =>
    bif decide ((laws_szPendingInterest e1 left2) < 0) then
      (Ctl.ret (-1))
    else
      laws_szPendingInterestS_L1 rest_ (laws_szPendingInterest e1 left2)
def laws_szPendingInterestS (a : (List PendingInterest)) (left : Int) : Int :=
  bif decide (IntKind.i64.wrap (left - (((a).length : Nat) : Int)) < 0) then
    (-1)
  else
    match laws_szPendingInterestS_L1 a (IntKind.i64.wrap (left - (((a).length : Nat) : Int))) with
      | .ret r_ => r_
      | .nxt left2 =>
        left2
def laws_szSeenNonce (a : SeenNonce) (left : Int) : Int :=
  bif decide ((laws_szName a.name left) < 0) then
    (-1)
  else
    (laws_szName a.name left)
def laws_szSeenNonceS_L1 : List SeenNonce → Int → Ctl (Int) (Int)
  | [], left2 => (Ctl.nxt left2)
  | e1 :: rest_, left2 =>
    bif decide ((laws_szSeenNonce e1 left2) < 0) then
      (Ctl.ret (-1))
    else
      laws_szSeenNonceS_L1 rest_ (laws_szSeenNonce e1 left2)
def laws_szSeenNonceS (a : (List SeenNonce)) (left : Int) : Int :=
  bif decide (IntKind.i64.wrap (left - (((a).length : Nat) : Int)) < 0) then
    (-1)
  else
    match laws_szSeenNonceS_L1 a (IntKind.i64.wrap (left - (((a).length : Nat) : Int))) with
      | .ret r_ => r_
      | .nxt left2 =>
        left2
def laws_szRoute (a : Route) (left : Int) : Int :=
  bif decide ((laws_szName a.pfx left) < 0) then
    (-1)
  else
    (laws_szName a.pfx left)
def laws_szRouteS_L1 : List Route → Int → Ctl (Int) (Int)
  | [], left2 => (Ctl.nxt left2)
  | e1 :: rest_, left2 =>
    bif decide ((laws_szRoute e1 left2) < 0) then
      (Ctl.ret (-1))
    else
      laws_szRouteS_L1 rest_ (laws_szRoute e1 left2)
def laws_szRouteS (a : (List Route)) (left : Int) : Int :=
  bif decide (IntKind.i64.wrap (left - (((a).length : Nat) : Int)) < 0) then
    (-1)
  else
    match laws_szRouteS_L1 a (IntKind.i64.wrap (left - (((a).length : Nat) : Int))) with
      | .ret r_ => r_
      | .nxt left2 =>
        left2
def laws_szMeasurement (a : Measurement) (left : Int) : Int :=
  bif decide ((laws_szName a.pfx left) < 0) then
    (-1)
  else
    (laws_szName a.pfx left)
def laws_szMeasurementS_L1 : List Measurement → Int → Ctl (Int) (Int)
  | [], left2 => (Ctl.nxt left2)
  | e1 :: rest_, left2 =>
    bif decide ((laws_szMeasurement e1 left2) < 0) then
      (Ctl.ret (-1))
    else
      laws_szMeasurementS_L1 rest_ (laws_szMeasurement e1 left2)
def laws_szMeasurementS (a : (List Measurement)) (left : Int) : Int :=
  bif decide (IntKind.i64.wrap (left - (((a).length : Nat) : Int)) < 0) then
    (-1)
  else
    match laws_szMeasurementS_L1 a (IntKind.i64.wrap (left - (((a).length : Nat) : Int))) with
      | .ret r_ => r_
      | .nxt left2 =>
        left2
def laws_szNode (a : NodeP) (left : Int) : Int :=
  bif decide ((laws_szDataS a.locl left) < 0) then
    (-1)
  else
    bif decide ((laws_szContentStore a.cache (laws_szDataS a.locl left)) < 0) then
      (-1)
    else
      bif decide ((laws_szPendingInterestS a.pending (laws_szContentStore a.cache (laws_szDataS a.locl left))) < 0) then
        (-1)
      else
        bif decide ((laws_szSeenNonceS a.seen (laws_szPendingInterestS a.pending (laws_szContentStore a.cache (laws_szDataS a.locl left)))) < 0) then
          (-1)
        else
          bif decide ((laws_szRouteS a.routes (laws_szSeenNonceS a.seen (laws_szPendingInterestS a.pending (laws_szContentStore a.cache (laws_szDataS a.locl left))))) < 0) then
            (-1)
          else
            bif decide ((laws_szMeasurementS a.measurements (laws_szRouteS a.routes (laws_szSeenNonceS a.seen (laws_szPendingInterestS a.pending (laws_szContentStore a.cache (laws_szDataS a.locl left)))))) < 0) then
              (-1)
            else
              (laws_szMeasurementS a.measurements (laws_szRouteS a.routes (laws_szSeenNonceS a.seen (laws_szPendingInterestS a.pending (laws_szContentStore a.cache (laws_szDataS a.locl left))))))
def laws_szNodeS_L1 : List NodeP → Int → Ctl (Int) (Int)
  | [], left2 => (Ctl.nxt left2)
  | e1 :: rest_, left2 =>
    bif decide ((laws_szNode e1 left2) < 0) then
      (Ctl.ret (-1))
    else
      laws_szNodeS_L1 rest_ (laws_szNode e1 left2)
def laws_szNodeS (a : (List NodeP)) (left : Int) : Int :=
  bif decide (IntKind.i64.wrap (left - (((a).length : Nat) : Int)) < 0) then
    (-1)
  else
    match laws_szNodeS_L1 a (IntKind.i64.wrap (left - (((a).length : Nat) : Int))) with
      | .ret r_ => r_
      | .nxt left2 =>
        left2
def laws_szIntS (a : (List Int)) (left : Int) : Int :=
  bif decide (IntKind.i64.wrap (left - (((a).length : Nat) : Int)) < 0) then
    (-1)
  else
    (IntKind.i64.wrap (left - (((a).length : Nat) : Int)))
def laws_szInterest (a : Interest) (left : Int) : Int :=
  bif decide ((laws_szName a.name left) < 0) then
    (-1)
  else
    (laws_szName a.name left)
def laws_szPacketInFlight (a : PacketInFlight) (left : Int) : Int :=
  bif decide ((laws_szInterest a.interest left) < 0) then
    (-1)
  else
    bif decide ((laws_szData a.data (laws_szInterest a.interest left)) < 0) then
      (-1)
    else
      (laws_szData a.data (laws_szInterest a.interest left))
def laws_szPacketInFlightS_L1 : List PacketInFlight → Int → Ctl (Int) (Int)
  | [], left2 => (Ctl.nxt left2)
  | e1 :: rest_, left2 =>
    bif decide ((laws_szPacketInFlight e1 left2) < 0) then
      (Ctl.ret (-1))
    else
      laws_szPacketInFlightS_L1 rest_ (laws_szPacketInFlight e1 left2)
def laws_szPacketInFlightS (a : (List PacketInFlight)) (left : Int) : Int :=
  bif decide (IntKind.i64.wrap (left - (((a).length : Nat) : Int)) < 0) then
    (-1)
  else
    match laws_szPacketInFlightS_L1 a (IntKind.i64.wrap (left - (((a).length : Nat) : Int))) with
      | .ret r_ => r_
      | .nxt left2 =>
        left2
def laws_szConsumer (a : Consumer) (left : Int) : Int :=
  bif decide ((laws_szName a.name left) < 0) then
    (-1)
  else
    bif decide ((laws_szData a.data (laws_szName a.name left)) < 0) then
      (-1)
    else
      (laws_szData a.data (laws_szName a.name left))
def laws_szConsumerS_L1 : List Consumer → Int → Ctl (Int) (Int)
  | [], left2 => (Ctl.nxt left2)
  | e1 :: rest_, left2 =>
    bif decide ((laws_szConsumer e1 left2) < 0) then
      (Ctl.ret (-1))
    else
      laws_szConsumerS_L1 rest_ (laws_szConsumer e1 left2)
def laws_szConsumerS (a : (List Consumer)) (left : Int) : Int :=
  bif decide (IntKind.i64.wrap (left - (((a).length : Nat) : Int)) < 0) then
    (-1)
  else
    match laws_szConsumerS_L1 a (IntKind.i64.wrap (left - (((a).length : Nat) : Int))) with
      | .ret r_ => r_
      | .nxt left2 =>
        left2
def laws_szNetwork (a : Network) (left : Int) : Int :=
  bif decide ((laws_szTopology a.topology left) < 0) then
    (-1)
  else
    bif decide ((laws_szTrustPolicy a.trust (laws_szTopology a.topology left)) < 0) then
      (-1)
    else
      bif decide ((laws_szTableEntryS a.producers (laws_szTrustPolicy a.trust (laws_szTopology a.topology left))) < 0) then
        (-1)
      else
        bif decide ((laws_szNodeS a.nodes (laws_szTableEntryS a.producers (laws_szTrustPolicy a.trust (laws_szTopology a.topology left)))) < 0) then
          (-1)
        else
          bif decide ((laws_szIntS a.failedLinks (laws_szNodeS a.nodes (laws_szTableEntryS a.producers (laws_szTrustPolicy a.trust (laws_szTopology a.topology left))))) < 0) then
            (-1)
          else
            bif decide ((laws_szPacketInFlightS a.inFlight (laws_szIntS a.failedLinks (laws_szNodeS a.nodes (laws_szTableEntryS a.producers (laws_szTrustPolicy a.trust (laws_szTopology a.topology left)))))) < 0) then
              (-1)
            else
              bif decide ((laws_szConsumerS a.consumers (laws_szPacketInFlightS a.inFlight (laws_szIntS a.failedLinks (laws_szNodeS a.nodes (laws_szTableEntryS a.producers (laws_szTrustPolicy a.trust (laws_szTopology a.topology left))))))) < 0) then
                (-1)
              else
                (laws_szConsumerS a.consumers (laws_szPacketInFlightS a.inFlight (laws_szIntS a.failedLinks (laws_szNodeS a.nodes (laws_szTableEntryS a.producers (laws_szTrustPolicy a.trust (laws_szTopology a.topology left)))))))
def laws_szEvent (a : EventP) (left : Int) : Int :=
  bif decide ((laws_szName a.name left) < 0) then
    (-1)
  else
    bif decide ((laws_szPacketInFlight a.forged (laws_szName a.name left)) < 0) then
      (-1)
    else
      (laws_szPacketInFlight a.forged (laws_szName a.name left))
end Go.Stp
