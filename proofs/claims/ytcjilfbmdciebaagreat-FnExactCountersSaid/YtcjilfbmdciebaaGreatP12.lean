/-
  What functions of the program compute, as Lean functions. No condition. Written by a program (gen2.py).
-/
import Derived.Test.YtcjilfbmdciebaaGreatP11
namespace Go.Stp
set_option linter.unusedVariables false
set_option linter.unusedSimpArgs false
def impl_EqualInterests (a : Interest) (b : Interest) : Bool :=
  bif (impl_EqualNames a.name b.name) then
    bif (a.nonce == b.nonce) then
      bif (a.hopLimit == b.hopLimit) then
        (a.lifetime == b.lifetime)
      else
        false
    else
      false
  else
    false
def spec_EqualInterests (a : Interest) (b : Interest) : Bool :=
  bif (spec_EqualNames a.name b.name) then
    bif (a.nonce == b.nonce) then
      bif (a.hopLimit == b.hopLimit) then
        (a.lifetime == b.lifetime)
      else
        false
    else
      false
  else
    false
def slices_IndexFunc_PacketInFlight_L1 (fq : PacketInFlight → Bool) : List PacketInFlight → Nat → Option (Int)
  | [], i => none
  | e1 :: rest_, i =>
    bif fq e1 then
      (some ((i : Nat) : Int))
    else
      slices_IndexFunc_PacketInFlight_L1 fq rest_ (i + 1)
def slices_IndexFunc_PacketInFlight (s : (List PacketInFlight)) (fq : PacketInFlight → Bool) : Int :=
  match slices_IndexFunc_PacketInFlight_L1 fq s 0 with
    | some r_ => r_
    | none =>
      (-1)
def slices_ContainsFunc_PacketInFlight (s : (List PacketInFlight)) (fq : PacketInFlight → Bool) : Bool :=
  (decide ((slices_IndexFunc_PacketInFlight s fq) ≥ 0))
def impl_Harmless_c1 (f : PacketInFlight) (p_ : PacketInFlight) : Bool :=
  bif p_.isInterest then
    (impl_EqualInterests p_.interest f.interest)
  else
    false
def impl_Harmless (w_ : Network) (e_ : EventP) : Bool :=
  bif (e_.kind != 9) then
    true
  else
    bif (!e_.forged.isInterest) then
      true
    else
      bif decide (e_.forged.interest.nonce ≥ 700000) then
        true
      else
        (slices_ContainsFunc_PacketInFlight w_.inFlight (fun e0_ => (impl_Harmless_c1 e_.forged e0_)))
def spec_Harmless_L1 (e_ : EventP) : List PacketInFlight → Option (Bool)
  | [] => none
  | e1 :: rest_ =>
    bif e1.isInterest then
      bif (spec_EqualInterests e1.interest e_.forged.interest) then
        (some true)
      else
        spec_Harmless_L1 e_ rest_
    else
      spec_Harmless_L1 e_ rest_
def spec_Harmless (w_ : Network) (e_ : EventP) : Bool :=
  bif (e_.kind != 9) then
    true
  else
    bif (!e_.forged.isInterest) then
      true
    else
      bif decide (e_.forged.interest.nonce ≥ 700000) then
        true
      else
        match spec_Harmless_L1 e_ w_.inFlight with
          | some r_ => r_
          | none =>
            false
def impl_Counters_L1 : List Consumer → Int → Int
  | [], served => served
  | e1 :: rest_, served =>
    bif e1.satisfied then
      impl_Counters_L1 rest_ (IntKind.i64.wrap (served + 1))
    else
      impl_Counters_L1 rest_ served
def impl_Counters (w_ : Network) : (List Int) :=
  match impl_Counters_L1 w_.consumers 0 with
    | served =>
      ([w_.now, (((w_.inFlight).length : Nat) : Int), w_.dropped, served])
def spec_Counters_L1 : List Consumer → Int → Int
  | [], n_ => n_
  | e1 :: rest_, n_ =>
    bif e1.satisfied then
      spec_Counters_L1 rest_ (IntKind.i64.wrap (n_ + 1))
    else
      spec_Counters_L1 rest_ n_
def spec_Counters (w_ : Network) : (List Int) :=
  match spec_Counters_L1 w_.consumers 0 with
    | n_ =>
      ([w_.now, (((w_.inFlight).length : Nat) : Int), w_.dropped, n_])
end Go.Stp
