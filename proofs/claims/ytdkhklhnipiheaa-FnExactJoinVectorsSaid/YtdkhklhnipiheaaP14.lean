/-
  What functions of the program compute, as Lean functions. No condition. Written by a program (gen2.py).
-/
import Derived.Test.YtdkhklhnipiheaaP13
namespace Go.Stp
set_option linter.unusedVariables false
set_option linter.unusedSimpArgs false
def impl_Replay_c1 (r : Record) (x_ : DataP) : Bool :=
  (impl_EqualNames x_.name r.data.name)
def impl_Replay_L1 : List Record → (List DataP) → (List DataP)
  | [], out => ((out) : List DataP)
  | e1 :: rest_, out =>
    bif (e1.kind != 1) then
      bif (e1.kind != 2) then
        impl_Replay_L1 rest_ ((out) : List DataP)
      else
        bif (e1.kind == 1) then
          impl_Replay_L1 rest_ ((((slices_DeleteFunc_Data out (fun e0_ => (impl_Replay_c1 e1 e0_))) ++ [(impl_copyData e1.data)])) : List DataP)
        else
          impl_Replay_L1 rest_ (((slices_DeleteFunc_Data out (fun e0_ => (impl_Replay_c1 e1 e0_)))) : List DataP)
    else
      bif (e1.kind == 1) then
        impl_Replay_L1 rest_ ((((slices_DeleteFunc_Data out (fun e0_ => (impl_Replay_c1 e1 e0_))) ++ [(impl_copyData e1.data)])) : List DataP)
      else
        impl_Replay_L1 rest_ (((slices_DeleteFunc_Data out (fun e0_ => (impl_Replay_c1 e1 e0_)))) : List DataP)
def impl_Replay (l : (List Record)) : (List DataP) :=
  match impl_Replay_L1 l ([] : List DataP) with
    | out =>
      out
def spec_l16Find_L1 (n_ : Name) : List DataP → Nat → Option (Int)
  | [], i => none
  | e1 :: rest_, i =>
    bif (spec_EqualNames e1.name n_) then
      (some ((i : Nat) : Int))
    else
      spec_l16Find_L1 n_ rest_ (i + 1)
def spec_l16Find (l : (List DataP)) (n_ : Name) : Int :=
  match spec_l16Find_L1 n_ l 0 with
    | some r_ => r_
    | none =>
      (-1)
def spec_Replay_L1 : List Record → (List DataP) → (List DataP)
  | [], out => ((out) : List DataP)
  | e1 :: rest_, out =>
    bif (e1.kind != 1) then
      bif (e1.kind != 2) then
        spec_Replay_L1 rest_ ((out) : List DataP)
      else
        bif decide ((spec_l16Find out e1.data.name) ≥ 0) then
          bif (e1.kind == 1) then
            spec_Replay_L1 rest_ (((((List.take (Int.toNat (spec_l16Find out e1.data.name)) out) ++ (List.drop (Int.toNat ((spec_l16Find out e1.data.name) + 1)) out)) ++ [(spec_l8Copy e1.data)])) : List DataP)
          else
            spec_Replay_L1 rest_ ((((List.take (Int.toNat (spec_l16Find out e1.data.name)) out) ++ (List.drop (Int.toNat ((spec_l16Find out e1.data.name) + 1)) out))) : List DataP)
        else
          bif (e1.kind == 1) then
            spec_Replay_L1 rest_ (((out ++ [(spec_l8Copy e1.data)])) : List DataP)
          else
            spec_Replay_L1 rest_ ((out) : List DataP)
    else
      bif decide ((spec_l16Find out e1.data.name) ≥ 0) then
        bif (e1.kind == 1) then
          spec_Replay_L1 rest_ (((((List.take (Int.toNat (spec_l16Find out e1.data.name)) out) ++ (List.drop (Int.toNat ((spec_l16Find out e1.data.name) + 1)) out)) ++ [(spec_l8Copy e1.data)])) : List DataP)
        else
          spec_Replay_L1 rest_ ((((List.take (Int.toNat (spec_l16Find out e1.data.name)) out) ++ (List.drop (Int.toNat ((spec_l16Find out e1.data.name) + 1)) out))) : List DataP)
      else
        bif (e1.kind == 1) then
          spec_Replay_L1 rest_ (((out ++ [(spec_l8Copy e1.data)])) : List DataP)
        else
          spec_Replay_L1 rest_ ((out) : List DataP)
def spec_Replay (l : (List Record)) : (List DataP) :=
  match spec_Replay_L1 l ([] : List DataP) with
    | out =>
      out
def impl_LogContents (l : Log) : (List DataP) :=
  (impl_Replay (impl_allRecords l))
def spec_LogContents (l : Log) : (List DataP) :=
  (spec_Replay ((spec_l29Recs l.durable) ++ l.volatile))
end Go.Stp
