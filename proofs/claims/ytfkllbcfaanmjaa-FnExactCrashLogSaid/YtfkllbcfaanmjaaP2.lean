/-
  What functions of the program compute, as Lean functions. No condition. Written by a program (gen2.py).
-/
import Derived.Test.YtfkllbcfaanmjaaP1
namespace Go.Stp
set_option linter.unusedVariables false
set_option linter.unusedSimpArgs false
def impl_copyName (n_ : Name) : Name :=
  n_
def spec_l4Copy (n_ : Name) : Name :=
  n_
def impl_copyData (x_ : DataP) : DataP :=
  (DataP.mk (impl_copyName x_.name) x_.content (impl_copyName x_.keyName) x_.freshUntil x_.signature)
def spec_l8Copy (x_ : DataP) : DataP :=
  (DataP.mk (spec_l4Copy x_.name) x_.content (spec_l4Copy x_.keyName) x_.freshUntil x_.signature)
def impl_copyConsumer (a : Consumer) : Consumer :=
  (Consumer.mk a.node a.index (impl_copyName a.name) a.attempts a.wait a.satisfied (impl_copyData a.data))
def spec_l31Copy (a : Consumer) : Consumer :=
  (Consumer.mk a.node a.index (spec_l4Copy a.name) a.attempts a.wait a.satisfied (spec_l8Copy a.data))
def impl_NewConsumer (node : Int) (i : Int) (n_ : Name) : Consumer :=
  (Consumer.mk node i (impl_copyName n_) 0 0 false (DataP.mk (Name.mk ([])) ([]) (Name.mk ([])) 0 0))
def spec_NewConsumer (node : Int) (i : Int) (n_ : Name) : Consumer :=
  (Consumer.mk node i (spec_l4Copy n_) 0 0 false (DataP.mk (Name.mk ([])) ([]) (Name.mk ([])) 0 0))
def impl_NewMember (name : Name) : Member :=
  (Member.mk (impl_copyName name) (StateVector.mk ([])) ([]))
def spec_NewMember (me : Name) : Member :=
  (Member.mk (spec_l4Copy me) (StateVector.mk ([])) ([]))
def impl_NewRepository (quota : Int) : Repository :=
  bif (!(impl_InRange quota 0 12)) then
    (Repository.mk (Log.mk ([]) ([])) 0)
  else
    (Repository.mk (Log.mk ([]) ([])) quota)
def spec_NewRepository (quota : Int) : Repository :=
  bif (!(spec_l1In quota 0 12)) then
    (Repository.mk (Log.mk ([]) ([])) 0)
  else
    (Repository.mk (Log.mk ([]) ([])) quota)
def impl_copyRecords_L1 : List Record → (List Record) → (List Record)
  | [], out => ((out) : List Record)
  | e1 :: rest_, out =>
    impl_copyRecords_L1 rest_ (((out ++ [(Record.mk e1.kind (impl_copyData e1.data))])) : List Record)
def impl_copyRecords (l : (List Record)) : (List Record) :=
  match impl_copyRecords_L1 l ([] : List Record) with
    | out =>
      out
def spec_l29Recs_L1 : List Record → (List Record) → (List Record)
  | [], out => ((out) : List Record)
  | e1 :: rest_, out =>
    spec_l29Recs_L1 rest_ (((out ++ [(Record.mk e1.kind (spec_l8Copy e1.data))])) : List Record)
def spec_l29Recs (l : (List Record)) : (List Record) :=
  match spec_l29Recs_L1 l ([] : List Record) with
    | out =>
      out
def impl_TickConsumer (a : Consumer) : Consumer × Interest × Bool :=
  bif a.satisfied then
    ((impl_copyConsumer a), (Interest.mk (Name.mk ([])) 0 0 0), false)
  else
    bif (a.attempts == 900) then
      ((impl_copyConsumer a), (Interest.mk (Name.mk ([])) 0 0 0), false)
    else
      bif decide (a.wait > 0) then
        ((Consumer.mk ((impl_copyConsumer a).node) ((impl_copyConsumer a).index) ((impl_copyConsumer a).name) ((impl_copyConsumer a).attempts) (IntKind.i64.wrap (((impl_copyConsumer a).wait) - 1)) ((impl_copyConsumer a).satisfied) ((impl_copyConsumer a).data)), (Interest.mk (Name.mk ([])) 0 0 0), false)
      else
        ((Consumer.mk ((impl_copyConsumer a).node) ((impl_copyConsumer a).index) ((impl_copyConsumer a).name) (IntKind.i64.wrap (((impl_copyConsumer a).attempts) + 1)) 5 ((impl_copyConsumer a).satisfied) ((impl_copyConsumer a).data)), (Interest.mk (impl_copyName a.name) (impl_NonceOf a.node a.index (IntKind.i64.wrap (((impl_copyConsumer a).attempts) + 1))) 16 4), true)
def spec_TickConsumer (a : Consumer) : Consumer × Interest × Bool :=
  bif a.satisfied then
    ((spec_l31Copy a), (Interest.mk (Name.mk ([])) 0 0 0), false)
  else
    bif (a.attempts == 900) then
      ((spec_l31Copy a), (Interest.mk (Name.mk ([])) 0 0 0), false)
    else
      bif decide (a.wait > 0) then
        ((Consumer.mk ((spec_l31Copy a).node) ((spec_l31Copy a).index) ((spec_l31Copy a).name) ((spec_l31Copy a).attempts) (IntKind.i64.wrap (a.wait - 1)) ((spec_l31Copy a).satisfied) ((spec_l31Copy a).data)), (Interest.mk (Name.mk ([])) 0 0 0), false)
      else
        ((Consumer.mk ((spec_l31Copy a).node) ((spec_l31Copy a).index) ((spec_l31Copy a).name) (IntKind.i64.wrap (a.attempts + 1)) 5 ((spec_l31Copy a).satisfied) ((spec_l31Copy a).data)), (Interest.mk (spec_l4Copy a.name) (spec_NonceOf a.node a.index (IntKind.i64.wrap (a.attempts + 1))) 16 4), true)
end Go.Stp
