/-
  What functions of the program compute, as Lean functions. No condition. Written by a program (gen2.py).
-/
import Derived.Test.YtdkhklhnipiheaaP13
namespace Go.Stp
set_option linter.unusedVariables false
set_option linter.unusedSimpArgs false
def impl_copyTable_c1 (e_ : TableEntry) : Bool :=
  true
def impl_keepTable_L1 (keepq : TableEntry → Bool) : List TableEntry → (List TableEntry) → (List TableEntry)
  | [], out => ((out) : List TableEntry)
  | e1 :: rest_, out =>
    bif keepq e1 then
      impl_keepTable_L1 keepq rest_ (((out ++ [(TableEntry.mk (impl_copyName e1.name) e1.value)])) : List TableEntry)
    else
      impl_keepTable_L1 keepq rest_ ((out) : List TableEntry)
def impl_keepTable (l : (List TableEntry)) (keepq : TableEntry → Bool) : (List TableEntry) :=
  match impl_keepTable_L1 keepq l ([] : List TableEntry) with
    | out =>
      out
def impl_copyTable (l : (List TableEntry)) : (List TableEntry) :=
  (impl_keepTable l (fun e0_ => (impl_copyTable_c1 e0_)))
theorem kTL : ∀ (l o : List TableEntry), impl_keepTable_L1 (fun e0_ => impl_copyTable_c1 e0_) l o = o ++ l
  | [], o => by simp [impl_keepTable_L1]
  | x :: l, o => by
    simp only [impl_keepTable_L1]
    rw [show impl_copyTable_c1 x = true from rfl, cond_true, kTL l]
    simp [impl_copyName]
theorem cT_impl (l : List TableEntry) : impl_copyTable l = l := by simp [impl_copyTable, impl_keepTable, kTL]
theorem len_copyTable (l : List TableEntry) : (impl_copyTable l).length = l.length := by rw [cT_impl]
def spec_l6Copy_L1 : List TableEntry → (List TableEntry) → (List TableEntry)
  | [], out => ((out) : List TableEntry)
  | e1 :: rest_, out =>
    spec_l6Copy_L1 rest_ (((out ++ [(TableEntry.mk (spec_l4Copy e1.name) e1.value)])) : List TableEntry)
def spec_l6Copy (l : (List TableEntry)) : (List TableEntry) :=
  match spec_l6Copy_L1 l ([] : List TableEntry) with
    | out =>
      out
theorem l6L : ∀ (l o : List TableEntry), spec_l6Copy_L1 l o = o ++ l
  | [], o => by simp [spec_l6Copy_L1]
  | x :: l, o => by
    simp only [spec_l6Copy_L1]
    rw [l6L l]
    simp [spec_l4Copy]
theorem cT_spec (l : List TableEntry) : spec_l6Copy l = l := by simp [spec_l6Copy, l6L]
theorem len_l6Copy (l : List TableEntry) : (spec_l6Copy l).length = l.length := by rw [cT_spec]
def impl_PutEntry_c1 (n_ : Name) (e_ : TableEntry) : Bool :=
  (decide ((impl_CompareNames e_.name n_) > 0))
def impl_PutEntry (l : (List TableEntry)) (n_ : Name) (v : Int) : (List TableEntry) × Bool :=
  bif decide ((impl_indexOfName l n_) ≥ 0) then
    match ((impl_copyTable l))[((impl_indexOfName l n_)).toNat]? with
      | none => default
      | some e1 =>
        bif (!(impl_ValidTable ((impl_copyTable l).set (((impl_indexOfName l n_)).toNat) (TableEntry.mk e1.name v)))) then
          ((impl_copyTable l), false)
        else
          (((impl_copyTable l).set (((impl_indexOfName l n_)).toNat) (TableEntry.mk e1.name v)), true)
  else
    bif decide ((slices_IndexFunc_TableEntry l (fun e0_ => (impl_PutEntry_c1 n_ e0_))) < 0) then
      bif (!(impl_ValidTable (slices_Insert_TableEntry (impl_copyTable l) (((l).length : Nat) : Int) ([(TableEntry.mk (impl_copyName n_) v)])))) then
        ((impl_copyTable l), false)
      else
        ((slices_Insert_TableEntry (impl_copyTable l) (((l).length : Nat) : Int) ([(TableEntry.mk (impl_copyName n_) v)])), true)
    else
      bif (!(impl_ValidTable (slices_Insert_TableEntry (impl_copyTable l) (slices_IndexFunc_TableEntry l (fun e0_ => (impl_PutEntry_c1 n_ e0_))) ([(TableEntry.mk (impl_copyName n_) v)])))) then
        ((impl_copyTable l), false)
      else
        ((slices_Insert_TableEntry (impl_copyTable l) (slices_IndexFunc_TableEntry l (fun e0_ => (impl_PutEntry_c1 n_ e0_))) ([(TableEntry.mk (impl_copyName n_) v)])), true)
def spec_PutEntry_L1 (l : (List TableEntry)) (n_ : Name) (i : Nat) : Nat :=
  if ((i : Nat) : Int) < ((((spec_l6Copy l)).length : Nat) : Int) then
    match ((spec_l6Copy l))[i]? with
      | none => default
      | some e2 =>
        if (spec_CompareNames e2.name n_) < 0 then
          spec_PutEntry_L1 l n_ (i + 1)
        else
          i
  else
    i
termination_by (spec_l6Copy l).length - i
decreasing_by all_goals (simp_wf; omega)
def spec_PutEntry (l : (List TableEntry)) (n_ : Name) (v : Int) : (List TableEntry) × Bool :=
  bif decide ((spec_l6Find l n_) ≥ 0) then
    match ((spec_l6Copy l))[((spec_l6Find l n_)).toNat]? with
      | none => default
      | some e1 =>
        bif (!(spec_ValidTable ((spec_l6Copy l).set (((spec_l6Find l n_)).toNat) (TableEntry.mk e1.name v)))) then
          ((spec_l6Copy l), false)
        else
          (((spec_l6Copy l).set (((spec_l6Find l n_)).toNat) (TableEntry.mk e1.name v)), true)
  else
    match spec_PutEntry_L1 l n_ 0 with
      | i =>
        bif (!(spec_ValidTable (((List.take i (spec_l6Copy l)) ++ [(TableEntry.mk (spec_l4Copy n_) v)]) ++ (List.drop i (spec_l6Copy l))))) then
          ((spec_l6Copy l), false)
        else
          ((((List.take i (spec_l6Copy l)) ++ [(TableEntry.mk (spec_l4Copy n_) v)]) ++ (List.drop i (spec_l6Copy l))), true)
inductive PutShape (l : List TableEntry) (n_ : Name) (v : Int) : List TableEntry → Prop
  | same : PutShape l n_ v l
  | nil : PutShape l n_ v []
  | set (i : Nat) (e : TableEntry) (h : l[i]? = some e) : PutShape l n_ v (l.set i ⟨e.name, v⟩)
  | ins (i : Nat) : PutShape l n_ v (l.take i ++ [⟨n_, v⟩] ++ l.drop i)
theorem PutShape.len {l r : List TableEntry} {n_ : Name} {v : Int} (h : PutShape l n_ v r) : r.length ≤ l.length + 1 := by
  cases h with
  | same => exact Nat.le_succ _
  | nil => exact Nat.zero_le _
  | set i e h => rw [List.length_set]; exact Nat.le_succ _
  | ins i => simp only [List.length_append, List.length_take, List.length_drop, List.length_cons, List.length_nil]; omega
theorem PutShape.els {l r : List TableEntry} {n_ : Name} {v : Int} {k : Nat} (h : PutShape l n_ v r) (hl : ∀ a ∈ l, GoT.ok k a) (hn : GoT.ok k n_) (hv : GoT.ok k v) : ∀ a ∈ r, GoT.ok k a := by
  intro a ha
  cases h with
  | same => exact hl a ha
  | nil => cases ha
  | set i e h =>
    rcases List.mem_or_eq_of_mem_set ha with ha | rfl
    · exact hl a ha
    · exact ⟨(ok_TableEntry (hl e (List.mem_of_getElem? h))).1, hv⟩
  | ins i =>
    rcases List.mem_append.1 ha with ha | ha
    · rcases List.mem_append.1 ha with ha | ha
      · exact hl a (List.mem_of_mem_take ha)
      · obtain rfl := List.mem_singleton.1 ha
        exact ⟨hn, hv⟩
    · exact hl a (List.mem_of_mem_drop ha)
theorem put_bif {P : List TableEntry → Prop} {c : Bool} {a b : List TableEntry × Bool} (h1 : P a.1) (h2 : P b.1) : P (bif c then a else b).1 := by
  cases c
  · exact h2
  · exact h1
theorem put_impl (l : List TableEntry) (n_ : Name) (v : Int) : PutShape l n_ v (impl_PutEntry l n_ v).1 := by
  unfold impl_PutEntry
  rw [cT_impl]
  refine put_bif ?_ (put_bif (put_bif .same ?_) (put_bif .same ?_))
  · cases h : l[(impl_indexOfName l n_).toNat]? with
    | none => exact .nil
    | some e1 => exact put_bif .same (.set _ e1 h)
  · exact .ins _
  · exact .ins _
theorem put_spec (l : List TableEntry) (n_ : Name) (v : Int) : PutShape l n_ v (spec_PutEntry l n_ v).1 := by
  unfold spec_PutEntry
  rw [cT_spec]
  refine put_bif ?_ (put_bif .same ?_)
  · cases h : l[(spec_l6Find l n_).toNat]? with
    | none => exact .nil
    | some e1 => exact put_bif .same (.set _ e1 h)
  · exact .ins _
end Go.Stp
