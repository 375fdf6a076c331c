/-
  That the program's functions compute what the reference's do, said of the Lean functions. No program, no condition.
-/
import Derived.Test.YtdkhklhnipiheaaP15
import Derived.Test.YtdkhklhnipiheaaP17
import Derived.Test.YtdkhklhnipiheaaLaws
namespace Go.Stp
set_option linter.unusedVariables false
set_option linter.unusedSimpArgs false
theorem same_In (a b c : Int) : impl_InRange a b c = spec_l1In a b c := rfl
theorem sEqL_string : ∀ (a b p : List Str), a.length = b.length → slices_Equal_string_L1 (p ++ b) a p.length = (if a.map (fun z : Str => z.toList) = b.map (fun z : Str => z.toList) then none else some false)
  | [], [], p, _ => by simp [slices_Equal_string_L1]
  | x :: a, y :: b, p, h => by
    have ih := sEqL_string a b (p ++ [y]) (by simpa using h)
    rw [mid_app, mid_len] at ih
    simp only [slices_Equal_string_L1, mid]
    by_cases hxy : x.toList = y.toList
    · simp [hxy, ih]
    · have hb : (x.toList == y.toList) = false := by simpa using hxy
      simp [hb, hxy]
theorem sEq_string (a b : List Str) : slices_Equal_string a b = decide (a.map (fun z : Str => z.toList) = b.map (fun z : Str => z.toList)) := by
  unfold slices_Equal_string
  by_cases hl : a.length = b.length
  · have h := sEqL_string a b [] hl
    simp only [List.nil_append, List.length_nil] at h
    simp only [hl, bne_self_F, cond_false, h]
    split <;> simp_all
  · have hne : a.map (fun z : Str => z.toList) ≠ b.map (fun z : Str => z.toList) := fun h => hl (by simpa using congrArg List.length h)
    have hn : ((a.length : Int) != (b.length : Int)) = true := by simp; omega
    simp [hn, hne]
theorem sEqL_byte : ∀ (a b p : List UInt8), a.length = b.length → slices_Equal_byte_L1 (p ++ b) a p.length = (if a = b then none else some false)
  | [], [], p, _ => by simp [slices_Equal_byte_L1]
  | x :: a, y :: b, p, h => by
    have ih := sEqL_byte a b (p ++ [y]) (by simpa using h)
    rw [mid_app, mid_len] at ih
    simp only [slices_Equal_byte_L1, mid]
    by_cases hxy : x = y
    · simp [hxy, ih]
    · have hn : ((x.toNat : Int) != (y.toNat : Int)) = true := by
        have : x.toNat ≠ y.toNat := fun h => hxy (UInt8.toNat_inj.mp h)
        simp; omega
      simp [hn, hxy]
theorem sEq_byte (a b : List UInt8) : slices_Equal_byte a b = decide (a = b) := by
  unfold slices_Equal_byte
  by_cases hl : a.length = b.length
  · have h := sEqL_byte a b [] hl
    simp only [List.nil_append, List.length_nil] at h
    simp only [hl, bne_self_F, cond_false, h]
    split <;> simp_all
  · have hne : a ≠ b := fun h => hl (by rw [h])
    have hn : ((a.length : Int) != (b.length : Int)) = true := by simp; omega
    simp [hn, hne]
theorem cNL : ∀ (a b p : List Str), match spec_CompareNames_L1 ⟨p ++ b⟩ a p.length with
    | some k => k ≠ 0 ∧ a.map (fun z : Str => z.toList) ≠ b.map (fun z : Str => z.toList)
    | none => a.length = b.length → a.map (fun z : Str => z.toList) = b.map (fun z : Str => z.toList)
  | [], b, p => by
    simp only [spec_CompareNames_L1]
    intro h
    cases b with
    | nil => rfl
    | cons => simp at h
  | x :: a, [], p => by simp [spec_CompareNames_L1]
  | x :: a, y :: b, p => by
    have ih := cNL a b (p ++ [y])
    rw [mid_app, mid_len] at ih
    have hlt : decide (((p.length : Nat) : Int) < (((p ++ y :: b).length : Nat) : Int)) = true := by simp; omega
    simp only [spec_CompareNames_L1, hlt, cond_true, mid]
    by_cases hk : spec_l4Cmp x y = 0
    · have e : x.toList = y.toList := (l4_zero _ _).1 hk
      rw [hk]
      simp only [bne_self_F, cond_false]
      revert ih
      cases spec_CompareNames_L1 ⟨p ++ y :: b⟩ a (p.length + 1) with
      | none => intro ih h; simp [e, ih (by simpa using h)]
      | some k => intro ih; exact ⟨ih.1, fun h => ih.2 (by simpa [e] using h)⟩
    · have hn : (spec_l4Cmp x y != 0) = true := by simpa using hk
      simp only [hn, cond_true]
      exact ⟨hk, fun h => hk ((l4_zero _ _).2 (by simp at h; exact h.1))⟩
theorem same_EqualNames (a b : Name) : impl_EqualNames a b = spec_EqualNames a b := by
  unfold impl_EqualNames spec_EqualNames spec_CompareNames
  rw [sEq_string]
  have h : match spec_CompareNames_L1 b a.parts 0 with
    | some k => k ≠ 0 ∧ a.parts.map (fun z : Str => z.toList) ≠ b.parts.map (fun z : Str => z.toList)
    | none => a.parts.length = b.parts.length → a.parts.map (fun z : Str => z.toList) = b.parts.map (fun z : Str => z.toList) := cNL a.parts b.parts []
  revert h
  cases spec_CompareNames_L1 b a.parts 0 with
  | some k => intro ⟨h1, h2⟩; simp [h1, h2]
  | none =>
    intro h
    by_cases hl : a.parts.length = b.parts.length
    · simp [h hl, hl]
    · have ne : a.parts.map (fun z : Str => z.toList) ≠ b.parts.map (fun z : Str => z.toList) := fun h => hl (by simpa using congrArg List.length h)
      rcases Nat.lt_or_gt_of_ne hl with c | c
      · simp [ne, c]
      · have c' : ¬ a.parts.length < b.parts.length := by omega
        simp [ne, c, c']
theorem same_EqualBytes (a b : List UInt8) : slices_Equal_byte a b = spec_EqualBytes a b := by
  rw [sEq_byte]
  unfold spec_EqualBytes bstr
  rw [ByteArray.toList_mk, ByteArray.toList_mk]
  by_cases e : a = b
  · simp [e]
  · have hb : (a == b) = false := by simpa using e
    simp [hb, e]
theorem same_EqualData (a b : DataP) : impl_EqualData a b = spec_EqualData a b := by
  simp only [impl_EqualData, spec_EqualData, same_EqualNames, same_EqualBytes]
theorem vPL : ∀ l : List UInt8, impl_ValidPart_L1 l = spec_ValidPart_L1 l ∧ (spec_ValidPart_L1 l = none ∨ spec_ValidPart_L1 l = some false)
  | [] => ⟨rfl, .inl rfl⟩
  | c :: l => by
    obtain ⟨h1, h2⟩ := vPL l
    simp only [impl_ValidPart_L1, spec_ValidPart_L1, h1, spec_l1In, ge_iff_le]
    cases decide ((97 : Int) ≤ (c.toNat : Int)) <;> cases decide ((c.toNat : Int) ≤ 122) <;> cases decide ((48 : Int) ≤ (c.toNat : Int)) <;> cases decide ((c.toNat : Int) ≤ 57) <;> cases hc : ((c.toNat : Int) == 45) <;> simp [bne, hc, h2]
theorem same_ValidPart (s : Str) : impl_ValidPart s = spec_ValidPart s := by
  unfold impl_ValidPart spec_ValidPart
  obtain ⟨h1, h2⟩ := vPL s.data.toList
  rw [h1, same_In]
  rcases h2 with h | h <;> rw [h] <;> cases spec_l1In (((s).size : Nat) : Int) 1 8 <;> rfl
theorem iF_string : ∀ (f : Str → Bool) (l : List Str) (i : Nat), (slices_IndexFunc_string_L1 f l i = none ∧ l.any f = false) ∨ ∃ j : Nat, slices_IndexFunc_string_L1 f l i = some (j : Int) ∧ l.any f = true
  | f, [], i => .inl ⟨rfl, rfl⟩
  | f, x :: l, i => by
    simp only [slices_IndexFunc_string_L1, List.any_cons]
    cases hx : f x
    · simpa using iF_string f l (i + 1)
    · exact .inr ⟨i, rfl, rfl⟩
theorem cF_string (l : List Str) (f : Str → Bool) : slices_ContainsFunc_string l f = l.any f := by
  unfold slices_ContainsFunc_string slices_IndexFunc_string
  rcases iF_string f l 0 with ⟨h1, h2⟩ | ⟨j, h1, h2⟩ <;> simp [h1, h2]
theorem vNL : ∀ l : List Str, spec_ValidName_L1 l = bif l.any (fun e => !(spec_ValidPart e)) then some false else none
  | [] => rfl
  | x :: l => by
    simp only [spec_ValidName_L1, List.any_cons]
    cases (!(spec_ValidPart x)) <;> simp [vNL l]
theorem same_ValidName (a : Name) : impl_ValidName a = spec_ValidName a := by
  unfold impl_ValidName spec_ValidName impl_ValidName_c1
  rw [cF_string, vNL]
  simp only [same_ValidPart]
  cases a.parts.any (fun e => !(spec_ValidPart e)) <;> cases decide ((((a.parts).length : Nat) : Int) ≤ 6) <;> rfl
theorem same_ValidData (a : DataP) : impl_ValidData a = spec_ValidData a := by
  simp only [impl_ValidData, spec_ValidData, same_ValidName, same_In]
theorem same_ValidRecord' (a : Record) : impl_ValidRecord a = spec_ValidRecord a := by
  simp only [impl_ValidRecord, spec_ValidRecord, same_ValidData, same_ValidName, same_EqualData]
theorem iF_Record : ∀ (f : Record → Bool) (l : List Record) (i : Nat), (slices_IndexFunc_Record_L1 f l i = none ∧ l.any f = false) ∨ ∃ j : Nat, slices_IndexFunc_Record_L1 f l i = some (j : Int) ∧ l.any f = true
  | f, [], i => .inl ⟨rfl, rfl⟩
  | f, x :: l, i => by
    simp only [slices_IndexFunc_Record_L1, List.any_cons]
    cases hx : f x
    · simpa using iF_Record f l (i + 1)
    · exact .inr ⟨i, rfl, rfl⟩
theorem cF_Record (l : List Record) (f : Record → Bool) : slices_ContainsFunc_Record l f = l.any f := by
  unfold slices_ContainsFunc_Record slices_IndexFunc_Record
  rcases iF_Record f l 0 with ⟨h1, h2⟩ | ⟨j, h1, h2⟩ <;> simp [h1, h2]
theorem vLL1 : ∀ l : List Record, spec_ValidLog_L1 l = bif l.any (fun e => !(spec_ValidRecord e)) then some false else none
  | [] => rfl
  | x :: l => by
    simp only [spec_ValidLog_L1, List.any_cons]
    cases (!(spec_ValidRecord x)) <;> simp [vLL1 l]
theorem vLL2 : ∀ l : List Record, spec_ValidLog_L2 l = bif l.any (fun e => !(spec_ValidRecord e)) then some false else none
  | [] => rfl
  | x :: l => by
    simp only [spec_ValidLog_L2, List.any_cons]
    cases (!(spec_ValidRecord x)) <;> simp [vLL2 l]
theorem same_ValidLog' (a : Log) : impl_ValidLog a = spec_ValidLog a := by
  unfold impl_ValidLog spec_ValidLog impl_ValidLog_c1
  rw [cF_Record, cF_Record, vLL1, vLL2]
  simp only [same_ValidRecord']
  cases a.durable.any (fun e => !(spec_ValidRecord e)) <;> cases a.volatile.any (fun e => !(spec_ValidRecord e)) <;> cases decide ((((a.durable).length : Nat) : Int) + (((a.volatile).length : Nat) : Int) ≤ 40) <;> rfl
theorem cmp_l4 (x y : Str) : cmp_Compare_string x y = spec_l4Cmp x y := by
  simp [cmp_Compare_string, cmp_isNaN_string, spec_l4Cmp]
theorem cCL : ∀ (a b p : List Str), (slices_Compare_string_L1 (p ++ b) a p.length = spec_CompareNames_L1 ⟨p ++ b⟩ a p.length ∧ (spec_CompareNames_L1 ⟨p ++ b⟩ a p.length = none → a.length ≤ b.length)) ∨ (slices_Compare_string_L1 (p ++ b) a p.length = some 1 ∧ spec_CompareNames_L1 ⟨p ++ b⟩ a p.length = none ∧ b.length < a.length)
  | [], b, p => .inl ⟨rfl, fun _ => Nat.zero_le _⟩
  | x :: a, [], p => .inr (by simp [slices_Compare_string_L1, spec_CompareNames_L1])
  | x :: a, y :: b, p => by
    have ih := cCL a b (p ++ [y])
    rw [mid_app, mid_len] at ih
    have hlt : decide (((p.length : Nat) : Int) < (((p ++ y :: b).length : Nat) : Int)) = true := by simp; omega
    have hge : decide (((p.length : Nat) : Int) ≥ (((p ++ y :: b).length : Nat) : Int)) = false := by simp; omega
    simp only [spec_CompareNames_L1, slices_Compare_string_L1, hlt, hge, cond_true, cond_false, mid, cmp_l4, List.length_cons]
    cases (spec_l4Cmp x y != 0)
    · simp only [cond_false]
      rcases ih with ⟨h1, h2⟩ | ⟨h1, h2, h3⟩
      · exact .inl ⟨h1, fun h => by have := h2 h; omega⟩
      · exact .inr ⟨h1, h2, by omega⟩
    · exact .inl ⟨rfl, fun h => by cases h⟩
theorem same_CompareNames (a b : Name) : impl_CompareNames a b = spec_CompareNames a b := by
  unfold impl_CompareNames slices_Compare_string spec_CompareNames
  have h : (slices_Compare_string_L1 b.parts a.parts 0 = spec_CompareNames_L1 b a.parts 0 ∧ (spec_CompareNames_L1 b a.parts 0 = none → a.parts.length ≤ b.parts.length)) ∨ (slices_Compare_string_L1 b.parts a.parts 0 = some 1 ∧ spec_CompareNames_L1 b a.parts 0 = none ∧ b.parts.length < a.parts.length) := cCL a.parts b.parts []
  rcases h with ⟨h1, h2⟩ | ⟨h1, h2, h3⟩
  · rw [h1]
    cases hs : spec_CompareNames_L1 b a.parts 0 with
    | some k => rfl
    | none =>
      have := h2 hs
      have c : decide ((((a.parts).length : Nat) : Int) > (((b.parts).length : Nat) : Int)) = false := by simp; omega
      simp only [c, cond_false]
  · rw [h1, h2]
    have c : decide ((((a.parts).length : Nat) : Int) > (((b.parts).length : Nat) : Int)) = true := by simp; omega
    have d : decide ((((a.parts).length : Nat) : Int) < (((b.parts).length : Nat) : Int)) = false := by simp; omega
    simp only [c, d, cond_false, cond_true]
theorem vTL (l : List TableEntry) : ∀ (r : List TableEntry) (i : Nat), impl_ValidTable_L1 l r i = spec_ValidTable_L1 l r i
  | [], _ => rfl
  | x :: r, i => by simp only [impl_ValidTable_L1, spec_ValidTable_L1, same_ValidName, same_CompareNames, vTL l r]
theorem same_ValidTable (l : List TableEntry) : impl_ValidTable l = spec_ValidTable l := by
  unfold impl_ValidTable spec_ValidTable
  rw [vTL]
theorem iF_TableEntry : ∀ (f : TableEntry → Bool) (l : List TableEntry) (i : Nat), (slices_IndexFunc_TableEntry_L1 f l i = none ∧ l.any f = false) ∨ ∃ j : Nat, slices_IndexFunc_TableEntry_L1 f l i = some (j : Int) ∧ l.any f = true
  | f, [], i => .inl ⟨rfl, rfl⟩
  | f, x :: l, i => by
    simp only [slices_IndexFunc_TableEntry_L1, List.any_cons]
    cases hx : f x
    · simpa using iF_TableEntry f l (i + 1)
    · exact .inr ⟨i, rfl, rfl⟩
theorem cF_TableEntry (l : List TableEntry) (f : TableEntry → Bool) : slices_ContainsFunc_TableEntry l f = l.any f := by
  unfold slices_ContainsFunc_TableEntry slices_IndexFunc_TableEntry
  rcases iF_TableEntry f l 0 with ⟨h1, h2⟩ | ⟨j, h1, h2⟩ <;> simp [h1, h2]
theorem vVL : ∀ l : List TableEntry, spec_ValidVector_L1 l = bif l.any (fun e => !(spec_l1In e.value 1 1000)) then some false else none
  | [] => rfl
  | x :: l => by
    simp only [spec_ValidVector_L1, List.any_cons]
    cases (!(spec_l1In x.value 1 1000)) <;> simp [vVL l]
theorem same_ValidVector' (a : StateVector) : impl_ValidVector a = spec_ValidVector a := by
  unfold impl_ValidVector spec_ValidVector impl_ValidVector_c1
  rw [cF_TableEntry, vVL, same_ValidTable]
  simp only [same_In]
  cases a.entries.any (fun e => !(spec_l1In e.value 1 1000)) <;> cases spec_ValidTable a.entries <;> rfl
theorem ixL (n_ : Name) : ∀ (l : List TableEntry) (i : Nat), slices_IndexFunc_TableEntry_L1 (fun e0_ => impl_indexOfName_c1 n_ e0_) l i = spec_l6Find_L1 n_ l i
  | [], i => rfl
  | x :: l, i => by
    simp only [slices_IndexFunc_TableEntry_L1, spec_l6Find_L1]
    rw [ixL n_ l (i + 1), show impl_indexOfName_c1 n_ x = spec_EqualNames x.name n_ from same_EqualNames _ _]
theorem same_indexOfName (l : List TableEntry) (n_ : Name) : impl_indexOfName l n_ = spec_l6Find l n_ := by
  unfold impl_indexOfName slices_IndexFunc_TableEntry spec_l6Find
  rw [ixL] <;> (cases spec_l6Find_L1 n_ l 0 <;> rfl)
theorem same_LookupEntry (l : List TableEntry) (n_ : Name) : impl_LookupEntry l n_ = spec_LookupEntry l n_ := by
  simp only [impl_LookupEntry, spec_LookupEntry, same_indexOfName]
theorem same_SeqOf' (v : StateVector) (n_ : Name) : impl_SeqOf v n_ = spec_SeqOf v n_ := by
  simp only [impl_SeqOf, spec_SeqOf, same_LookupEntry]
def nK (n : Name) : List (List UInt8) := n.parts.map (fun z : Str => z.toList)
theorem eqN_impl (a b : Name) : impl_EqualNames a b = decide (nK a = nK b) := sEq_string a.parts b.parts
theorem eqN_spec (a b : Name) : spec_EqualNames a b = decide (nK a = nK b) := by rw [← same_EqualNames, eqN_impl]
theorem f16N (n : Name) : ∀ (l : List DataP) (i : Nat), spec_l16Find_L1 n l i = none → ∀ a ∈ l, ¬ nK a.name = nK n
  | [], i, h, a, ha => by cases ha
  | x :: l, i, h, a, ha => by
    simp only [spec_l16Find_L1, eqN_spec] at h
    by_cases hx : nK x.name = nK n
    · simp [hx] at h
    · simp only [hx, decide_false, cond_false] at h
      rcases List.mem_cons.1 ha with rfl | ha
      · exact hx
      · exact f16N n l (i + 1) h a ha
theorem f16S (n : Name) : ∀ (l : List DataP) (i : Nat) (j : Int), spec_l16Find_L1 n l i = some j → ∃ m a, j = ((i + m : Nat) : Int) ∧ l[m]? = some a ∧ nK a.name = nK n ∧ ∀ b ∈ l.take m, ¬ nK b.name = nK n
  | [], i, j, h => by cases h
  | x :: l, i, j, h => by
    simp only [spec_l16Find_L1, eqN_spec] at h
    by_cases hx : nK x.name = nK n
    · simp only [hx, decide_true, cond_true, Option.some.injEq] at h
      exact ⟨0, x, by rw [← h]; rfl, rfl, hx, fun b hb => by simp at hb⟩
    · simp only [hx, decide_false, cond_false] at h
      obtain ⟨m, a, h1, h2, h3, h4⟩ := f16S n l (i + 1) j h
      refine ⟨m + 1, a, by rw [h1]; congr 1; omega, by simpa using h2, h3, fun b hb => ?_⟩
      rw [List.take_succ_cons] at hb
      rcases List.mem_cons.1 hb with rfl | hb
      · exact hx
      · exact h4 b hb
theorem f16E {n : Name} {l : List DataP} (h : spec_l16Find l n < 0) : ∀ a ∈ l, ¬ nK a.name = nK n := by
  unfold spec_l16Find at h
  cases hx : spec_l16Find_L1 n l 0 with
  | none => exact f16N n l 0 hx
  | some j =>
    obtain ⟨m, a, h1, _⟩ := f16S n l 0 j hx
    rw [hx] at h
    have : j < 0 := h
    omega
theorem f16T {n : Name} {l : List DataP} (h : ¬ spec_l16Find l n < 0) : ∃ (m : Nat) (a : DataP), spec_l16Find l n = (m : Int) ∧ l[m]? = some a ∧ nK a.name = nK n ∧ ∀ b ∈ l.take m, ¬ nK b.name = nK n := by
  unfold spec_l16Find at h ⊢
  cases hx : spec_l16Find_L1 n l 0 with
  | none => rw [hx] at h; exact absurd (by decide) h
  | some j =>
    obtain ⟨m, a, h1, h2⟩ := f16S n l 0 j hx
    exact ⟨m, a, by rw [h1, Nat.zero_add], h2⟩
def nUq (l : List DataP) : Prop := l.Pairwise (fun a b => ¬ nK a.name = nK b.name)
theorem del_one {n : Name} : ∀ {l : List DataP} {m : Nat} {a : DataP}, nUq l → l[m]? = some a → nK a.name = nK n → l.filter (fun e => !decide (nK e.name = nK n)) = l.take m ++ l.drop (m + 1)
  | x :: l, 0, a, hu, hm, ha => by
    simp at hm; subst hm
    rw [List.filter_cons_of_neg (by simp [ha])]
    simp only [List.take_zero, List.nil_append, List.drop_succ_cons, List.drop_zero]
    refine List.filter_eq_self.2 fun b hb => ?_
    have := (List.pairwise_cons.1 hu).1 b hb
    rw [ha] at this
    simp [Ne.symm this]
  | x :: l, m + 1, a, hu, hm, ha => by
    have hx : ¬ nK x.name = nK n := by
      have := (List.pairwise_cons.1 hu).1 a (List.mem_of_getElem? (by simpa using hm))
      rw [ha] at this; exact this
    rw [List.filter_cons_of_pos (by simp [hx]), del_one (List.pairwise_cons.1 hu).2 (by simpa using hm) ha]
    simp
theorem del_none {n : Name} {l : List DataP} (h : ∀ a ∈ l, ¬ nK a.name = nK n) : l.filter (fun e => !decide (nK e.name = nK n)) = l := List.filter_eq_self.2 fun b hb => by simp [h b hb]
theorem del_uq {n : Name} {l : List DataP} (h : nUq l) : nUq (l.filter (fun e => !decide (nK e.name = nK n))) := h.filter _
theorem del_snoc {l : List DataP} {x : DataP} (h : nUq l) : nUq (l.filter (fun e => !decide (nK e.name = nK x.name)) ++ [x]) := by
  unfold nUq
  rw [List.pairwise_append]
  refine ⟨h.filter _, List.pairwise_singleton _ _, fun a ha b hb => ?_⟩
  obtain rfl := List.mem_singleton.1 hb
  have := (List.mem_filter.1 ha).2
  simpa using this
theorem dF_impl (o : List DataP) (r : Record) : slices_DeleteFunc_Data o (fun e0_ => impl_Replay_c1 r e0_) = o.filter (fun e => !decide (nK e.name = nK r.data.name)) := by
  unfold slices_DeleteFunc_Data impl_Replay_c1
  simp only [eqN_impl]
theorem dF_spec {o : List DataP} (n : Name) (hu : nUq o) : (bif decide (spec_l16Find o n ≥ 0) then List.take (Int.toNat (spec_l16Find o n)) o ++ List.drop (Int.toNat (spec_l16Find o n + 1)) o else o) = o.filter (fun e => !decide (nK e.name = nK n)) := by
  by_cases h : spec_l16Find o n < 0
  · have hd : decide (spec_l16Find o n ≥ 0) = false := by simp; omega
    rw [hd, cond_false, del_none (f16E h)]
  · obtain ⟨m, a, h1, h2, h3, _⟩ := f16T h
    have hd : decide (spec_l16Find o n ≥ 0) = true := by simp; omega
    rw [hd, cond_true, del_one hu h2 h3, h1]
    congr 1
theorem rpL : ∀ (l : List Record) (o : List DataP), nUq o → impl_Replay_L1 l o = spec_Replay_L1 l o
  | [], o, _ => rfl
  | r :: l, o, hu => by
    have hd := dF_spec r.data.name hu
    have hc1 : impl_copyData r.data = r.data := rfl
    have hc2 : spec_l8Copy r.data = r.data := rfl
    simp only [impl_Replay_L1, spec_Replay_L1, dF_impl, hc1, hc2]
    cases h1 : (r.kind != 1) <;> cases h2 : (r.kind != 2) <;> cases h3 : (r.kind == 1) <;> cases hx : decide (spec_l16Find o r.data.name ≥ 0) <;> simp only [cond_true, cond_false] <;>
      rw [hx] at hd <;> simp only [cond_true, cond_false] at hd <;> first | exact rpL l _ hu | (rw [← hd]; exact rpL l _ (by rw [hd]; exact del_snoc hu)) | (rw [← hd]; exact rpL l _ (by rw [hd]; exact del_uq hu))
theorem same_Replay' (l : List Record) : impl_Replay l = spec_Replay l := by
  unfold impl_Replay spec_Replay
  rw [rpL l [] List.Pairwise.nil]
theorem sz_filter {α : Type} [GoT α] [Sz α] (p : α → Bool) : ∀ l : List α, (l.filter p).length + szL (l.filter p) ≤ l.length + szL l
  | [] => Nat.le_refl _
  | a :: l => by
    have ih := sz_filter p l
    cases h : p a
    · rw [List.filter_cons_of_neg (by simp [h])]; rw [szL_cons, List.length_cons]; omega
    · rw [List.filter_cons_of_pos h]; rw [szL_cons, szL_cons, List.length_cons, List.length_cons]; omega
theorem szL_app' {α : Type} [GoT α] [Sz α] (a b : List α) : szL (a ++ b) = szL a + szL b := by simp [szL]
theorem szL_one {α : Type} [GoT α] [Sz α] (a : α) : szL [a] = sz a := by simp [szL]
theorem rpB : ∀ (l : List Record) (o : List DataP), sz (impl_Replay_L1 l o) ≤ sz o + sz l
  | [], o => by simp [impl_Replay_L1]
  | r :: l, o => by
    have hf := sz_filter (fun e => !decide (nK e.name = nK r.data.name)) o
    have hc1 : impl_copyData r.data = r.data := rfl
    simp only [impl_Replay_L1, dF_impl, hc1]
    have i1 := rpB l o
    have i2 := rpB l (o.filter (fun e => !decide (nK e.name = nK r.data.name)))
    have i3 := rpB l (o.filter (fun e => !decide (nK e.name = nK r.data.name)) ++ [r.data])
    simp only [sz_list, szL_app', szL_one, szL_cons, szL_nil, List.length_append, List.length_cons, List.length_nil, sz_Record] at i1 i2 i3 ⊢
    cases (r.kind != 1) <;> cases (r.kind != 2) <;> cases (r.kind == 1) <;> simp only [cond_true, cond_false] <;> omega
theorem bnd_Replay (l : List Record) : sz (spec_Replay l) ≤ sz l := by
  rw [← same_Replay']
  have := rpB l []
  have h0 : sz ([] : List DataP) = 0 := rfl
  show sz (impl_Replay_L1 l []) ≤ _
  omega
theorem rcIL : ∀ (l o : List Record), impl_copyRecords_L1 l o = o ++ l
  | [], o => by simp [impl_copyRecords_L1]
  | e :: l, o => by
    simp only [impl_copyRecords_L1]
    rw [rcIL l]
    simp [impl_copyData, impl_copyName]
theorem rcI (l : List Record) : impl_copyRecords l = l := by simp [impl_copyRecords, rcIL]
theorem rcSL : ∀ (l o : List Record), spec_l29Recs_L1 l o = o ++ l
  | [], o => by simp [spec_l29Recs_L1]
  | e :: l, o => by
    simp only [spec_l29Recs_L1]
    rw [rcSL l]
    simp [spec_l8Copy, spec_l4Copy]
theorem rcS (l : List Record) : spec_l29Recs l = l := by simp [spec_l29Recs, rcSL]
theorem same_LogContents' (l : Log) : impl_LogContents l = spec_LogContents l := by
  simp only [impl_LogContents, spec_LogContents, impl_allRecords, rcI, rcS, same_Replay']
theorem bnd_LogContents (l : Log) : sz (spec_LogContents l) ≤ sz l := by
  have := bnd_Replay (l.durable ++ l.volatile)
  simp only [spec_LogContents, rcS]
  simp only [sz_list, szL_app', List.length_append, sz_Log] at this ⊢
  omega
theorem cpL : ∀ (l : List DataP) (o : List Record), impl_CompactLog_L1 l o = spec_CompactLog_L1 l o
  | [], o => rfl
  | x :: l, o => cpL l _
theorem same_CompactLog' (l : Log) : impl_CompactLog l = spec_CompactLog l := by
  simp only [impl_CompactLog, spec_CompactLog, same_LogContents', cpL]
theorem cpB : ∀ (l : List DataP) (o : List Record), sz (spec_CompactLog_L1 l o) = sz o + sz l
  | [], o => by simp [spec_CompactLog_L1, sz_list, szL_nil]
  | x :: l, o => by
    simp only [spec_CompactLog_L1]
    rw [cpB l]
    simp only [sz_list, szL_app', szL_one, szL_cons, szL_nil, List.length_append, List.length_cons, List.length_nil, sz_Record]
    omega
theorem bnd_CompactLog (l : Log) : sz (spec_CompactLog l) ≤ sz l := by
  have := bnd_LogContents l
  have h0 : sz ([] : List Record) = 0 := rfl
  unfold spec_CompactLog
  rw [sz_Log]
  show sz (spec_CompactLog_L1 (spec_LogContents l) []) + sz ([] : List Record) ≤ _
  rw [cpB]
  omega
theorem lkL (n : Name) : ∀ (l : List DataP), impl_LookupData_L1 n l = none ∧ (∀ a ∈ l, ¬ nK a.name = nK n) ∨ ∃ m a, impl_LookupData_L1 n l = some (a, true) ∧ l[m]? = some a ∧ nK a.name = nK n ∧ ∀ b ∈ l.take m, ¬ nK b.name = nK n
  | [] => .inl ⟨rfl, fun a h => by cases h⟩
  | x :: l => by
    simp only [impl_LookupData_L1, eqN_impl]
    by_cases hx : nK x.name = nK n
    · exact .inr ⟨0, x, by simp [hx], rfl, hx, fun b hb => by simp at hb⟩
    · rcases lkL n l with ⟨h1, h2⟩ | ⟨m, a, h1, h2, h3, h4⟩
      · refine .inl ⟨by simp [hx, h1], fun a ha => ?_⟩
        rcases List.mem_cons.1 ha with rfl | ha
        · exact hx
        · exact h2 a ha
      · refine .inr ⟨m + 1, a, by simp [hx, h1], by simpa using h2, h3, fun b hb => ?_⟩
        rw [List.take_succ_cons] at hb
        rcases List.mem_cons.1 hb with rfl | hb
        · exact hx
        · exact h4 b hb
theorem first_one {n : Name} {l : List DataP} {m m' : Nat} {a a' : DataP} (h2 : l[m]? = some a) (h3 : nK a.name = nK n) (h4 : ∀ b ∈ l.take m, ¬ nK b.name = nK n) (k2 : l[m']? = some a') (k3 : nK a'.name = nK n) (k4 : ∀ b ∈ l.take m', ¬ nK b.name = nK n) : m = m' := by
  rcases Nat.lt_trichotomy m m' with h | h | h
  · exact absurd h3 (k4 a (List.mem_of_getElem? (show (l.take m')[m]? = some a by rw [List.getElem?_take, if_pos h]; exact h2)))
  · exact h
  · exact absurd k3 (h4 a' (List.mem_of_getElem? (show (l.take m)[m']? = some a' by rw [List.getElem?_take, if_pos h]; exact k2)))
theorem same_LookupData' (s : Repository) (n : Name) : impl_LookupData s n = spec_LookupData s n := by
  unfold impl_LookupData spec_LookupData
  rw [same_LogContents']
  by_cases hz : spec_l16Find (spec_LogContents s.log) n < 0
  · rcases lkL n (spec_LogContents s.log) with ⟨h1, _⟩ | ⟨m, a, _, h2, h3, _⟩
    · rw [h1]; simp [hz]
    · exact absurd h3 (f16E hz a (List.mem_of_getElem? h2))
  · obtain ⟨m', a', k1, k2, k3, k4⟩ := f16T hz
    rcases lkL n (spec_LogContents s.log) with ⟨_, h1⟩ | ⟨m, a, h1, h2, h3, h4⟩
    · exact absurd k3 (h1 a' (List.mem_of_getElem? k2))
    · have := first_one h2 h3 h4 k2 k3 k4
      subst this
      rw [h1, k1]
      have hd : decide (((m : Nat) : Int) < 0) = false := by simp
      simp only [hd, cond_false, Int.toNat_natCast, h2]
theorem bnd_LookupData (s : Repository) (n : Name) : sz (spec_LookupData s n).1 ≤ sz s := by
  have hb := bnd_LogContents s.log
  unfold spec_LookupData
  cases hd : decide (spec_l16Find (spec_LogContents s.log) n < 0)
  · simp only [cond_false]
    cases h : (spec_LogContents s.log)[(spec_l16Find (spec_LogContents s.log) n).toNat]? with
    | none => simp [default, instInhabitedProd, instInhabitedDataP, sz_DataP, sz_Name, sz_list, szL_nil]
    | some e1 =>
      have h1 := sz_le_sum (List.mem_of_getElem? h)
      show sz e1 ≤ sz s
      rw [sz_Repository]
      rw [sz_list] at hb
      omega
  · simp [sz_DataP, sz_Name, sz_list, szL_nil]
theorem same_ValidRepository' (s : Repository) : impl_ValidRepository s = spec_ValidRepository s := by
  simp only [impl_ValidRepository, spec_ValidRepository, same_ValidLog', same_In, same_LogContents']
theorem cLI (l : Log) : impl_copyLog l = l := by simp [impl_copyLog, rcI]
theorem cLS (l : Log) : spec_l29Copy l = l := by simp [spec_l29Copy, rcS]
theorem same_AppendRecord' (l : Log) (r : Record) : impl_AppendRecord l r = spec_AppendRecord l r := by
  have hc1 : impl_copyData r.data = r.data := rfl
  have hc2 : spec_l8Copy r.data = r.data := rfl
  simp only [impl_AppendRecord, spec_AppendRecord, cLI, cLS, hc1, hc2, same_ValidLog']
theorem bnd_AppendRecord (l : Log) (r : Record) : sz (spec_AppendRecord l r).1 ≤ sz l + sz r + 1 := by
  have hc2 : spec_l8Copy r.data = r.data := rfl
  simp only [spec_AppendRecord, cLS, hc2]
  cases (!spec_ValidLog { durable := l.durable, volatile := l.volatile ++ [{ kind := r.kind, data := r.data }] })
  · simp only [cond_false, sz_Log, sz_list, szL_app', szL_one, szL_nil, List.length_append, List.length_cons, List.length_nil, sz_Record]; omega
  · simp only [cond_true]; omega
theorem spL1 (l : List TableEntry) (n_ : Name) : ∀ (m i : Nat), l.length - i = m → i ≤ l.length → spec_PutEntry_L1 l n_ i = i + (l.drop i).findIdx (fun e => !decide (spec_CompareNames e.name n_ < 0))
  | 0, i, hm, hi => by
    rw [spec_PutEntry_L1, cT_spec]
    rw [if_neg (by omega), List.drop_eq_nil_of_le (by omega)]
    simp
  | m + 1, i, hm, hi => by
    have hlt : i < l.length := by omega
    have hg : l[i]? = some l[i] := List.getElem?_eq_getElem hlt
    rw [spec_PutEntry_L1, cT_spec]
    rw [if_pos (by omega), List.drop_eq_getElem_cons hlt, List.findIdx_cons]
    simp only [hg]
    by_cases hc : spec_CompareNames l[i].name n_ < 0
    · rw [if_pos hc, spL1 l n_ m (i + 1) (by omega) (by omega)]
      simp only [hc, decide_true, Bool.not_true, cond_false]
      omega
    · rw [if_neg hc]
      simp only [hc, decide_false, Bool.not_false, cond_true, Nat.add_zero]
theorem ifF (f : TableEntry → Bool) : ∀ (l : List TableEntry) (i : Nat), slices_IndexFunc_TableEntry_L1 f l i = if l.findIdx f < l.length then some ((i + l.findIdx f : Nat) : Int) else none
  | [], i => by simp [slices_IndexFunc_TableEntry_L1]
  | x :: l, i => by
    simp only [slices_IndexFunc_TableEntry_L1, List.findIdx_cons, List.length_cons]
    cases hx : f x
    · simp only [cond_false]
      rw [ifF f l (i + 1)]
      by_cases h : l.findIdx f < l.length
      · rw [if_pos h, if_pos (by omega), show i + 1 + l.findIdx f = i + (l.findIdx f + 1) by omega]
      · rw [if_neg h, if_neg (by omega)]
    · simp only [cond_true, Nat.add_zero]
      rw [if_pos (by omega)]
theorem fiC {f g : TableEntry → Bool} : ∀ {l : List TableEntry}, (∀ a ∈ l, f a = g a) → l.findIdx f = l.findIdx g
  | [], _ => rfl
  | x :: l, h => by
    rw [List.findIdx_cons, List.findIdx_cons, h x List.mem_cons_self, fiC (fun a ha => h a (List.mem_cons_of_mem _ ha))]
theorem l6N (n_ : Name) : ∀ (l : List TableEntry) (i : Nat), spec_l6Find_L1 n_ l i = none → ∀ a ∈ l, spec_EqualNames a.name n_ = false
  | [], i, h, a, ha => by cases ha
  | x :: l, i, h, a, ha => by
    simp only [spec_l6Find_L1] at h
    cases hx : spec_EqualNames x.name n_
    · rw [hx, cond_false] at h
      rcases List.mem_cons.1 ha with rfl | ha
      · exact hx
      · exact l6N n_ l (i + 1) h a ha
    · rw [hx, cond_true] at h
      cases h
theorem l6S (n_ : Name) : ∀ (l : List TableEntry) (i : Nat) (j : Int), spec_l6Find_L1 n_ l i = some j → 0 ≤ j
  | [], i, j, h => by cases h
  | x :: l, i, j, h => by
    simp only [spec_l6Find_L1] at h
    cases hx : spec_EqualNames x.name n_
    · rw [hx, cond_false] at h
      exact l6S n_ l (i + 1) j h
    · rw [hx, cond_true] at h
      cases h
      omega
theorem same_PutEntry (l : List TableEntry) (n_ : Name) (v : Int) : impl_PutEntry l n_ v = spec_PutEntry l n_ v := by
  unfold impl_PutEntry spec_PutEntry
  rw [cT_impl, cT_spec, same_indexOfName]
  cases hd : decide (spec_l6Find l n_ ≥ 0)
  · have hno : ∀ a ∈ l, spec_EqualNames a.name n_ = false := by
      cases hx : spec_l6Find_L1 n_ l 0 with
      | none => exact l6N n_ l 0 hx
      | some j =>
        have h1 := l6S n_ l 0 j hx
        have h2 := of_decide_eq_false hd
        have h3 : spec_l6Find l n_ = j := by unfold spec_l6Find; rw [hx]
        omega
    have hF : l.findIdx (fun e0_ => impl_PutEntry_c1 n_ e0_) = l.findIdx (fun e => !decide (spec_CompareNames e.name n_ < 0)) := fiC fun a ha => by
      have h1 := hno a ha
      unfold spec_EqualNames at h1
      have h2 : spec_CompareNames a.name n_ ≠ 0 := by simpa using h1
      unfold impl_PutEntry_c1
      rw [same_CompareNames]
      by_cases hc : spec_CompareNames a.name n_ < 0
      · rw [decide_eq_false (show ¬ spec_CompareNames a.name n_ > 0 by omega), decide_eq_true hc]; rfl
      · rw [decide_eq_true (show spec_CompareNames a.name n_ > 0 by omega), decide_eq_false hc]; rfl
    have hS := spL1 l n_ l.length 0 (Nat.sub_zero _) (Nat.zero_le _)
    rw [Nat.zero_add, List.drop_zero, ← hF] at hS
    have hle : l.findIdx (fun e0_ => impl_PutEntry_c1 n_ e0_) ≤ l.length := List.findIdx_le_length
    have hI := ifF (fun e0_ => impl_PutEntry_c1 n_ e0_) l 0
    simp only [cond_false, same_ValidTable, hS]
    by_cases hlt : l.findIdx (fun e0_ => impl_PutEntry_c1 n_ e0_) < l.length
    · rw [if_pos hlt, Nat.zero_add] at hI
      have hJ : slices_IndexFunc_TableEntry l (fun e0_ => impl_PutEntry_c1 n_ e0_) = ((l.findIdx (fun e0_ => impl_PutEntry_c1 n_ e0_) : Nat) : Int) := by unfold slices_IndexFunc_TableEntry; rw [hI]
      rw [hJ, decide_eq_false (show ¬ ((l.findIdx (fun e0_ => impl_PutEntry_c1 n_ e0_) : Nat) : Int) < 0 by omega), cond_false]
      unfold slices_Insert_TableEntry
      rw [Int.toNat_natCast]
      rfl
    · rw [if_neg hlt] at hI
      have hJ : slices_IndexFunc_TableEntry l (fun e0_ => impl_PutEntry_c1 n_ e0_) = -1 := by unfold slices_IndexFunc_TableEntry; rw [hI]
      have hE : l.findIdx (fun e0_ => impl_PutEntry_c1 n_ e0_) = l.length := by omega
      rw [hJ, show decide ((-1 : Int) < 0) = true from rfl, cond_true, hE]
      unfold slices_Insert_TableEntry
      rw [Int.toNat_natCast]
      rfl
  · simp only [cond_true, same_ValidTable]
theorem szL_append {α : Type} [GoT α] [Sz α] (a b : List α) : szL (a ++ b) = szL a + szL b := by simp [szL]
theorem szL_set {α : Type} [GoT α] [Sz α] (x y : α) (hxy : sz x = sz y) : ∀ (l : List α) (i : Nat), l[i]? = some y → szL (l.set i x) = szL l
  | [], i, h => by simp at h
  | z :: l, 0, h => by
    simp at h; subst h
    rw [List.set_cons_zero, szL_cons, szL_cons, hxy]
  | z :: l, i + 1, h => by
    rw [List.set_cons_succ, szL_cons, szL_cons, szL_set x y hxy l i (by simpa using h)]
theorem PutShape.size {l r : List TableEntry} {n_ : Name} {v : Int} (h : PutShape l n_ v r) : sz r ≤ sz l + 1 + sz n_ := by
  cases h with
  | same => omega
  | nil => simp [sz_list, szL_nil]
  | set i e h =>
    have := szL_set ⟨e.name, v⟩ e (by rw [sz_TableEntry, sz_TableEntry]) l i h
    rw [sz_list, sz_list, List.length_set, this]; omega
  | ins i =>
    have h1 := szL_append (l.take i) (l.drop i)
    rw [List.take_append_drop] at h1
    have h2 : szL [(⟨n_, v⟩ : TableEntry)] = sz n_ := by simp [szL, sz_TableEntry]
    rw [sz_list, sz_list, szL_append, szL_append, h2]
    simp only [List.length_append, List.length_take, List.length_drop, List.length_cons, List.length_nil]
    omega
theorem jvL : ∀ (l o : List TableEntry), impl_JoinVectors_L1 l o = spec_JoinVectors_L1 l o
  | [], o => rfl
  | x :: l, o => by
    simp only [impl_JoinVectors_L1, spec_JoinVectors_L1, same_SeqOf', same_PutEntry]
    cases decide (x.value > spec_SeqOf (StateVector.mk o) x.name) <;> exact jvL l _
theorem same_JoinVectors' (a b : StateVector) : impl_JoinVectors a b = spec_JoinVectors a b := by
  simp only [impl_JoinVectors, spec_JoinVectors, cT_impl, cT_spec, jvL]
theorem jvB : ∀ (l o : List TableEntry), sz (spec_JoinVectors_L1 l o) ≤ sz o + sz l
  | [], o => by simp [spec_JoinVectors_L1]
  | x :: l, o => by
    have h1 := jvB l (spec_PutEntry o x.name x.value).1
    have h2 := jvB l o
    have h3 := (put_spec o x.name x.value).size
    have h4 : sz (x :: l) = sz l + 1 + sz x.name := by rw [sz_list, sz_list, szL_cons, sz_TableEntry, List.length_cons]; omega
    simp only [spec_JoinVectors_L1]
    cases decide (x.value > spec_SeqOf (StateVector.mk o) x.name) <;> simp only [cond_true, cond_false] <;> omega
theorem bnd_JoinVectors (a b : StateVector) : sz (spec_JoinVectors a b) ≤ sz a + sz b := by
  have := jvB b.entries a.entries
  simp only [spec_JoinVectors, cT_spec]
  rw [sz_StateVector, sz_StateVector, sz_StateVector]
  exact this
end Go.Stp
