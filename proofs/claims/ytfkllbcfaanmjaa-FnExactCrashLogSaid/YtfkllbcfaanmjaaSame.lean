/-
  That the program's functions compute what the reference's do, said of the Lean functions. No program, no condition.
-/
import Derived.Test.YtfkllbcfaanmjaaP8
import Derived.Test.YtfkllbcfaanmjaaLaws
namespace Go.Stp
set_option linter.unusedVariables false
set_option linter.unusedSimpArgs false
theorem sEqL_string : ∀ (a b p : List Str), a.length = b.length → slices_Equal_string_L1 (p ++ b) a p.length = (if a.map (fun z : Str => z.toList) = b.map (fun z : Str => z.toList) then none else some false)
  | [], [], p, _ => by simp [slices_Equal_string_L1]
  | x :: a, y :: b, p, h => by
    have ih := sEqL_string a b (p ++ [y]) (by simpa using h)
    rw [mid_app, mid_len] at ih
    simp only [slices_Equal_string_L1, mid]
    by_cases hxy : x.toList = y.toList
    · simp [hxy, ih]
    · have hb : (x.toList == y.toList) = false := by simpa using hxy
      simp [hb, hxy]
theorem sEq_string (a b : List Str) : slices_Equal_string a b = decide (a.map (fun z : Str => z.toList) = b.map (fun z : Str => z.toList)) := by
  unfold slices_Equal_string
  by_cases hl : a.length = b.length
  · have h := sEqL_string a b [] hl
    simp only [List.nil_append, List.length_nil] at h
    simp only [hl, bne_self_F, cond_false, h]
    split <;> simp_all
  · have hne : a.map (fun z : Str => z.toList) ≠ b.map (fun z : Str => z.toList) := fun h => hl (by simpa using congrArg List.length h)
    have hn : ((a.length : Int) != (b.length : Int)) = true := by simp; omega
    simp [hn, hne]
theorem sEqL_byte : ∀ (a b p : List UInt8), a.length = b.length → slices_Equal_byte_L1 (p ++ b) a p.length = (if a = b then none else some false)
  | [], [], p, _ => by simp [slices_Equal_byte_L1]
  | x :: a, y :: b, p, h => by
    have ih := sEqL_byte a b (p ++ [y]) (by simpa using h)
    rw [mid_app, mid_len] at ih
    simp only [slices_Equal_byte_L1, mid]
    by_cases hxy : x = y
    · simp [hxy, ih]
    · have hn : ((x.toNat : Int) != (y.toNat : Int)) = true := by
        have : x.toNat ≠ y.toNat := fun h => hxy (UInt8.toNat_inj.mp h)
        simp; omega
      simp [hn, hxy]
theorem sEq_byte (a b : List UInt8) : slices_Equal_byte a b = decide (a = b) := by
  unfold slices_Equal_byte
  by_cases hl : a.length = b.length
  · have h := sEqL_byte a b [] hl
    simp only [List.nil_append, List.length_nil] at h
    simp only [hl, bne_self_F, cond_false, h]
    split <;> simp_all
  · have hne : a ≠ b := fun h => hl (by rw [h])
    have hn : ((a.length : Int) != (b.length : Int)) = true := by simp; omega
    simp [hn, hne]
theorem cNL : ∀ (a b p : List Str), match spec_CompareNames_L1 ⟨p ++ b⟩ a p.length with
    | some k => k ≠ 0 ∧ a.map (fun z : Str => z.toList) ≠ b.map (fun z : Str => z.toList)
    | none => a.length = b.length → a.map (fun z : Str => z.toList) = b.map (fun z : Str => z.toList)
  | [], b, p => by
    simp only [spec_CompareNames_L1]
    intro h
    cases b with
    | nil => rfl
    | cons => simp at h
  | x :: a, [], p => by simp [spec_CompareNames_L1]
  | x :: a, y :: b, p => by
    have ih := cNL a b (p ++ [y])
    rw [mid_app, mid_len] at ih
    have hlt : decide (((p.length : Nat) : Int) < (((p ++ y :: b).length : Nat) : Int)) = true := by simp; omega
    simp only [spec_CompareNames_L1, hlt, cond_true, mid]
    by_cases hk : spec_l4Cmp x y = 0
    · have e : x.toList = y.toList := (l4_zero _ _).1 hk
      rw [hk]
      simp only [bne_self_F, cond_false]
      revert ih
      cases spec_CompareNames_L1 ⟨p ++ y :: b⟩ a (p.length + 1) with
      | none => intro ih h; simp [e, ih (by simpa using h)]
      | some k => intro ih; exact ⟨ih.1, fun h => ih.2 (by simpa [e] using h)⟩
    · have hn : (spec_l4Cmp x y != 0) = true := by simpa using hk
      simp only [hn, cond_true]
      exact ⟨hk, fun h => hk ((l4_zero _ _).2 (by simp at h; exact h.1))⟩
theorem same_EqualNames (a b : Name) : impl_EqualNames a b = spec_EqualNames a b := by
  unfold impl_EqualNames spec_EqualNames spec_CompareNames
  rw [sEq_string]
  have h : match spec_CompareNames_L1 b a.parts 0 with
    | some k => k ≠ 0 ∧ a.parts.map (fun z : Str => z.toList) ≠ b.parts.map (fun z : Str => z.toList)
    | none => a.parts.length = b.parts.length → a.parts.map (fun z : Str => z.toList) = b.parts.map (fun z : Str => z.toList) := cNL a.parts b.parts []
  revert h
  cases spec_CompareNames_L1 b a.parts 0 with
  | some k => intro ⟨h1, h2⟩; simp [h1, h2]
  | none =>
    intro h
    by_cases hl : a.parts.length = b.parts.length
    · simp [h hl, hl]
    · have ne : a.parts.map (fun z : Str => z.toList) ≠ b.parts.map (fun z : Str => z.toList) := fun h => hl (by simpa using congrArg List.length h)
      rcases Nat.lt_or_gt_of_ne hl with c | c
      · simp [ne, c]
      · have c' : ¬ a.parts.length < b.parts.length := by omega
        simp [ne, c, c']
theorem same_EqualBytes (a b : List UInt8) : slices_Equal_byte a b = spec_EqualBytes a b := by
  rw [sEq_byte]
  unfold spec_EqualBytes bstr
  rw [ByteArray.toList_mk, ByteArray.toList_mk]
  by_cases e : a = b
  · simp [e]
  · have hb : (a == b) = false := by simpa using e
    simp [hb, e]
theorem same_EqualData (a b : DataP) : impl_EqualData a b = spec_EqualData a b := by
  simp only [impl_EqualData, spec_EqualData, same_EqualNames, same_EqualBytes]
theorem same_In (a b c : Int) : impl_InRange a b c = spec_l1In a b c := rfl
theorem vPL : ∀ l : List UInt8, impl_ValidPart_L1 l = spec_ValidPart_L1 l ∧ (spec_ValidPart_L1 l = none ∨ spec_ValidPart_L1 l = some false)
  | [] => ⟨rfl, .inl rfl⟩
  | c :: l => by
    obtain ⟨h1, h2⟩ := vPL l
    simp only [impl_ValidPart_L1, spec_ValidPart_L1, h1, spec_l1In, ge_iff_le]
    cases decide ((97 : Int) ≤ (c.toNat : Int)) <;> cases decide ((c.toNat : Int) ≤ 122) <;> cases decide ((48 : Int) ≤ (c.toNat : Int)) <;> cases decide ((c.toNat : Int) ≤ 57) <;> cases hc : ((c.toNat : Int) == 45) <;> simp [bne, hc, h2]
theorem same_ValidPart (s : Str) : impl_ValidPart s = spec_ValidPart s := by
  unfold impl_ValidPart spec_ValidPart
  obtain ⟨h1, h2⟩ := vPL s.data.toList
  rw [h1, same_In]
  rcases h2 with h | h <;> rw [h] <;> cases spec_l1In (((s).size : Nat) : Int) 1 8 <;> rfl
theorem iF_string : ∀ (f : Str → Bool) (l : List Str) (i : Nat), (slices_IndexFunc_string_L1 f l i = none ∧ l.any f = false) ∨ ∃ j : Nat, slices_IndexFunc_string_L1 f l i = some (j : Int) ∧ l.any f = true
  | f, [], i => .inl ⟨rfl, rfl⟩
  | f, x :: l, i => by
    simp only [slices_IndexFunc_string_L1, List.any_cons]
    cases hx : f x
    · simpa using iF_string f l (i + 1)
    · exact .inr ⟨i, rfl, rfl⟩
theorem cF_string (l : List Str) (f : Str → Bool) : slices_ContainsFunc_string l f = l.any f := by
  unfold slices_ContainsFunc_string slices_IndexFunc_string
  rcases iF_string f l 0 with ⟨h1, h2⟩ | ⟨j, h1, h2⟩ <;> simp [h1, h2]
theorem vNL : ∀ l : List Str, spec_ValidName_L1 l = bif l.any (fun e => !(spec_ValidPart e)) then some false else none
  | [] => rfl
  | x :: l => by
    simp only [spec_ValidName_L1, List.any_cons]
    cases (!(spec_ValidPart x)) <;> simp [vNL l]
theorem same_ValidName (a : Name) : impl_ValidName a = spec_ValidName a := by
  unfold impl_ValidName spec_ValidName impl_ValidName_c1
  rw [cF_string, vNL]
  simp only [same_ValidPart]
  cases a.parts.any (fun e => !(spec_ValidPart e)) <;> cases decide ((((a.parts).length : Nat) : Int) ≤ 6) <;> rfl
theorem same_ValidData (a : DataP) : impl_ValidData a = spec_ValidData a := by
  simp only [impl_ValidData, spec_ValidData, same_ValidName, same_In]
theorem same_ValidRecord' (a : Record) : impl_ValidRecord a = spec_ValidRecord a := by
  simp only [impl_ValidRecord, spec_ValidRecord, same_ValidData, same_ValidName, same_EqualData]
theorem iF_Record : ∀ (f : Record → Bool) (l : List Record) (i : Nat), (slices_IndexFunc_Record_L1 f l i = none ∧ l.any f = false) ∨ ∃ j : Nat, slices_IndexFunc_Record_L1 f l i = some (j : Int) ∧ l.any f = true
  | f, [], i => .inl ⟨rfl, rfl⟩
  | f, x :: l, i => by
    simp only [slices_IndexFunc_Record_L1, List.any_cons]
    cases hx : f x
    · simpa using iF_Record f l (i + 1)
    · exact .inr ⟨i, rfl, rfl⟩
theorem cF_Record (l : List Record) (f : Record → Bool) : slices_ContainsFunc_Record l f = l.any f := by
  unfold slices_ContainsFunc_Record slices_IndexFunc_Record
  rcases iF_Record f l 0 with ⟨h1, h2⟩ | ⟨j, h1, h2⟩ <;> simp [h1, h2]
theorem vLL1 : ∀ l : List Record, spec_ValidLog_L1 l = bif l.any (fun e => !(spec_ValidRecord e)) then some false else none
  | [] => rfl
  | x :: l => by
    simp only [spec_ValidLog_L1, List.any_cons]
    cases (!(spec_ValidRecord x)) <;> simp [vLL1 l]
theorem vLL2 : ∀ l : List Record, spec_ValidLog_L2 l = bif l.any (fun e => !(spec_ValidRecord e)) then some false else none
  | [] => rfl
  | x :: l => by
    simp only [spec_ValidLog_L2, List.any_cons]
    cases (!(spec_ValidRecord x)) <;> simp [vLL2 l]
theorem same_ValidLog' (a : Log) : impl_ValidLog a = spec_ValidLog a := by
  unfold impl_ValidLog spec_ValidLog impl_ValidLog_c1
  rw [cF_Record, cF_Record, vLL1, vLL2]
  simp only [same_ValidRecord']
  cases a.durable.any (fun e => !(spec_ValidRecord e)) <;> cases a.volatile.any (fun e => !(spec_ValidRecord e)) <;> cases decide ((((a.durable).length : Nat) : Int) + (((a.volatile).length : Nat) : Int) ≤ 40) <;> rfl
theorem same_ValidConsumer' (a : Consumer) : impl_ValidConsumer a = spec_ValidConsumer a := by
  simp only [impl_ValidConsumer, spec_ValidConsumer, same_ValidData, same_ValidName, same_EqualData, same_EqualNames, same_In]
theorem same_EqualConsumers' (a b : Consumer) : impl_EqualConsumers a b = spec_EqualConsumers a b := by
  simp only [impl_EqualConsumers, spec_EqualConsumers, same_EqualNames, same_EqualData]
theorem cmp_l4 (x y : Str) : cmp_Compare_string x y = spec_l4Cmp x y := by
  simp [cmp_Compare_string, cmp_isNaN_string, spec_l4Cmp]
theorem cCL : ∀ (a b p : List Str), (slices_Compare_string_L1 (p ++ b) a p.length = spec_CompareNames_L1 ⟨p ++ b⟩ a p.length ∧ (spec_CompareNames_L1 ⟨p ++ b⟩ a p.length = none → a.length ≤ b.length)) ∨ (slices_Compare_string_L1 (p ++ b) a p.length = some 1 ∧ spec_CompareNames_L1 ⟨p ++ b⟩ a p.length = none ∧ b.length < a.length)
  | [], b, p => .inl ⟨rfl, fun _ => Nat.zero_le _⟩
  | x :: a, [], p => .inr (by simp [slices_Compare_string_L1, spec_CompareNames_L1])
  | x :: a, y :: b, p => by
    have ih := cCL a b (p ++ [y])
    rw [mid_app, mid_len] at ih
    have hlt : decide (((p.length : Nat) : Int) < (((p ++ y :: b).length : Nat) : Int)) = true := by simp; omega
    have hge : decide (((p.length : Nat) : Int) ≥ (((p ++ y :: b).length : Nat) : Int)) = false := by simp; omega
    simp only [spec_CompareNames_L1, slices_Compare_string_L1, hlt, hge, cond_true, cond_false, mid, cmp_l4, List.length_cons]
    cases (spec_l4Cmp x y != 0)
    · simp only [cond_false]
      rcases ih with ⟨h1, h2⟩ | ⟨h1, h2, h3⟩
      · exact .inl ⟨h1, fun h => by have := h2 h; omega⟩
      · exact .inr ⟨h1, h2, by omega⟩
    · exact .inl ⟨rfl, fun h => by cases h⟩
theorem same_CompareNames (a b : Name) : impl_CompareNames a b = spec_CompareNames a b := by
  unfold impl_CompareNames slices_Compare_string spec_CompareNames
  have h : (slices_Compare_string_L1 b.parts a.parts 0 = spec_CompareNames_L1 b a.parts 0 ∧ (spec_CompareNames_L1 b a.parts 0 = none → a.parts.length ≤ b.parts.length)) ∨ (slices_Compare_string_L1 b.parts a.parts 0 = some 1 ∧ spec_CompareNames_L1 b a.parts 0 = none ∧ b.parts.length < a.parts.length) := cCL a.parts b.parts []
  rcases h with ⟨h1, h2⟩ | ⟨h1, h2, h3⟩
  · rw [h1]
    cases hs : spec_CompareNames_L1 b a.parts 0 with
    | some k => rfl
    | none =>
      have := h2 hs
      have c : decide ((((a.parts).length : Nat) : Int) > (((b.parts).length : Nat) : Int)) = false := by simp; omega
      simp only [c, cond_false]
  · rw [h1, h2]
    have c : decide ((((a.parts).length : Nat) : Int) > (((b.parts).length : Nat) : Int)) = true := by simp; omega
    have d : decide ((((a.parts).length : Nat) : Int) < (((b.parts).length : Nat) : Int)) = false := by simp; omega
    simp only [c, d, cond_false, cond_true]
theorem vTL (l : List TableEntry) : ∀ (r : List TableEntry) (i : Nat), impl_ValidTable_L1 l r i = spec_ValidTable_L1 l r i
  | [], _ => rfl
  | x :: r, i => by simp only [impl_ValidTable_L1, spec_ValidTable_L1, same_ValidName, same_CompareNames, vTL l r]
theorem same_ValidTable (l : List TableEntry) : impl_ValidTable l = spec_ValidTable l := by
  unfold impl_ValidTable spec_ValidTable
  rw [vTL]
theorem iF_TableEntry : ∀ (f : TableEntry → Bool) (l : List TableEntry) (i : Nat), (slices_IndexFunc_TableEntry_L1 f l i = none ∧ l.any f = false) ∨ ∃ j : Nat, slices_IndexFunc_TableEntry_L1 f l i = some (j : Int) ∧ l.any f = true
  | f, [], i => .inl ⟨rfl, rfl⟩
  | f, x :: l, i => by
    simp only [slices_IndexFunc_TableEntry_L1, List.any_cons]
    cases hx : f x
    · simpa using iF_TableEntry f l (i + 1)
    · exact .inr ⟨i, rfl, rfl⟩
theorem cF_TableEntry (l : List TableEntry) (f : TableEntry → Bool) : slices_ContainsFunc_TableEntry l f = l.any f := by
  unfold slices_ContainsFunc_TableEntry slices_IndexFunc_TableEntry
  rcases iF_TableEntry f l 0 with ⟨h1, h2⟩ | ⟨j, h1, h2⟩ <;> simp [h1, h2]
theorem vVL : ∀ l : List TableEntry, spec_ValidVector_L1 l = bif l.any (fun e => !(spec_l1In e.value 1 1000)) then some false else none
  | [] => rfl
  | x :: l => by
    simp only [spec_ValidVector_L1, List.any_cons]
    cases (!(spec_l1In x.value 1 1000)) <;> simp [vVL l]
theorem same_ValidVector' (a : StateVector) : impl_ValidVector a = spec_ValidVector a := by
  unfold impl_ValidVector spec_ValidVector impl_ValidVector_c1
  rw [cF_TableEntry, vVL, same_ValidTable]
  simp only [same_In]
  cases a.entries.any (fun e => !(spec_l1In e.value 1 1000)) <;> cases spec_ValidTable a.entries <;> rfl
theorem ixL (n_ : Name) : ∀ (l : List TableEntry) (i : Nat), slices_IndexFunc_TableEntry_L1 (fun e0_ => impl_indexOfName_c1 n_ e0_) l i = spec_l6Find_L1 n_ l i
  | [], i => rfl
  | x :: l, i => by
    simp only [slices_IndexFunc_TableEntry_L1, spec_l6Find_L1]
    rw [ixL n_ l (i + 1), show impl_indexOfName_c1 n_ x = spec_EqualNames x.name n_ from same_EqualNames _ _]
theorem same_indexOfName (l : List TableEntry) (n_ : Name) : impl_indexOfName l n_ = spec_l6Find l n_ := by
  unfold impl_indexOfName slices_IndexFunc_TableEntry spec_l6Find
  rw [ixL]
  cases spec_l6Find_L1 n_ l 0 <;> rfl
theorem same_LookupEntry (l : List TableEntry) (n_ : Name) : impl_LookupEntry l n_ = spec_LookupEntry l n_ := by
  simp only [impl_LookupEntry, spec_LookupEntry, same_indexOfName]
theorem same_SeqOf' (v : StateVector) (n_ : Name) : impl_SeqOf v n_ = spec_SeqOf v n_ := by
  simp only [impl_SeqOf, spec_SeqOf, same_LookupEntry]
theorem nTL (a : StateVector) (e1 : TableEntry) (m : Nat) (o : List TableEntry) (k : Int) (hm : 20 - o.length = m) : impl_NewerThan_L2 a e1 o k = spec_NewerThan_L2 a e1 o k := by
  rw [impl_NewerThan_L2, spec_NewerThan_L2, same_SeqOf']
  by_cases h1 : k < spec_SeqOf a e1.name
  · by_cases h2 : ((o.length : Nat) : Int) < 20
    · simp only [h1, h2, ↓reduceIte]
      exact nTL a e1 (m - 1) _ _ (by simp; omega)
    · simp only [h1, h2, ↓reduceIte]
  · simp only [h1, ↓reduceIte]
termination_by m
decreasing_by omega
theorem nTL1 (a b : StateVector) : ∀ (l o : List TableEntry), impl_NewerThan_L1 a b l o = spec_NewerThan_L1 a b l o
  | [], o => rfl
  | e :: l, o => by
    simp only [impl_NewerThan_L1, spec_NewerThan_L1, same_SeqOf', nTL a e _ o _ rfl]
    exact nTL1 a b l _
theorem same_NewerThan' (a b : StateVector) : impl_NewerThan a b = spec_NewerThan a b := by
  simp only [impl_NewerThan, spec_NewerThan, nTL1]
theorem szL_le {α : Type} [GoT α] [Sz α] (B : Nat) : ∀ l : List α, (∀ e ∈ l, sz e ≤ B) → szL l ≤ l.length * B
  | [], _ => Nat.zero_le _
  | a :: l, h => by
    have h1 := h a List.mem_cons_self
    have h2 := szL_le B l (fun e he => h e (List.mem_cons_of_mem _ he))
    rw [szL_cons, List.length_cons, Nat.add_mul]
    omega
theorem nTB2 (a : StateVector) (e1 : TableEntry) (B : Nat) (he : sz e1 ≤ B) (m : Nat) (o : List TableEntry) (k : Int) (hm : 20 - o.length = m) (hl : o.length ≤ 20) (ho : ∀ e ∈ o, sz e ≤ B) : (spec_NewerThan_L2 a e1 o k).1.length ≤ 20 ∧ ∀ e ∈ (spec_NewerThan_L2 a e1 o k).1, sz e ≤ B := by
  rw [spec_NewerThan_L2]
  by_cases h1 : k < spec_SeqOf a e1.name
  · by_cases h2 : ((o.length : Nat) : Int) < 20
    · simp only [h1, h2, ↓reduceIte]
      exact nTB2 a e1 B he (m - 1) _ _ (by simp; omega) (by simp; omega) (by
        intro e hm'
        rcases List.mem_append.1 hm' with h | h
        · exact ho e h
        · obtain rfl := List.mem_singleton.1 h
          rw [sz_TableEntry] at he ⊢
          exact he)
    · simp only [h1, h2, ↓reduceIte]
      exact ⟨hl, ho⟩
  · simp only [h1, ↓reduceIte]
    exact ⟨hl, ho⟩
termination_by m
decreasing_by omega
theorem nTB1 (a b : StateVector) (B : Nat) : ∀ (l o : List TableEntry), (∀ e ∈ l, sz e ≤ B) → o.length ≤ 20 → (∀ e ∈ o, sz e ≤ B) → (spec_NewerThan_L1 a b l o).length ≤ 20 ∧ ∀ e ∈ spec_NewerThan_L1 a b l o, sz e ≤ B
  | [], o, _, h1, h2 => ⟨h1, h2⟩
  | e :: l, o, h, h1, h2 => by
    have q := nTB2 a e B (h e List.mem_cons_self) _ o (spec_SeqOf b e.name) rfl h1 h2
    exact nTB1 a b B l _ (fun x hx => h x (List.mem_cons_of_mem _ hx)) q.1 q.2
theorem bnd_NewerThan (a b : StateVector) : sz (spec_NewerThan a b) ≤ 20 + 20 * sz a := by
  have q := nTB1 a b (sz a) a.entries [] (fun e he => by rw [sz_StateVector, sz_list]; have := sz_le_sum he; omega) (by simp) (fun e he => by cases he)
  have r := szL_le (sz a) _ q.2
  rw [sz_list]
  show (spec_NewerThan_L1 a b a.entries []).length + szL (spec_NewerThan_L1 a b a.entries []) ≤ _
  have := Nat.mul_le_mul_right (sz a) q.1
  omega
end Go.Stp
