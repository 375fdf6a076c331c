/-
  That the program's functions compute what the reference's do, said of the Lean functions. No program, no condition.
-/
import Derived.Test.YtikbfiljomdmiaaP9
import Derived.Test.YtikbfiljomdmiaaLaws
namespace Go.Stp
set_option linter.unusedVariables false
set_option linter.unusedSimpArgs false
theorem sEqL_string : ∀ (a b p : List Str), a.length = b.length → slices_Equal_string_L1 (p ++ b) a p.length = (if a.map (fun z : Str => z.toList) = b.map (fun z : Str => z.toList) then none else some false)
  | [], [], p, _ => by simp [slices_Equal_string_L1]
  | x :: a, y :: b, p, h => by
    have ih := sEqL_string a b (p ++ [y]) (by simpa using h)
    rw [mid_app, mid_len] at ih
    simp only [slices_Equal_string_L1, mid]
    by_cases hxy : x.toList = y.toList
    · simp [hxy, ih]
    · have hb : (x.toList == y.toList) = false := by simpa using hxy
      simp [hb, hxy]
theorem sEq_string (a b : List Str) : slices_Equal_string a b = decide (a.map (fun z : Str => z.toList) = b.map (fun z : Str => z.toList)) := by
  unfold slices_Equal_string
  by_cases hl : a.length = b.length
  · have h := sEqL_string a b [] hl
    simp only [List.nil_append, List.length_nil] at h
    simp only [hl, bne_self_F, cond_false, h]
    split <;> simp_all
  · have hne : a.map (fun z : Str => z.toList) ≠ b.map (fun z : Str => z.toList) := fun h => hl (by simpa using congrArg List.length h)
    have hn : ((a.length : Int) != (b.length : Int)) = true := by simp; omega
    simp [hn, hne]
theorem sEqL_byte : ∀ (a b p : List UInt8), a.length = b.length → slices_Equal_byte_L1 (p ++ b) a p.length = (if a = b then none else some false)
  | [], [], p, _ => by simp [slices_Equal_byte_L1]
  | x :: a, y :: b, p, h => by
    have ih := sEqL_byte a b (p ++ [y]) (by simpa using h)
    rw [mid_app, mid_len] at ih
    simp only [slices_Equal_byte_L1, mid]
    by_cases hxy : x = y
    · simp [hxy, ih]
    · have hn : ((x.toNat : Int) != (y.toNat : Int)) = true := by
        have : x.toNat ≠ y.toNat := fun h => hxy (UInt8.toNat_inj.mp h)
        simp; omega
      simp [hn, hxy]
theorem sEq_byte (a b : List UInt8) : slices_Equal_byte a b = decide (a = b) := by
  unfold slices_Equal_byte
  by_cases hl : a.length = b.length
  · have h := sEqL_byte a b [] hl
    simp only [List.nil_append, List.length_nil] at h
    simp only [hl, bne_self_F, cond_false, h]
    split <;> simp_all
  · have hne : a ≠ b := fun h => hl (by rw [h])
    have hn : ((a.length : Int) != (b.length : Int)) = true := by simp; omega
    simp [hn, hne]
theorem cNL : ∀ (a b p : List Str), match spec_CompareNames_L1 ⟨p ++ b⟩ a p.length with
    | some k => k ≠ 0 ∧ a.map (fun z : Str => z.toList) ≠ b.map (fun z : Str => z.toList)
    | none => a.length = b.length → a.map (fun z : Str => z.toList) = b.map (fun z : Str => z.toList)
  | [], b, p => by
    simp only [spec_CompareNames_L1]
    intro h
    cases b with
    | nil => rfl
    | cons => simp at h
  | x :: a, [], p => by simp [spec_CompareNames_L1]
  | x :: a, y :: b, p => by
    have ih := cNL a b (p ++ [y])
    rw [mid_app, mid_len] at ih
    have hlt : decide (((p.length : Nat) : Int) < (((p ++ y :: b).length : Nat) : Int)) = true := by simp; omega
    simp only [spec_CompareNames_L1, hlt, cond_true, mid]
    by_cases hk : spec_l4Cmp x y = 0
    · have e : x.toList = y.toList := (l4_zero _ _).1 hk
      rw [hk]
      simp only [bne_self_F, cond_false]
      revert ih
      cases spec_CompareNames_L1 ⟨p ++ y :: b⟩ a (p.length + 1) with
      | none => intro ih h; simp [e, ih (by simpa using h)]
      | some k => intro ih; exact ⟨ih.1, fun h => ih.2 (by simpa [e] using h)⟩
    · have hn : (spec_l4Cmp x y != 0) = true := by simpa using hk
      simp only [hn, cond_true]
      exact ⟨hk, fun h => hk ((l4_zero _ _).2 (by simp at h; exact h.1))⟩
theorem same_EqualNames (a b : Name) : impl_EqualNames a b = spec_EqualNames a b := by
  unfold impl_EqualNames spec_EqualNames spec_CompareNames
  rw [sEq_string]
  have h : match spec_CompareNames_L1 b a.parts 0 with
    | some k => k ≠ 0 ∧ a.parts.map (fun z : Str => z.toList) ≠ b.parts.map (fun z : Str => z.toList)
    | none => a.parts.length = b.parts.length → a.parts.map (fun z : Str => z.toList) = b.parts.map (fun z : Str => z.toList) := cNL a.parts b.parts []
  revert h
  cases spec_CompareNames_L1 b a.parts 0 with
  | some k => intro ⟨h1, h2⟩; simp [h1, h2]
  | none =>
    intro h
    by_cases hl : a.parts.length = b.parts.length
    · simp [h hl, hl]
    · have ne : a.parts.map (fun z : Str => z.toList) ≠ b.parts.map (fun z : Str => z.toList) := fun h => hl (by simpa using congrArg List.length h)
      rcases Nat.lt_or_gt_of_ne hl with c | c
      · simp [ne, c]
      · have c' : ¬ a.parts.length < b.parts.length := by omega
        simp [ne, c, c']
theorem same_EqualBytes (a b : List UInt8) : slices_Equal_byte a b = spec_EqualBytes a b := by
  rw [sEq_byte]
  unfold spec_EqualBytes bstr
  rw [ByteArray.toList_mk, ByteArray.toList_mk]
  by_cases e : a = b
  · simp [e]
  · have hb : (a == b) = false := by simpa using e
    simp [hb, e]
theorem ixL (n_ : Name) : ∀ (l : List TableEntry) (i : Nat), slices_IndexFunc_TableEntry_L1 (fun e0_ => impl_indexOfName_c1 n_ e0_) l i = spec_l6Find_L1 n_ l i
  | [], i => rfl
  | x :: l, i => by
    simp only [slices_IndexFunc_TableEntry_L1, spec_l6Find_L1]
    rw [ixL n_ l (i + 1), show impl_indexOfName_c1 n_ x = spec_EqualNames x.name n_ from same_EqualNames _ _]
theorem same_indexOfName (l : List TableEntry) (n_ : Name) : impl_indexOfName l n_ = spec_l6Find l n_ := by
  unfold impl_indexOfName slices_IndexFunc_TableEntry spec_l6Find
  rw [ixL] <;> (cases spec_l6Find_L1 n_ l 0 <;> rfl)
theorem same_LookupEntry (l : List TableEntry) (n_ : Name) : impl_LookupEntry l n_ = spec_LookupEntry l n_ := by
  simp only [impl_LookupEntry, spec_LookupEntry, same_indexOfName]
theorem same_SeqOf' (v : StateVector) (n_ : Name) : impl_SeqOf v n_ = spec_SeqOf v n_ := by
  simp only [impl_SeqOf, spec_SeqOf, same_LookupEntry]
theorem nTL (a : StateVector) (e1 : TableEntry) (m : Nat) (o : List TableEntry) (k : Int) (hm : 20 - o.length = m) : impl_NewerThan_L2 a e1 o k = spec_NewerThan_L2 a e1 o k := by
  rw [impl_NewerThan_L2, spec_NewerThan_L2, same_SeqOf']
  by_cases h1 : k < spec_SeqOf a e1.name
  · by_cases h2 : ((o.length : Nat) : Int) < 20
    · simp only [h1, h2, ↓reduceIte]
      exact nTL a e1 (m - 1) _ _ (by simp; omega)
    · simp only [h1, h2, ↓reduceIte]
  · simp only [h1, ↓reduceIte]
termination_by m
decreasing_by omega
theorem nTL1 (a b : StateVector) : ∀ (l o : List TableEntry), impl_NewerThan_L1 a b l o = spec_NewerThan_L1 a b l o
  | [], o => rfl
  | e :: l, o => by
    simp only [impl_NewerThan_L1, spec_NewerThan_L1, same_SeqOf', nTL a e _ o _ rfl]
    exact nTL1 a b l _
theorem same_NewerThan' (a b : StateVector) : impl_NewerThan a b = spec_NewerThan a b := by
  simp only [impl_NewerThan, spec_NewerThan, nTL1]
theorem szL_le {α : Type} [GoT α] [Sz α] (B : Nat) : ∀ l : List α, (∀ e ∈ l, sz e ≤ B) → szL l ≤ l.length * B
  | [], _ => Nat.zero_le _
  | a :: l, h => by
    have h1 := h a List.mem_cons_self
    have h2 := szL_le B l (fun e he => h e (List.mem_cons_of_mem _ he))
    rw [szL_cons, List.length_cons, Nat.add_mul]
    omega
theorem nTB2 (a : StateVector) (e1 : TableEntry) (B : Nat) (he : sz e1 ≤ B) (m : Nat) (o : List TableEntry) (k : Int) (hm : 20 - o.length = m) (hl : o.length ≤ 20) (ho : ∀ e ∈ o, sz e ≤ B) : (spec_NewerThan_L2 a e1 o k).1.length ≤ 20 ∧ ∀ e ∈ (spec_NewerThan_L2 a e1 o k).1, sz e ≤ B := by
  rw [spec_NewerThan_L2]
  by_cases h1 : k < spec_SeqOf a e1.name
  · by_cases h2 : ((o.length : Nat) : Int) < 20
    · simp only [h1, h2, ↓reduceIte]
      exact nTB2 a e1 B he (m - 1) _ _ (by simp; omega) (by simp; omega) (by
        intro e hm'
        rcases List.mem_append.1 hm' with h | h
        · exact ho e h
        · obtain rfl := List.mem_singleton.1 h
          rw [sz_TableEntry] at he ⊢
          exact he)
    · simp only [h1, h2, ↓reduceIte]
      exact ⟨hl, ho⟩
  · simp only [h1, ↓reduceIte]
    exact ⟨hl, ho⟩
termination_by m
decreasing_by omega
theorem nTB1 (a b : StateVector) (B : Nat) : ∀ (l o : List TableEntry), (∀ e ∈ l, sz e ≤ B) → o.length ≤ 20 → (∀ e ∈ o, sz e ≤ B) → (spec_NewerThan_L1 a b l o).length ≤ 20 ∧ ∀ e ∈ spec_NewerThan_L1 a b l o, sz e ≤ B
  | [], o, _, h1, h2 => ⟨h1, h2⟩
  | e :: l, o, h, h1, h2 => by
    have q := nTB2 a e B (h e List.mem_cons_self) _ o (spec_SeqOf b e.name) rfl h1 h2
    exact nTB1 a b B l _ (fun x hx => h x (List.mem_cons_of_mem _ hx)) q.1 q.2
theorem bnd_NewerThan (a b : StateVector) : sz (spec_NewerThan a b) ≤ 20 + 20 * sz a := by
  have q := nTB1 a b (sz a) a.entries [] (fun e he => by rw [sz_StateVector, sz_list]; have := sz_le_sum he; omega) (by simp) (fun e he => by cases he)
  have r := szL_le (sz a) _ q.2
  rw [sz_list]
  show (spec_NewerThan_L1 a b a.entries []).length + szL (spec_NewerThan_L1 a b a.entries []) ≤ _
  have := Nat.mul_le_mul_right (sz a) q.1
  omega
theorem eTL (b : List TableEntry) : ∀ (r : List TableEntry) (i : Nat), slices_EqualFunc_TableEntry_L1 (fun e0_ e1_ => impl_EqualTables_c1 e0_ e1_) b r i = spec_EqualTables_L1 b r i
  | [], i => rfl
  | x :: r, i => by
    have ih := eTL b r (i + 1)
    simp only [slices_EqualFunc_TableEntry_L1, spec_EqualTables_L1]
    cases hb : b[i]? with
    | none => rfl
    | some e2 =>
      have h : impl_EqualTables_c1 x e2 = (bif spec_EqualNames x.name e2.name then (x.value == e2.value) else false) := by rw [← same_EqualNames]; rfl
      simp only [h, bne]
      cases spec_EqualNames x.name e2.name <;> cases (x.value == e2.value) <;> first | rfl | exact ih
theorem same_EqualTables (a b : List TableEntry) : impl_EqualTables a b = spec_EqualTables a b := by
  unfold impl_EqualTables slices_EqualFunc_TableEntry spec_EqualTables
  rw [eTL] <;> (cases spec_EqualTables_L1 b a 0 <;> rfl)
theorem iF_Publication : ∀ (f : Publication → Bool) (l : List Publication) (i : Nat), (slices_IndexFunc_Publication_L1 f l i = none ∧ l.any f = false) ∨ ∃ j : Nat, slices_IndexFunc_Publication_L1 f l i = some (j : Int) ∧ l.any f = true
  | f, [], i => .inl ⟨rfl, rfl⟩
  | f, x :: l, i => by
    simp only [slices_IndexFunc_Publication_L1, List.any_cons]
    cases hx : f x
    · simpa using iF_Publication f l (i + 1)
    · exact .inr ⟨i, rfl, rfl⟩
theorem cF_Publication (l : List Publication) (f : Publication → Bool) : slices_ContainsFunc_Publication l f = l.any f := by
  unfold slices_ContainsFunc_Publication slices_IndexFunc_Publication
  rcases iF_Publication f l 0 with ⟨h1, h2⟩ | ⟨j, h1, h2⟩ <;> simp [h1, h2]
theorem pAL (n_ : Name) (i : Int) : ∀ (l : List Publication) (k : Nat), slices_IndexFunc_Publication_L1 (fun e0_ => impl_publishedAt_c1 i n_ e0_) l k = spec_l28Find_L1 n_ i l k
  | [], k => rfl
  | x :: l, k => by
    have ih := pAL n_ i l (k + 1)
    have h : impl_publishedAt_c1 i n_ x = (bif (x.seq == i) then spec_EqualNames x.publisher n_ else false) := by rw [← same_EqualNames]; rfl
    simp only [slices_IndexFunc_Publication_L1, spec_l28Find_L1, h]
    cases (x.seq == i) <;> cases spec_EqualNames x.publisher n_ <;> first | rfl | exact ih
theorem same_publishedAt (l : List Publication) (n_ : Name) (i : Int) : impl_publishedAt l n_ i = spec_l28Find l n_ i := by
  unfold impl_publishedAt slices_IndexFunc_Publication spec_l28Find
  rw [pAL] <;> (cases spec_l28Find_L1 n_ i l 0 <;> rfl)
theorem same_FindPublication' (m : Member) (n_ : Name) (i : Int) : impl_FindPublication m n_ i = spec_FindPublication m n_ i := by
  simp only [impl_FindPublication, spec_FindPublication, same_publishedAt]
theorem bnd_FindPublication (m : Member) (n_ : Name) (i : Int) : sz (spec_FindPublication m n_ i).1 ≤ sz m := by
  unfold spec_FindPublication
  cases decide (spec_l28Find m.publications n_ i < 0)
  · simp only [cond_false]
    cases h : (m.publications)[(spec_l28Find m.publications n_ i).toNat]? with
    | none => exact Nat.zero_le _
    | some e1 =>
      have h1 := sz_le_sum (List.mem_of_getElem? h)
      show sz e1.content ≤ sz m
      rw [sz_Member, sz_list m.publications]
      rw [sz_Publication] at h1
      omega
  · exact Nat.zero_le _
theorem wIL (a : Member) : ∀ l : List Publication, spec_l28Within_L1 a l = bif l.any (fun e => impl_hasAllOf_c1 a e) then some false else none
  | [] => rfl
  | x :: l => by
    have ih := wIL a l
    have h : impl_hasAllOf_c1 a x = (bif !(spec_FindPublication a x.publisher x.seq).2 then true else !(spec_EqualBytes (spec_FindPublication a x.publisher x.seq).1 x.content)) := by
      simp only [impl_hasAllOf_c1, same_FindPublication', same_EqualBytes]
    simp only [spec_l28Within_L1, List.any_cons, h, ih]
    cases (!(spec_FindPublication a x.publisher x.seq).2) <;> cases (!(spec_EqualBytes (spec_FindPublication a x.publisher x.seq).1 x.content)) <;> rfl
theorem same_within (a b : Member) : impl_hasAllOf a b = spec_l28Within b a := by
  unfold impl_hasAllOf spec_l28Within
  rw [cF_Publication, wIL]
  cases b.publications.any (fun e => impl_hasAllOf_c1 a e) <;> rfl
theorem same_InSync' (a b : Member) : impl_InSync a b = spec_InSync a b := by
  simp only [impl_InSync, spec_InSync, same_EqualTables, same_within]
  cases spec_l28Within a b <;> cases spec_l28Within b a <;> rfl
end Go.Stp
