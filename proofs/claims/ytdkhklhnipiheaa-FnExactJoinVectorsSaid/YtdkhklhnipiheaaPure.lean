/-
  What the laws' own functions answer. No program, no condition. Written by a program (mkpure.py).
-/
import Derived.Test.YtdkhklhnipiheaaP4h
import Derived.Test.YtdkhklhnipiheaaLaws
namespace Go.Stp
set_option linter.unusedVariables false
set_option linter.unusedSimpArgs false
theorem eqL_StringS : ∀ (l p : (List Str)), laws_eqStringS_L1 (p ++ l) l p.length = none
  | [], _ => rfl
  | e :: l, p => by
    have ih := eqL_StringS l (p ++ [e])
    rw [mid_app, mid_len] at ih
    simp only [laws_eqStringS_L1, mid, bne_self_F, nbeq_self_F, cond_false]
    exact ih
theorem eq_StringS (a : (List Str)) : laws_eqStringS a a = true := by
  have h := eqL_StringS a []
  simp only [List.nil_append, List.length_nil] at h
  simp only [laws_eqStringS, bne_self_F, cond_false, h]
theorem toL_StringS : ∀ (l p z : (List Str)), z.length = l.length → laws_toStringS_L1 l p.length (p ++ z) = p ++ l
  | [], p, [], _ => rfl
  | e :: l, p, y :: z, h => by
    have ih := toL_StringS l (p ++ [e]) z (by simpa using h)
    rw [mid_app p e l, mid_len] at ih
    simp only [laws_toStringS_L1, mid, mid_set]
    exact ih
theorem to_StringS (a : (List Str)) : laws_toStringS a = a := by
  simp only [laws_toStringS]
  exact toL_StringS a [] _ (by simp)
theorem szL_StringS_R : ∀ (l : (List Str)) (left : Int), (∀ a ∈ l, GoT.ok 10 a) → 0 ≤ left → left ≤ 1048576 → SzL (laws_szStringS_L1 l left) left (szL l)
  | [], left, _, h0, _ => .inr ⟨by simp [szL_nil]; omega, by simp [szL_nil, laws_szStringS_L1]⟩
  | e :: l, left, hk, h0, h1 => by
    have he : e.size ≤ 9223372036854775807 := hk e List.mem_cons_self
    rw [szL_cons, sz_str]
    unfold laws_szStringS_L1
    rw [wrap_sub h0 h1 he]
    by_cases hc : left - (e.size : Int) < 0
    · rw [dT hc, cond_true]; exact .inl rfl
    · rw [dF (by omega), cond_false]
      rcases szL_StringS_R l (left - (e.size : Int)) (fun a ha => hk a (List.mem_cons_of_mem _ ha)) (by omega) (by omega) with r | ⟨q, r⟩
      · exact .inl r
      · exact .inr ⟨by omega, by rw [r]; congr 1; omega⟩
theorem sz_StringS_R (a : (List Str)) (left : Int) (h : GoT.ok 10 a) (h0 : 0 ≤ left) (h1 : left ≤ 1048576) : SzR (laws_szStringS a left) left (sz a) := by
  have hl : a.length ≤ 9223372036854775807 := h.1
  rw [sz_list]
  unfold laws_szStringS
  rw [wrap_sub h0 h1 hl]
  by_cases hc : left - (a.length : Int) < 0
  · rw [dT hc, cond_true]; exact .inl rfl
  · rw [dF (by omega), cond_false]
    rcases szL_StringS_R a (left - (a.length : Int)) h.2 (by omega) (by omega) with r | ⟨q, r⟩
    · rw [r]; exact .inl rfl
    · rw [r]; exact .inr ⟨by omega, by show left - (a.length : Int) - (szL a : Int) = _; omega⟩
theorem mkL_StringS : ∀ (l p : (List Str)) (k : Int), 0 ≤ k → k + 16 * ((l.length : Int) + szL l) ≤ 4611686018427387904 → ∃ l' k', laws_markStringS_L1 l.length p.length (p ++ l) k = (p ++ l', k') ∧ k ≤ k' ∧ k' ≤ k + 16 * ((l.length : Int) + szL l) ∧ laws_heldStringS_L1 l' k = .nxt k'
  | [], p, k, _, _ => ⟨[], k, rfl, by omega, by simp [szL_nil], rfl⟩
  | e :: l, p, k, h0, hb => by
    rw [szL_cons, List.length_cons] at hb
    have w1 := wrap1 (x := k) (by omega) (by omega)
    obtain ⟨l', k', r1, r2, r3, r4⟩ := mkL_StringS l (p ++ [(laws_markText k)]) (k + 1) (by omega) (by omega)
    rw [mid_len] at r1
    refine ⟨(laws_markText k) :: l', k', ?_, by omega, by rw [szL_cons, List.length_cons]; omega, ?_⟩
    · simp only [List.length_cons, laws_markStringS_L1, mid, mid_set, w1]
      rw [r1, mid_app]
    · simp only [laws_heldStringS_L1, bne_self_F, nbeq_self_F, cond_false, w1]
      exact r4
theorem mk_StringS (a : (List Str)) (k : Int) (h0 : 0 ≤ k) (hb : k + 16 * (sz a : Int) ≤ 4611686018427387904) : MkR k (laws_markStringS a k).1 (sz a) (laws_heldStringS (laws_markStringS a k).2 k) := by
  rw [sz_list] at hb ⊢
  obtain ⟨l', k', r1, r2, r3, r4⟩ := mkL_StringS a [] k h0 (by omega)
  simp only [List.nil_append, List.length_nil] at r1
  simp only [laws_markStringS, r1, laws_heldStringS, r4]
  exact ⟨r2, by omega, rfl⟩
theorem eq_Name (a : Name) : laws_eqName a a = true := by
  simp only [laws_eqName, bne_self_F, nbeq_self_F, cond_false, Bool.not_true, eq_StringS]
theorem to_Name (a : Name) : laws_toName a = a := by
  simp only [laws_toName, to_StringS]
theorem sz_Name_R (a : Name) (left : Int) (h : GoT.ok 10 a) (h0 : 0 ≤ left) (h1 : left ≤ 1048576) : SzR (laws_szName a left) left (sz a) := by
  rw [sz_Name]
  unfold laws_szName
  rcases sz_StringS_R a.parts left (ok_Name h) (by omega) (by omega) with r0 | ⟨q0, r0⟩
  · rw [r0]; exact .inl rfl
  rw [r0, dF (by omega), cond_false]
  exact .inr ⟨by omega, by omega⟩
theorem mk_Name (a : Name) (k : Int) (h0 : 0 ≤ k) (hb : k + 16 * (sz a : Int) ≤ 4611686018427387904) : MkR k (laws_markName a k).1 (sz a) (laws_markName a k).1 := by
  rw [sz_Name] at hb ⊢
  obtain ⟨p0, q0, e0⟩ := mk_StringS a.parts (k) (by omega) (by omega)
  have d0 := dF (show 0 ≤ (laws_markStringS a.parts (k)).1 by omega)
  have f0 : (laws_markName a k).2.parts = (laws_markStringS a.parts (k)).2 := rfl
  refine ⟨show k ≤ (laws_markStringS a.parts (k)).1 by omega, show (laws_markStringS a.parts (k)).1 ≤ _ by omega, rfl⟩
theorem eq_TableEntry (a : TableEntry) : laws_eqTableEntry a a = true := by
  simp only [laws_eqTableEntry, bne_self_F, nbeq_self_F, cond_false, Bool.not_true, eq_Name]
theorem to_TableEntry (a : TableEntry) : laws_toTableEntry a = a := by
  simp only [laws_toTableEntry, to_Name]
theorem sz_TableEntry_R (a : TableEntry) (left : Int) (h : GoT.ok 10 a) (h0 : 0 ≤ left) (h1 : left ≤ 1048576) : SzR (laws_szTableEntry a left) left (sz a) := by
  rw [sz_TableEntry]
  unfold laws_szTableEntry
  rcases sz_Name_R a.name left (ok_TableEntry h).1 (by omega) (by omega) with r0 | ⟨q0, r0⟩
  · rw [r0]; exact .inl rfl
  rw [r0, dF (by omega), cond_false]
  exact .inr ⟨by omega, by omega⟩
theorem eqL_TableEntryS : ∀ (l p : (List TableEntry)), laws_eqTableEntryS_L1 (p ++ l) l p.length = none
  | [], _ => rfl
  | e :: l, p => by
    have ih := eqL_TableEntryS l (p ++ [e])
    rw [mid_app, mid_len] at ih
    simp only [laws_eqTableEntryS_L1, mid, eq_TableEntry e, Bool.not_true, cond_false]
    exact ih
theorem eq_TableEntryS (a : (List TableEntry)) : laws_eqTableEntryS a a = true := by
  have h := eqL_TableEntryS a []
  simp only [List.nil_append, List.length_nil] at h
  simp only [laws_eqTableEntryS, bne_self_F, cond_false, h]
theorem toL_TableEntryS : ∀ (l p z : (List TableEntry)), z.length = l.length → laws_toTableEntryS_L1 l p.length (p ++ z) = p ++ l
  | [], p, [], _ => rfl
  | e :: l, p, y :: z, h => by
    have ih := toL_TableEntryS l (p ++ [e]) z (by simpa using h)
    rw [mid_app p e l, mid_len] at ih
    simp only [laws_toTableEntryS_L1, mid, mid_set, to_TableEntry e]
    exact ih
theorem to_TableEntryS (a : (List TableEntry)) : laws_toTableEntryS a = a := by
  simp only [laws_toTableEntryS]
  exact toL_TableEntryS a [] _ (by simp)
theorem szL_TableEntryS_R : ∀ (l : (List TableEntry)) (left : Int), (∀ a ∈ l, GoT.ok 10 a) → 0 ≤ left → left ≤ 1048576 → SzL (laws_szTableEntryS_L1 l left) left (szL l)
  | [], left, _, h0, _ => .inr ⟨by simp [szL_nil]; omega, by simp [szL_nil, laws_szTableEntryS_L1]⟩
  | e :: l, left, hk, h0, h1 => by
    rw [szL_cons]
    unfold laws_szTableEntryS_L1
    rcases sz_TableEntry_R e left (hk e List.mem_cons_self) h0 h1 with r0 | ⟨q0, r0⟩
    · rw [r0]; exact .inl rfl
    · rw [r0, dF (by omega), cond_false]
      rcases szL_TableEntryS_R l (left - (sz e : Int)) (fun a ha => hk a (List.mem_cons_of_mem _ ha)) (by omega) (by omega) with r | ⟨q, r⟩
      · exact .inl r
      · exact .inr ⟨by omega, by rw [r]; congr 1; omega⟩
theorem sz_TableEntryS_R (a : (List TableEntry)) (left : Int) (h : GoT.ok 10 a) (h0 : 0 ≤ left) (h1 : left ≤ 1048576) : SzR (laws_szTableEntryS a left) left (sz a) := by
  have hl : a.length ≤ 9223372036854775807 := h.1
  rw [sz_list]
  unfold laws_szTableEntryS
  rw [wrap_sub h0 h1 hl]
  by_cases hc : left - (a.length : Int) < 0
  · rw [dT hc, cond_true]; exact .inl rfl
  · rw [dF (by omega), cond_false]
    rcases szL_TableEntryS_R a (left - (a.length : Int)) h.2 (by omega) (by omega) with r | ⟨q, r⟩
    · rw [r]; exact .inl rfl
    · rw [r]; exact .inr ⟨by omega, by show left - (a.length : Int) - (szL a : Int) = _; omega⟩
theorem sz_flat_TableEntryS (e : TableEntry) : sz e = sz e.name.parts := by
  simp only [sz_TableEntry, sz_Name, Nat.add_assoc]
theorem mkL_TableEntryS : ∀ (l p : (List TableEntry)) (k : Int), 0 ≤ k → k + 16 * ((l.length : Int) + szL l) ≤ 4611686018427387904 → ∃ l' k', laws_markTableEntryS_L1 l.length p.length (p ++ l) k = (p ++ l', k') ∧ k ≤ k' ∧ k' ≤ k + 16 * ((l.length : Int) + szL l) ∧ laws_heldTableEntryS_L1 l' k = .nxt k'
  | [], p, k, _, _ => ⟨[], k, rfl, by omega, by simp [szL_nil], rfl⟩
  | e :: l, p, k, h0, hb => by
    rw [szL_cons, List.length_cons] at hb
    have hsz := sz_flat_TableEntryS e
    obtain ⟨p1, q1, e1⟩ := mk_StringS e.name.parts (k) (by omega) (by omega)
    have d1 := dF (show 0 ≤ (laws_markStringS e.name.parts (k)).1 by omega)
    have w2 := wrap1 (x := (laws_markStringS e.name.parts (k)).1) (by omega) (by omega)
    obtain ⟨l', k', r1, r2, r3, r4⟩ := mkL_TableEntryS l (p ++ [(TableEntry.mk (Name.mk (laws_markStringS e.name.parts k).2) ((laws_markStringS e.name.parts k).1))]) ((laws_markStringS e.name.parts (k)).1 + 1) (by omega) (by omega)
    rw [mid_len] at r1
    refine ⟨(TableEntry.mk (Name.mk (laws_markStringS e.name.parts k).2) ((laws_markStringS e.name.parts k).1)) :: l', k', ?_, by omega, by rw [szL_cons, List.length_cons]; omega, ?_⟩
    · simp only [List.length_cons, laws_markTableEntryS_L1, mid, mid_set, w2]
      rw [r1, mid_app]
    · simp only [laws_heldTableEntryS_L1, bne_self_F, nbeq_self_F, cond_false, e1, d1, cond_false, w2]
      exact r4
theorem mk_TableEntryS (a : (List TableEntry)) (k : Int) (h0 : 0 ≤ k) (hb : k + 16 * (sz a : Int) ≤ 4611686018427387904) : MkR k (laws_markTableEntryS a k).1 (sz a) (laws_heldTableEntryS (laws_markTableEntryS a k).2 k) := by
  rw [sz_list] at hb ⊢
  obtain ⟨l', k', r1, r2, r3, r4⟩ := mkL_TableEntryS a [] k h0 (by omega)
  simp only [List.nil_append, List.length_nil] at r1
  simp only [laws_markTableEntryS, r1, laws_heldTableEntryS, r4]
  exact ⟨r2, by omega, rfl⟩
theorem eq_StateVector (a : StateVector) : laws_eqStateVector a a = true := by
  simp only [laws_eqStateVector, bne_self_F, nbeq_self_F, cond_false, Bool.not_true, eq_TableEntryS]
theorem to_StateVector (a : StateVector) : laws_toStateVector a = a := by
  simp only [laws_toStateVector, to_TableEntryS]
theorem sz_StateVector_R (a : StateVector) (left : Int) (h : GoT.ok 10 a) (h0 : 0 ≤ left) (h1 : left ≤ 1048576) : SzR (laws_szStateVector a left) left (sz a) := by
  rw [sz_StateVector]
  unfold laws_szStateVector
  rcases sz_TableEntryS_R a.entries left (ok_StateVector h) (by omega) (by omega) with r0 | ⟨q0, r0⟩
  · rw [r0]; exact .inl rfl
  rw [r0, dF (by omega), cond_false]
  exact .inr ⟨by omega, by omega⟩
theorem mk_StateVector (a : StateVector) (k : Int) (h0 : 0 ≤ k) (hb : k + 16 * (sz a : Int) ≤ 4611686018427387904) : MkR k (laws_markStateVector a k).1 (sz a) (laws_heldStateVector (laws_markStateVector a k).2 k) := by
  rw [sz_StateVector] at hb ⊢
  obtain ⟨p0, q0, e0⟩ := mk_TableEntryS a.entries (k) (by omega) (by omega)
  have d0 := dF (show 0 ≤ (laws_markTableEntryS a.entries (k)).1 by omega)
  have f0 : (laws_markStateVector a k).2.entries = (laws_markTableEntryS a.entries (k)).2 := rfl
  refine ⟨show k ≤ (laws_markTableEntryS a.entries (k)).1 by omega, show (laws_markTableEntryS a.entries (k)).1 ≤ _ by omega, ?_⟩
  show _ = (laws_markTableEntryS a.entries (k)).1
  simp only [laws_heldStateVector, f0, e0, d0, cond_false]
theorem eqL_ByteS : ∀ (l p : (List UInt8)), laws_eqByteS_L1 (p ++ l) l p.length = none
  | [], _ => rfl
  | e :: l, p => by
    have ih := eqL_ByteS l (p ++ [e])
    rw [mid_app, mid_len] at ih
    simp only [laws_eqByteS_L1, mid, bne_self_F, nbeq_self_F, cond_false]
    exact ih
theorem eq_ByteS (a : (List UInt8)) : laws_eqByteS a a = true := by
  have h := eqL_ByteS a []
  simp only [List.nil_append, List.length_nil] at h
  simp only [laws_eqByteS, bne_self_F, cond_false, h]
theorem toL_ByteS : ∀ (l p z : (List UInt8)), z.length = l.length → laws_toByteS_L1 l p.length (p ++ z) = p ++ l
  | [], p, [], _ => rfl
  | e :: l, p, y :: z, h => by
    have ih := toL_ByteS l (p ++ [e]) z (by simpa using h)
    rw [mid_app p e l, mid_len] at ih
    simp only [laws_toByteS_L1, mid, mid_set]
    exact ih
theorem to_ByteS (a : (List UInt8)) : laws_toByteS a = a := by
  simp only [laws_toByteS]
  exact toL_ByteS a [] _ (by simp)
theorem sz_ByteS_R (a : (List UInt8)) (left : Int) (h : GoT.ok 10 a) (h0 : 0 ≤ left) (h1 : left ≤ 1048576) : SzR (laws_szByteS a left) left (sz a) := by
  have hl : a.length ≤ 9223372036854775807 := h.1
  rw [sz_list, szL_u8]
  unfold laws_szByteS
  rw [wrap_sub h0 h1 hl]
  by_cases hc : left - (a.length : Int) < 0
  · rw [dT hc, cond_true]; exact .inl rfl
  · rw [dF (by omega), cond_false]; exact .inr ⟨by omega, rfl⟩
theorem mkL_ByteS : ∀ (l p : (List UInt8)) (k : Int), 0 ≤ k → k + 16 * ((l.length : Int) + szL l) ≤ 4611686018427387904 → ∃ l' k', laws_markByteS_L1 l.length p.length (p ++ l) k = (p ++ l', k') ∧ k ≤ k' ∧ k' ≤ k + 16 * ((l.length : Int) + szL l) ∧ laws_heldByteS_L1 l' k = .nxt k'
  | [], p, k, _, _ => ⟨[], k, rfl, by omega, by simp [szL_nil], rfl⟩
  | e :: l, p, k, h0, hb => by
    rw [szL_cons, List.length_cons] at hb
    have w1 := wrap1 (x := k) (by omega) (by omega)
    obtain ⟨l', k', r1, r2, r3, r4⟩ := mkL_ByteS l (p ++ [(toU8 k)]) (k + 1) (by omega) (by omega)
    rw [mid_len] at r1
    refine ⟨(toU8 k) :: l', k', ?_, by omega, by rw [szL_cons, List.length_cons]; omega, ?_⟩
    · simp only [List.length_cons, laws_markByteS_L1, mid, mid_set, w1]
      rw [r1, mid_app]
    · simp only [laws_heldByteS_L1, bne_self_F, nbeq_self_F, cond_false, w1]
      exact r4
theorem mk_ByteS (a : (List UInt8)) (k : Int) (h0 : 0 ≤ k) (hb : k + 16 * (sz a : Int) ≤ 4611686018427387904) : MkR k (laws_markByteS a k).1 (sz a) (laws_heldByteS (laws_markByteS a k).2 k) := by
  rw [sz_list] at hb ⊢
  obtain ⟨l', k', r1, r2, r3, r4⟩ := mkL_ByteS a [] k h0 (by omega)
  simp only [List.nil_append, List.length_nil] at r1
  simp only [laws_markByteS, r1, laws_heldByteS, r4]
  exact ⟨r2, by omega, rfl⟩
theorem eq_Data (a : DataP) : laws_eqData a a = true := by
  simp only [laws_eqData, bne_self_F, nbeq_self_F, cond_false, Bool.not_true, eq_Name, eq_ByteS]
theorem to_Data (a : DataP) : laws_toData a = a := by
  simp only [laws_toData, to_Name, to_ByteS]
theorem sz_Data_R (a : DataP) (left : Int) (h : GoT.ok 10 a) (h0 : 0 ≤ left) (h1 : left ≤ 1048576) : SzR (laws_szData a left) left (sz a) := by
  rw [sz_DataP]
  unfold laws_szData
  rcases sz_Name_R a.name left (ok_DataP h).1 (by omega) (by omega) with r0 | ⟨q0, r0⟩
  · rw [r0]; exact .inl rfl
  rw [r0, dF (by omega), cond_false]
  rcases sz_ByteS_R a.content (left - (sz a.name : Int)) (ok_DataP h).2.1 (by omega) (by omega) with r1 | ⟨q1, r1⟩
  · rw [r1]; exact .inl rfl
  rw [r1, dF (by omega), cond_false]
  rcases sz_Name_R a.keyName ((left - (sz a.name : Int)) - (sz a.content : Int)) (ok_DataP h).2.2.1 (by omega) (by omega) with r2 | ⟨q2, r2⟩
  · rw [r2]; exact .inl rfl
  rw [r2, dF (by omega), cond_false]
  exact .inr ⟨by omega, by omega⟩
theorem eq_Record (a : Record) : laws_eqRecord a a = true := by
  simp only [laws_eqRecord, bne_self_F, nbeq_self_F, cond_false, Bool.not_true, eq_Data]
theorem to_Record (a : Record) : laws_toRecord a = a := by
  simp only [laws_toRecord, to_Data]
theorem sz_Record_R (a : Record) (left : Int) (h : GoT.ok 10 a) (h0 : 0 ≤ left) (h1 : left ≤ 1048576) : SzR (laws_szRecord a left) left (sz a) := by
  rw [sz_Record]
  unfold laws_szRecord
  rcases sz_Data_R a.data left (ok_Record h).2 (by omega) (by omega) with r0 | ⟨q0, r0⟩
  · rw [r0]; exact .inl rfl
  rw [r0, dF (by omega), cond_false]
  exact .inr ⟨by omega, by omega⟩
theorem eqL_RecordS : ∀ (l p : (List Record)), laws_eqRecordS_L1 (p ++ l) l p.length = none
  | [], _ => rfl
  | e :: l, p => by
    have ih := eqL_RecordS l (p ++ [e])
    rw [mid_app, mid_len] at ih
    simp only [laws_eqRecordS_L1, mid, eq_Record e, Bool.not_true, cond_false]
    exact ih
theorem eq_RecordS (a : (List Record)) : laws_eqRecordS a a = true := by
  have h := eqL_RecordS a []
  simp only [List.nil_append, List.length_nil] at h
  simp only [laws_eqRecordS, bne_self_F, cond_false, h]
theorem toL_RecordS : ∀ (l p z : (List Record)), z.length = l.length → laws_toRecordS_L1 l p.length (p ++ z) = p ++ l
  | [], p, [], _ => rfl
  | e :: l, p, y :: z, h => by
    have ih := toL_RecordS l (p ++ [e]) z (by simpa using h)
    rw [mid_app p e l, mid_len] at ih
    simp only [laws_toRecordS_L1, mid, mid_set, to_Record e]
    exact ih
theorem to_RecordS (a : (List Record)) : laws_toRecordS a = a := by
  simp only [laws_toRecordS]
  exact toL_RecordS a [] _ (by simp)
theorem szL_RecordS_R : ∀ (l : (List Record)) (left : Int), (∀ a ∈ l, GoT.ok 10 a) → 0 ≤ left → left ≤ 1048576 → SzL (laws_szRecordS_L1 l left) left (szL l)
  | [], left, _, h0, _ => .inr ⟨by simp [szL_nil]; omega, by simp [szL_nil, laws_szRecordS_L1]⟩
  | e :: l, left, hk, h0, h1 => by
    rw [szL_cons]
    unfold laws_szRecordS_L1
    rcases sz_Record_R e left (hk e List.mem_cons_self) h0 h1 with r0 | ⟨q0, r0⟩
    · rw [r0]; exact .inl rfl
    · rw [r0, dF (by omega), cond_false]
      rcases szL_RecordS_R l (left - (sz e : Int)) (fun a ha => hk a (List.mem_cons_of_mem _ ha)) (by omega) (by omega) with r | ⟨q, r⟩
      · exact .inl r
      · exact .inr ⟨by omega, by rw [r]; congr 1; omega⟩
theorem sz_RecordS_R (a : (List Record)) (left : Int) (h : GoT.ok 10 a) (h0 : 0 ≤ left) (h1 : left ≤ 1048576) : SzR (laws_szRecordS a left) left (sz a) := by
  have hl : a.length ≤ 9223372036854775807 := h.1
  rw [sz_list]
  unfold laws_szRecordS
  rw [wrap_sub h0 h1 hl]
  by_cases hc : left - (a.length : Int) < 0
  · rw [dT hc, cond_true]; exact .inl rfl
  · rw [dF (by omega), cond_false]
    rcases szL_RecordS_R a (left - (a.length : Int)) h.2 (by omega) (by omega) with r | ⟨q, r⟩
    · rw [r]; exact .inl rfl
    · rw [r]; exact .inr ⟨by omega, by show left - (a.length : Int) - (szL a : Int) = _; omega⟩
theorem sz_flat_RecordS (e : Record) : sz e = sz e.data.name.parts + sz e.data.content + sz e.data.keyName.parts := by
  simp only [sz_Record, sz_DataP, sz_Name, Nat.add_assoc]
theorem mkL_RecordS : ∀ (l p : (List Record)) (k : Int), 0 ≤ k → k + 16 * ((l.length : Int) + szL l) ≤ 4611686018427387904 → ∃ l' k', laws_markRecordS_L1 l.length p.length (p ++ l) k = (p ++ l', k') ∧ k ≤ k' ∧ k' ≤ k + 16 * ((l.length : Int) + szL l) ∧ laws_heldRecordS_L1 l' k = .nxt k'
  | [], p, k, _, _ => ⟨[], k, rfl, by omega, by simp [szL_nil], rfl⟩
  | e :: l, p, k, h0, hb => by
    rw [szL_cons, List.length_cons] at hb
    have hsz := sz_flat_RecordS e
    have w1 := wrap1 (x := k) (by omega) (by omega)
    obtain ⟨p2, q2, e2⟩ := mk_StringS e.data.name.parts ((k + 1)) (by omega) (by omega)
    have d2 := dF (show 0 ≤ (laws_markStringS e.data.name.parts ((k + 1))).1 by omega)
    obtain ⟨p3, q3, e3⟩ := mk_ByteS e.data.content ((laws_markStringS e.data.name.parts ((k + 1))).1) (by omega) (by omega)
    have d3 := dF (show 0 ≤ (laws_markByteS e.data.content ((laws_markStringS e.data.name.parts ((k + 1))).1)).1 by omega)
    obtain ⟨p4, q4, e4⟩ := mk_StringS e.data.keyName.parts ((laws_markByteS e.data.content ((laws_markStringS e.data.name.parts ((k + 1))).1)).1) (by omega) (by omega)
    have d4 := dF (show 0 ≤ (laws_markStringS e.data.keyName.parts ((laws_markByteS e.data.content ((laws_markStringS e.data.name.parts ((k + 1))).1)).1)).1 by omega)
    have w5 := wrap1 (x := (laws_markStringS e.data.keyName.parts ((laws_markByteS e.data.content ((laws_markStringS e.data.name.parts ((k + 1))).1)).1)).1) (by omega) (by omega)
    have w6 := wrap1 (x := ((laws_markStringS e.data.keyName.parts ((laws_markByteS e.data.content ((laws_markStringS e.data.name.parts ((k + 1))).1)).1)).1 + 1)) (by omega) (by omega)
    obtain ⟨l', k', r1, r2, r3, r4⟩ := mkL_RecordS l (p ++ [(Record.mk k (DataP.mk (Name.mk (laws_markStringS e.data.name.parts (k + 1)).2) (laws_markByteS e.data.content ((laws_markStringS e.data.name.parts (k + 1)).1)).2 (Name.mk (laws_markStringS e.data.keyName.parts ((laws_markByteS e.data.content ((laws_markStringS e.data.name.parts (k + 1)).1)).1)).2) ((laws_markStringS e.data.keyName.parts ((laws_markByteS e.data.content ((laws_markStringS e.data.name.parts (k + 1)).1)).1)).1) ((laws_markStringS e.data.keyName.parts ((laws_markByteS e.data.content ((laws_markStringS e.data.name.parts (k + 1)).1)).1)).1 + 1)))]) (((laws_markStringS e.data.keyName.parts ((laws_markByteS e.data.content ((laws_markStringS e.data.name.parts ((k + 1))).1)).1)).1 + 1) + 1) (by omega) (by omega)
    rw [mid_len] at r1
    refine ⟨(Record.mk k (DataP.mk (Name.mk (laws_markStringS e.data.name.parts (k + 1)).2) (laws_markByteS e.data.content ((laws_markStringS e.data.name.parts (k + 1)).1)).2 (Name.mk (laws_markStringS e.data.keyName.parts ((laws_markByteS e.data.content ((laws_markStringS e.data.name.parts (k + 1)).1)).1)).2) ((laws_markStringS e.data.keyName.parts ((laws_markByteS e.data.content ((laws_markStringS e.data.name.parts (k + 1)).1)).1)).1) ((laws_markStringS e.data.keyName.parts ((laws_markByteS e.data.content ((laws_markStringS e.data.name.parts (k + 1)).1)).1)).1 + 1))) :: l', k', ?_, by omega, by rw [szL_cons, List.length_cons]; omega, ?_⟩
    · simp only [List.length_cons, laws_markRecordS_L1, mid, mid_set, w1, w5, w6]
      rw [r1, mid_app]
    · simp only [laws_heldRecordS_L1, bne_self_F, nbeq_self_F, cond_false, w1, e2, d2, cond_false, e3, d3, e4, d4, w5, w6]
      exact r4
theorem mk_RecordS (a : (List Record)) (k : Int) (h0 : 0 ≤ k) (hb : k + 16 * (sz a : Int) ≤ 4611686018427387904) : MkR k (laws_markRecordS a k).1 (sz a) (laws_heldRecordS (laws_markRecordS a k).2 k) := by
  rw [sz_list] at hb ⊢
  obtain ⟨l', k', r1, r2, r3, r4⟩ := mkL_RecordS a [] k h0 (by omega)
  simp only [List.nil_append, List.length_nil] at r1
  simp only [laws_markRecordS, r1, laws_heldRecordS, r4]
  exact ⟨r2, by omega, rfl⟩
theorem eq_Log (a : Log) : laws_eqLog a a = true := by
  simp only [laws_eqLog, bne_self_F, nbeq_self_F, cond_false, Bool.not_true, eq_RecordS]
theorem to_Log (a : Log) : laws_toLog a = a := by
  simp only [laws_toLog, to_RecordS]
theorem sz_Log_R (a : Log) (left : Int) (h : GoT.ok 10 a) (h0 : 0 ≤ left) (h1 : left ≤ 1048576) : SzR (laws_szLog a left) left (sz a) := by
  rw [sz_Log]
  unfold laws_szLog
  rcases sz_RecordS_R a.durable left (ok_Log h).1 (by omega) (by omega) with r0 | ⟨q0, r0⟩
  · rw [r0]; exact .inl rfl
  rw [r0, dF (by omega), cond_false]
  rcases sz_RecordS_R a.volatile (left - (sz a.durable : Int)) (ok_Log h).2 (by omega) (by omega) with r1 | ⟨q1, r1⟩
  · rw [r1]; exact .inl rfl
  rw [r1, dF (by omega), cond_false]
  exact .inr ⟨by omega, by omega⟩
theorem mk_Log (a : Log) (k : Int) (h0 : 0 ≤ k) (hb : k + 16 * (sz a : Int) ≤ 4611686018427387904) : MkR k (laws_markLog a k).1 (sz a) (laws_heldLog (laws_markLog a k).2 k) := by
  rw [sz_Log] at hb ⊢
  obtain ⟨p0, q0, e0⟩ := mk_RecordS a.durable (k) (by omega) (by omega)
  have d0 := dF (show 0 ≤ (laws_markRecordS a.durable (k)).1 by omega)
  have f0 : (laws_markLog a k).2.durable = (laws_markRecordS a.durable (k)).2 := rfl
  obtain ⟨p1, q1, e1⟩ := mk_RecordS a.volatile ((laws_markRecordS a.durable (k)).1) (by omega) (by omega)
  have d1 := dF (show 0 ≤ (laws_markRecordS a.volatile ((laws_markRecordS a.durable (k)).1)).1 by omega)
  have f1 : (laws_markLog a k).2.volatile = (laws_markRecordS a.volatile ((laws_markRecordS a.durable (k)).1)).2 := rfl
  refine ⟨show k ≤ (laws_markRecordS a.volatile ((laws_markRecordS a.durable (k)).1)).1 by omega, show (laws_markRecordS a.volatile ((laws_markRecordS a.durable (k)).1)).1 ≤ _ by omega, ?_⟩
  show _ = (laws_markRecordS a.volatile ((laws_markRecordS a.durable (k)).1)).1
  simp only [laws_heldLog, f0, e0, d0, f1, e1, d1, cond_false]
theorem eq_Repository (a : Repository) : laws_eqRepository a a = true := by
  simp only [laws_eqRepository, bne_self_F, nbeq_self_F, cond_false, Bool.not_true, eq_Log]
theorem to_Repository (a : Repository) : laws_toRepository a = a := by
  simp only [laws_toRepository, to_Log]
theorem sz_Repository_R (a : Repository) (left : Int) (h : GoT.ok 10 a) (h0 : 0 ≤ left) (h1 : left ≤ 1048576) : SzR (laws_szRepository a left) left (sz a) := by
  rw [sz_Repository]
  unfold laws_szRepository
  rcases sz_Log_R a.log left (ok_Repository h).1 (by omega) (by omega) with r0 | ⟨q0, r0⟩
  · rw [r0]; exact .inl rfl
  rw [r0, dF (by omega), cond_false]
  exact .inr ⟨by omega, by omega⟩
theorem mk_Repository (a : Repository) (k : Int) (h0 : 0 ≤ k) (hb : k + 16 * (sz a : Int) ≤ 4611686018427387904) : MkR k (laws_markRepository a k).1 (sz a) (laws_heldRepository (laws_markRepository a k).2 k) := by
  rw [sz_Repository] at hb ⊢
  obtain ⟨p0, q0, e0⟩ := mk_Log a.log (k) (by omega) (by omega)
  have d0 := dF (show 0 ≤ (laws_markLog a.log (k)).1 by omega)
  have f0 : (laws_markRepository a k).2.log = (laws_markLog a.log (k)).2 := rfl
  refine ⟨show k ≤ (laws_markLog a.log (k)).1 by omega, show (laws_markLog a.log (k)).1 ≤ _ by omega, ?_⟩
  show _ = (laws_markLog a.log (k)).1
  simp only [laws_heldRepository, f0, e0, d0, cond_false]
end Go.Stp
