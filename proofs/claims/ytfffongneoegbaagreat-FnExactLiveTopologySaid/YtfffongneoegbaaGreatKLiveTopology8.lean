/-
  LiveTopology: the law returns true at all arguments; conditions: those of the statement, no others. Written by a program (pack.py, mklaw2.py).
-/
import Derived.Carry
import Derived.ChangeArms
import Derived.ProofKit
import Derived.OpenShut
import Derived.JoinedCond
import Derived.Test.YtfffongneoegbaaGreatKLiveTopology7
namespace Go.Stp
set_option linter.unusedVariables false
set_option linter.unusedSimpArgs false
theorem eqL_StringS : ∀ (l p : (List Str)), laws_eqStringS_L1 (p ++ l) l p.length = none
  | [], _ => rfl
  | e :: l, p => by
    have ih := eqL_StringS l (p ++ [e])
    rw [mid_app, mid_len] at ih
    simp only [laws_eqStringS_L1, mid, bne_self_F, nbeq_self_F, cond_false]
    exact ih
theorem eq_StringS (a : (List Str)) : laws_eqStringS a a = true := by
  have h := eqL_StringS a []
  simp only [List.nil_append, List.length_nil] at h
  simp only [laws_eqStringS, bne_self_F, cond_false, h]
theorem toL_StringS : ∀ (l p z : (List Str)), z.length = l.length → laws_toStringS_L1 l p.length (p ++ z) = p ++ l
  | [], p, [], _ => rfl
  | e :: l, p, y :: z, h => by
    have ih := toL_StringS l (p ++ [e]) z (by simpa using h)
    rw [mid_app p e l, mid_len] at ih
    simp only [laws_toStringS_L1, mid, mid_set]
    exact ih
theorem to_StringS (a : (List Str)) : laws_toStringS a = a := by
  simp only [laws_toStringS]
  exact toL_StringS a [] _ (by simp)
theorem szL_StringS_R : ∀ (l : (List Str)) (left : Int), (∀ a ∈ l, GoT.ok 10 a) → 0 ≤ left → left ≤ 1048576 → SzL (laws_szStringS_L1 l left) left (szL l)
  | [], left, _, h0, _ => .inr ⟨by simp [szL_nil]; omega, by simp [szL_nil, laws_szStringS_L1]⟩
  | e :: l, left, hk, h0, h1 => by
    have he : e.size ≤ 9223372036854775807 := hk e List.mem_cons_self
    rw [szL_cons, sz_str]
    unfold laws_szStringS_L1
    rw [wrap_sub h0 h1 he]
    by_cases hc : left - (e.size : Int) < 0
    · rw [dT hc, cond_true]; exact .inl rfl
    · rw [dF (by omega), cond_false]
      rcases szL_StringS_R l (left - (e.size : Int)) (fun a ha => hk a (List.mem_cons_of_mem _ ha)) (by omega) (by omega) with r | ⟨q, r⟩
      · exact .inl r
      · exact .inr ⟨by omega, by rw [r]; congr 1; omega⟩
theorem sz_StringS_R (a : (List Str)) (left : Int) (h : GoT.ok 10 a) (h0 : 0 ≤ left) (h1 : left ≤ 1048576) : SzR (laws_szStringS a left) left (sz a) := by
  have hl : a.length ≤ 9223372036854775807 := h.1
  rw [sz_list]
  unfold laws_szStringS
  rw [wrap_sub h0 h1 hl]
  by_cases hc : left - (a.length : Int) < 0
  · rw [dT hc, cond_true]; exact .inl rfl
  · rw [dF (by omega), cond_false]
    rcases szL_StringS_R a (left - (a.length : Int)) h.2 (by omega) (by omega) with r | ⟨q, r⟩
    · rw [r]; exact .inl rfl
    · rw [r]; exact .inr ⟨by omega, by show left - (a.length : Int) - (szL a : Int) = _; omega⟩
theorem mkL_StringS : ∀ (l p : (List Str)) (k : Int), 0 ≤ k → k + 16 * ((l.length : Int) + szL l) ≤ 4611686018427387904 → ∃ l' k', laws_markStringS_L1 l.length p.length (p ++ l) k = (p ++ l', k') ∧ k ≤ k' ∧ k' ≤ k + 16 * ((l.length : Int) + szL l) ∧ laws_heldStringS_L1 l' k = .nxt k'
  | [], p, k, _, _ => ⟨[], k, rfl, by omega, by simp [szL_nil], rfl⟩
  | e :: l, p, k, h0, hb => by
    rw [szL_cons, List.length_cons] at hb
    have w1 := wrap1 (x := k) (by omega) (by omega)
    obtain ⟨l', k', r1, r2, r3, r4⟩ := mkL_StringS l (p ++ [(laws_markText k)]) (k + 1) (by omega) (by omega)
    rw [mid_len] at r1
    refine ⟨(laws_markText k) :: l', k', ?_, by omega, by rw [szL_cons, List.length_cons]; omega, ?_⟩
    · simp only [List.length_cons, laws_markStringS_L1, mid, mid_set, w1]
      rw [r1, mid_app]
    · simp only [laws_heldStringS_L1, bne_self_F, nbeq_self_F, cond_false, w1]
      exact r4
theorem mk_StringS (a : (List Str)) (k : Int) (h0 : 0 ≤ k) (hb : k + 16 * (sz a : Int) ≤ 4611686018427387904) : MkR k (laws_markStringS a k).1 (sz a) (laws_heldStringS (laws_markStringS a k).2 k) := by
  rw [sz_list] at hb ⊢
  obtain ⟨l', k', r1, r2, r3, r4⟩ := mkL_StringS a [] k h0 (by omega)
  simp only [List.nil_append, List.length_nil] at r1
  simp only [laws_markStringS, r1, laws_heldStringS, r4]
  exact ⟨r2, by omega, rfl⟩
theorem eq_Name (a : Name) : laws_eqName a a = true := by
  simp only [laws_eqName, bne_self_F, nbeq_self_F, cond_false, Bool.not_true, eq_StringS]
theorem to_Name (a : Name) : laws_toName a = a := by
  simp only [laws_toName, to_StringS]
theorem sz_Name_R (a : Name) (left : Int) (h : GoT.ok 10 a) (h0 : 0 ≤ left) (h1 : left ≤ 1048576) : SzR (laws_szName a left) left (sz a) := by
  rw [sz_Name]
  unfold laws_szName
  rcases sz_StringS_R a.parts left (ok_Name h) (by omega) (by omega) with r0 | ⟨q0, r0⟩
  · rw [r0]; exact .inl rfl
  rw [r0, dF (by omega), cond_false]
  exact .inr ⟨by omega, by omega⟩
theorem eq_TableEntry (a : TableEntry) : laws_eqTableEntry a a = true := by
  simp only [laws_eqTableEntry, bne_self_F, nbeq_self_F, cond_false, Bool.not_true, eq_Name]
theorem to_TableEntry (a : TableEntry) : laws_toTableEntry a = a := by
  simp only [laws_toTableEntry, to_Name]
theorem sz_TableEntry_R (a : TableEntry) (left : Int) (h : GoT.ok 10 a) (h0 : 0 ≤ left) (h1 : left ≤ 1048576) : SzR (laws_szTableEntry a left) left (sz a) := by
  rw [sz_TableEntry]
  unfold laws_szTableEntry
  rcases sz_Name_R a.name left (ok_TableEntry h).1 (by omega) (by omega) with r0 | ⟨q0, r0⟩
  · rw [r0]; exact .inl rfl
  rw [r0, dF (by omega), cond_false]
  exact .inr ⟨by omega, by omega⟩
theorem eqL_TableEntryS : ∀ (l p : (List TableEntry)), laws_eqTableEntryS_L1 (p ++ l) l p.length = none
  | [], _ => rfl
  | e :: l, p => by
    have ih := eqL_TableEntryS l (p ++ [e])
    rw [mid_app, mid_len] at ih
    simp only [laws_eqTableEntryS_L1, mid, eq_TableEntry e, Bool.not_true, cond_false]
    exact ih
theorem eq_TableEntryS (a : (List TableEntry)) : laws_eqTableEntryS a a = true := by
  have h := eqL_TableEntryS a []
  simp only [List.nil_append, List.length_nil] at h
  simp only [laws_eqTableEntryS, bne_self_F, cond_false, h]
theorem toL_TableEntryS : ∀ (l p z : (List TableEntry)), z.length = l.length → laws_toTableEntryS_L1 l p.length (p ++ z) = p ++ l
  | [], p, [], _ => rfl
  | e :: l, p, y :: z, h => by
    have ih := toL_TableEntryS l (p ++ [e]) z (by simpa using h)
    rw [mid_app p e l, mid_len] at ih
    simp only [laws_toTableEntryS_L1, mid, mid_set, to_TableEntry e]
    exact ih
theorem to_TableEntryS (a : (List TableEntry)) : laws_toTableEntryS a = a := by
  simp only [laws_toTableEntryS]
  exact toL_TableEntryS a [] _ (by simp)
theorem szL_TableEntryS_R : ∀ (l : (List TableEntry)) (left : Int), (∀ a ∈ l, GoT.ok 10 a) → 0 ≤ left → left ≤ 1048576 → SzL (laws_szTableEntryS_L1 l left) left (szL l)
  | [], left, _, h0, _ => .inr ⟨by simp [szL_nil]; omega, by simp [szL_nil, laws_szTableEntryS_L1]⟩
  | e :: l, left, hk, h0, h1 => by
    rw [szL_cons]
    unfold laws_szTableEntryS_L1
    rcases sz_TableEntry_R e left (hk e List.mem_cons_self) h0 h1 with r0 | ⟨q0, r0⟩
    · rw [r0]; exact .inl rfl
    · rw [r0, dF (by omega), cond_false]
      rcases szL_TableEntryS_R l (left - (sz e : Int)) (fun a ha => hk a (List.mem_cons_of_mem _ ha)) (by omega) (by omega) with r | ⟨q, r⟩
      · exact .inl r
      · exact .inr ⟨by omega, by rw [r]; congr 1; omega⟩
theorem sz_TableEntryS_R (a : (List TableEntry)) (left : Int) (h : GoT.ok 10 a) (h0 : 0 ≤ left) (h1 : left ≤ 1048576) : SzR (laws_szTableEntryS a left) left (sz a) := by
  have hl : a.length ≤ 9223372036854775807 := h.1
  rw [sz_list]
  unfold laws_szTableEntryS
  rw [wrap_sub h0 h1 hl]
  by_cases hc : left - (a.length : Int) < 0
  · rw [dT hc, cond_true]; exact .inl rfl
  · rw [dF (by omega), cond_false]
    rcases szL_TableEntryS_R a (left - (a.length : Int)) h.2 (by omega) (by omega) with r | ⟨q, r⟩
    · rw [r]; exact .inl rfl
    · rw [r]; exact .inr ⟨by omega, by show left - (a.length : Int) - (szL a : Int) = _; omega⟩
theorem sz_flat_TableEntryS (e : TableEntry) : sz e = sz e.name.parts := by
  simp only [sz_TableEntry, sz_Name, Nat.add_assoc]
theorem mkL_TableEntryS : ∀ (l p : (List TableEntry)) (k : Int), 0 ≤ k → k + 16 * ((l.length : Int) + szL l) ≤ 4611686018427387904 → ∃ l' k', laws_markTableEntryS_L1 l.length p.length (p ++ l) k = (p ++ l', k') ∧ k ≤ k' ∧ k' ≤ k + 16 * ((l.length : Int) + szL l) ∧ laws_heldTableEntryS_L1 l' k = .nxt k'
  | [], p, k, _, _ => ⟨[], k, rfl, by omega, by simp [szL_nil], rfl⟩
  | e :: l, p, k, h0, hb => by
    rw [szL_cons, List.length_cons] at hb
    have hsz := sz_flat_TableEntryS e
    obtain ⟨p1, q1, e1⟩ := mk_StringS e.name.parts (k) (by omega) (by omega)
    have d1 := dF (show 0 ≤ (laws_markStringS e.name.parts (k)).1 by omega)
    have w2 := wrap1 (x := (laws_markStringS e.name.parts (k)).1) (by omega) (by omega)
    obtain ⟨l', k', r1, r2, r3, r4⟩ := mkL_TableEntryS l (p ++ [(TableEntry.mk (Name.mk (laws_markStringS e.name.parts k).2) ((laws_markStringS e.name.parts k).1))]) ((laws_markStringS e.name.parts (k)).1 + 1) (by omega) (by omega)
    rw [mid_len] at r1
    refine ⟨(TableEntry.mk (Name.mk (laws_markStringS e.name.parts k).2) ((laws_markStringS e.name.parts k).1)) :: l', k', ?_, by omega, by rw [szL_cons, List.length_cons]; omega, ?_⟩
    · simp only [List.length_cons, laws_markTableEntryS_L1, mid, mid_set, w2]
      rw [r1, mid_app]
    · simp only [laws_heldTableEntryS_L1, bne_self_F, nbeq_self_F, cond_false, e1, d1, cond_false, w2]
      exact r4
theorem mk_TableEntryS (a : (List TableEntry)) (k : Int) (h0 : 0 ≤ k) (hb : k + 16 * (sz a : Int) ≤ 4611686018427387904) : MkR k (laws_markTableEntryS a k).1 (sz a) (laws_heldTableEntryS (laws_markTableEntryS a k).2 k) := by
  rw [sz_list] at hb ⊢
  obtain ⟨l', k', r1, r2, r3, r4⟩ := mkL_TableEntryS a [] k h0 (by omega)
  simp only [List.nil_append, List.length_nil] at r1
  simp only [laws_markTableEntryS, r1, laws_heldTableEntryS, r4]
  exact ⟨r2, by omega, rfl⟩
theorem eqL_ByteS : ∀ (l p : (List UInt8)), laws_eqByteS_L1 (p ++ l) l p.length = none
  | [], _ => rfl
  | e :: l, p => by
    have ih := eqL_ByteS l (p ++ [e])
    rw [mid_app, mid_len] at ih
    simp only [laws_eqByteS_L1, mid, bne_self_F, nbeq_self_F, cond_false]
    exact ih
theorem eq_ByteS (a : (List UInt8)) : laws_eqByteS a a = true := by
  have h := eqL_ByteS a []
  simp only [List.nil_append, List.length_nil] at h
  simp only [laws_eqByteS, bne_self_F, cond_false, h]
theorem toL_ByteS : ∀ (l p z : (List UInt8)), z.length = l.length → laws_toByteS_L1 l p.length (p ++ z) = p ++ l
  | [], p, [], _ => rfl
  | e :: l, p, y :: z, h => by
    have ih := toL_ByteS l (p ++ [e]) z (by simpa using h)
    rw [mid_app p e l, mid_len] at ih
    simp only [laws_toByteS_L1, mid, mid_set]
    exact ih
theorem to_ByteS (a : (List UInt8)) : laws_toByteS a = a := by
  simp only [laws_toByteS]
  exact toL_ByteS a [] _ (by simp)
theorem sz_ByteS_R (a : (List UInt8)) (left : Int) (h : GoT.ok 10 a) (h0 : 0 ≤ left) (h1 : left ≤ 1048576) : SzR (laws_szByteS a left) left (sz a) := by
  have hl : a.length ≤ 9223372036854775807 := h.1
  rw [sz_list, szL_u8]
  unfold laws_szByteS
  rw [wrap_sub h0 h1 hl]
  by_cases hc : left - (a.length : Int) < 0
  · rw [dT hc, cond_true]; exact .inl rfl
  · rw [dF (by omega), cond_false]; exact .inr ⟨by omega, rfl⟩
theorem mkL_ByteS : ∀ (l p : (List UInt8)) (k : Int), 0 ≤ k → k + 16 * ((l.length : Int) + szL l) ≤ 4611686018427387904 → ∃ l' k', laws_markByteS_L1 l.length p.length (p ++ l) k = (p ++ l', k') ∧ k ≤ k' ∧ k' ≤ k + 16 * ((l.length : Int) + szL l) ∧ laws_heldByteS_L1 l' k = .nxt k'
  | [], p, k, _, _ => ⟨[], k, rfl, by omega, by simp [szL_nil], rfl⟩
  | e :: l, p, k, h0, hb => by
    rw [szL_cons, List.length_cons] at hb
    have w1 := wrap1 (x := k) (by omega) (by omega)
    obtain ⟨l', k', r1, r2, r3, r4⟩ := mkL_ByteS l (p ++ [(toU8 k)]) (k + 1) (by omega) (by omega)
    rw [mid_len] at r1
    refine ⟨(toU8 k) :: l', k', ?_, by omega, by rw [szL_cons, List.length_cons]; omega, ?_⟩
    · simp only [List.length_cons, laws_markByteS_L1, mid, mid_set, w1]
      rw [r1, mid_app]
    · simp only [laws_heldByteS_L1, bne_self_F, nbeq_self_F, cond_false, w1]
      exact r4
theorem mk_ByteS (a : (List UInt8)) (k : Int) (h0 : 0 ≤ k) (hb : k + 16 * (sz a : Int) ≤ 4611686018427387904) : MkR k (laws_markByteS a k).1 (sz a) (laws_heldByteS (laws_markByteS a k).2 k) := by
  rw [sz_list] at hb ⊢
  obtain ⟨l', k', r1, r2, r3, r4⟩ := mkL_ByteS a [] k h0 (by omega)
  simp only [List.nil_append, List.length_nil] at r1
  simp only [laws_markByteS, r1, laws_heldByteS, r4]
  exact ⟨r2, by omega, rfl⟩
theorem eq_Data (a : DataP) : laws_eqData a a = true := by
  simp only [laws_eqData, bne_self_F, nbeq_self_F, cond_false, Bool.not_true, eq_Name, eq_ByteS]
theorem to_Data (a : DataP) : laws_toData a = a := by
  simp only [laws_toData, to_Name, to_ByteS]
theorem sz_Data_R (a : DataP) (left : Int) (h : GoT.ok 10 a) (h0 : 0 ≤ left) (h1 : left ≤ 1048576) : SzR (laws_szData a left) left (sz a) := by
  rw [sz_DataP]
  unfold laws_szData
  rcases sz_Name_R a.name left (ok_DataP h).1 (by omega) (by omega) with r0 | ⟨q0, r0⟩
  · rw [r0]; exact .inl rfl
  rw [r0, dF (by omega), cond_false]
  rcases sz_ByteS_R a.content (left - (sz a.name : Int)) (ok_DataP h).2.1 (by omega) (by omega) with r1 | ⟨q1, r1⟩
  · rw [r1]; exact .inl rfl
  rw [r1, dF (by omega), cond_false]
  rcases sz_Name_R a.keyName ((left - (sz a.name : Int)) - (sz a.content : Int)) (ok_DataP h).2.2.1 (by omega) (by omega) with r2 | ⟨q2, r2⟩
  · rw [r2]; exact .inl rfl
  rw [r2, dF (by omega), cond_false]
  exact .inr ⟨by omega, by omega⟩
theorem eq_Consumer (a : Consumer) : laws_eqConsumer a a = true := by
  simp only [laws_eqConsumer, bne_self_F, nbeq_self_F, cond_false, Bool.not_true, eq_Name, eq_Data]
theorem to_Consumer (a : Consumer) : laws_toConsumer a = a := by
  simp only [laws_toConsumer, to_Name, to_Data]
theorem sz_Consumer_R (a : Consumer) (left : Int) (h : GoT.ok 10 a) (h0 : 0 ≤ left) (h1 : left ≤ 1048576) : SzR (laws_szConsumer a left) left (sz a) := by
  rw [sz_Consumer]
  unfold laws_szConsumer
  rcases sz_Name_R a.name left (ok_Consumer h).2.2.1 (by omega) (by omega) with r0 | ⟨q0, r0⟩
  · rw [r0]; exact .inl rfl
  rw [r0, dF (by omega), cond_false]
  rcases sz_Data_R a.data (left - (sz a.name : Int)) (ok_Consumer h).2.2.2.2.2.2 (by omega) (by omega) with r1 | ⟨q1, r1⟩
  · rw [r1]; exact .inl rfl
  rw [r1, dF (by omega), cond_false]
  exact .inr ⟨by omega, by omega⟩
theorem eq_Key (a : Key) : laws_eqKey a a = true := by
  simp only [laws_eqKey, bne_self_F, nbeq_self_F, cond_false, Bool.not_true, eq_Name]
theorem to_Key (a : Key) : laws_toKey a = a := by
  simp only [laws_toKey, to_Name]
theorem sz_Key_R (a : Key) (left : Int) (h : GoT.ok 10 a) (h0 : 0 ≤ left) (h1 : left ≤ 1048576) : SzR (laws_szKey a left) left (sz a) := by
  rw [sz_Key]
  unfold laws_szKey
  rcases sz_Name_R a.name left (ok_Key h).1 (by omega) (by omega) with r0 | ⟨q0, r0⟩
  · rw [r0]; exact .inl rfl
  rw [r0, dF (by omega), cond_false]
  exact .inr ⟨by omega, by omega⟩
theorem eqL_KeyS : ∀ (l p : (List Key)), laws_eqKeyS_L1 (p ++ l) l p.length = none
  | [], _ => rfl
  | e :: l, p => by
    have ih := eqL_KeyS l (p ++ [e])
    rw [mid_app, mid_len] at ih
    simp only [laws_eqKeyS_L1, mid, eq_Key e, Bool.not_true, cond_false]
    exact ih
theorem eq_KeyS (a : (List Key)) : laws_eqKeyS a a = true := by
  have h := eqL_KeyS a []
  simp only [List.nil_append, List.length_nil] at h
  simp only [laws_eqKeyS, bne_self_F, cond_false, h]
theorem toL_KeyS : ∀ (l p z : (List Key)), z.length = l.length → laws_toKeyS_L1 l p.length (p ++ z) = p ++ l
  | [], p, [], _ => rfl
  | e :: l, p, y :: z, h => by
    have ih := toL_KeyS l (p ++ [e]) z (by simpa using h)
    rw [mid_app p e l, mid_len] at ih
    simp only [laws_toKeyS_L1, mid, mid_set, to_Key e]
    exact ih
theorem to_KeyS (a : (List Key)) : laws_toKeyS a = a := by
  simp only [laws_toKeyS]
  exact toL_KeyS a [] _ (by simp)
theorem szL_KeyS_R : ∀ (l : (List Key)) (left : Int), (∀ a ∈ l, GoT.ok 10 a) → 0 ≤ left → left ≤ 1048576 → SzL (laws_szKeyS_L1 l left) left (szL l)
  | [], left, _, h0, _ => .inr ⟨by simp [szL_nil]; omega, by simp [szL_nil, laws_szKeyS_L1]⟩
  | e :: l, left, hk, h0, h1 => by
    rw [szL_cons]
    unfold laws_szKeyS_L1
    rcases sz_Key_R e left (hk e List.mem_cons_self) h0 h1 with r0 | ⟨q0, r0⟩
    · rw [r0]; exact .inl rfl
    · rw [r0, dF (by omega), cond_false]
      rcases szL_KeyS_R l (left - (sz e : Int)) (fun a ha => hk a (List.mem_cons_of_mem _ ha)) (by omega) (by omega) with r | ⟨q, r⟩
      · exact .inl r
      · exact .inr ⟨by omega, by rw [r]; congr 1; omega⟩
theorem sz_KeyS_R (a : (List Key)) (left : Int) (h : GoT.ok 10 a) (h0 : 0 ≤ left) (h1 : left ≤ 1048576) : SzR (laws_szKeyS a left) left (sz a) := by
  have hl : a.length ≤ 9223372036854775807 := h.1
  rw [sz_list]
  unfold laws_szKeyS
  rw [wrap_sub h0 h1 hl]
  by_cases hc : left - (a.length : Int) < 0
  · rw [dT hc, cond_true]; exact .inl rfl
  · rw [dF (by omega), cond_false]
    rcases szL_KeyS_R a (left - (a.length : Int)) h.2 (by omega) (by omega) with r | ⟨q, r⟩
    · rw [r]; exact .inl rfl
    · rw [r]; exact .inr ⟨by omega, by show left - (a.length : Int) - (szL a : Int) = _; omega⟩
theorem sz_flat_KeyS (e : Key) : sz e = sz e.name.parts := by
  simp only [sz_Key, sz_Name, Nat.add_assoc]
theorem mkL_KeyS : ∀ (l p : (List Key)) (k : Int), 0 ≤ k → k + 16 * ((l.length : Int) + szL l) ≤ 4611686018427387904 → ∃ l' k', laws_markKeyS_L1 l.length p.length (p ++ l) k = (p ++ l', k') ∧ k ≤ k' ∧ k' ≤ k + 16 * ((l.length : Int) + szL l) ∧ True
  | [], p, k, _, _ => ⟨[], k, rfl, by omega, by simp [szL_nil], trivial⟩
  | e :: l, p, k, h0, hb => by
    rw [szL_cons, List.length_cons] at hb
    have hsz := sz_flat_KeyS e
    obtain ⟨p1, q1, e1⟩ := mk_StringS e.name.parts (k) (by omega) (by omega)
    have d1 := dF (show 0 ≤ (laws_markStringS e.name.parts (k)).1 by omega)
    have w2 := wrap1 (x := (laws_markStringS e.name.parts (k)).1) (by omega) (by omega)
    obtain ⟨l', k', r1, r2, r3, r4⟩ := mkL_KeyS l (p ++ [(Key.mk (Name.mk (laws_markStringS e.name.parts k).2) ((laws_markStringS e.name.parts k).1))]) ((laws_markStringS e.name.parts (k)).1 + 1) (by omega) (by omega)
    rw [mid_len] at r1
    refine ⟨(Key.mk (Name.mk (laws_markStringS e.name.parts k).2) ((laws_markStringS e.name.parts k).1)) :: l', k', ?_, by omega, by rw [szL_cons, List.length_cons]; omega, ?_⟩
    · simp only [List.length_cons, laws_markKeyS_L1, mid, mid_set, w2]
      rw [r1, mid_app]
    · trivial
theorem mk_KeyS (a : (List Key)) (k : Int) (h0 : 0 ≤ k) (hb : k + 16 * (sz a : Int) ≤ 4611686018427387904) : MkR k (laws_markKeyS a k).1 (sz a) (laws_markKeyS a k).1 := by
  rw [sz_list] at hb ⊢
  obtain ⟨l', k', r1, r2, r3, r4⟩ := mkL_KeyS a [] k h0 (by omega)
  simp only [List.nil_append, List.length_nil] at r1
  simp only [laws_markKeyS, r1]
  exact ⟨r2, by omega, rfl⟩
theorem eq_Pattern (a : Pattern) : laws_eqPattern a a = true := by
  simp only [laws_eqPattern, bne_self_F, nbeq_self_F, cond_false, Bool.not_true, eq_StringS]
theorem to_Pattern (a : Pattern) : laws_toPattern a = a := by
  simp only [laws_toPattern, to_StringS]
theorem sz_Pattern_R (a : Pattern) (left : Int) (h : GoT.ok 10 a) (h0 : 0 ≤ left) (h1 : left ≤ 1048576) : SzR (laws_szPattern a left) left (sz a) := by
  rw [sz_Pattern]
  unfold laws_szPattern
  rcases sz_StringS_R a.parts left (ok_Pattern h) (by omega) (by omega) with r0 | ⟨q0, r0⟩
  · rw [r0]; exact .inl rfl
  rw [r0, dF (by omega), cond_false]
  exact .inr ⟨by omega, by omega⟩
theorem eq_Rule (a : Rule) : laws_eqRule a a = true := by
  simp only [laws_eqRule, bne_self_F, nbeq_self_F, cond_false, Bool.not_true, eq_Pattern]
theorem to_Rule (a : Rule) : laws_toRule a = a := by
  simp only [laws_toRule, to_Pattern]
theorem sz_Rule_R (a : Rule) (left : Int) (h : GoT.ok 10 a) (h0 : 0 ≤ left) (h1 : left ≤ 1048576) : SzR (laws_szRule a left) left (sz a) := by
  rw [sz_Rule]
  unfold laws_szRule
  rcases sz_Pattern_R a.dataPattern left (ok_Rule h).1 (by omega) (by omega) with r0 | ⟨q0, r0⟩
  · rw [r0]; exact .inl rfl
  rw [r0, dF (by omega), cond_false]
  rcases sz_Pattern_R a.keyPattern (left - (sz a.dataPattern : Int)) (ok_Rule h).2 (by omega) (by omega) with r1 | ⟨q1, r1⟩
  · rw [r1]; exact .inl rfl
  rw [r1, dF (by omega), cond_false]
  exact .inr ⟨by omega, by omega⟩
theorem eqL_RuleS : ∀ (l p : (List Rule)), laws_eqRuleS_L1 (p ++ l) l p.length = none
  | [], _ => rfl
  | e :: l, p => by
    have ih := eqL_RuleS l (p ++ [e])
    rw [mid_app, mid_len] at ih
    simp only [laws_eqRuleS_L1, mid, eq_Rule e, Bool.not_true, cond_false]
    exact ih
theorem eq_RuleS (a : (List Rule)) : laws_eqRuleS a a = true := by
  have h := eqL_RuleS a []
  simp only [List.nil_append, List.length_nil] at h
  simp only [laws_eqRuleS, bne_self_F, cond_false, h]
theorem toL_RuleS : ∀ (l p z : (List Rule)), z.length = l.length → laws_toRuleS_L1 l p.length (p ++ z) = p ++ l
  | [], p, [], _ => rfl
  | e :: l, p, y :: z, h => by
    have ih := toL_RuleS l (p ++ [e]) z (by simpa using h)
    rw [mid_app p e l, mid_len] at ih
    simp only [laws_toRuleS_L1, mid, mid_set, to_Rule e]
    exact ih
theorem to_RuleS (a : (List Rule)) : laws_toRuleS a = a := by
  simp only [laws_toRuleS]
  exact toL_RuleS a [] _ (by simp)
theorem szL_RuleS_R : ∀ (l : (List Rule)) (left : Int), (∀ a ∈ l, GoT.ok 10 a) → 0 ≤ left → left ≤ 1048576 → SzL (laws_szRuleS_L1 l left) left (szL l)
  | [], left, _, h0, _ => .inr ⟨by simp [szL_nil]; omega, by simp [szL_nil, laws_szRuleS_L1]⟩
  | e :: l, left, hk, h0, h1 => by
    rw [szL_cons]
    unfold laws_szRuleS_L1
    rcases sz_Rule_R e left (hk e List.mem_cons_self) h0 h1 with r0 | ⟨q0, r0⟩
    · rw [r0]; exact .inl rfl
    · rw [r0, dF (by omega), cond_false]
      rcases szL_RuleS_R l (left - (sz e : Int)) (fun a ha => hk a (List.mem_cons_of_mem _ ha)) (by omega) (by omega) with r | ⟨q, r⟩
      · exact .inl r
      · exact .inr ⟨by omega, by rw [r]; congr 1; omega⟩
theorem sz_RuleS_R (a : (List Rule)) (left : Int) (h : GoT.ok 10 a) (h0 : 0 ≤ left) (h1 : left ≤ 1048576) : SzR (laws_szRuleS a left) left (sz a) := by
  have hl : a.length ≤ 9223372036854775807 := h.1
  rw [sz_list]
  unfold laws_szRuleS
  rw [wrap_sub h0 h1 hl]
  by_cases hc : left - (a.length : Int) < 0
  · rw [dT hc, cond_true]; exact .inl rfl
  · rw [dF (by omega), cond_false]
    rcases szL_RuleS_R a (left - (a.length : Int)) h.2 (by omega) (by omega) with r | ⟨q, r⟩
    · rw [r]; exact .inl rfl
    · rw [r]; exact .inr ⟨by omega, by show left - (a.length : Int) - (szL a : Int) = _; omega⟩
theorem sz_flat_RuleS (e : Rule) : sz e = sz e.dataPattern.parts + sz e.keyPattern.parts := by
  simp only [sz_Rule, sz_Pattern, Nat.add_assoc]
theorem mkL_RuleS : ∀ (l p : (List Rule)) (k : Int), 0 ≤ k → k + 16 * ((l.length : Int) + szL l) ≤ 4611686018427387904 → ∃ l' k', laws_markRuleS_L1 l.length p.length (p ++ l) k = (p ++ l', k') ∧ k ≤ k' ∧ k' ≤ k + 16 * ((l.length : Int) + szL l) ∧ True
  | [], p, k, _, _ => ⟨[], k, rfl, by omega, by simp [szL_nil], trivial⟩
  | e :: l, p, k, h0, hb => by
    rw [szL_cons, List.length_cons] at hb
    have hsz := sz_flat_RuleS e
    obtain ⟨p1, q1, e1⟩ := mk_StringS e.dataPattern.parts (k) (by omega) (by omega)
    have d1 := dF (show 0 ≤ (laws_markStringS e.dataPattern.parts (k)).1 by omega)
    obtain ⟨p2, q2, e2⟩ := mk_StringS e.keyPattern.parts ((laws_markStringS e.dataPattern.parts (k)).1) (by omega) (by omega)
    have d2 := dF (show 0 ≤ (laws_markStringS e.keyPattern.parts ((laws_markStringS e.dataPattern.parts (k)).1)).1 by omega)
    obtain ⟨l', k', r1, r2, r3, r4⟩ := mkL_RuleS l (p ++ [(Rule.mk (Pattern.mk (laws_markStringS e.dataPattern.parts k).2) (Pattern.mk (laws_markStringS e.keyPattern.parts ((laws_markStringS e.dataPattern.parts k).1)).2))]) (laws_markStringS e.keyPattern.parts ((laws_markStringS e.dataPattern.parts (k)).1)).1 (by omega) (by omega)
    rw [mid_len] at r1
    refine ⟨(Rule.mk (Pattern.mk (laws_markStringS e.dataPattern.parts k).2) (Pattern.mk (laws_markStringS e.keyPattern.parts ((laws_markStringS e.dataPattern.parts k).1)).2)) :: l', k', ?_, by omega, by rw [szL_cons, List.length_cons]; omega, ?_⟩
    · simp only [List.length_cons, laws_markRuleS_L1, mid, mid_set]
      rw [r1, mid_app]
    · trivial
theorem mk_RuleS (a : (List Rule)) (k : Int) (h0 : 0 ≤ k) (hb : k + 16 * (sz a : Int) ≤ 4611686018427387904) : MkR k (laws_markRuleS a k).1 (sz a) (laws_markRuleS a k).1 := by
  rw [sz_list] at hb ⊢
  obtain ⟨l', k', r1, r2, r3, r4⟩ := mkL_RuleS a [] k h0 (by omega)
  simp only [List.nil_append, List.length_nil] at r1
  simp only [laws_markRuleS, r1]
  exact ⟨r2, by omega, rfl⟩
theorem eqL_NameS : ∀ (l p : (List Name)), laws_eqNameS_L1 (p ++ l) l p.length = none
  | [], _ => rfl
  | e :: l, p => by
    have ih := eqL_NameS l (p ++ [e])
    rw [mid_app, mid_len] at ih
    simp only [laws_eqNameS_L1, mid, eq_Name e, Bool.not_true, cond_false]
    exact ih
theorem eq_NameS (a : (List Name)) : laws_eqNameS a a = true := by
  have h := eqL_NameS a []
  simp only [List.nil_append, List.length_nil] at h
  simp only [laws_eqNameS, bne_self_F, cond_false, h]
theorem toL_NameS : ∀ (l p z : (List Name)), z.length = l.length → laws_toNameS_L1 l p.length (p ++ z) = p ++ l
  | [], p, [], _ => rfl
  | e :: l, p, y :: z, h => by
    have ih := toL_NameS l (p ++ [e]) z (by simpa using h)
    rw [mid_app p e l, mid_len] at ih
    simp only [laws_toNameS_L1, mid, mid_set, to_Name e]
    exact ih
theorem to_NameS (a : (List Name)) : laws_toNameS a = a := by
  simp only [laws_toNameS]
  exact toL_NameS a [] _ (by simp)
theorem szL_NameS_R : ∀ (l : (List Name)) (left : Int), (∀ a ∈ l, GoT.ok 10 a) → 0 ≤ left → left ≤ 1048576 → SzL (laws_szNameS_L1 l left) left (szL l)
  | [], left, _, h0, _ => .inr ⟨by simp [szL_nil]; omega, by simp [szL_nil, laws_szNameS_L1]⟩
  | e :: l, left, hk, h0, h1 => by
    rw [szL_cons]
    unfold laws_szNameS_L1
    rcases sz_Name_R e left (hk e List.mem_cons_self) h0 h1 with r0 | ⟨q0, r0⟩
    · rw [r0]; exact .inl rfl
    · rw [r0, dF (by omega), cond_false]
      rcases szL_NameS_R l (left - (sz e : Int)) (fun a ha => hk a (List.mem_cons_of_mem _ ha)) (by omega) (by omega) with r | ⟨q, r⟩
      · exact .inl r
      · exact .inr ⟨by omega, by rw [r]; congr 1; omega⟩
theorem sz_NameS_R (a : (List Name)) (left : Int) (h : GoT.ok 10 a) (h0 : 0 ≤ left) (h1 : left ≤ 1048576) : SzR (laws_szNameS a left) left (sz a) := by
  have hl : a.length ≤ 9223372036854775807 := h.1
  rw [sz_list]
  unfold laws_szNameS
  rw [wrap_sub h0 h1 hl]
  by_cases hc : left - (a.length : Int) < 0
  · rw [dT hc, cond_true]; exact .inl rfl
  · rw [dF (by omega), cond_false]
    rcases szL_NameS_R a (left - (a.length : Int)) h.2 (by omega) (by omega) with r | ⟨q, r⟩
    · rw [r]; exact .inl rfl
    · rw [r]; exact .inr ⟨by omega, by show left - (a.length : Int) - (szL a : Int) = _; omega⟩
theorem sz_flat_NameS (e : Name) : sz e = sz e.parts := by
  simp only [sz_Name, Nat.add_assoc]
theorem mkL_NameS : ∀ (l p : (List Name)) (k : Int), 0 ≤ k → k + 16 * ((l.length : Int) + szL l) ≤ 4611686018427387904 → ∃ l' k', laws_markNameS_L1 l.length p.length (p ++ l) k = (p ++ l', k') ∧ k ≤ k' ∧ k' ≤ k + 16 * ((l.length : Int) + szL l) ∧ True
  | [], p, k, _, _ => ⟨[], k, rfl, by omega, by simp [szL_nil], trivial⟩
  | e :: l, p, k, h0, hb => by
    rw [szL_cons, List.length_cons] at hb
    have hsz := sz_flat_NameS e
    obtain ⟨p1, q1, e1⟩ := mk_StringS e.parts (k) (by omega) (by omega)
    have d1 := dF (show 0 ≤ (laws_markStringS e.parts (k)).1 by omega)
    obtain ⟨l', k', r1, r2, r3, r4⟩ := mkL_NameS l (p ++ [(Name.mk (laws_markStringS e.parts k).2)]) (laws_markStringS e.parts (k)).1 (by omega) (by omega)
    rw [mid_len] at r1
    refine ⟨(Name.mk (laws_markStringS e.parts k).2) :: l', k', ?_, by omega, by rw [szL_cons, List.length_cons]; omega, ?_⟩
    · simp only [List.length_cons, laws_markNameS_L1, mid, mid_set]
      rw [r1, mid_app]
    · trivial
theorem mk_NameS (a : (List Name)) (k : Int) (h0 : 0 ≤ k) (hb : k + 16 * (sz a : Int) ≤ 4611686018427387904) : MkR k (laws_markNameS a k).1 (sz a) (laws_markNameS a k).1 := by
  rw [sz_list] at hb ⊢
  obtain ⟨l', k', r1, r2, r3, r4⟩ := mkL_NameS a [] k h0 (by omega)
  simp only [List.nil_append, List.length_nil] at r1
  simp only [laws_markNameS, r1]
  exact ⟨r2, by omega, rfl⟩
theorem eqL_DataS : ∀ (l p : (List DataP)), laws_eqDataS_L1 (p ++ l) l p.length = none
  | [], _ => rfl
  | e :: l, p => by
    have ih := eqL_DataS l (p ++ [e])
    rw [mid_app, mid_len] at ih
    simp only [laws_eqDataS_L1, mid, eq_Data e, Bool.not_true, cond_false]
    exact ih
theorem eq_DataS (a : (List DataP)) : laws_eqDataS a a = true := by
  have h := eqL_DataS a []
  simp only [List.nil_append, List.length_nil] at h
  simp only [laws_eqDataS, bne_self_F, cond_false, h]
theorem toL_DataS : ∀ (l p z : (List DataP)), z.length = l.length → laws_toDataS_L1 l p.length (p ++ z) = p ++ l
  | [], p, [], _ => rfl
  | e :: l, p, y :: z, h => by
    have ih := toL_DataS l (p ++ [e]) z (by simpa using h)
    rw [mid_app p e l, mid_len] at ih
    simp only [laws_toDataS_L1, mid, mid_set, to_Data e]
    exact ih
theorem to_DataS (a : (List DataP)) : laws_toDataS a = a := by
  simp only [laws_toDataS]
  exact toL_DataS a [] _ (by simp)
theorem szL_DataS_R : ∀ (l : (List DataP)) (left : Int), (∀ a ∈ l, GoT.ok 10 a) → 0 ≤ left → left ≤ 1048576 → SzL (laws_szDataS_L1 l left) left (szL l)
  | [], left, _, h0, _ => .inr ⟨by simp [szL_nil]; omega, by simp [szL_nil, laws_szDataS_L1]⟩
  | e :: l, left, hk, h0, h1 => by
    rw [szL_cons]
    unfold laws_szDataS_L1
    rcases sz_Data_R e left (hk e List.mem_cons_self) h0 h1 with r0 | ⟨q0, r0⟩
    · rw [r0]; exact .inl rfl
    · rw [r0, dF (by omega), cond_false]
      rcases szL_DataS_R l (left - (sz e : Int)) (fun a ha => hk a (List.mem_cons_of_mem _ ha)) (by omega) (by omega) with r | ⟨q, r⟩
      · exact .inl r
      · exact .inr ⟨by omega, by rw [r]; congr 1; omega⟩
theorem sz_DataS_R (a : (List DataP)) (left : Int) (h : GoT.ok 10 a) (h0 : 0 ≤ left) (h1 : left ≤ 1048576) : SzR (laws_szDataS a left) left (sz a) := by
  have hl : a.length ≤ 9223372036854775807 := h.1
  rw [sz_list]
  unfold laws_szDataS
  rw [wrap_sub h0 h1 hl]
  by_cases hc : left - (a.length : Int) < 0
  · rw [dT hc, cond_true]; exact .inl rfl
  · rw [dF (by omega), cond_false]
    rcases szL_DataS_R a (left - (a.length : Int)) h.2 (by omega) (by omega) with r | ⟨q, r⟩
    · rw [r]; exact .inl rfl
    · rw [r]; exact .inr ⟨by omega, by show left - (a.length : Int) - (szL a : Int) = _; omega⟩
theorem sz_flat_DataS (e : DataP) : sz e = sz e.name.parts + sz e.content + sz e.keyName.parts := by
  simp only [sz_DataP, sz_Name, Nat.add_assoc]
theorem mkL_DataS : ∀ (l p : (List DataP)) (k : Int), 0 ≤ k → k + 16 * ((l.length : Int) + szL l) ≤ 4611686018427387904 → ∃ l' k', laws_markDataS_L1 l.length p.length (p ++ l) k = (p ++ l', k') ∧ k ≤ k' ∧ k' ≤ k + 16 * ((l.length : Int) + szL l) ∧ True
  | [], p, k, _, _ => ⟨[], k, rfl, by omega, by simp [szL_nil], trivial⟩
  | e :: l, p, k, h0, hb => by
    rw [szL_cons, List.length_cons] at hb
    have hsz := sz_flat_DataS e
    obtain ⟨p1, q1, e1⟩ := mk_StringS e.name.parts (k) (by omega) (by omega)
    have d1 := dF (show 0 ≤ (laws_markStringS e.name.parts (k)).1 by omega)
    obtain ⟨p2, q2, e2⟩ := mk_ByteS e.content ((laws_markStringS e.name.parts (k)).1) (by omega) (by omega)
    have d2 := dF (show 0 ≤ (laws_markByteS e.content ((laws_markStringS e.name.parts (k)).1)).1 by omega)
    obtain ⟨p3, q3, e3⟩ := mk_StringS e.keyName.parts ((laws_markByteS e.content ((laws_markStringS e.name.parts (k)).1)).1) (by omega) (by omega)
    have d3 := dF (show 0 ≤ (laws_markStringS e.keyName.parts ((laws_markByteS e.content ((laws_markStringS e.name.parts (k)).1)).1)).1 by omega)
    have w4 := wrap1 (x := (laws_markStringS e.keyName.parts ((laws_markByteS e.content ((laws_markStringS e.name.parts (k)).1)).1)).1) (by omega) (by omega)
    have w5 := wrap1 (x := ((laws_markStringS e.keyName.parts ((laws_markByteS e.content ((laws_markStringS e.name.parts (k)).1)).1)).1 + 1)) (by omega) (by omega)
    obtain ⟨l', k', r1, r2, r3, r4⟩ := mkL_DataS l (p ++ [(DataP.mk (Name.mk (laws_markStringS e.name.parts k).2) (laws_markByteS e.content ((laws_markStringS e.name.parts k).1)).2 (Name.mk (laws_markStringS e.keyName.parts ((laws_markByteS e.content ((laws_markStringS e.name.parts k).1)).1)).2) ((laws_markStringS e.keyName.parts ((laws_markByteS e.content ((laws_markStringS e.name.parts k).1)).1)).1) ((laws_markStringS e.keyName.parts ((laws_markByteS e.content ((laws_markStringS e.name.parts k).1)).1)).1 + 1))]) (((laws_markStringS e.keyName.parts ((laws_markByteS e.content ((laws_markStringS e.name.parts (k)).1)).1)).1 + 1) + 1) (by omega) (by omega)
    rw [mid_len] at r1
    refine ⟨(DataP.mk (Name.mk (laws_markStringS e.name.parts k).2) (laws_markByteS e.content ((laws_markStringS e.name.parts k).1)).2 (Name.mk (laws_markStringS e.keyName.parts ((laws_markByteS e.content ((laws_markStringS e.name.parts k).1)).1)).2) ((laws_markStringS e.keyName.parts ((laws_markByteS e.content ((laws_markStringS e.name.parts k).1)).1)).1) ((laws_markStringS e.keyName.parts ((laws_markByteS e.content ((laws_markStringS e.name.parts k).1)).1)).1 + 1)) :: l', k', ?_, by omega, by rw [szL_cons, List.length_cons]; omega, ?_⟩
    · simp only [List.length_cons, laws_markDataS_L1, mid, mid_set, w4, w5]
      rw [r1, mid_app]
    · trivial
theorem mk_DataS (a : (List DataP)) (k : Int) (h0 : 0 ≤ k) (hb : k + 16 * (sz a : Int) ≤ 4611686018427387904) : MkR k (laws_markDataS a k).1 (sz a) (laws_markDataS a k).1 := by
  rw [sz_list] at hb ⊢
  obtain ⟨l', k', r1, r2, r3, r4⟩ := mkL_DataS a [] k h0 (by omega)
  simp only [List.nil_append, List.length_nil] at r1
  simp only [laws_markDataS, r1]
  exact ⟨r2, by omega, rfl⟩
theorem eq_TrustPolicy (a : TrustPolicy) : laws_eqTrustPolicy a a = true := by
  simp only [laws_eqTrustPolicy, bne_self_F, nbeq_self_F, cond_false, Bool.not_true, eq_KeyS, eq_RuleS, eq_NameS, eq_DataS]
theorem to_TrustPolicy (a : TrustPolicy) : laws_toTrustPolicy a = a := by
  simp only [laws_toTrustPolicy, to_KeyS, to_RuleS, to_NameS, to_DataS]
theorem sz_TrustPolicy_R (a : TrustPolicy) (left : Int) (h : GoT.ok 10 a) (h0 : 0 ≤ left) (h1 : left ≤ 1048576) : SzR (laws_szTrustPolicy a left) left (sz a) := by
  rw [sz_TrustPolicy]
  unfold laws_szTrustPolicy
  rcases sz_KeyS_R a.keys left (ok_TrustPolicy h).1 (by omega) (by omega) with r0 | ⟨q0, r0⟩
  · rw [r0]; exact .inl rfl
  rw [r0, dF (by omega), cond_false]
  rcases sz_RuleS_R a.rules (left - (sz a.keys : Int)) (ok_TrustPolicy h).2.1 (by omega) (by omega) with r1 | ⟨q1, r1⟩
  · rw [r1]; exact .inl rfl
  rw [r1, dF (by omega), cond_false]
  rcases sz_NameS_R a.anchors ((left - (sz a.keys : Int)) - (sz a.rules : Int)) (ok_TrustPolicy h).2.2.1 (by omega) (by omega) with r2 | ⟨q2, r2⟩
  · rw [r2]; exact .inl rfl
  rw [r2, dF (by omega), cond_false]
  rcases sz_DataS_R a.certificates (((left - (sz a.keys : Int)) - (sz a.rules : Int)) - (sz a.anchors : Int)) (ok_TrustPolicy h).2.2.2 (by omega) (by omega) with r3 | ⟨q3, r3⟩
  · rw [r3]; exact .inl rfl
  rw [r3, dF (by omega), cond_false]
  exact .inr ⟨by omega, by omega⟩
theorem mk_TrustPolicy (a : TrustPolicy) (k : Int) (h0 : 0 ≤ k) (hb : k + 16 * (sz a : Int) ≤ 4611686018427387904) : MkR k (laws_markTrustPolicy a k).1 (sz a) (laws_markTrustPolicy a k).1 := by
  rw [sz_TrustPolicy] at hb ⊢
  obtain ⟨p0, q0, e0⟩ := mk_KeyS a.keys (k) (by omega) (by omega)
  have d0 := dF (show 0 ≤ (laws_markKeyS a.keys (k)).1 by omega)
  have f0 : (laws_markTrustPolicy a k).2.keys = (laws_markKeyS a.keys (k)).2 := rfl
  obtain ⟨p1, q1, e1⟩ := mk_RuleS a.rules ((laws_markKeyS a.keys (k)).1) (by omega) (by omega)
  have d1 := dF (show 0 ≤ (laws_markRuleS a.rules ((laws_markKeyS a.keys (k)).1)).1 by omega)
  have f1 : (laws_markTrustPolicy a k).2.rules = (laws_markRuleS a.rules ((laws_markKeyS a.keys (k)).1)).2 := rfl
  obtain ⟨p2, q2, e2⟩ := mk_NameS a.anchors ((laws_markRuleS a.rules ((laws_markKeyS a.keys (k)).1)).1) (by omega) (by omega)
  have d2 := dF (show 0 ≤ (laws_markNameS a.anchors ((laws_markRuleS a.rules ((laws_markKeyS a.keys (k)).1)).1)).1 by omega)
  have f2 : (laws_markTrustPolicy a k).2.anchors = (laws_markNameS a.anchors ((laws_markRuleS a.rules ((laws_markKeyS a.keys (k)).1)).1)).2 := rfl
  obtain ⟨p3, q3, e3⟩ := mk_DataS a.certificates ((laws_markNameS a.anchors ((laws_markRuleS a.rules ((laws_markKeyS a.keys (k)).1)).1)).1) (by omega) (by omega)
  have d3 := dF (show 0 ≤ (laws_markDataS a.certificates ((laws_markNameS a.anchors ((laws_markRuleS a.rules ((laws_markKeyS a.keys (k)).1)).1)).1)).1 by omega)
  have f3 : (laws_markTrustPolicy a k).2.certificates = (laws_markDataS a.certificates ((laws_markNameS a.anchors ((laws_markRuleS a.rules ((laws_markKeyS a.keys (k)).1)).1)).1)).2 := rfl
  refine ⟨show k ≤ (laws_markDataS a.certificates ((laws_markNameS a.anchors ((laws_markRuleS a.rules ((laws_markKeyS a.keys (k)).1)).1)).1)).1 by omega, show (laws_markDataS a.certificates ((laws_markNameS a.anchors ((laws_markRuleS a.rules ((laws_markKeyS a.keys (k)).1)).1)).1)).1 ≤ _ by omega, rfl⟩
theorem eq_Link (a : Link) : laws_eqLink a a = true := by
  simp only [laws_eqLink, bne_self_F, nbeq_self_F, cond_false, Bool.not_true]
theorem to_Link (a : Link) : laws_toLink a = a := by
  simp only [laws_toLink]
theorem eqL_LinkS : ∀ (l p : (List Link)), laws_eqLinkS_L1 (p ++ l) l p.length = none
  | [], _ => rfl
  | e :: l, p => by
    have ih := eqL_LinkS l (p ++ [e])
    rw [mid_app, mid_len] at ih
    simp only [laws_eqLinkS_L1, mid, eq_Link e, Bool.not_true, cond_false]
    exact ih
theorem eq_LinkS (a : (List Link)) : laws_eqLinkS a a = true := by
  have h := eqL_LinkS a []
  simp only [List.nil_append, List.length_nil] at h
  simp only [laws_eqLinkS, bne_self_F, cond_false, h]
theorem toL_LinkS : ∀ (l p z : (List Link)), z.length = l.length → laws_toLinkS_L1 l p.length (p ++ z) = p ++ l
  | [], p, [], _ => rfl
  | e :: l, p, y :: z, h => by
    have ih := toL_LinkS l (p ++ [e]) z (by simpa using h)
    rw [mid_app p e l, mid_len] at ih
    simp only [laws_toLinkS_L1, mid, mid_set, to_Link e]
    exact ih
theorem to_LinkS (a : (List Link)) : laws_toLinkS a = a := by
  simp only [laws_toLinkS]
  exact toL_LinkS a [] _ (by simp)
theorem sz_LinkS_R (a : (List Link)) (left : Int) (h : GoT.ok 10 a) (h0 : 0 ≤ left) (h1 : left ≤ 1048576) : SzR (laws_szLinkS a left) left (sz a) := by
  have hl : a.length ≤ 9223372036854775807 := h.1
  rw [sz_list, szL_zero (fun b => sz_Link b)]
  unfold laws_szLinkS
  rw [wrap_sub h0 h1 hl]
  by_cases hc : left - (a.length : Int) < 0
  · rw [dT hc, cond_true]; exact .inl rfl
  · rw [dF (by omega), cond_false]; exact .inr ⟨by omega, rfl⟩
theorem sz_flat_LinkS (e : Link) : sz e = 0 := by
  simp only [sz_Link, Nat.add_assoc]
theorem mkL_LinkS : ∀ (l p : (List Link)) (k : Int), 0 ≤ k → k + 16 * ((l.length : Int) + szL l) ≤ 4611686018427387904 → ∃ l' k', laws_markLinkS_L1 l.length p.length (p ++ l) k = (p ++ l', k') ∧ k ≤ k' ∧ k' ≤ k + 16 * ((l.length : Int) + szL l) ∧ laws_heldLinkS_L1 l' k = .nxt k'
  | [], p, k, _, _ => ⟨[], k, rfl, by omega, by simp [szL_nil], rfl⟩
  | e :: l, p, k, h0, hb => by
    rw [szL_cons, List.length_cons] at hb
    have hsz := sz_flat_LinkS e
    have w1 := wrap1 (x := k) (by omega) (by omega)
    have w2 := wrap1 (x := (k + 1)) (by omega) (by omega)
    obtain ⟨l', k', r1, r2, r3, r4⟩ := mkL_LinkS l (p ++ [(Link.mk k (k + 1))]) ((k + 1) + 1) (by omega) (by omega)
    rw [mid_len] at r1
    refine ⟨(Link.mk k (k + 1)) :: l', k', ?_, by omega, by rw [szL_cons, List.length_cons]; omega, ?_⟩
    · simp only [List.length_cons, laws_markLinkS_L1, mid, mid_set, w1, w2]
      rw [r1, mid_app]
    · simp only [laws_heldLinkS_L1, bne_self_F, nbeq_self_F, cond_false, w1, w2]
      exact r4
theorem mk_LinkS (a : (List Link)) (k : Int) (h0 : 0 ≤ k) (hb : k + 16 * (sz a : Int) ≤ 4611686018427387904) : MkR k (laws_markLinkS a k).1 (sz a) (laws_heldLinkS (laws_markLinkS a k).2 k) := by
  rw [sz_list] at hb ⊢
  obtain ⟨l', k', r1, r2, r3, r4⟩ := mkL_LinkS a [] k h0 (by omega)
  simp only [List.nil_append, List.length_nil] at r1
  simp only [laws_markLinkS, r1, laws_heldLinkS, r4]
  exact ⟨r2, by omega, rfl⟩
theorem eq_Topology (a : Topology) : laws_eqTopology a a = true := by
  simp only [laws_eqTopology, bne_self_F, nbeq_self_F, cond_false, Bool.not_true, eq_LinkS]
theorem to_Topology (a : Topology) : laws_toTopology a = a := by
  simp only [laws_toTopology, to_LinkS]
theorem sz_Topology_R (a : Topology) (left : Int) (h : GoT.ok 10 a) (h0 : 0 ≤ left) (h1 : left ≤ 1048576) : SzR (laws_szTopology a left) left (sz a) := by
  rw [sz_Topology]
  unfold laws_szTopology
  rcases sz_LinkS_R a.links left (ok_Topology h).2 (by omega) (by omega) with r0 | ⟨q0, r0⟩
  · rw [r0]; exact .inl rfl
  rw [r0, dF (by omega), cond_false]
  exact .inr ⟨by omega, by omega⟩
theorem mk_Topology (a : Topology) (k : Int) (h0 : 0 ≤ k) (hb : k + 16 * (sz a : Int) ≤ 4611686018427387904) : MkR k (laws_markTopology a k).1 (sz a) (laws_heldTopology (laws_markTopology a k).2 k) := by
  rw [sz_Topology] at hb ⊢
  obtain ⟨p0, q0, e0⟩ := mk_LinkS a.links (k) (by omega) (by omega)
  have d0 := dF (show 0 ≤ (laws_markLinkS a.links (k)).1 by omega)
  have f0 : (laws_markTopology a k).2.links = (laws_markLinkS a.links (k)).2 := rfl
  refine ⟨show k ≤ (laws_markLinkS a.links (k)).1 by omega, show (laws_markLinkS a.links (k)).1 ≤ _ by omega, ?_⟩
  show _ = (laws_markLinkS a.links (k)).1
  simp only [laws_heldTopology, f0, e0, d0, cond_false]
theorem eq_CacheEntry (a : CacheEntry) : laws_eqCacheEntry a a = true := by
  simp only [laws_eqCacheEntry, bne_self_F, nbeq_self_F, cond_false, Bool.not_true, eq_Data]
theorem to_CacheEntry (a : CacheEntry) : laws_toCacheEntry a = a := by
  simp only [laws_toCacheEntry, to_Data]
theorem sz_CacheEntry_R (a : CacheEntry) (left : Int) (h : GoT.ok 10 a) (h0 : 0 ≤ left) (h1 : left ≤ 1048576) : SzR (laws_szCacheEntry a left) left (sz a) := by
  rw [sz_CacheEntry]
  unfold laws_szCacheEntry
  rcases sz_Data_R a.data left (ok_CacheEntry h).1 (by omega) (by omega) with r0 | ⟨q0, r0⟩
  · rw [r0]; exact .inl rfl
  rw [r0, dF (by omega), cond_false]
  exact .inr ⟨by omega, by omega⟩
theorem eqL_CacheEntryS : ∀ (l p : (List CacheEntry)), laws_eqCacheEntryS_L1 (p ++ l) l p.length = none
  | [], _ => rfl
  | e :: l, p => by
    have ih := eqL_CacheEntryS l (p ++ [e])
    rw [mid_app, mid_len] at ih
    simp only [laws_eqCacheEntryS_L1, mid, eq_CacheEntry e, Bool.not_true, cond_false]
    exact ih
theorem eq_CacheEntryS (a : (List CacheEntry)) : laws_eqCacheEntryS a a = true := by
  have h := eqL_CacheEntryS a []
  simp only [List.nil_append, List.length_nil] at h
  simp only [laws_eqCacheEntryS, bne_self_F, cond_false, h]
theorem toL_CacheEntryS : ∀ (l p z : (List CacheEntry)), z.length = l.length → laws_toCacheEntryS_L1 l p.length (p ++ z) = p ++ l
  | [], p, [], _ => rfl
  | e :: l, p, y :: z, h => by
    have ih := toL_CacheEntryS l (p ++ [e]) z (by simpa using h)
    rw [mid_app p e l, mid_len] at ih
    simp only [laws_toCacheEntryS_L1, mid, mid_set, to_CacheEntry e]
    exact ih
theorem to_CacheEntryS (a : (List CacheEntry)) : laws_toCacheEntryS a = a := by
  simp only [laws_toCacheEntryS]
  exact toL_CacheEntryS a [] _ (by simp)
theorem szL_CacheEntryS_R : ∀ (l : (List CacheEntry)) (left : Int), (∀ a ∈ l, GoT.ok 10 a) → 0 ≤ left → left ≤ 1048576 → SzL (laws_szCacheEntryS_L1 l left) left (szL l)
  | [], left, _, h0, _ => .inr ⟨by simp [szL_nil]; omega, by simp [szL_nil, laws_szCacheEntryS_L1]⟩
  | e :: l, left, hk, h0, h1 => by
    rw [szL_cons]
    unfold laws_szCacheEntryS_L1
    rcases sz_CacheEntry_R e left (hk e List.mem_cons_self) h0 h1 with r0 | ⟨q0, r0⟩
    · rw [r0]; exact .inl rfl
    · rw [r0, dF (by omega), cond_false]
      rcases szL_CacheEntryS_R l (left - (sz e : Int)) (fun a ha => hk a (List.mem_cons_of_mem _ ha)) (by omega) (by omega) with r | ⟨q, r⟩
      · exact .inl r
      · exact .inr ⟨by omega, by rw [r]; congr 1; omega⟩
theorem sz_CacheEntryS_R (a : (List CacheEntry)) (left : Int) (h : GoT.ok 10 a) (h0 : 0 ≤ left) (h1 : left ≤ 1048576) : SzR (laws_szCacheEntryS a left) left (sz a) := by
  have hl : a.length ≤ 9223372036854775807 := h.1
  rw [sz_list]
  unfold laws_szCacheEntryS
  rw [wrap_sub h0 h1 hl]
  by_cases hc : left - (a.length : Int) < 0
  · rw [dT hc, cond_true]; exact .inl rfl
  · rw [dF (by omega), cond_false]
    rcases szL_CacheEntryS_R a (left - (a.length : Int)) h.2 (by omega) (by omega) with r | ⟨q, r⟩
    · rw [r]; exact .inl rfl
    · rw [r]; exact .inr ⟨by omega, by show left - (a.length : Int) - (szL a : Int) = _; omega⟩
theorem sz_flat_CacheEntryS (e : CacheEntry) : sz e = sz e.data.name.parts + sz e.data.content + sz e.data.keyName.parts := by
  simp only [sz_CacheEntry, sz_DataP, sz_Name, Nat.add_assoc]
theorem mkL_CacheEntryS : ∀ (l p : (List CacheEntry)) (k : Int), 0 ≤ k → k + 16 * ((l.length : Int) + szL l) ≤ 4611686018427387904 → ∃ l' k', laws_markCacheEntryS_L1 l.length p.length (p ++ l) k = (p ++ l', k') ∧ k ≤ k' ∧ k' ≤ k + 16 * ((l.length : Int) + szL l) ∧ True
  | [], p, k, _, _ => ⟨[], k, rfl, by omega, by simp [szL_nil], trivial⟩
  | e :: l, p, k, h0, hb => by
    rw [szL_cons, List.length_cons] at hb
    have hsz := sz_flat_CacheEntryS e
    obtain ⟨p1, q1, e1⟩ := mk_StringS e.data.name.parts (k) (by omega) (by omega)
    have d1 := dF (show 0 ≤ (laws_markStringS e.data.name.parts (k)).1 by omega)
    obtain ⟨p2, q2, e2⟩ := mk_ByteS e.data.content ((laws_markStringS e.data.name.parts (k)).1) (by omega) (by omega)
    have d2 := dF (show 0 ≤ (laws_markByteS e.data.content ((laws_markStringS e.data.name.parts (k)).1)).1 by omega)
    obtain ⟨p3, q3, e3⟩ := mk_StringS e.data.keyName.parts ((laws_markByteS e.data.content ((laws_markStringS e.data.name.parts (k)).1)).1) (by omega) (by omega)
    have d3 := dF (show 0 ≤ (laws_markStringS e.data.keyName.parts ((laws_markByteS e.data.content ((laws_markStringS e.data.name.parts (k)).1)).1)).1 by omega)
    have w4 := wrap1 (x := (laws_markStringS e.data.keyName.parts ((laws_markByteS e.data.content ((laws_markStringS e.data.name.parts (k)).1)).1)).1) (by omega) (by omega)
    have w5 := wrap1 (x := ((laws_markStringS e.data.keyName.parts ((laws_markByteS e.data.content ((laws_markStringS e.data.name.parts (k)).1)).1)).1 + 1)) (by omega) (by omega)
    have w6 := wrap1 (x := (((laws_markStringS e.data.keyName.parts ((laws_markByteS e.data.content ((laws_markStringS e.data.name.parts (k)).1)).1)).1 + 1) + 1)) (by omega) (by omega)
    obtain ⟨l', k', r1, r2, r3, r4⟩ := mkL_CacheEntryS l (p ++ [(CacheEntry.mk (DataP.mk (Name.mk (laws_markStringS e.data.name.parts k).2) (laws_markByteS e.data.content ((laws_markStringS e.data.name.parts k).1)).2 (Name.mk (laws_markStringS e.data.keyName.parts ((laws_markByteS e.data.content ((laws_markStringS e.data.name.parts k).1)).1)).2) ((laws_markStringS e.data.keyName.parts ((laws_markByteS e.data.content ((laws_markStringS e.data.name.parts k).1)).1)).1) ((laws_markStringS e.data.keyName.parts ((laws_markByteS e.data.content ((laws_markStringS e.data.name.parts k).1)).1)).1 + 1)) (((laws_markStringS e.data.keyName.parts ((laws_markByteS e.data.content ((laws_markStringS e.data.name.parts k).1)).1)).1 + 1) + 1))]) ((((laws_markStringS e.data.keyName.parts ((laws_markByteS e.data.content ((laws_markStringS e.data.name.parts (k)).1)).1)).1 + 1) + 1) + 1) (by omega) (by omega)
    rw [mid_len] at r1
    refine ⟨(CacheEntry.mk (DataP.mk (Name.mk (laws_markStringS e.data.name.parts k).2) (laws_markByteS e.data.content ((laws_markStringS e.data.name.parts k).1)).2 (Name.mk (laws_markStringS e.data.keyName.parts ((laws_markByteS e.data.content ((laws_markStringS e.data.name.parts k).1)).1)).2) ((laws_markStringS e.data.keyName.parts ((laws_markByteS e.data.content ((laws_markStringS e.data.name.parts k).1)).1)).1) ((laws_markStringS e.data.keyName.parts ((laws_markByteS e.data.content ((laws_markStringS e.data.name.parts k).1)).1)).1 + 1)) (((laws_markStringS e.data.keyName.parts ((laws_markByteS e.data.content ((laws_markStringS e.data.name.parts k).1)).1)).1 + 1) + 1)) :: l', k', ?_, by omega, by rw [szL_cons, List.length_cons]; omega, ?_⟩
    · simp only [List.length_cons, laws_markCacheEntryS_L1, mid, mid_set, w4, w5, w6]
      rw [r1, mid_app]
    · trivial
theorem mk_CacheEntryS (a : (List CacheEntry)) (k : Int) (h0 : 0 ≤ k) (hb : k + 16 * (sz a : Int) ≤ 4611686018427387904) : MkR k (laws_markCacheEntryS a k).1 (sz a) (laws_markCacheEntryS a k).1 := by
  rw [sz_list] at hb ⊢
  obtain ⟨l', k', r1, r2, r3, r4⟩ := mkL_CacheEntryS a [] k h0 (by omega)
  simp only [List.nil_append, List.length_nil] at r1
  simp only [laws_markCacheEntryS, r1]
  exact ⟨r2, by omega, rfl⟩
theorem eq_ContentStore (a : ContentStore) : laws_eqContentStore a a = true := by
  simp only [laws_eqContentStore, bne_self_F, nbeq_self_F, cond_false, Bool.not_true, eq_CacheEntryS]
theorem to_ContentStore (a : ContentStore) : laws_toContentStore a = a := by
  simp only [laws_toContentStore, to_CacheEntryS]
theorem sz_ContentStore_R (a : ContentStore) (left : Int) (h : GoT.ok 10 a) (h0 : 0 ≤ left) (h1 : left ≤ 1048576) : SzR (laws_szContentStore a left) left (sz a) := by
  rw [sz_ContentStore]
  unfold laws_szContentStore
  rcases sz_CacheEntryS_R a.entries left (ok_ContentStore h).2 (by omega) (by omega) with r0 | ⟨q0, r0⟩
  · rw [r0]; exact .inl rfl
  rw [r0, dF (by omega), cond_false]
  exact .inr ⟨by omega, by omega⟩
theorem eq_Requester (a : Requester) : laws_eqRequester a a = true := by
  simp only [laws_eqRequester, bne_self_F, nbeq_self_F, cond_false, Bool.not_true]
theorem to_Requester (a : Requester) : laws_toRequester a = a := by
  simp only [laws_toRequester]
theorem eqL_RequesterS : ∀ (l p : (List Requester)), laws_eqRequesterS_L1 (p ++ l) l p.length = none
  | [], _ => rfl
  | e :: l, p => by
    have ih := eqL_RequesterS l (p ++ [e])
    rw [mid_app, mid_len] at ih
    simp only [laws_eqRequesterS_L1, mid, eq_Requester e, Bool.not_true, cond_false]
    exact ih
theorem eq_RequesterS (a : (List Requester)) : laws_eqRequesterS a a = true := by
  have h := eqL_RequesterS a []
  simp only [List.nil_append, List.length_nil] at h
  simp only [laws_eqRequesterS, bne_self_F, cond_false, h]
theorem toL_RequesterS : ∀ (l p z : (List Requester)), z.length = l.length → laws_toRequesterS_L1 l p.length (p ++ z) = p ++ l
  | [], p, [], _ => rfl
  | e :: l, p, y :: z, h => by
    have ih := toL_RequesterS l (p ++ [e]) z (by simpa using h)
    rw [mid_app p e l, mid_len] at ih
    simp only [laws_toRequesterS_L1, mid, mid_set, to_Requester e]
    exact ih
theorem to_RequesterS (a : (List Requester)) : laws_toRequesterS a = a := by
  simp only [laws_toRequesterS]
  exact toL_RequesterS a [] _ (by simp)
theorem sz_RequesterS_R (a : (List Requester)) (left : Int) (h : GoT.ok 10 a) (h0 : 0 ≤ left) (h1 : left ≤ 1048576) : SzR (laws_szRequesterS a left) left (sz a) := by
  have hl : a.length ≤ 9223372036854775807 := h.1
  rw [sz_list, szL_zero (fun b => sz_Requester b)]
  unfold laws_szRequesterS
  rw [wrap_sub h0 h1 hl]
  by_cases hc : left - (a.length : Int) < 0
  · rw [dT hc, cond_true]; exact .inl rfl
  · rw [dF (by omega), cond_false]; exact .inr ⟨by omega, rfl⟩
theorem sz_flat_RequesterS (e : Requester) : sz e = 0 := by
  simp only [sz_Requester, Nat.add_assoc]
theorem mkL_RequesterS : ∀ (l p : (List Requester)) (k : Int), 0 ≤ k → k + 16 * ((l.length : Int) + szL l) ≤ 4611686018427387904 → ∃ l' k', laws_markRequesterS_L1 l.length p.length (p ++ l) k = (p ++ l', k') ∧ k ≤ k' ∧ k' ≤ k + 16 * ((l.length : Int) + szL l) ∧ True
  | [], p, k, _, _ => ⟨[], k, rfl, by omega, by simp [szL_nil], trivial⟩
  | e :: l, p, k, h0, hb => by
    rw [szL_cons, List.length_cons] at hb
    have hsz := sz_flat_RequesterS e
    have w1 := wrap1 (x := k) (by omega) (by omega)
    have w2 := wrap1 (x := (k + 1)) (by omega) (by omega)
    have w3 := wrap1 (x := ((k + 1) + 1)) (by omega) (by omega)
    obtain ⟨l', k', r1, r2, r3, r4⟩ := mkL_RequesterS l (p ++ [(Requester.mk k (k + 1) ((k + 1) + 1))]) (((k + 1) + 1) + 1) (by omega) (by omega)
    rw [mid_len] at r1
    refine ⟨(Requester.mk k (k + 1) ((k + 1) + 1)) :: l', k', ?_, by omega, by rw [szL_cons, List.length_cons]; omega, ?_⟩
    · simp only [List.length_cons, laws_markRequesterS_L1, mid, mid_set, w1, w2, w3]
      rw [r1, mid_app]
    · trivial
theorem mk_RequesterS (a : (List Requester)) (k : Int) (h0 : 0 ≤ k) (hb : k + 16 * (sz a : Int) ≤ 4611686018427387904) : MkR k (laws_markRequesterS a k).1 (sz a) (laws_markRequesterS a k).1 := by
  rw [sz_list] at hb ⊢
  obtain ⟨l', k', r1, r2, r3, r4⟩ := mkL_RequesterS a [] k h0 (by omega)
  simp only [List.nil_append, List.length_nil] at r1
  simp only [laws_markRequesterS, r1]
  exact ⟨r2, by omega, rfl⟩
theorem eq_PendingInterest (a : PendingInterest) : laws_eqPendingInterest a a = true := by
  simp only [laws_eqPendingInterest, bne_self_F, nbeq_self_F, cond_false, Bool.not_true, eq_Name, eq_RequesterS]
theorem to_PendingInterest (a : PendingInterest) : laws_toPendingInterest a = a := by
  simp only [laws_toPendingInterest, to_Name, to_RequesterS]
theorem sz_PendingInterest_R (a : PendingInterest) (left : Int) (h : GoT.ok 10 a) (h0 : 0 ≤ left) (h1 : left ≤ 1048576) : SzR (laws_szPendingInterest a left) left (sz a) := by
  rw [sz_PendingInterest]
  unfold laws_szPendingInterest
  rcases sz_Name_R a.name left (ok_PendingInterest h).1 (by omega) (by omega) with r0 | ⟨q0, r0⟩
  · rw [r0]; exact .inl rfl
  rw [r0, dF (by omega), cond_false]
  rcases sz_RequesterS_R a.requesters (left - (sz a.name : Int)) (ok_PendingInterest h).2.1 (by omega) (by omega) with r1 | ⟨q1, r1⟩
  · rw [r1]; exact .inl rfl
  rw [r1, dF (by omega), cond_false]
  exact .inr ⟨by omega, by omega⟩
theorem eqL_PendingInterestS : ∀ (l p : (List PendingInterest)), laws_eqPendingInterestS_L1 (p ++ l) l p.length = none
  | [], _ => rfl
  | e :: l, p => by
    have ih := eqL_PendingInterestS l (p ++ [e])
    rw [mid_app, mid_len] at ih
    simp only [laws_eqPendingInterestS_L1, mid, eq_PendingInterest e, Bool.not_true, cond_false]
    exact ih
theorem eq_PendingInterestS (a : (List PendingInterest)) : laws_eqPendingInterestS a a = true := by
  have h := eqL_PendingInterestS a []
  simp only [List.nil_append, List.length_nil] at h
  simp only [laws_eqPendingInterestS, bne_self_F, cond_false, h]
theorem toL_PendingInterestS : ∀ (l p z : (List PendingInterest)), z.length = l.length → laws_toPendingInterestS_L1 l p.length (p ++ z) = p ++ l
  | [], p, [], _ => rfl
  | e :: l, p, y :: z, h => by
    have ih := toL_PendingInterestS l (p ++ [e]) z (by simpa using h)
    rw [mid_app p e l, mid_len] at ih
    simp only [laws_toPendingInterestS_L1, mid, mid_set, to_PendingInterest e]
    exact ih
theorem to_PendingInterestS (a : (List PendingInterest)) : laws_toPendingInterestS a = a := by
  simp only [laws_toPendingInterestS]
  exact toL_PendingInterestS a [] _ (by simp)
theorem szL_PendingInterestS_R : ∀ (l : (List PendingInterest)) (left : Int), (∀ a ∈ l, GoT.ok 10 a) → 0 ≤ left → left ≤ 1048576 → SzL (laws_szPendingInterestS_L1 l left) left (szL l)
  | [], left, _, h0, _ => .inr ⟨by simp [szL_nil]; omega, by simp [szL_nil, laws_szPendingInterestS_L1]⟩
  | e :: l, left, hk, h0, h1 => by
    rw [szL_cons]
    unfold laws_szPendingInterestS_L1
    rcases sz_PendingInterest_R e left (hk e List.mem_cons_self) h0 h1 with r0 | ⟨q0, r0⟩
    · rw [r0]; exact .inl rfl
    · rw [r0, dF (by omega), cond_false]
      rcases szL_PendingInterestS_R l (left - (sz e : Int)) (fun a ha => hk a (List.mem_cons_of_mem _ ha)) (by omega) (by omega) with r | ⟨q, r⟩
      · exact .inl r
      · exact .inr ⟨by omega, by rw [r]; congr 1; omega⟩
theorem sz_PendingInterestS_R (a : (List PendingInterest)) (left : Int) (h : GoT.ok 10 a) (h0 : 0 ≤ left) (h1 : left ≤ 1048576) : SzR (laws_szPendingInterestS a left) left (sz a) := by
  have hl : a.length ≤ 9223372036854775807 := h.1
  rw [sz_list]
  unfold laws_szPendingInterestS
  rw [wrap_sub h0 h1 hl]
  by_cases hc : left - (a.length : Int) < 0
  · rw [dT hc, cond_true]; exact .inl rfl
  · rw [dF (by omega), cond_false]
    rcases szL_PendingInterestS_R a (left - (a.length : Int)) h.2 (by omega) (by omega) with r | ⟨q, r⟩
    · rw [r]; exact .inl rfl
    · rw [r]; exact .inr ⟨by omega, by show left - (a.length : Int) - (szL a : Int) = _; omega⟩
theorem sz_flat_PendingInterestS (e : PendingInterest) : sz e = sz e.name.parts + sz e.requesters := by
  simp only [sz_PendingInterest, sz_Name, Nat.add_assoc]
theorem mkL_PendingInterestS : ∀ (l p : (List PendingInterest)) (k : Int), 0 ≤ k → k + 16 * ((l.length : Int) + szL l) ≤ 4611686018427387904 → ∃ l' k', laws_markPendingInterestS_L1 l.length p.length (p ++ l) k = (p ++ l', k') ∧ k ≤ k' ∧ k' ≤ k + 16 * ((l.length : Int) + szL l) ∧ True
  | [], p, k, _, _ => ⟨[], k, rfl, by omega, by simp [szL_nil], trivial⟩
  | e :: l, p, k, h0, hb => by
    rw [szL_cons, List.length_cons] at hb
    have hsz := sz_flat_PendingInterestS e
    obtain ⟨p1, q1, e1⟩ := mk_StringS e.name.parts (k) (by omega) (by omega)
    have d1 := dF (show 0 ≤ (laws_markStringS e.name.parts (k)).1 by omega)
    obtain ⟨p2, q2, e2⟩ := mk_RequesterS e.requesters ((laws_markStringS e.name.parts (k)).1) (by omega) (by omega)
    have d2 := dF (show 0 ≤ (laws_markRequesterS e.requesters ((laws_markStringS e.name.parts (k)).1)).1 by omega)
    have w3 := wrap1 (x := (laws_markRequesterS e.requesters ((laws_markStringS e.name.parts (k)).1)).1) (by omega) (by omega)
    obtain ⟨l', k', r1, r2, r3, r4⟩ := mkL_PendingInterestS l (p ++ [(PendingInterest.mk (Name.mk (laws_markStringS e.name.parts k).2) (laws_markRequesterS e.requesters ((laws_markStringS e.name.parts k).1)).2 ((laws_markRequesterS e.requesters ((laws_markStringS e.name.parts k).1)).1))]) ((laws_markRequesterS e.requesters ((laws_markStringS e.name.parts (k)).1)).1 + 1) (by omega) (by omega)
    rw [mid_len] at r1
    refine ⟨(PendingInterest.mk (Name.mk (laws_markStringS e.name.parts k).2) (laws_markRequesterS e.requesters ((laws_markStringS e.name.parts k).1)).2 ((laws_markRequesterS e.requesters ((laws_markStringS e.name.parts k).1)).1)) :: l', k', ?_, by omega, by rw [szL_cons, List.length_cons]; omega, ?_⟩
    · simp only [List.length_cons, laws_markPendingInterestS_L1, mid, mid_set, w3]
      rw [r1, mid_app]
    · trivial
theorem mk_PendingInterestS (a : (List PendingInterest)) (k : Int) (h0 : 0 ≤ k) (hb : k + 16 * (sz a : Int) ≤ 4611686018427387904) : MkR k (laws_markPendingInterestS a k).1 (sz a) (laws_markPendingInterestS a k).1 := by
  rw [sz_list] at hb ⊢
  obtain ⟨l', k', r1, r2, r3, r4⟩ := mkL_PendingInterestS a [] k h0 (by omega)
  simp only [List.nil_append, List.length_nil] at r1
  simp only [laws_markPendingInterestS, r1]
  exact ⟨r2, by omega, rfl⟩
theorem eq_SeenNonce (a : SeenNonce) : laws_eqSeenNonce a a = true := by
  simp only [laws_eqSeenNonce, bne_self_F, nbeq_self_F, cond_false, Bool.not_true, eq_Name]
theorem to_SeenNonce (a : SeenNonce) : laws_toSeenNonce a = a := by
  simp only [laws_toSeenNonce, to_Name]
theorem sz_SeenNonce_R (a : SeenNonce) (left : Int) (h : GoT.ok 10 a) (h0 : 0 ≤ left) (h1 : left ≤ 1048576) : SzR (laws_szSeenNonce a left) left (sz a) := by
  rw [sz_SeenNonce]
  unfold laws_szSeenNonce
  rcases sz_Name_R a.name left (ok_SeenNonce h).1 (by omega) (by omega) with r0 | ⟨q0, r0⟩
  · rw [r0]; exact .inl rfl
  rw [r0, dF (by omega), cond_false]
  exact .inr ⟨by omega, by omega⟩
theorem eqL_SeenNonceS : ∀ (l p : (List SeenNonce)), laws_eqSeenNonceS_L1 (p ++ l) l p.length = none
  | [], _ => rfl
  | e :: l, p => by
    have ih := eqL_SeenNonceS l (p ++ [e])
    rw [mid_app, mid_len] at ih
    simp only [laws_eqSeenNonceS_L1, mid, eq_SeenNonce e, Bool.not_true, cond_false]
    exact ih
theorem eq_SeenNonceS (a : (List SeenNonce)) : laws_eqSeenNonceS a a = true := by
  have h := eqL_SeenNonceS a []
  simp only [List.nil_append, List.length_nil] at h
  simp only [laws_eqSeenNonceS, bne_self_F, cond_false, h]
theorem toL_SeenNonceS : ∀ (l p z : (List SeenNonce)), z.length = l.length → laws_toSeenNonceS_L1 l p.length (p ++ z) = p ++ l
  | [], p, [], _ => rfl
  | e :: l, p, y :: z, h => by
    have ih := toL_SeenNonceS l (p ++ [e]) z (by simpa using h)
    rw [mid_app p e l, mid_len] at ih
    simp only [laws_toSeenNonceS_L1, mid, mid_set, to_SeenNonce e]
    exact ih
theorem to_SeenNonceS (a : (List SeenNonce)) : laws_toSeenNonceS a = a := by
  simp only [laws_toSeenNonceS]
  exact toL_SeenNonceS a [] _ (by simp)
theorem szL_SeenNonceS_R : ∀ (l : (List SeenNonce)) (left : Int), (∀ a ∈ l, GoT.ok 10 a) → 0 ≤ left → left ≤ 1048576 → SzL (laws_szSeenNonceS_L1 l left) left (szL l)
  | [], left, _, h0, _ => .inr ⟨by simp [szL_nil]; omega, by simp [szL_nil, laws_szSeenNonceS_L1]⟩
  | e :: l, left, hk, h0, h1 => by
    rw [szL_cons]
    unfold laws_szSeenNonceS_L1
    rcases sz_SeenNonce_R e left (hk e List.mem_cons_self) h0 h1 with r0 | ⟨q0, r0⟩
    · rw [r0]; exact .inl rfl
    · rw [r0, dF (by omega), cond_false]
      rcases szL_SeenNonceS_R l (left - (sz e : Int)) (fun a ha => hk a (List.mem_cons_of_mem _ ha)) (by omega) (by omega) with r | ⟨q, r⟩
      · exact .inl r
      · exact .inr ⟨by omega, by rw [r]; congr 1; omega⟩
theorem sz_SeenNonceS_R (a : (List SeenNonce)) (left : Int) (h : GoT.ok 10 a) (h0 : 0 ≤ left) (h1 : left ≤ 1048576) : SzR (laws_szSeenNonceS a left) left (sz a) := by
  have hl : a.length ≤ 9223372036854775807 := h.1
  rw [sz_list]
  unfold laws_szSeenNonceS
  rw [wrap_sub h0 h1 hl]
  by_cases hc : left - (a.length : Int) < 0
  · rw [dT hc, cond_true]; exact .inl rfl
  · rw [dF (by omega), cond_false]
    rcases szL_SeenNonceS_R a (left - (a.length : Int)) h.2 (by omega) (by omega) with r | ⟨q, r⟩
    · rw [r]; exact .inl rfl
    · rw [r]; exact .inr ⟨by omega, by show left - (a.length : Int) - (szL a : Int) = _; omega⟩
theorem sz_flat_SeenNonceS (e : SeenNonce) : sz e = sz e.name.parts := by
  simp only [sz_SeenNonce, sz_Name, Nat.add_assoc]
theorem mkL_SeenNonceS : ∀ (l p : (List SeenNonce)) (k : Int), 0 ≤ k → k + 16 * ((l.length : Int) + szL l) ≤ 4611686018427387904 → ∃ l' k', laws_markSeenNonceS_L1 l.length p.length (p ++ l) k = (p ++ l', k') ∧ k ≤ k' ∧ k' ≤ k + 16 * ((l.length : Int) + szL l) ∧ True
  | [], p, k, _, _ => ⟨[], k, rfl, by omega, by simp [szL_nil], trivial⟩
  | e :: l, p, k, h0, hb => by
    rw [szL_cons, List.length_cons] at hb
    have hsz := sz_flat_SeenNonceS e
    obtain ⟨p1, q1, e1⟩ := mk_StringS e.name.parts (k) (by omega) (by omega)
    have d1 := dF (show 0 ≤ (laws_markStringS e.name.parts (k)).1 by omega)
    have w2 := wrap1 (x := (laws_markStringS e.name.parts (k)).1) (by omega) (by omega)
    obtain ⟨l', k', r1, r2, r3, r4⟩ := mkL_SeenNonceS l (p ++ [(SeenNonce.mk (Name.mk (laws_markStringS e.name.parts k).2) ((laws_markStringS e.name.parts k).1))]) ((laws_markStringS e.name.parts (k)).1 + 1) (by omega) (by omega)
    rw [mid_len] at r1
    refine ⟨(SeenNonce.mk (Name.mk (laws_markStringS e.name.parts k).2) ((laws_markStringS e.name.parts k).1)) :: l', k', ?_, by omega, by rw [szL_cons, List.length_cons]; omega, ?_⟩
    · simp only [List.length_cons, laws_markSeenNonceS_L1, mid, mid_set, w2]
      rw [r1, mid_app]
    · trivial
theorem mk_SeenNonceS (a : (List SeenNonce)) (k : Int) (h0 : 0 ≤ k) (hb : k + 16 * (sz a : Int) ≤ 4611686018427387904) : MkR k (laws_markSeenNonceS a k).1 (sz a) (laws_markSeenNonceS a k).1 := by
  rw [sz_list] at hb ⊢
  obtain ⟨l', k', r1, r2, r3, r4⟩ := mkL_SeenNonceS a [] k h0 (by omega)
  simp only [List.nil_append, List.length_nil] at r1
  simp only [laws_markSeenNonceS, r1]
  exact ⟨r2, by omega, rfl⟩
theorem eq_Route (a : Route) : laws_eqRoute a a = true := by
  simp only [laws_eqRoute, bne_self_F, nbeq_self_F, cond_false, Bool.not_true, eq_Name]
theorem to_Route (a : Route) : laws_toRoute a = a := by
  simp only [laws_toRoute, to_Name]
theorem sz_Route_R (a : Route) (left : Int) (h : GoT.ok 10 a) (h0 : 0 ≤ left) (h1 : left ≤ 1048576) : SzR (laws_szRoute a left) left (sz a) := by
  rw [sz_Route]
  unfold laws_szRoute
  rcases sz_Name_R a.pfx left (ok_Route h).1 (by omega) (by omega) with r0 | ⟨q0, r0⟩
  · rw [r0]; exact .inl rfl
  rw [r0, dF (by omega), cond_false]
  exact .inr ⟨by omega, by omega⟩
theorem eqL_RouteS : ∀ (l p : (List Route)), laws_eqRouteS_L1 (p ++ l) l p.length = none
  | [], _ => rfl
  | e :: l, p => by
    have ih := eqL_RouteS l (p ++ [e])
    rw [mid_app, mid_len] at ih
    simp only [laws_eqRouteS_L1, mid, eq_Route e, Bool.not_true, cond_false]
    exact ih
theorem eq_RouteS (a : (List Route)) : laws_eqRouteS a a = true := by
  have h := eqL_RouteS a []
  simp only [List.nil_append, List.length_nil] at h
  simp only [laws_eqRouteS, bne_self_F, cond_false, h]
theorem toL_RouteS : ∀ (l p z : (List Route)), z.length = l.length → laws_toRouteS_L1 l p.length (p ++ z) = p ++ l
  | [], p, [], _ => rfl
  | e :: l, p, y :: z, h => by
    have ih := toL_RouteS l (p ++ [e]) z (by simpa using h)
    rw [mid_app p e l, mid_len] at ih
    simp only [laws_toRouteS_L1, mid, mid_set, to_Route e]
    exact ih
theorem to_RouteS (a : (List Route)) : laws_toRouteS a = a := by
  simp only [laws_toRouteS]
  exact toL_RouteS a [] _ (by simp)
theorem szL_RouteS_R : ∀ (l : (List Route)) (left : Int), (∀ a ∈ l, GoT.ok 10 a) → 0 ≤ left → left ≤ 1048576 → SzL (laws_szRouteS_L1 l left) left (szL l)
  | [], left, _, h0, _ => .inr ⟨by simp [szL_nil]; omega, by simp [szL_nil, laws_szRouteS_L1]⟩
  | e :: l, left, hk, h0, h1 => by
    rw [szL_cons]
    unfold laws_szRouteS_L1
    rcases sz_Route_R e left (hk e List.mem_cons_self) h0 h1 with r0 | ⟨q0, r0⟩
    · rw [r0]; exact .inl rfl
    · rw [r0, dF (by omega), cond_false]
      rcases szL_RouteS_R l (left - (sz e : Int)) (fun a ha => hk a (List.mem_cons_of_mem _ ha)) (by omega) (by omega) with r | ⟨q, r⟩
      · exact .inl r
      · exact .inr ⟨by omega, by rw [r]; congr 1; omega⟩
theorem sz_RouteS_R (a : (List Route)) (left : Int) (h : GoT.ok 10 a) (h0 : 0 ≤ left) (h1 : left ≤ 1048576) : SzR (laws_szRouteS a left) left (sz a) := by
  have hl : a.length ≤ 9223372036854775807 := h.1
  rw [sz_list]
  unfold laws_szRouteS
  rw [wrap_sub h0 h1 hl]
  by_cases hc : left - (a.length : Int) < 0
  · rw [dT hc, cond_true]; exact .inl rfl
  · rw [dF (by omega), cond_false]
    rcases szL_RouteS_R a (left - (a.length : Int)) h.2 (by omega) (by omega) with r | ⟨q, r⟩
    · rw [r]; exact .inl rfl
    · rw [r]; exact .inr ⟨by omega, by show left - (a.length : Int) - (szL a : Int) = _; omega⟩
theorem sz_flat_RouteS (e : Route) : sz e = sz e.pfx.parts := by
  simp only [sz_Route, sz_Name, Nat.add_assoc]
theorem mkL_RouteS : ∀ (l p : (List Route)) (k : Int), 0 ≤ k → k + 16 * ((l.length : Int) + szL l) ≤ 4611686018427387904 → ∃ l' k', laws_markRouteS_L1 l.length p.length (p ++ l) k = (p ++ l', k') ∧ k ≤ k' ∧ k' ≤ k + 16 * ((l.length : Int) + szL l) ∧ True
  | [], p, k, _, _ => ⟨[], k, rfl, by omega, by simp [szL_nil], trivial⟩
  | e :: l, p, k, h0, hb => by
    rw [szL_cons, List.length_cons] at hb
    have hsz := sz_flat_RouteS e
    obtain ⟨p1, q1, e1⟩ := mk_StringS e.pfx.parts (k) (by omega) (by omega)
    have d1 := dF (show 0 ≤ (laws_markStringS e.pfx.parts (k)).1 by omega)
    have w2 := wrap1 (x := (laws_markStringS e.pfx.parts (k)).1) (by omega) (by omega)
    have w3 := wrap1 (x := ((laws_markStringS e.pfx.parts (k)).1 + 1)) (by omega) (by omega)
    obtain ⟨l', k', r1, r2, r3, r4⟩ := mkL_RouteS l (p ++ [(Route.mk (Name.mk (laws_markStringS e.pfx.parts k).2) ((laws_markStringS e.pfx.parts k).1) ((laws_markStringS e.pfx.parts k).1 + 1))]) (((laws_markStringS e.pfx.parts (k)).1 + 1) + 1) (by omega) (by omega)
    rw [mid_len] at r1
    refine ⟨(Route.mk (Name.mk (laws_markStringS e.pfx.parts k).2) ((laws_markStringS e.pfx.parts k).1) ((laws_markStringS e.pfx.parts k).1 + 1)) :: l', k', ?_, by omega, by rw [szL_cons, List.length_cons]; omega, ?_⟩
    · simp only [List.length_cons, laws_markRouteS_L1, mid, mid_set, w2, w3]
      rw [r1, mid_app]
    · trivial
theorem mk_RouteS (a : (List Route)) (k : Int) (h0 : 0 ≤ k) (hb : k + 16 * (sz a : Int) ≤ 4611686018427387904) : MkR k (laws_markRouteS a k).1 (sz a) (laws_markRouteS a k).1 := by
  rw [sz_list] at hb ⊢
  obtain ⟨l', k', r1, r2, r3, r4⟩ := mkL_RouteS a [] k h0 (by omega)
  simp only [List.nil_append, List.length_nil] at r1
  simp only [laws_markRouteS, r1]
  exact ⟨r2, by omega, rfl⟩
theorem eq_Measurement (a : Measurement) : laws_eqMeasurement a a = true := by
  simp only [laws_eqMeasurement, bne_self_F, nbeq_self_F, cond_false, Bool.not_true, eq_Name]
theorem to_Measurement (a : Measurement) : laws_toMeasurement a = a := by
  simp only [laws_toMeasurement, to_Name]
theorem sz_Measurement_R (a : Measurement) (left : Int) (h : GoT.ok 10 a) (h0 : 0 ≤ left) (h1 : left ≤ 1048576) : SzR (laws_szMeasurement a left) left (sz a) := by
  rw [sz_Measurement]
  unfold laws_szMeasurement
  rcases sz_Name_R a.pfx left (ok_Measurement h).1 (by omega) (by omega) with r0 | ⟨q0, r0⟩
  · rw [r0]; exact .inl rfl
  rw [r0, dF (by omega), cond_false]
  exact .inr ⟨by omega, by omega⟩
theorem eqL_MeasurementS : ∀ (l p : (List Measurement)), laws_eqMeasurementS_L1 (p ++ l) l p.length = none
  | [], _ => rfl
  | e :: l, p => by
    have ih := eqL_MeasurementS l (p ++ [e])
    rw [mid_app, mid_len] at ih
    simp only [laws_eqMeasurementS_L1, mid, eq_Measurement e, Bool.not_true, cond_false]
    exact ih
theorem eq_MeasurementS (a : (List Measurement)) : laws_eqMeasurementS a a = true := by
  have h := eqL_MeasurementS a []
  simp only [List.nil_append, List.length_nil] at h
  simp only [laws_eqMeasurementS, bne_self_F, cond_false, h]
theorem toL_MeasurementS : ∀ (l p z : (List Measurement)), z.length = l.length → laws_toMeasurementS_L1 l p.length (p ++ z) = p ++ l
  | [], p, [], _ => rfl
  | e :: l, p, y :: z, h => by
    have ih := toL_MeasurementS l (p ++ [e]) z (by simpa using h)
    rw [mid_app p e l, mid_len] at ih
    simp only [laws_toMeasurementS_L1, mid, mid_set, to_Measurement e]
    exact ih
theorem to_MeasurementS (a : (List Measurement)) : laws_toMeasurementS a = a := by
  simp only [laws_toMeasurementS]
  exact toL_MeasurementS a [] _ (by simp)
theorem szL_MeasurementS_R : ∀ (l : (List Measurement)) (left : Int), (∀ a ∈ l, GoT.ok 10 a) → 0 ≤ left → left ≤ 1048576 → SzL (laws_szMeasurementS_L1 l left) left (szL l)
  | [], left, _, h0, _ => .inr ⟨by simp [szL_nil]; omega, by simp [szL_nil, laws_szMeasurementS_L1]⟩
  | e :: l, left, hk, h0, h1 => by
    rw [szL_cons]
    unfold laws_szMeasurementS_L1
    rcases sz_Measurement_R e left (hk e List.mem_cons_self) h0 h1 with r0 | ⟨q0, r0⟩
    · rw [r0]; exact .inl rfl
    · rw [r0, dF (by omega), cond_false]
      rcases szL_MeasurementS_R l (left - (sz e : Int)) (fun a ha => hk a (List.mem_cons_of_mem _ ha)) (by omega) (by omega) with r | ⟨q, r⟩
      · exact .inl r
      · exact .inr ⟨by omega, by rw [r]; congr 1; omega⟩
theorem sz_MeasurementS_R (a : (List Measurement)) (left : Int) (h : GoT.ok 10 a) (h0 : 0 ≤ left) (h1 : left ≤ 1048576) : SzR (laws_szMeasurementS a left) left (sz a) := by
  have hl : a.length ≤ 9223372036854775807 := h.1
  rw [sz_list]
  unfold laws_szMeasurementS
  rw [wrap_sub h0 h1 hl]
  by_cases hc : left - (a.length : Int) < 0
  · rw [dT hc, cond_true]; exact .inl rfl
  · rw [dF (by omega), cond_false]
    rcases szL_MeasurementS_R a (left - (a.length : Int)) h.2 (by omega) (by omega) with r | ⟨q, r⟩
    · rw [r]; exact .inl rfl
    · rw [r]; exact .inr ⟨by omega, by show left - (a.length : Int) - (szL a : Int) = _; omega⟩
theorem sz_flat_MeasurementS (e : Measurement) : sz e = sz e.pfx.parts := by
  simp only [sz_Measurement, sz_Name, Nat.add_assoc]
theorem mkL_MeasurementS : ∀ (l p : (List Measurement)) (k : Int), 0 ≤ k → k + 16 * ((l.length : Int) + szL l) ≤ 4611686018427387904 → ∃ l' k', laws_markMeasurementS_L1 l.length p.length (p ++ l) k = (p ++ l', k') ∧ k ≤ k' ∧ k' ≤ k + 16 * ((l.length : Int) + szL l) ∧ True
  | [], p, k, _, _ => ⟨[], k, rfl, by omega, by simp [szL_nil], trivial⟩
  | e :: l, p, k, h0, hb => by
    rw [szL_cons, List.length_cons] at hb
    have hsz := sz_flat_MeasurementS e
    obtain ⟨p1, q1, e1⟩ := mk_StringS e.pfx.parts (k) (by omega) (by omega)
    have d1 := dF (show 0 ≤ (laws_markStringS e.pfx.parts (k)).1 by omega)
    have w2 := wrap1 (x := (laws_markStringS e.pfx.parts (k)).1) (by omega) (by omega)
    have w3 := wrap1 (x := ((laws_markStringS e.pfx.parts (k)).1 + 1)) (by omega) (by omega)
    obtain ⟨l', k', r1, r2, r3, r4⟩ := mkL_MeasurementS l (p ++ [(Measurement.mk (Name.mk (laws_markStringS e.pfx.parts k).2) ((laws_markStringS e.pfx.parts k).1) ((laws_markStringS e.pfx.parts k).1 + 1))]) (((laws_markStringS e.pfx.parts (k)).1 + 1) + 1) (by omega) (by omega)
    rw [mid_len] at r1
    refine ⟨(Measurement.mk (Name.mk (laws_markStringS e.pfx.parts k).2) ((laws_markStringS e.pfx.parts k).1) ((laws_markStringS e.pfx.parts k).1 + 1)) :: l', k', ?_, by omega, by rw [szL_cons, List.length_cons]; omega, ?_⟩
    · simp only [List.length_cons, laws_markMeasurementS_L1, mid, mid_set, w2, w3]
      rw [r1, mid_app]
    · trivial
theorem mk_MeasurementS (a : (List Measurement)) (k : Int) (h0 : 0 ≤ k) (hb : k + 16 * (sz a : Int) ≤ 4611686018427387904) : MkR k (laws_markMeasurementS a k).1 (sz a) (laws_markMeasurementS a k).1 := by
  rw [sz_list] at hb ⊢
  obtain ⟨l', k', r1, r2, r3, r4⟩ := mkL_MeasurementS a [] k h0 (by omega)
  simp only [List.nil_append, List.length_nil] at r1
  simp only [laws_markMeasurementS, r1]
  exact ⟨r2, by omega, rfl⟩
theorem eq_Node (a : NodeP) : laws_eqNode a a = true := by
  simp only [laws_eqNode, bne_self_F, nbeq_self_F, cond_false, Bool.not_true, eq_DataS, eq_ContentStore, eq_PendingInterestS, eq_SeenNonceS, eq_RouteS, eq_MeasurementS]
theorem to_Node (a : NodeP) : laws_toNode a = a := by
  simp only [laws_toNode, to_DataS, to_ContentStore, to_PendingInterestS, to_SeenNonceS, to_RouteS, to_MeasurementS]
theorem sz_Node_R (a : NodeP) (left : Int) (h : GoT.ok 10 a) (h0 : 0 ≤ left) (h1 : left ≤ 1048576) : SzR (laws_szNode a left) left (sz a) := by
  rw [sz_NodeP]
  unfold laws_szNode
  rcases sz_DataS_R a.locl left (ok_NodeP h).1 (by omega) (by omega) with r0 | ⟨q0, r0⟩
  · rw [r0]; exact .inl rfl
  rw [r0, dF (by omega), cond_false]
  rcases sz_ContentStore_R a.cache (left - (sz a.locl : Int)) (ok_NodeP h).2.1 (by omega) (by omega) with r1 | ⟨q1, r1⟩
  · rw [r1]; exact .inl rfl
  rw [r1, dF (by omega), cond_false]
  rcases sz_PendingInterestS_R a.pending ((left - (sz a.locl : Int)) - (sz a.cache : Int)) (ok_NodeP h).2.2.1 (by omega) (by omega) with r2 | ⟨q2, r2⟩
  · rw [r2]; exact .inl rfl
  rw [r2, dF (by omega), cond_false]
  rcases sz_SeenNonceS_R a.seen (((left - (sz a.locl : Int)) - (sz a.cache : Int)) - (sz a.pending : Int)) (ok_NodeP h).2.2.2.1 (by omega) (by omega) with r3 | ⟨q3, r3⟩
  · rw [r3]; exact .inl rfl
  rw [r3, dF (by omega), cond_false]
  rcases sz_RouteS_R a.routes ((((left - (sz a.locl : Int)) - (sz a.cache : Int)) - (sz a.pending : Int)) - (sz a.seen : Int)) (ok_NodeP h).2.2.2.2.1 (by omega) (by omega) with r4 | ⟨q4, r4⟩
  · rw [r4]; exact .inl rfl
  rw [r4, dF (by omega), cond_false]
  rcases sz_MeasurementS_R a.measurements (((((left - (sz a.locl : Int)) - (sz a.cache : Int)) - (sz a.pending : Int)) - (sz a.seen : Int)) - (sz a.routes : Int)) (ok_NodeP h).2.2.2.2.2.1 (by omega) (by omega) with r5 | ⟨q5, r5⟩
  · rw [r5]; exact .inl rfl
  rw [r5, dF (by omega), cond_false]
  exact .inr ⟨by omega, by omega⟩
theorem eqL_NodeS : ∀ (l p : (List NodeP)), laws_eqNodeS_L1 (p ++ l) l p.length = none
  | [], _ => rfl
  | e :: l, p => by
    have ih := eqL_NodeS l (p ++ [e])
    rw [mid_app, mid_len] at ih
    simp only [laws_eqNodeS_L1, mid, eq_Node e, Bool.not_true, cond_false]
    exact ih
theorem eq_NodeS (a : (List NodeP)) : laws_eqNodeS a a = true := by
  have h := eqL_NodeS a []
  simp only [List.nil_append, List.length_nil] at h
  simp only [laws_eqNodeS, bne_self_F, cond_false, h]
theorem toL_NodeS : ∀ (l p z : (List NodeP)), z.length = l.length → laws_toNodeS_L1 l p.length (p ++ z) = p ++ l
  | [], p, [], _ => rfl
  | e :: l, p, y :: z, h => by
    have ih := toL_NodeS l (p ++ [e]) z (by simpa using h)
    rw [mid_app p e l, mid_len] at ih
    simp only [laws_toNodeS_L1, mid, mid_set, to_Node e]
    exact ih
theorem to_NodeS (a : (List NodeP)) : laws_toNodeS a = a := by
  simp only [laws_toNodeS]
  exact toL_NodeS a [] _ (by simp)
theorem szL_NodeS_R : ∀ (l : (List NodeP)) (left : Int), (∀ a ∈ l, GoT.ok 10 a) → 0 ≤ left → left ≤ 1048576 → SzL (laws_szNodeS_L1 l left) left (szL l)
  | [], left, _, h0, _ => .inr ⟨by simp [szL_nil]; omega, by simp [szL_nil, laws_szNodeS_L1]⟩
  | e :: l, left, hk, h0, h1 => by
    rw [szL_cons]
    unfold laws_szNodeS_L1
    rcases sz_Node_R e left (hk e List.mem_cons_self) h0 h1 with r0 | ⟨q0, r0⟩
    · rw [r0]; exact .inl rfl
    · rw [r0, dF (by omega), cond_false]
      rcases szL_NodeS_R l (left - (sz e : Int)) (fun a ha => hk a (List.mem_cons_of_mem _ ha)) (by omega) (by omega) with r | ⟨q, r⟩
      · exact .inl r
      · exact .inr ⟨by omega, by rw [r]; congr 1; omega⟩
theorem sz_NodeS_R (a : (List NodeP)) (left : Int) (h : GoT.ok 10 a) (h0 : 0 ≤ left) (h1 : left ≤ 1048576) : SzR (laws_szNodeS a left) left (sz a) := by
  have hl : a.length ≤ 9223372036854775807 := h.1
  rw [sz_list]
  unfold laws_szNodeS
  rw [wrap_sub h0 h1 hl]
  by_cases hc : left - (a.length : Int) < 0
  · rw [dT hc, cond_true]; exact .inl rfl
  · rw [dF (by omega), cond_false]
    rcases szL_NodeS_R a (left - (a.length : Int)) h.2 (by omega) (by omega) with r | ⟨q, r⟩
    · rw [r]; exact .inl rfl
    · rw [r]; exact .inr ⟨by omega, by show left - (a.length : Int) - (szL a : Int) = _; omega⟩
theorem sz_flat_NodeS (e : NodeP) : sz e = sz e.locl + sz e.cache.entries + sz e.pending + sz e.seen + sz e.routes + sz e.measurements := by
  simp only [sz_NodeP, sz_ContentStore, Nat.add_assoc]
theorem mkL_NodeS : ∀ (l p : (List NodeP)) (k : Int), 0 ≤ k → k + 16 * ((l.length : Int) + szL l) ≤ 4611686018427387904 → ∃ l' k', laws_markNodeS_L1 l.length p.length (p ++ l) k = (p ++ l', k') ∧ k ≤ k' ∧ k' ≤ k + 16 * ((l.length : Int) + szL l) ∧ True
  | [], p, k, _, _ => ⟨[], k, rfl, by omega, by simp [szL_nil], trivial⟩
  | e :: l, p, k, h0, hb => by
    rw [szL_cons, List.length_cons] at hb
    have hsz := sz_flat_NodeS e
    obtain ⟨p1, q1, e1⟩ := mk_DataS e.locl (k) (by omega) (by omega)
    have d1 := dF (show 0 ≤ (laws_markDataS e.locl (k)).1 by omega)
    have w2 := wrap1 (x := (laws_markDataS e.locl (k)).1) (by omega) (by omega)
    obtain ⟨p3, q3, e3⟩ := mk_CacheEntryS e.cache.entries (((laws_markDataS e.locl (k)).1 + 1)) (by omega) (by omega)
    have d3 := dF (show 0 ≤ (laws_markCacheEntryS e.cache.entries (((laws_markDataS e.locl (k)).1 + 1))).1 by omega)
    obtain ⟨p4, q4, e4⟩ := mk_PendingInterestS e.pending ((laws_markCacheEntryS e.cache.entries (((laws_markDataS e.locl (k)).1 + 1))).1) (by omega) (by omega)
    have d4 := dF (show 0 ≤ (laws_markPendingInterestS e.pending ((laws_markCacheEntryS e.cache.entries (((laws_markDataS e.locl (k)).1 + 1))).1)).1 by omega)
    obtain ⟨p5, q5, e5⟩ := mk_SeenNonceS e.seen ((laws_markPendingInterestS e.pending ((laws_markCacheEntryS e.cache.entries (((laws_markDataS e.locl (k)).1 + 1))).1)).1) (by omega) (by omega)
    have d5 := dF (show 0 ≤ (laws_markSeenNonceS e.seen ((laws_markPendingInterestS e.pending ((laws_markCacheEntryS e.cache.entries (((laws_markDataS e.locl (k)).1 + 1))).1)).1)).1 by omega)
    obtain ⟨p6, q6, e6⟩ := mk_RouteS e.routes ((laws_markSeenNonceS e.seen ((laws_markPendingInterestS e.pending ((laws_markCacheEntryS e.cache.entries (((laws_markDataS e.locl (k)).1 + 1))).1)).1)).1) (by omega) (by omega)
    have d6 := dF (show 0 ≤ (laws_markRouteS e.routes ((laws_markSeenNonceS e.seen ((laws_markPendingInterestS e.pending ((laws_markCacheEntryS e.cache.entries (((laws_markDataS e.locl (k)).1 + 1))).1)).1)).1)).1 by omega)
    obtain ⟨p7, q7, e7⟩ := mk_MeasurementS e.measurements ((laws_markRouteS e.routes ((laws_markSeenNonceS e.seen ((laws_markPendingInterestS e.pending ((laws_markCacheEntryS e.cache.entries (((laws_markDataS e.locl (k)).1 + 1))).1)).1)).1)).1) (by omega) (by omega)
    have d7 := dF (show 0 ≤ (laws_markMeasurementS e.measurements ((laws_markRouteS e.routes ((laws_markSeenNonceS e.seen ((laws_markPendingInterestS e.pending ((laws_markCacheEntryS e.cache.entries (((laws_markDataS e.locl (k)).1 + 1))).1)).1)).1)).1)).1 by omega)
    have w8 := wrap1 (x := (laws_markMeasurementS e.measurements ((laws_markRouteS e.routes ((laws_markSeenNonceS e.seen ((laws_markPendingInterestS e.pending ((laws_markCacheEntryS e.cache.entries (((laws_markDataS e.locl (k)).1 + 1))).1)).1)).1)).1)).1) (by omega) (by omega)
    obtain ⟨l', k', r1, r2, r3, r4⟩ := mkL_NodeS l (p ++ [(NodeP.mk (laws_markDataS e.locl k).2 (ContentStore.mk ((laws_markDataS e.locl k).1) (laws_markCacheEntryS e.cache.entries ((laws_markDataS e.locl k).1 + 1)).2) (laws_markPendingInterestS e.pending ((laws_markCacheEntryS e.cache.entries ((laws_markDataS e.locl k).1 + 1)).1)).2 (laws_markSeenNonceS e.seen ((laws_markPendingInterestS e.pending ((laws_markCacheEntryS e.cache.entries ((laws_markDataS e.locl k).1 + 1)).1)).1)).2 (laws_markRouteS e.routes ((laws_markSeenNonceS e.seen ((laws_markPendingInterestS e.pending ((laws_markCacheEntryS e.cache.entries ((laws_markDataS e.locl k).1 + 1)).1)).1)).1)).2 (laws_markMeasurementS e.measurements ((laws_markRouteS e.routes ((laws_markSeenNonceS e.seen ((laws_markPendingInterestS e.pending ((laws_markCacheEntryS e.cache.entries ((laws_markDataS e.locl k).1 + 1)).1)).1)).1)).1)).2 ((laws_markMeasurementS e.measurements ((laws_markRouteS e.routes ((laws_markSeenNonceS e.seen ((laws_markPendingInterestS e.pending ((laws_markCacheEntryS e.cache.entries ((laws_markDataS e.locl k).1 + 1)).1)).1)).1)).1)).1))]) ((laws_markMeasurementS e.measurements ((laws_markRouteS e.routes ((laws_markSeenNonceS e.seen ((laws_markPendingInterestS e.pending ((laws_markCacheEntryS e.cache.entries (((laws_markDataS e.locl (k)).1 + 1))).1)).1)).1)).1)).1 + 1) (by omega) (by omega)
    rw [mid_len] at r1
    refine ⟨(NodeP.mk (laws_markDataS e.locl k).2 (ContentStore.mk ((laws_markDataS e.locl k).1) (laws_markCacheEntryS e.cache.entries ((laws_markDataS e.locl k).1 + 1)).2) (laws_markPendingInterestS e.pending ((laws_markCacheEntryS e.cache.entries ((laws_markDataS e.locl k).1 + 1)).1)).2 (laws_markSeenNonceS e.seen ((laws_markPendingInterestS e.pending ((laws_markCacheEntryS e.cache.entries ((laws_markDataS e.locl k).1 + 1)).1)).1)).2 (laws_markRouteS e.routes ((laws_markSeenNonceS e.seen ((laws_markPendingInterestS e.pending ((laws_markCacheEntryS e.cache.entries ((laws_markDataS e.locl k).1 + 1)).1)).1)).1)).2 (laws_markMeasurementS e.measurements ((laws_markRouteS e.routes ((laws_markSeenNonceS e.seen ((laws_markPendingInterestS e.pending ((laws_markCacheEntryS e.cache.entries ((laws_markDataS e.locl k).1 + 1)).1)).1)).1)).1)).2 ((laws_markMeasurementS e.measurements ((laws_markRouteS e.routes ((laws_markSeenNonceS e.seen ((laws_markPendingInterestS e.pending ((laws_markCacheEntryS e.cache.entries ((laws_markDataS e.locl k).1 + 1)).1)).1)).1)).1)).1)) :: l', k', ?_, by omega, by rw [szL_cons, List.length_cons]; omega, ?_⟩
    · simp only [List.length_cons, laws_markNodeS_L1, mid, mid_set, w2, w8]
      rw [r1, mid_app]
    · trivial
theorem mk_NodeS (a : (List NodeP)) (k : Int) (h0 : 0 ≤ k) (hb : k + 16 * (sz a : Int) ≤ 4611686018427387904) : MkR k (laws_markNodeS a k).1 (sz a) (laws_markNodeS a k).1 := by
  rw [sz_list] at hb ⊢
  obtain ⟨l', k', r1, r2, r3, r4⟩ := mkL_NodeS a [] k h0 (by omega)
  simp only [List.nil_append, List.length_nil] at r1
  simp only [laws_markNodeS, r1]
  exact ⟨r2, by omega, rfl⟩
theorem eqL_IntS : ∀ (l p : (List Int)), laws_eqIntS_L1 (p ++ l) l p.length = none
  | [], _ => rfl
  | e :: l, p => by
    have ih := eqL_IntS l (p ++ [e])
    rw [mid_app, mid_len] at ih
    simp only [laws_eqIntS_L1, mid, bne_self_F, nbeq_self_F, cond_false]
    exact ih
theorem eq_IntS (a : (List Int)) : laws_eqIntS a a = true := by
  have h := eqL_IntS a []
  simp only [List.nil_append, List.length_nil] at h
  simp only [laws_eqIntS, bne_self_F, cond_false, h]
theorem toL_IntS : ∀ (l p z : (List Int)), z.length = l.length → laws_toIntS_L1 l p.length (p ++ z) = p ++ l
  | [], p, [], _ => rfl
  | e :: l, p, y :: z, h => by
    have ih := toL_IntS l (p ++ [e]) z (by simpa using h)
    rw [mid_app p e l, mid_len] at ih
    simp only [laws_toIntS_L1, mid, mid_set]
    exact ih
theorem to_IntS (a : (List Int)) : laws_toIntS a = a := by
  simp only [laws_toIntS]
  exact toL_IntS a [] _ (by simp)
theorem sz_IntS_R (a : (List Int)) (left : Int) (h : GoT.ok 10 a) (h0 : 0 ≤ left) (h1 : left ≤ 1048576) : SzR (laws_szIntS a left) left (sz a) := by
  have hl : a.length ≤ 9223372036854775807 := h.1
  rw [sz_list, szL_int]
  unfold laws_szIntS
  rw [wrap_sub h0 h1 hl]
  by_cases hc : left - (a.length : Int) < 0
  · rw [dT hc, cond_true]; exact .inl rfl
  · rw [dF (by omega), cond_false]; exact .inr ⟨by omega, rfl⟩
theorem mkL_IntS : ∀ (l p : (List Int)) (k : Int), 0 ≤ k → k + 16 * ((l.length : Int) + szL l) ≤ 4611686018427387904 → ∃ l' k', laws_markIntS_L1 l.length p.length (p ++ l) k = (p ++ l', k') ∧ k ≤ k' ∧ k' ≤ k + 16 * ((l.length : Int) + szL l) ∧ True
  | [], p, k, _, _ => ⟨[], k, rfl, by omega, by simp [szL_nil], trivial⟩
  | e :: l, p, k, h0, hb => by
    rw [szL_cons, List.length_cons] at hb
    have w1 := wrap1 (x := k) (by omega) (by omega)
    obtain ⟨l', k', r1, r2, r3, r4⟩ := mkL_IntS l (p ++ [k]) (k + 1) (by omega) (by omega)
    rw [mid_len] at r1
    refine ⟨k :: l', k', ?_, by omega, by rw [szL_cons, List.length_cons]; omega, ?_⟩
    · simp only [List.length_cons, laws_markIntS_L1, mid, mid_set, w1]
      rw [r1, mid_app]
    · trivial
theorem mk_IntS (a : (List Int)) (k : Int) (h0 : 0 ≤ k) (hb : k + 16 * (sz a : Int) ≤ 4611686018427387904) : MkR k (laws_markIntS a k).1 (sz a) (laws_markIntS a k).1 := by
  rw [sz_list] at hb ⊢
  obtain ⟨l', k', r1, r2, r3, r4⟩ := mkL_IntS a [] k h0 (by omega)
  simp only [List.nil_append, List.length_nil] at r1
  simp only [laws_markIntS, r1]
  exact ⟨r2, by omega, rfl⟩
theorem eq_Interest (a : Interest) : laws_eqInterest a a = true := by
  simp only [laws_eqInterest, bne_self_F, nbeq_self_F, cond_false, Bool.not_true, eq_Name]
theorem to_Interest (a : Interest) : laws_toInterest a = a := by
  simp only [laws_toInterest, to_Name]
theorem sz_Interest_R (a : Interest) (left : Int) (h : GoT.ok 10 a) (h0 : 0 ≤ left) (h1 : left ≤ 1048576) : SzR (laws_szInterest a left) left (sz a) := by
  rw [sz_Interest]
  unfold laws_szInterest
  rcases sz_Name_R a.name left (ok_Interest h).1 (by omega) (by omega) with r0 | ⟨q0, r0⟩
  · rw [r0]; exact .inl rfl
  rw [r0, dF (by omega), cond_false]
  exact .inr ⟨by omega, by omega⟩
theorem eq_PacketInFlight (a : PacketInFlight) : laws_eqPacketInFlight a a = true := by
  simp only [laws_eqPacketInFlight, bne_self_F, nbeq_self_F, cond_false, Bool.not_true, eq_Interest, eq_Data]
theorem to_PacketInFlight (a : PacketInFlight) : laws_toPacketInFlight a = a := by
  simp only [laws_toPacketInFlight, to_Interest, to_Data]
theorem sz_PacketInFlight_R (a : PacketInFlight) (left : Int) (h : GoT.ok 10 a) (h0 : 0 ≤ left) (h1 : left ≤ 1048576) : SzR (laws_szPacketInFlight a left) left (sz a) := by
  rw [sz_PacketInFlight]
  unfold laws_szPacketInFlight
  rcases sz_Interest_R a.interest left (ok_PacketInFlight h).2.2.2.1 (by omega) (by omega) with r0 | ⟨q0, r0⟩
  · rw [r0]; exact .inl rfl
  rw [r0, dF (by omega), cond_false]
  rcases sz_Data_R a.data (left - (sz a.interest : Int)) (ok_PacketInFlight h).2.2.2.2 (by omega) (by omega) with r1 | ⟨q1, r1⟩
  · rw [r1]; exact .inl rfl
  rw [r1, dF (by omega), cond_false]
  exact .inr ⟨by omega, by omega⟩
theorem eqL_PacketInFlightS : ∀ (l p : (List PacketInFlight)), laws_eqPacketInFlightS_L1 (p ++ l) l p.length = none
  | [], _ => rfl
  | e :: l, p => by
    have ih := eqL_PacketInFlightS l (p ++ [e])
    rw [mid_app, mid_len] at ih
    simp only [laws_eqPacketInFlightS_L1, mid, eq_PacketInFlight e, Bool.not_true, cond_false]
    exact ih
theorem eq_PacketInFlightS (a : (List PacketInFlight)) : laws_eqPacketInFlightS a a = true := by
  have h := eqL_PacketInFlightS a []
  simp only [List.nil_append, List.length_nil] at h
  simp only [laws_eqPacketInFlightS, bne_self_F, cond_false, h]
theorem toL_PacketInFlightS : ∀ (l p z : (List PacketInFlight)), z.length = l.length → laws_toPacketInFlightS_L1 l p.length (p ++ z) = p ++ l
  | [], p, [], _ => rfl
  | e :: l, p, y :: z, h => by
    have ih := toL_PacketInFlightS l (p ++ [e]) z (by simpa using h)
    rw [mid_app p e l, mid_len] at ih
    simp only [laws_toPacketInFlightS_L1, mid, mid_set, to_PacketInFlight e]
    exact ih
theorem to_PacketInFlightS (a : (List PacketInFlight)) : laws_toPacketInFlightS a = a := by
  simp only [laws_toPacketInFlightS]
  exact toL_PacketInFlightS a [] _ (by simp)
theorem szL_PacketInFlightS_R : ∀ (l : (List PacketInFlight)) (left : Int), (∀ a ∈ l, GoT.ok 10 a) → 0 ≤ left → left ≤ 1048576 → SzL (laws_szPacketInFlightS_L1 l left) left (szL l)
  | [], left, _, h0, _ => .inr ⟨by simp [szL_nil]; omega, by simp [szL_nil, laws_szPacketInFlightS_L1]⟩
  | e :: l, left, hk, h0, h1 => by
    rw [szL_cons]
    unfold laws_szPacketInFlightS_L1
    rcases sz_PacketInFlight_R e left (hk e List.mem_cons_self) h0 h1 with r0 | ⟨q0, r0⟩
    · rw [r0]; exact .inl rfl
    · rw [r0, dF (by omega), cond_false]
      rcases szL_PacketInFlightS_R l (left - (sz e : Int)) (fun a ha => hk a (List.mem_cons_of_mem _ ha)) (by omega) (by omega) with r | ⟨q, r⟩
      · exact .inl r
      · exact .inr ⟨by omega, by rw [r]; congr 1; omega⟩
theorem sz_PacketInFlightS_R (a : (List PacketInFlight)) (left : Int) (h : GoT.ok 10 a) (h0 : 0 ≤ left) (h1 : left ≤ 1048576) : SzR (laws_szPacketInFlightS a left) left (sz a) := by
  have hl : a.length ≤ 9223372036854775807 := h.1
  rw [sz_list]
  unfold laws_szPacketInFlightS
  rw [wrap_sub h0 h1 hl]
  by_cases hc : left - (a.length : Int) < 0
  · rw [dT hc, cond_true]; exact .inl rfl
  · rw [dF (by omega), cond_false]
    rcases szL_PacketInFlightS_R a (left - (a.length : Int)) h.2 (by omega) (by omega) with r | ⟨q, r⟩
    · rw [r]; exact .inl rfl
    · rw [r]; exact .inr ⟨by omega, by show left - (a.length : Int) - (szL a : Int) = _; omega⟩
theorem sz_flat_PacketInFlightS (e : PacketInFlight) : sz e = sz e.interest.name.parts + sz e.data.name.parts + sz e.data.content + sz e.data.keyName.parts := by
  simp only [sz_PacketInFlight, sz_Interest, sz_Name, sz_DataP, Nat.add_assoc]
theorem mkL_PacketInFlightS : ∀ (l p : (List PacketInFlight)) (k : Int), 0 ≤ k → k + 16 * ((l.length : Int) + szL l) ≤ 4611686018427387904 → ∃ l' k', laws_markPacketInFlightS_L1 l.length p.length (p ++ l) k = (p ++ l', k') ∧ k ≤ k' ∧ k' ≤ k + 16 * ((l.length : Int) + szL l) ∧ True
  | [], p, k, _, _ => ⟨[], k, rfl, by omega, by simp [szL_nil], trivial⟩
  | e :: l, p, k, h0, hb => by
    rw [szL_cons, List.length_cons] at hb
    have hsz := sz_flat_PacketInFlightS e
    have w1 := wrap1 (x := k) (by omega) (by omega)
    have w2 := wrap1 (x := (k + 1)) (by omega) (by omega)
    have w3 := wrap1 (x := ((k + 1) + 1)) (by omega) (by omega)
    obtain ⟨p4, q4, e4⟩ := mk_StringS e.interest.name.parts ((((k + 1) + 1) + 1)) (by omega) (by omega)
    have d4 := dF (show 0 ≤ (laws_markStringS e.interest.name.parts ((((k + 1) + 1) + 1))).1 by omega)
    have w5 := wrap1 (x := (laws_markStringS e.interest.name.parts ((((k + 1) + 1) + 1))).1) (by omega) (by omega)
    have w6 := wrap1 (x := ((laws_markStringS e.interest.name.parts ((((k + 1) + 1) + 1))).1 + 1)) (by omega) (by omega)
    have w7 := wrap1 (x := (((laws_markStringS e.interest.name.parts ((((k + 1) + 1) + 1))).1 + 1) + 1)) (by omega) (by omega)
    obtain ⟨p8, q8, e8⟩ := mk_StringS e.data.name.parts (((((laws_markStringS e.interest.name.parts ((((k + 1) + 1) + 1))).1 + 1) + 1) + 1)) (by omega) (by omega)
    have d8 := dF (show 0 ≤ (laws_markStringS e.data.name.parts (((((laws_markStringS e.interest.name.parts ((((k + 1) + 1) + 1))).1 + 1) + 1) + 1))).1 by omega)
    obtain ⟨p9, q9, e9⟩ := mk_ByteS e.data.content ((laws_markStringS e.data.name.parts (((((laws_markStringS e.interest.name.parts ((((k + 1) + 1) + 1))).1 + 1) + 1) + 1))).1) (by omega) (by omega)
    have d9 := dF (show 0 ≤ (laws_markByteS e.data.content ((laws_markStringS e.data.name.parts (((((laws_markStringS e.interest.name.parts ((((k + 1) + 1) + 1))).1 + 1) + 1) + 1))).1)).1 by omega)
    obtain ⟨p10, q10, e10⟩ := mk_StringS e.data.keyName.parts ((laws_markByteS e.data.content ((laws_markStringS e.data.name.parts (((((laws_markStringS e.interest.name.parts ((((k + 1) + 1) + 1))).1 + 1) + 1) + 1))).1)).1) (by omega) (by omega)
    have d10 := dF (show 0 ≤ (laws_markStringS e.data.keyName.parts ((laws_markByteS e.data.content ((laws_markStringS e.data.name.parts (((((laws_markStringS e.interest.name.parts ((((k + 1) + 1) + 1))).1 + 1) + 1) + 1))).1)).1)).1 by omega)
    have w11 := wrap1 (x := (laws_markStringS e.data.keyName.parts ((laws_markByteS e.data.content ((laws_markStringS e.data.name.parts (((((laws_markStringS e.interest.name.parts ((((k + 1) + 1) + 1))).1 + 1) + 1) + 1))).1)).1)).1) (by omega) (by omega)
    have w12 := wrap1 (x := ((laws_markStringS e.data.keyName.parts ((laws_markByteS e.data.content ((laws_markStringS e.data.name.parts (((((laws_markStringS e.interest.name.parts ((((k + 1) + 1) + 1))).1 + 1) + 1) + 1))).1)).1)).1 + 1)) (by omega) (by omega)
    obtain ⟨l', k', r1, r2, r3, r4⟩ := mkL_PacketInFlightS l (p ++ [(PacketInFlight.mk k (k + 1) ((Int.tmod ((k + 1) + 1) 3) == 0) (Interest.mk (Name.mk (laws_markStringS e.interest.name.parts (((k + 1) + 1) + 1)).2) ((laws_markStringS e.interest.name.parts (((k + 1) + 1) + 1)).1) ((laws_markStringS e.interest.name.parts (((k + 1) + 1) + 1)).1 + 1) (((laws_markStringS e.interest.name.parts (((k + 1) + 1) + 1)).1 + 1) + 1)) (DataP.mk (Name.mk (laws_markStringS e.data.name.parts ((((laws_markStringS e.interest.name.parts (((k + 1) + 1) + 1)).1 + 1) + 1) + 1)).2) (laws_markByteS e.data.content ((laws_markStringS e.data.name.parts ((((laws_markStringS e.interest.name.parts (((k + 1) + 1) + 1)).1 + 1) + 1) + 1)).1)).2 (Name.mk (laws_markStringS e.data.keyName.parts ((laws_markByteS e.data.content ((laws_markStringS e.data.name.parts ((((laws_markStringS e.interest.name.parts (((k + 1) + 1) + 1)).1 + 1) + 1) + 1)).1)).1)).2) ((laws_markStringS e.data.keyName.parts ((laws_markByteS e.data.content ((laws_markStringS e.data.name.parts ((((laws_markStringS e.interest.name.parts (((k + 1) + 1) + 1)).1 + 1) + 1) + 1)).1)).1)).1) ((laws_markStringS e.data.keyName.parts ((laws_markByteS e.data.content ((laws_markStringS e.data.name.parts ((((laws_markStringS e.interest.name.parts (((k + 1) + 1) + 1)).1 + 1) + 1) + 1)).1)).1)).1 + 1)))]) (((laws_markStringS e.data.keyName.parts ((laws_markByteS e.data.content ((laws_markStringS e.data.name.parts (((((laws_markStringS e.interest.name.parts ((((k + 1) + 1) + 1))).1 + 1) + 1) + 1))).1)).1)).1 + 1) + 1) (by omega) (by omega)
    rw [mid_len] at r1
    refine ⟨(PacketInFlight.mk k (k + 1) ((Int.tmod ((k + 1) + 1) 3) == 0) (Interest.mk (Name.mk (laws_markStringS e.interest.name.parts (((k + 1) + 1) + 1)).2) ((laws_markStringS e.interest.name.parts (((k + 1) + 1) + 1)).1) ((laws_markStringS e.interest.name.parts (((k + 1) + 1) + 1)).1 + 1) (((laws_markStringS e.interest.name.parts (((k + 1) + 1) + 1)).1 + 1) + 1)) (DataP.mk (Name.mk (laws_markStringS e.data.name.parts ((((laws_markStringS e.interest.name.parts (((k + 1) + 1) + 1)).1 + 1) + 1) + 1)).2) (laws_markByteS e.data.content ((laws_markStringS e.data.name.parts ((((laws_markStringS e.interest.name.parts (((k + 1) + 1) + 1)).1 + 1) + 1) + 1)).1)).2 (Name.mk (laws_markStringS e.data.keyName.parts ((laws_markByteS e.data.content ((laws_markStringS e.data.name.parts ((((laws_markStringS e.interest.name.parts (((k + 1) + 1) + 1)).1 + 1) + 1) + 1)).1)).1)).2) ((laws_markStringS e.data.keyName.parts ((laws_markByteS e.data.content ((laws_markStringS e.data.name.parts ((((laws_markStringS e.interest.name.parts (((k + 1) + 1) + 1)).1 + 1) + 1) + 1)).1)).1)).1) ((laws_markStringS e.data.keyName.parts ((laws_markByteS e.data.content ((laws_markStringS e.data.name.parts ((((laws_markStringS e.interest.name.parts (((k + 1) + 1) + 1)).1 + 1) + 1) + 1)).1)).1)).1 + 1))) :: l', k', ?_, by omega, by rw [szL_cons, List.length_cons]; omega, ?_⟩
    · simp only [List.length_cons, laws_markPacketInFlightS_L1, mid, mid_set, w1, w2, w3, w5, w6, w7, w11, w12]
      rw [r1, mid_app]
    · trivial
theorem mk_PacketInFlightS (a : (List PacketInFlight)) (k : Int) (h0 : 0 ≤ k) (hb : k + 16 * (sz a : Int) ≤ 4611686018427387904) : MkR k (laws_markPacketInFlightS a k).1 (sz a) (laws_markPacketInFlightS a k).1 := by
  rw [sz_list] at hb ⊢
  obtain ⟨l', k', r1, r2, r3, r4⟩ := mkL_PacketInFlightS a [] k h0 (by omega)
  simp only [List.nil_append, List.length_nil] at r1
  simp only [laws_markPacketInFlightS, r1]
  exact ⟨r2, by omega, rfl⟩
theorem eqL_ConsumerS : ∀ (l p : (List Consumer)), laws_eqConsumerS_L1 (p ++ l) l p.length = none
  | [], _ => rfl
  | e :: l, p => by
    have ih := eqL_ConsumerS l (p ++ [e])
    rw [mid_app, mid_len] at ih
    simp only [laws_eqConsumerS_L1, mid, eq_Consumer e, Bool.not_true, cond_false]
    exact ih
theorem eq_ConsumerS (a : (List Consumer)) : laws_eqConsumerS a a = true := by
  have h := eqL_ConsumerS a []
  simp only [List.nil_append, List.length_nil] at h
  simp only [laws_eqConsumerS, bne_self_F, cond_false, h]
theorem toL_ConsumerS : ∀ (l p z : (List Consumer)), z.length = l.length → laws_toConsumerS_L1 l p.length (p ++ z) = p ++ l
  | [], p, [], _ => rfl
  | e :: l, p, y :: z, h => by
    have ih := toL_ConsumerS l (p ++ [e]) z (by simpa using h)
    rw [mid_app p e l, mid_len] at ih
    simp only [laws_toConsumerS_L1, mid, mid_set, to_Consumer e]
    exact ih
theorem to_ConsumerS (a : (List Consumer)) : laws_toConsumerS a = a := by
  simp only [laws_toConsumerS]
  exact toL_ConsumerS a [] _ (by simp)
theorem szL_ConsumerS_R : ∀ (l : (List Consumer)) (left : Int), (∀ a ∈ l, GoT.ok 10 a) → 0 ≤ left → left ≤ 1048576 → SzL (laws_szConsumerS_L1 l left) left (szL l)
  | [], left, _, h0, _ => .inr ⟨by simp [szL_nil]; omega, by simp [szL_nil, laws_szConsumerS_L1]⟩
  | e :: l, left, hk, h0, h1 => by
    rw [szL_cons]
    unfold laws_szConsumerS_L1
    rcases sz_Consumer_R e left (hk e List.mem_cons_self) h0 h1 with r0 | ⟨q0, r0⟩
    · rw [r0]; exact .inl rfl
    · rw [r0, dF (by omega), cond_false]
      rcases szL_ConsumerS_R l (left - (sz e : Int)) (fun a ha => hk a (List.mem_cons_of_mem _ ha)) (by omega) (by omega) with r | ⟨q, r⟩
      · exact .inl r
      · exact .inr ⟨by omega, by rw [r]; congr 1; omega⟩
theorem sz_ConsumerS_R (a : (List Consumer)) (left : Int) (h : GoT.ok 10 a) (h0 : 0 ≤ left) (h1 : left ≤ 1048576) : SzR (laws_szConsumerS a left) left (sz a) := by
  have hl : a.length ≤ 9223372036854775807 := h.1
  rw [sz_list]
  unfold laws_szConsumerS
  rw [wrap_sub h0 h1 hl]
  by_cases hc : left - (a.length : Int) < 0
  · rw [dT hc, cond_true]; exact .inl rfl
  · rw [dF (by omega), cond_false]
    rcases szL_ConsumerS_R a (left - (a.length : Int)) h.2 (by omega) (by omega) with r | ⟨q, r⟩
    · rw [r]; exact .inl rfl
    · rw [r]; exact .inr ⟨by omega, by show left - (a.length : Int) - (szL a : Int) = _; omega⟩
theorem sz_flat_ConsumerS (e : Consumer) : sz e = sz e.name.parts + sz e.data.name.parts + sz e.data.content + sz e.data.keyName.parts := by
  simp only [sz_Consumer, sz_Name, sz_DataP, Nat.add_assoc]
theorem mkL_ConsumerS : ∀ (l p : (List Consumer)) (k : Int), 0 ≤ k → k + 16 * ((l.length : Int) + szL l) ≤ 4611686018427387904 → ∃ l' k', laws_markConsumerS_L1 l.length p.length (p ++ l) k = (p ++ l', k') ∧ k ≤ k' ∧ k' ≤ k + 16 * ((l.length : Int) + szL l) ∧ True
  | [], p, k, _, _ => ⟨[], k, rfl, by omega, by simp [szL_nil], trivial⟩
  | e :: l, p, k, h0, hb => by
    rw [szL_cons, List.length_cons] at hb
    have hsz := sz_flat_ConsumerS e
    have w1 := wrap1 (x := k) (by omega) (by omega)
    have w2 := wrap1 (x := (k + 1)) (by omega) (by omega)
    obtain ⟨p3, q3, e3⟩ := mk_StringS e.name.parts (((k + 1) + 1)) (by omega) (by omega)
    have d3 := dF (show 0 ≤ (laws_markStringS e.name.parts (((k + 1) + 1))).1 by omega)
    have w4 := wrap1 (x := (laws_markStringS e.name.parts (((k + 1) + 1))).1) (by omega) (by omega)
    have w5 := wrap1 (x := ((laws_markStringS e.name.parts (((k + 1) + 1))).1 + 1)) (by omega) (by omega)
    have w6 := wrap1 (x := (((laws_markStringS e.name.parts (((k + 1) + 1))).1 + 1) + 1)) (by omega) (by omega)
    obtain ⟨p7, q7, e7⟩ := mk_StringS e.data.name.parts (((((laws_markStringS e.name.parts (((k + 1) + 1))).1 + 1) + 1) + 1)) (by omega) (by omega)
    have d7 := dF (show 0 ≤ (laws_markStringS e.data.name.parts (((((laws_markStringS e.name.parts (((k + 1) + 1))).1 + 1) + 1) + 1))).1 by omega)
    obtain ⟨p8, q8, e8⟩ := mk_ByteS e.data.content ((laws_markStringS e.data.name.parts (((((laws_markStringS e.name.parts (((k + 1) + 1))).1 + 1) + 1) + 1))).1) (by omega) (by omega)
    have d8 := dF (show 0 ≤ (laws_markByteS e.data.content ((laws_markStringS e.data.name.parts (((((laws_markStringS e.name.parts (((k + 1) + 1))).1 + 1) + 1) + 1))).1)).1 by omega)
    obtain ⟨p9, q9, e9⟩ := mk_StringS e.data.keyName.parts ((laws_markByteS e.data.content ((laws_markStringS e.data.name.parts (((((laws_markStringS e.name.parts (((k + 1) + 1))).1 + 1) + 1) + 1))).1)).1) (by omega) (by omega)
    have d9 := dF (show 0 ≤ (laws_markStringS e.data.keyName.parts ((laws_markByteS e.data.content ((laws_markStringS e.data.name.parts (((((laws_markStringS e.name.parts (((k + 1) + 1))).1 + 1) + 1) + 1))).1)).1)).1 by omega)
    have w10 := wrap1 (x := (laws_markStringS e.data.keyName.parts ((laws_markByteS e.data.content ((laws_markStringS e.data.name.parts (((((laws_markStringS e.name.parts (((k + 1) + 1))).1 + 1) + 1) + 1))).1)).1)).1) (by omega) (by omega)
    have w11 := wrap1 (x := ((laws_markStringS e.data.keyName.parts ((laws_markByteS e.data.content ((laws_markStringS e.data.name.parts (((((laws_markStringS e.name.parts (((k + 1) + 1))).1 + 1) + 1) + 1))).1)).1)).1 + 1)) (by omega) (by omega)
    obtain ⟨l', k', r1, r2, r3, r4⟩ := mkL_ConsumerS l (p ++ [(Consumer.mk k (k + 1) (Name.mk (laws_markStringS e.name.parts ((k + 1) + 1)).2) ((laws_markStringS e.name.parts ((k + 1) + 1)).1) ((laws_markStringS e.name.parts ((k + 1) + 1)).1 + 1) ((Int.tmod (((laws_markStringS e.name.parts ((k + 1) + 1)).1 + 1) + 1) 3) == 0) (DataP.mk (Name.mk (laws_markStringS e.data.name.parts ((((laws_markStringS e.name.parts ((k + 1) + 1)).1 + 1) + 1) + 1)).2) (laws_markByteS e.data.content ((laws_markStringS e.data.name.parts ((((laws_markStringS e.name.parts ((k + 1) + 1)).1 + 1) + 1) + 1)).1)).2 (Name.mk (laws_markStringS e.data.keyName.parts ((laws_markByteS e.data.content ((laws_markStringS e.data.name.parts ((((laws_markStringS e.name.parts ((k + 1) + 1)).1 + 1) + 1) + 1)).1)).1)).2) ((laws_markStringS e.data.keyName.parts ((laws_markByteS e.data.content ((laws_markStringS e.data.name.parts ((((laws_markStringS e.name.parts ((k + 1) + 1)).1 + 1) + 1) + 1)).1)).1)).1) ((laws_markStringS e.data.keyName.parts ((laws_markByteS e.data.content ((laws_markStringS e.data.name.parts ((((laws_markStringS e.name.parts ((k + 1) + 1)).1 + 1) + 1) + 1)).1)).1)).1 + 1)))]) (((laws_markStringS e.data.keyName.parts ((laws_markByteS e.data.content ((laws_markStringS e.data.name.parts (((((laws_markStringS e.name.parts (((k + 1) + 1))).1 + 1) + 1) + 1))).1)).1)).1 + 1) + 1) (by omega) (by omega)
    rw [mid_len] at r1
    refine ⟨(Consumer.mk k (k + 1) (Name.mk (laws_markStringS e.name.parts ((k + 1) + 1)).2) ((laws_markStringS e.name.parts ((k + 1) + 1)).1) ((laws_markStringS e.name.parts ((k + 1) + 1)).1 + 1) ((Int.tmod (((laws_markStringS e.name.parts ((k + 1) + 1)).1 + 1) + 1) 3) == 0) (DataP.mk (Name.mk (laws_markStringS e.data.name.parts ((((laws_markStringS e.name.parts ((k + 1) + 1)).1 + 1) + 1) + 1)).2) (laws_markByteS e.data.content ((laws_markStringS e.data.name.parts ((((laws_markStringS e.name.parts ((k + 1) + 1)).1 + 1) + 1) + 1)).1)).2 (Name.mk (laws_markStringS e.data.keyName.parts ((laws_markByteS e.data.content ((laws_markStringS e.data.name.parts ((((laws_markStringS e.name.parts ((k + 1) + 1)).1 + 1) + 1) + 1)).1)).1)).2) ((laws_markStringS e.data.keyName.parts ((laws_markByteS e.data.content ((laws_markStringS e.data.name.parts ((((laws_markStringS e.name.parts ((k + 1) + 1)).1 + 1) + 1) + 1)).1)).1)).1) ((laws_markStringS e.data.keyName.parts ((laws_markByteS e.data.content ((laws_markStringS e.data.name.parts ((((laws_markStringS e.name.parts ((k + 1) + 1)).1 + 1) + 1) + 1)).1)).1)).1 + 1))) :: l', k', ?_, by omega, by rw [szL_cons, List.length_cons]; omega, ?_⟩
    · simp only [List.length_cons, laws_markConsumerS_L1, mid, mid_set, w1, w2, w4, w5, w6, w10, w11]
      rw [r1, mid_app]
    · trivial
theorem mk_ConsumerS (a : (List Consumer)) (k : Int) (h0 : 0 ≤ k) (hb : k + 16 * (sz a : Int) ≤ 4611686018427387904) : MkR k (laws_markConsumerS a k).1 (sz a) (laws_markConsumerS a k).1 := by
  rw [sz_list] at hb ⊢
  obtain ⟨l', k', r1, r2, r3, r4⟩ := mkL_ConsumerS a [] k h0 (by omega)
  simp only [List.nil_append, List.length_nil] at r1
  simp only [laws_markConsumerS, r1]
  exact ⟨r2, by omega, rfl⟩
theorem eq_Network (a : Network) : laws_eqNetwork a a = true := by
  simp only [laws_eqNetwork, bne_self_F, nbeq_self_F, cond_false, Bool.not_true, eq_Topology, eq_TrustPolicy, eq_TableEntryS, eq_NodeS, eq_IntS, eq_PacketInFlightS, eq_ConsumerS]
theorem to_Network (a : Network) : laws_toNetwork a = a := by
  simp only [laws_toNetwork, to_Topology, to_TrustPolicy, to_TableEntryS, to_NodeS, to_IntS, to_PacketInFlightS, to_ConsumerS]
theorem sz_Network_R (a : Network) (left : Int) (h : GoT.ok 10 a) (h0 : 0 ≤ left) (h1 : left ≤ 1048576) : SzR (laws_szNetwork a left) left (sz a) := by
  rw [sz_Network]
  unfold laws_szNetwork
  rcases sz_Topology_R a.topology left (ok_Network h).1 (by omega) (by omega) with r0 | ⟨q0, r0⟩
  · rw [r0]; exact .inl rfl
  rw [r0, dF (by omega), cond_false]
  rcases sz_TrustPolicy_R a.trust (left - (sz a.topology : Int)) (ok_Network h).2.1 (by omega) (by omega) with r1 | ⟨q1, r1⟩
  · rw [r1]; exact .inl rfl
  rw [r1, dF (by omega), cond_false]
  rcases sz_TableEntryS_R a.producers ((left - (sz a.topology : Int)) - (sz a.trust : Int)) (ok_Network h).2.2.1 (by omega) (by omega) with r2 | ⟨q2, r2⟩
  · rw [r2]; exact .inl rfl
  rw [r2, dF (by omega), cond_false]
  rcases sz_NodeS_R a.nodes (((left - (sz a.topology : Int)) - (sz a.trust : Int)) - (sz a.producers : Int)) (ok_Network h).2.2.2.1 (by omega) (by omega) with r3 | ⟨q3, r3⟩
  · rw [r3]; exact .inl rfl
  rw [r3, dF (by omega), cond_false]
  rcases sz_IntS_R a.failedLinks ((((left - (sz a.topology : Int)) - (sz a.trust : Int)) - (sz a.producers : Int)) - (sz a.nodes : Int)) (ok_Network h).2.2.2.2.2.1 (by omega) (by omega) with r4 | ⟨q4, r4⟩
  · rw [r4]; exact .inl rfl
  rw [r4, dF (by omega), cond_false]
  rcases sz_PacketInFlightS_R a.inFlight (((((left - (sz a.topology : Int)) - (sz a.trust : Int)) - (sz a.producers : Int)) - (sz a.nodes : Int)) - (sz a.failedLinks : Int)) (ok_Network h).2.2.2.2.2.2.1 (by omega) (by omega) with r5 | ⟨q5, r5⟩
  · rw [r5]; exact .inl rfl
  rw [r5, dF (by omega), cond_false]
  rcases sz_ConsumerS_R a.consumers ((((((left - (sz a.topology : Int)) - (sz a.trust : Int)) - (sz a.producers : Int)) - (sz a.nodes : Int)) - (sz a.failedLinks : Int)) - (sz a.inFlight : Int)) (ok_Network h).2.2.2.2.2.2.2.1 (by omega) (by omega) with r6 | ⟨q6, r6⟩
  · rw [r6]; exact .inl rfl
  rw [r6, dF (by omega), cond_false]
  exact .inr ⟨by omega, by omega⟩
theorem mk_Network (a : Network) (k : Int) (h0 : 0 ≤ k) (hb : k + 16 * (sz a : Int) ≤ 4611686018427387904) : MkR k (laws_markNetwork a k).1 (sz a) (laws_markNetwork a k).1 := by
  rw [sz_Network] at hb ⊢
  obtain ⟨p0, q0, e0⟩ := mk_Topology a.topology (k) (by omega) (by omega)
  have d0 := dF (show 0 ≤ (laws_markTopology a.topology (k)).1 by omega)
  have f0 : (laws_markNetwork a k).2.topology = (laws_markTopology a.topology (k)).2 := rfl
  obtain ⟨p1, q1, e1⟩ := mk_TrustPolicy a.trust ((laws_markTopology a.topology (k)).1) (by omega) (by omega)
  have d1 := dF (show 0 ≤ (laws_markTrustPolicy a.trust ((laws_markTopology a.topology (k)).1)).1 by omega)
  have f1 : (laws_markNetwork a k).2.trust = (laws_markTrustPolicy a.trust ((laws_markTopology a.topology (k)).1)).2 := rfl
  obtain ⟨p2, q2, e2⟩ := mk_TableEntryS a.producers ((laws_markTrustPolicy a.trust ((laws_markTopology a.topology (k)).1)).1) (by omega) (by omega)
  have d2 := dF (show 0 ≤ (laws_markTableEntryS a.producers ((laws_markTrustPolicy a.trust ((laws_markTopology a.topology (k)).1)).1)).1 by omega)
  have f2 : (laws_markNetwork a k).2.producers = (laws_markTableEntryS a.producers ((laws_markTrustPolicy a.trust ((laws_markTopology a.topology (k)).1)).1)).2 := rfl
  obtain ⟨p3, q3, e3⟩ := mk_NodeS a.nodes ((laws_markTableEntryS a.producers ((laws_markTrustPolicy a.trust ((laws_markTopology a.topology (k)).1)).1)).1) (by omega) (by omega)
  have d3 := dF (show 0 ≤ (laws_markNodeS a.nodes ((laws_markTableEntryS a.producers ((laws_markTrustPolicy a.trust ((laws_markTopology a.topology (k)).1)).1)).1)).1 by omega)
  have f3 : (laws_markNetwork a k).2.nodes = (laws_markNodeS a.nodes ((laws_markTableEntryS a.producers ((laws_markTrustPolicy a.trust ((laws_markTopology a.topology (k)).1)).1)).1)).2 := rfl
  obtain ⟨p4, q4, e4⟩ := mk_IntS a.failedLinks ((laws_markNodeS a.nodes ((laws_markTableEntryS a.producers ((laws_markTrustPolicy a.trust ((laws_markTopology a.topology (k)).1)).1)).1)).1) (by omega) (by omega)
  have d4 := dF (show 0 ≤ (laws_markIntS a.failedLinks ((laws_markNodeS a.nodes ((laws_markTableEntryS a.producers ((laws_markTrustPolicy a.trust ((laws_markTopology a.topology (k)).1)).1)).1)).1)).1 by omega)
  have f4 : (laws_markNetwork a k).2.failedLinks = (laws_markIntS a.failedLinks ((laws_markNodeS a.nodes ((laws_markTableEntryS a.producers ((laws_markTrustPolicy a.trust ((laws_markTopology a.topology (k)).1)).1)).1)).1)).2 := rfl
  obtain ⟨p5, q5, e5⟩ := mk_PacketInFlightS a.inFlight ((laws_markIntS a.failedLinks ((laws_markNodeS a.nodes ((laws_markTableEntryS a.producers ((laws_markTrustPolicy a.trust ((laws_markTopology a.topology (k)).1)).1)).1)).1)).1) (by omega) (by omega)
  have d5 := dF (show 0 ≤ (laws_markPacketInFlightS a.inFlight ((laws_markIntS a.failedLinks ((laws_markNodeS a.nodes ((laws_markTableEntryS a.producers ((laws_markTrustPolicy a.trust ((laws_markTopology a.topology (k)).1)).1)).1)).1)).1)).1 by omega)
  have f5 : (laws_markNetwork a k).2.inFlight = (laws_markPacketInFlightS a.inFlight ((laws_markIntS a.failedLinks ((laws_markNodeS a.nodes ((laws_markTableEntryS a.producers ((laws_markTrustPolicy a.trust ((laws_markTopology a.topology (k)).1)).1)).1)).1)).1)).2 := rfl
  obtain ⟨p6, q6, e6⟩ := mk_ConsumerS a.consumers ((laws_markPacketInFlightS a.inFlight ((laws_markIntS a.failedLinks ((laws_markNodeS a.nodes ((laws_markTableEntryS a.producers ((laws_markTrustPolicy a.trust ((laws_markTopology a.topology (k)).1)).1)).1)).1)).1)).1) (by omega) (by omega)
  have d6 := dF (show 0 ≤ (laws_markConsumerS a.consumers ((laws_markPacketInFlightS a.inFlight ((laws_markIntS a.failedLinks ((laws_markNodeS a.nodes ((laws_markTableEntryS a.producers ((laws_markTrustPolicy a.trust ((laws_markTopology a.topology (k)).1)).1)).1)).1)).1)).1)).1 by omega)
  have f6 : (laws_markNetwork a k).2.consumers = (laws_markConsumerS a.consumers ((laws_markPacketInFlightS a.inFlight ((laws_markIntS a.failedLinks ((laws_markNodeS a.nodes ((laws_markTableEntryS a.producers ((laws_markTrustPolicy a.trust ((laws_markTopology a.topology (k)).1)).1)).1)).1)).1)).1)).2 := rfl
  refine ⟨show k ≤ (laws_markConsumerS a.consumers ((laws_markPacketInFlightS a.inFlight ((laws_markIntS a.failedLinks ((laws_markNodeS a.nodes ((laws_markTableEntryS a.producers ((laws_markTrustPolicy a.trust ((laws_markTopology a.topology (k)).1)).1)).1)).1)).1)).1)).1 by omega, show (laws_markConsumerS a.consumers ((laws_markPacketInFlightS a.inFlight ((laws_markIntS a.failedLinks ((laws_markNodeS a.nodes ((laws_markTableEntryS a.producers ((laws_markTrustPolicy a.trust ((laws_markTopology a.topology (k)).1)).1)).1)).1)).1)).1)).1 ≤ _ by omega, rfl⟩
end Go.Stp

namespace Go.Stp
set_option linter.unusedVariables false
set_option linter.unusedSimpArgs false
def laws_FnExactLiveTopology (aW : Network) : Bool :=
  bif decide ((laws_szNetwork aW 1048576) < 0) then
    true
  else
    bif (!(laws_eqTopology (impl_LiveTopology (laws_toNetwork aW)) (spec_LiveTopology (laws_toNetwork aW)))) then
      false
    else
      bif (!(laws_eqNetwork (laws_toNetwork aW) (laws_toNetwork aW))) then
        false
      else
        bif decide ((laws_markNetwork (laws_toNetwork aW) 1).1 < 0) then
          false
        else
          bif decide ((laws_heldTopology ((laws_markTopology (impl_LiveTopology (laws_toNetwork aW)) 1).2) 1) < 0) then
            false
          else
            bif ((laws_heldTopology ((laws_markTopology (impl_LiveTopology (laws_toNetwork aW)) 1).2) 1) != (laws_markTopology (impl_LiveTopology (laws_toNetwork aW)) 1).1) then
              false
            else
              true
end Go.Stp

namespace Go.Proofs.YtfffongneoegbaaGreat
open Go.Stp
set_option linter.unusedVariables false
set_option linter.unusedSimpArgs false
theorem f8 (w : World) (n : Nat) (hn : n + 0 ≤ 9) (aW : Network) (paWTopologyLinks : Option Addr) (caWTopologyLinks : Nat) (hpaWTopologyLinks : RdSl (hp w) paWTopologyLinks caWTopologyLinks aW.topology.links) (paWTrustKeys : Option Addr) (caWTrustKeys : Nat) (hpaWTrustKeys : RdSl (hp w) paWTrustKeys caWTrustKeys aW.trust.keys) (paWTrustRules : Option Addr) (caWTrustRules : Nat) (hpaWTrustRules : RdSl (hp w) paWTrustRules caWTrustRules aW.trust.rules) (paWTrustAnchors : Option Addr) (caWTrustAnchors : Nat) (hpaWTrustAnchors : RdSl (hp w) paWTrustAnchors caWTrustAnchors aW.trust.anchors) (paWTrustCertificates : Option Addr) (caWTrustCertificates : Nat) (hpaWTrustCertificates : RdSl (hp w) paWTrustCertificates caWTrustCertificates aW.trust.certificates) (paWProducers : Option Addr) (caWProducers : Nat) (hpaWProducers : RdSl (hp w) paWProducers caWProducers aW.producers) (paWNodes : Option Addr) (caWNodes : Nat) (hpaWNodes : RdSl (hp w) paWNodes caWNodes aW.nodes) (paWFailedLinks : Option Addr) (caWFailedLinks : Nat) (hpaWFailedLinks : RdSl (hp w) paWFailedLinks caWFailedLinks aW.failedLinks) (paWInFlight : Option Addr) (caWInFlight : Nat) (hpaWInFlight : RdSl (hp w) paWInFlight caWInFlight aW.inFlight) (paWConsumers : Option Addr) (caWConsumers : Nat) (hpaWConsumers : RdSl (hp w) paWConsumers caWConsumers aW.consumers) (hokaW : GoT.ok 10 aW) :
    Does Tryz.prog 8 #[.agg #[.int .i64 (aW.topology.size), .slice paWTopologyLinks ((aW.topology.links).length) caWTopologyLinks, .slice paWTrustKeys ((aW.trust.keys).length) caWTrustKeys, .slice paWTrustRules ((aW.trust.rules).length) caWTrustRules, .slice paWTrustAnchors ((aW.trust.anchors).length) caWTrustAnchors, .slice paWTrustCertificates ((aW.trust.certificates).length) caWTrustCertificates, .slice paWProducers ((aW.producers).length) caWProducers, .slice paWNodes ((aW.nodes).length) caWNodes, .int .i64 (aW.downNodes), .slice paWFailedLinks ((aW.failedLinks).length) caWFailedLinks, .slice paWInFlight ((aW.inFlight).length) caWInFlight, .slice paWConsumers ((aW.consumers).length) caWConsumers, .int .i64 (aW.now), .int .i64 (aW.dropped)]] w emp (fun (rv : Value) (_ : World) => rv = .bool (laws_FnExactLiveTopology aW) ∧ True) := by
  have hbP := bd_pos n
  have hbB := bd_big (n := n) (by omega)
  refine WX.enter (tt := tt) (Γ := [(0, MF.rs .stb paWTopologyLinks caWTopologyLinks aW.topology.links), (1, MF.rs .stb paWTrustKeys caWTrustKeys aW.trust.keys), (2, MF.rs .stb paWTrustRules caWTrustRules aW.trust.rules), (3, MF.rs .stb paWTrustAnchors caWTrustAnchors aW.trust.anchors), (4, MF.rs .stb paWTrustCertificates caWTrustCertificates aW.trust.certificates), (5, MF.rs .stb paWProducers caWProducers aW.producers), (6, MF.rs .stb paWNodes caWNodes aW.nodes), (7, MF.rs .stb paWFailedLinks caWFailedLinks aW.failedLinks), (8, MF.rs .stb paWInFlight caWInFlight aW.inFlight), (9, MF.rs .stb paWConsumers caWConsumers aW.consumers)]) Tryz.func8 rfl (by kernel_rfl) rfl (allS_cons rfl hpaWTopologyLinks (allS_cons rfl hpaWTrustKeys (allS_cons rfl hpaWTrustRules (allS_cons rfl hpaWTrustAnchors (allS_cons rfl hpaWTrustCertificates (allS_cons rfl hpaWProducers (allS_cons rfl hpaWNodes (allS_cons rfl hpaWFailedLinks (allS_cons rfl hpaWInFlight (allS_cons rfl hpaWConsumers allS_nil)))))))))) ?_
  refine WX.run ttOk rfl ?_
  refine WX.callV rfl rfl rfl rfl rfl (fun _ => rfl) rfl (fun w G bs hI hΓ => f43 w 10 aW paWTopologyLinks caWTopologyLinks (hΓ.get 0 rfl) paWTrustKeys caWTrustKeys (hΓ.get 1 rfl) paWTrustRules caWTrustRules (hΓ.get 2 rfl) paWTrustAnchors caWTrustAnchors (hΓ.get 3 rfl) paWTrustCertificates caWTrustCertificates (hΓ.get 4 rfl) paWProducers caWProducers (hΓ.get 5 rfl) paWNodes caWNodes (hΓ.get 6 rfl) paWFailedLinks caWFailedLinks (hΓ.get 7 rfl) paWInFlight caWInFlight (hΓ.get 8 rfl) paWConsumers caWConsumers (hΓ.get 9 rfl) 1048576 hokaW (show I64 1048576 from (by unfold I64; omega))) ?_
  intro hq1
  refine WX.run ttOk rfl ?_
  refine WX.cases 15 rfl (fun h1 => ?_) (fun h1 => ?_)
  · skip
    have h1d := B.dt h1
    refine WX.run ttOk rfl ?_
    have hP1 : laws_FnExactLiveTopology aW = true := by simp only [laws_FnExactLiveTopology, h1, cond_true, cond_false]
    refine WX.ret ttOk rfl ?_
    intro w1 G bs hI hΓ
    rw [hP1]
    exact ⟨rfl, trivial⟩
  · skip
    have h1d := B.df h1
    obtain ⟨hs1, ht1⟩ := (sz_Network_R aW 1048576 hokaW (by omega) (by omega)).pos (by omega)
    have hk1 : GoT.ok n aW := GoT.okm (Nat.zero_le n) (Sz.low hokaW (show sz aW ≤ 1048576 by omega))
    refine WX.run ttOk rfl ?_
    refine WX.callF 10 (fun _ _ h => GoT.ow_rd h) (fun _ f hf => GoT.fak f hf) rfl rfl rfl rfl rfl (fun _ => rfl) rfl (fun w G bs hI hΓ => f45 w n (by omega) aW paWTopologyLinks caWTopologyLinks (hΓ.get 0 rfl) paWTrustKeys caWTrustKeys (hΓ.get 1 rfl) paWTrustRules caWTrustRules (hΓ.get 2 rfl) paWTrustAnchors caWTrustAnchors (hΓ.get 3 rfl) paWTrustCertificates caWTrustCertificates (hΓ.get 4 rfl) paWProducers caWProducers (hΓ.get 5 rfl) paWNodes caWNodes (hΓ.get 6 rfl) paWFailedLinks caWFailedLinks (hΓ.get 7 rfl) paWInFlight caWInFlight (hΓ.get 8 rfl) paWConsumers caWConsumers (hΓ.get 9 rfl) hk1) (fun _ => rfl) (fun _ => rfl) ?_
    rintro ⟨⟨⟨⟩, ⟨p1, c1⟩⟩, ⟨⟨p2, c2⟩, ⟨p3, c3⟩, ⟨p4, c4⟩, ⟨p5, c5⟩⟩, ⟨p6, c6⟩, ⟨p7, c7⟩, ⟨⟩, ⟨p8, c8⟩, ⟨p9, c9⟩, ⟨p10, c10⟩, ⟨⟩, ⟨⟩⟩ hq2
    refine WX.callF 30 (fun _ _ h => GoT.ow_rd h) (fun _ f hf => GoT.fak f hf) rfl rfl rfl rfl rfl (fun _ => rfl) rfl (fun w G bs hI hΓ => f48 w n (by omega) (laws_toNetwork aW) p1 c1 (hΓ.get 10 rfl) p2 c2 (hΓ.get 11 rfl) p3 c3 (hΓ.get 12 rfl) p4 c4 (hΓ.get 13 rfl) p5 c5 (hΓ.get 14 rfl) p6 c6 (hΓ.get 15 rfl) p7 c7 (hΓ.get 16 rfl) p8 c8 (hΓ.get 17 rfl) p9 c9 (hΓ.get 18 rfl) p10 c10 (hΓ.get 19 rfl) hq2) (fun _ => rfl) (fun _ => rfl) ?_
    rintro ⟨⟨⟩, ⟨p11, c11⟩⟩ hq3
    refine WX.run ttOk rfl ?_
    refine WX.callF 32 (fun _ _ h => GoT.ow_rd h) (fun _ f hf => GoT.fak f hf) rfl rfl rfl rfl rfl (fun _ => rfl) rfl (fun w G bs hI hΓ => f45 w n (by omega) aW paWTopologyLinks caWTopologyLinks (hΓ.get 0 rfl) paWTrustKeys caWTrustKeys (hΓ.get 1 rfl) paWTrustRules caWTrustRules (hΓ.get 2 rfl) paWTrustAnchors caWTrustAnchors (hΓ.get 3 rfl) paWTrustCertificates caWTrustCertificates (hΓ.get 4 rfl) paWProducers caWProducers (hΓ.get 5 rfl) paWNodes caWNodes (hΓ.get 6 rfl) paWFailedLinks caWFailedLinks (hΓ.get 7 rfl) paWInFlight caWInFlight (hΓ.get 8 rfl) paWConsumers caWConsumers (hΓ.get 9 rfl) hk1) (fun _ => rfl) (fun _ => rfl) ?_
    rintro ⟨⟨⟨⟩, ⟨p12, c12⟩⟩, ⟨⟨p13, c13⟩, ⟨p14, c14⟩, ⟨p15, c15⟩, ⟨p16, c16⟩⟩, ⟨p17, c17⟩, ⟨p18, c18⟩, ⟨⟩, ⟨p19, c19⟩, ⟨p20, c20⟩, ⟨p21, c21⟩, ⟨⟩, ⟨⟩⟩ hq4
    refine WX.run ttOk rfl ?_
    refine WX.callF 52 (fun _ _ h => GoT.ow_rd h) (fun _ f hf => GoT.fak f hf) rfl rfl rfl rfl rfl (fun _ => rfl) rfl (fun w G bs hI hΓ => f49 w n (by omega) (laws_toNetwork aW) p12 c12 (hΓ.get 32 rfl) p13 c13 (hΓ.get 33 rfl) p14 c14 (hΓ.get 34 rfl) p15 c15 (hΓ.get 35 rfl) p16 c16 (hΓ.get 36 rfl) p17 c17 (hΓ.get 37 rfl) p18 c18 (hΓ.get 38 rfl) p19 c19 (hΓ.get 39 rfl) p20 c20 (hΓ.get 40 rfl) p21 c21 (hΓ.get 41 rfl) (And.intro (And.intro (ok_Topology (ok_Network hq2).1).1 (ok_Topology (ok_Network hq4).1).2) (And.intro (ok_Network hq4).2.1 (And.intro (ok_Network hq4).2.2.1 (And.intro (ok_Network hq4).2.2.2.1 (And.intro (ok_Network hq2).2.2.2.2.1 (And.intro (ok_Network hq4).2.2.2.2.2.1 (And.intro (ok_Network hq4).2.2.2.2.2.2.1 (And.intro (ok_Network hq4).2.2.2.2.2.2.2.1 (And.intro (ok_Network hq2).2.2.2.2.2.2.2.2.1 (ok_Network hq2).2.2.2.2.2.2.2.2.2)))))))))) (fun _ => rfl) (fun _ => rfl) ?_
    rintro ⟨⟨⟩, ⟨p22, c22⟩⟩ hq5
    refine WX.run ttOk rfl ?_
    refine WX.callV rfl rfl rfl rfl rfl (fun _ => rfl) rfl (fun w G bs hI hΓ => f50 w n (by omega) (impl_LiveTopology (laws_toNetwork aW)) p22 c22 (hΓ.get 52 rfl) (spec_LiveTopology (laws_toNetwork aW)) p11 c11 (hΓ.get 30 rfl) hq5 hq3) ?_
    intro hq6
    refine WX.run ttOk rfl ?_
    refine WX.cases 26 rfl (fun h2 => ?_) (fun h2 => ?_)
    · skip
      have h2d := (B.nt h2)
      refine WX.run ttOk rfl ?_
      have hP2 : laws_FnExactLiveTopology aW = false := by simp only [laws_FnExactLiveTopology, h1, h2, cond_true, cond_false]
      refine WX.ret ttOk rfl ?_
      intro w1 G bs hI hΓ
      rw [hP2]
      exact ⟨rfl, trivial⟩
    · skip
      have h2d := (B.nf h2)
      refine WX.run ttOk rfl ?_
      refine WX.draw [] mixed ?_
      intro bs G0 hΓ0
      refine DX.takes (fuel := 3) ttOk [(0, false), (1, false)] (by kernel_rfl) rfl ?_
      refine DX.callF 2 54 (fun _ _ h => GoT.ow_rd h) (fun _ f hf => GoT.fak f hf) rfl (by kernel_rfl) rfl rfl rfl rfl rfl rfl (fun _ => rfl) rfl (fun w G bs hI hΓ => f45 w n (by omega) aW paWTopologyLinks caWTopologyLinks (hΓ.get 0 rfl) paWTrustKeys caWTrustKeys (hΓ.get 1 rfl) paWTrustRules caWTrustRules (hΓ.get 2 rfl) paWTrustAnchors caWTrustAnchors (hΓ.get 3 rfl) paWTrustCertificates caWTrustCertificates (hΓ.get 4 rfl) paWProducers caWProducers (hΓ.get 5 rfl) paWNodes caWNodes (hΓ.get 6 rfl) paWFailedLinks caWFailedLinks (hΓ.get 7 rfl) paWInFlight caWInFlight (hΓ.get 8 rfl) paWConsumers caWConsumers (hΓ.get 9 rfl) hk1) (fun _ => rfl) (fun _ => rfl) ?_
      rintro ⟨⟨⟨⟩, ⟨p23, c23⟩⟩, ⟨⟨p24, c24⟩, ⟨p25, c25⟩, ⟨p26, c26⟩, ⟨p27, c27⟩⟩, ⟨p28, c28⟩, ⟨p29, c29⟩, ⟨⟩, ⟨p30, c30⟩, ⟨p31, c31⟩, ⟨p32, c32⟩, ⟨⟩, ⟨⟩⟩ hq7
      refine DX.callV 3 rfl (by kernel_rfl) rfl rfl rfl rfl rfl rfl (fun _ => rfl) rfl (fun w G bs hI hΓ => f47 w n (by omega) (laws_toNetwork aW) p12 c12 (hΓ.get 32 rfl) p13 c13 (hΓ.get 33 rfl) p14 c14 (hΓ.get 34 rfl) p15 c15 (hΓ.get 35 rfl) p16 c16 (hΓ.get 36 rfl) p17 c17 (hΓ.get 37 rfl) p18 c18 (hΓ.get 38 rfl) p19 c19 (hΓ.get 39 rfl) p20 c20 (hΓ.get 40 rfl) p21 c21 (hΓ.get 41 rfl) (laws_toNetwork aW) p23 c23 (hΓ.get 54 rfl) p24 c24 (hΓ.get 55 rfl) p25 c25 (hΓ.get 56 rfl) p26 c26 (hΓ.get 57 rfl) p27 c27 (hΓ.get 58 rfl) p28 c28 (hΓ.get 59 rfl) p29 c29 (hΓ.get 60 rfl) p30 c30 (hΓ.get 61 rfl) p31 c31 (hΓ.get 62 rfl) p32 c32 (hΓ.get 63 rfl) (And.intro (And.intro (ok_Topology (ok_Network hq2).1).1 (ok_Topology (ok_Network hq4).1).2) (And.intro (ok_Network hq4).2.1 (And.intro (ok_Network hq4).2.2.1 (And.intro (ok_Network hq4).2.2.2.1 (And.intro (ok_Network hq2).2.2.2.2.1 (And.intro (ok_Network hq4).2.2.2.2.2.1 (And.intro (ok_Network hq4).2.2.2.2.2.2.1 (And.intro (ok_Network hq4).2.2.2.2.2.2.2.1 (And.intro (ok_Network hq2).2.2.2.2.2.2.2.2.1 (ok_Network hq2).2.2.2.2.2.2.2.2.2))))))))) (And.intro (And.intro (ok_Topology (ok_Network hq2).1).1 (ok_Topology (ok_Network hq7).1).2) (And.intro (ok_Network hq7).2.1 (And.intro (ok_Network hq7).2.2.1 (And.intro (ok_Network hq7).2.2.2.1 (And.intro (ok_Network hq2).2.2.2.2.1 (And.intro (ok_Network hq7).2.2.2.2.2.1 (And.intro (ok_Network hq7).2.2.2.2.2.2.1 (And.intro (ok_Network hq7).2.2.2.2.2.2.2.1 (And.intro (ok_Network hq2).2.2.2.2.2.2.2.2.1 (ok_Network hq2).2.2.2.2.2.2.2.2.2)))))))))) ?_
      intro hq8
      refine DX.takes (fuel := 0) ttOk [(4, true)] (by kernel_rfl) rfl ?_
      refine DX.tail2 [] rfl rfl (by kernel_rfl) ?_
      refine WX.run ttOk rfl ?_
      refine WX.cases 31 rfl (fun h3 => ?_) (fun h3 => ?_)
      · skip
        have h3d := (B.nt h3)
        refine WX.run ttOk rfl ?_
        have hP3 : laws_FnExactLiveTopology aW = false := by simp only [laws_FnExactLiveTopology, h1, h2, h3, cond_true, cond_false]
        refine WX.ret ttOk rfl ?_
        intro w1 G bs hI hΓ
        rw [hP3]
        exact ⟨rfl, trivial⟩
      · skip
        have h3d := (B.nf h3)
        refine WX.run ttOk rfl ?_
        refine WX.callM [42, 43, 44, 45, 46, 47, 48, 49, 50, 51] 74 rfl (fun _ _ h => GoT.ow_rd h) (fun _ f hf => GoT.fak f hf) rfl rfl rfl rfl rfl (fun _ => rfl) rfl (fun w G bs H hI hH hs hΓ => f51 w n (by omega) (laws_toNetwork aW) p12 c12 p13 c13 p14 c14 p15 c15 p16 c16 p17 c17 p18 c18 p19 c19 p20 c20 p21 c21 1 H hH hs (And.intro (And.intro (ok_Topology (ok_Network hq2).1).1 (ok_Topology (ok_Network hq4).1).2) (And.intro (ok_Network hq4).2.1 (And.intro (ok_Network hq4).2.2.1 (And.intro (ok_Network hq4).2.2.2.1 (And.intro (ok_Network hq2).2.2.2.2.1 (And.intro (ok_Network hq4).2.2.2.2.2.1 (And.intro (ok_Network hq4).2.2.2.2.2.2.1 (And.intro (ok_Network hq4).2.2.2.2.2.2.2.1 (And.intro (ok_Network hq2).2.2.2.2.2.2.2.2.1 (ok_Network hq2).2.2.2.2.2.2.2.2.2))))))))) (show I64 1 from (by unfold I64; omega))) (fun _ => rfl) (fun _ => rfl) ?_
        rintro ⟨⟩ hq9
        have hl1 : ((laws_markNetwork (laws_toNetwork aW) 1).2.topology.links).length = ((laws_toNetwork aW).topology.links).length := hq9.2.2.1
        have hl2 : ((laws_markNetwork (laws_toNetwork aW) 1).2.trust.keys).length = ((laws_toNetwork aW).trust.keys).length := hq9.2.2.2.1
        have hl3 : ((laws_markNetwork (laws_toNetwork aW) 1).2.trust.rules).length = ((laws_toNetwork aW).trust.rules).length := hq9.2.2.2.2.1
        have hl4 : ((laws_markNetwork (laws_toNetwork aW) 1).2.trust.anchors).length = ((laws_toNetwork aW).trust.anchors).length := hq9.2.2.2.2.2.1
        have hl5 : ((laws_markNetwork (laws_toNetwork aW) 1).2.trust.certificates).length = ((laws_toNetwork aW).trust.certificates).length := hq9.2.2.2.2.2.2.1
        have hl6 : ((laws_markNetwork (laws_toNetwork aW) 1).2.producers).length = ((laws_toNetwork aW).producers).length := hq9.2.2.2.2.2.2.2.1
        have hl7 : ((laws_markNetwork (laws_toNetwork aW) 1).2.nodes).length = ((laws_toNetwork aW).nodes).length := hq9.2.2.2.2.2.2.2.2.1
        have hl8 : ((laws_markNetwork (laws_toNetwork aW) 1).2.failedLinks).length = ((laws_toNetwork aW).failedLinks).length := hq9.2.2.2.2.2.2.2.2.2.2.1
        have hl9 : ((laws_markNetwork (laws_toNetwork aW) 1).2.inFlight).length = ((laws_toNetwork aW).inFlight).length := hq9.2.2.2.2.2.2.2.2.2.2.2.1
        have hl10 : ((laws_markNetwork (laws_toNetwork aW) 1).2.consumers).length = ((laws_toNetwork aW).consumers).length := hq9.2.2.2.2.2.2.2.2.2.2.2.2.1
        refine WX.run ttOk rfl ?_
        refine WX.cases 37 rfl (fun h4 => ?_) (fun h4 => ?_)
        · skip
          have h4d := B.dt h4
          refine WX.run ttOk rfl ?_
          have hP4 : laws_FnExactLiveTopology aW = false := by simp only [laws_FnExactLiveTopology, h1, h2, h3, h4, cond_true, cond_false]
          refine WX.ret ttOk rfl ?_
          intro w1 G bs hI hΓ
          rw [hP4]
          exact ⟨rfl, trivial⟩
        · skip
          have h4d := B.df h4
          refine WX.run ttOk rfl ?_
          refine WX.der 94 (MF.rs .der p22 c22 ((impl_LiveTopology (laws_toNetwork aW)).links)) rfl (fun _ hΓ => (hΓ.get 53 rfl : OwSl _ _ _ _).rd) ?_
          refine WX.der 95 (MF.rs .der p11 c11 ((spec_LiveTopology (laws_toNetwork aW)).links)) rfl (fun _ hΓ => (hΓ.get 31 rfl : OwSl _ _ _ _).rd) ?_
          refine WX.callV rfl rfl rfl rfl rfl (fun _ => rfl) rfl (fun w G bs hI hΓ => f50 w n (by omega) (impl_LiveTopology (laws_toNetwork aW)) p22 c22 (hΓ.get 94 rfl) (spec_LiveTopology (laws_toNetwork aW)) p11 c11 (hΓ.get 95 rfl) hq5 hq3) ?_
          intro hq10
          refine WX.run ttOk rfl ?_
          refine WX.cases 42 rfl (fun h5 => ?_) (fun h5 => ?_)
          · skip
            have h5d := (B.nt h5)
            exact absurd (h2.symm.trans h5) Bool.false_ne_true
          · skip
            have h5d := (B.nf h5)
            refine WX.run ttOk rfl ?_
            refine WX.callM [53] 96 rfl (fun _ _ h => GoT.ow_rd h) (fun _ f hf => GoT.fak f hf) rfl rfl rfl rfl rfl (fun _ => rfl) rfl (fun w G bs H hI hH hs hΓ => f52 w n (by omega) (impl_LiveTopology (laws_toNetwork aW)) p22 c22 1 H hH hs hq5 (show I64 1 from (by unfold I64; omega))) (fun _ => rfl) (fun _ => rfl) ?_
            rintro ⟨⟩ hq11
            have hl11 : ((laws_markTopology (impl_LiveTopology (laws_toNetwork aW)) 1).2.links).length = ((impl_LiveTopology (laws_toNetwork aW)).links).length := hq11.2.2
            refine WX.run ttOk rfl ?_
            have hi5 : (laws_markTopology (impl_LiveTopology (laws_toNetwork aW)) 1).2.size = (impl_LiveTopology (laws_toNetwork aW)).size := hq11.2.1
            refine WX.slot 46 (y := .v (.agg #[.int .i64 ((laws_markTopology (impl_LiveTopology (laws_toNetwork aW)) 1).2.size), .slice p22 (((laws_markTopology (impl_LiveTopology (laws_toNetwork aW)) 1).2.links).length) c22])) rfl (fun _ => by show (.agg #[.int .i64 ((impl_LiveTopology (laws_toNetwork aW)).size), .slice p22 (((impl_LiveTopology (laws_toNetwork aW)).links).length) c22] : Value) = .agg #[.int .i64 ((laws_markTopology (impl_LiveTopology (laws_toNetwork aW)) 1).2.size), .slice p22 (((laws_markTopology (impl_LiveTopology (laws_toNetwork aW)) 1).2.links).length) c22]; simp only [hl11, hi5]) ?_
            refine WX.callV rfl rfl rfl rfl rfl (fun _ => rfl) rfl (fun w G bs hI hΓ => f53 w n (by omega) ((laws_markTopology (impl_LiveTopology (laws_toNetwork aW)) 1).2) p22 c22 (hΓ.get 96 rfl) 1 hq11.1.2 (show I64 1 from (by unfold I64; omega))) ?_
            intro hq12
            refine WX.run ttOk rfl ?_
            refine WX.cases 50 rfl (fun h6 => ?_) (fun h6 => ?_)
            · skip
              have h6d := B.dt h6
              refine WX.run ttOk rfl ?_
              have hP5 : laws_FnExactLiveTopology aW = false := by simp only [laws_FnExactLiveTopology, h1, h2, h3, h4, h5, h6, cond_true, cond_false]
              refine WX.ret ttOk rfl ?_
              intro w1 G bs hI hΓ
              rw [hP5]
              exact ⟨rfl, trivial⟩
            · skip
              have h6d := B.df h6
              refine WX.run ttOk rfl ?_
              refine WX.cases 53 rfl (fun h7 => ?_) (fun h7 => ?_)
              · skip
                have h7d := B.nt' h7
                refine WX.run ttOk rfl ?_
                have hP6 : laws_FnExactLiveTopology aW = false := by simp only [laws_FnExactLiveTopology, h1, h2, h3, h4, h5, h6, h7, cond_true, cond_false]
                refine WX.ret ttOk rfl ?_
                intro w1 G bs hI hΓ
                rw [hP6]
                exact ⟨rfl, trivial⟩
              · skip
                have h7d := B.nf' h7
                refine WX.run ttOk rfl ?_
                refine WX.callF 98 (fun _ _ h => GoT.ow_rd h) (fun _ f hf => GoT.fak f hf) rfl rfl rfl rfl rfl (fun _ => rfl) rfl (fun w G bs hI hΓ => f45 w n (by omega) aW paWTopologyLinks caWTopologyLinks (hΓ.get 0 rfl) paWTrustKeys caWTrustKeys (hΓ.get 1 rfl) paWTrustRules caWTrustRules (hΓ.get 2 rfl) paWTrustAnchors caWTrustAnchors (hΓ.get 3 rfl) paWTrustCertificates caWTrustCertificates (hΓ.get 4 rfl) paWProducers caWProducers (hΓ.get 5 rfl) paWNodes caWNodes (hΓ.get 6 rfl) paWFailedLinks caWFailedLinks (hΓ.get 7 rfl) paWInFlight caWInFlight (hΓ.get 8 rfl) paWConsumers caWConsumers (hΓ.get 9 rfl) hk1) (fun _ => rfl) (fun _ => rfl) ?_
                rintro ⟨⟨⟨⟩, ⟨p33, c33⟩⟩, ⟨⟨p34, c34⟩, ⟨p35, c35⟩, ⟨p36, c36⟩, ⟨p37, c37⟩⟩, ⟨p38, c38⟩, ⟨p39, c39⟩, ⟨⟩, ⟨p40, c40⟩, ⟨p41, c41⟩, ⟨p42, c42⟩, ⟨⟩, ⟨⟩⟩ hq13
                refine WX.callF 118 (fun _ _ h => GoT.ow_rd h) (fun _ f hf => GoT.fak f hf) rfl rfl rfl rfl rfl (fun _ => rfl) rfl (fun w G bs hI hΓ => f49 w n (by omega) (laws_toNetwork aW) p33 c33 (hΓ.get 98 rfl) p34 c34 (hΓ.get 99 rfl) p35 c35 (hΓ.get 100 rfl) p36 c36 (hΓ.get 101 rfl) p37 c37 (hΓ.get 102 rfl) p38 c38 (hΓ.get 103 rfl) p39 c39 (hΓ.get 104 rfl) p40 c40 (hΓ.get 105 rfl) p41 c41 (hΓ.get 106 rfl) p42 c42 (hΓ.get 107 rfl) (And.intro (And.intro (ok_Topology (ok_Network hq2).1).1 (ok_Topology (ok_Network hq13).1).2) (And.intro (ok_Network hq13).2.1 (And.intro (ok_Network hq13).2.2.1 (And.intro (ok_Network hq13).2.2.2.1 (And.intro (ok_Network hq2).2.2.2.2.1 (And.intro (ok_Network hq13).2.2.2.2.2.1 (And.intro (ok_Network hq13).2.2.2.2.2.2.1 (And.intro (ok_Network hq13).2.2.2.2.2.2.2.1 (And.intro (ok_Network hq2).2.2.2.2.2.2.2.2.1 (ok_Network hq2).2.2.2.2.2.2.2.2.2)))))))))) (fun _ => rfl) (fun _ => rfl) ?_
                rintro ⟨⟨⟩, ⟨p43, c43⟩⟩ hq14
                refine WX.run ttOk rfl ?_
                refine WX.der 120 (MF.rs .der p11 c11 ((spec_LiveTopology (laws_toNetwork aW)).links)) rfl (fun _ hΓ => (hΓ.get 31 rfl : OwSl _ _ _ _).rd) ?_
                refine WX.callV rfl rfl rfl rfl rfl (fun _ => rfl) rfl (fun w G bs hI hΓ => f50 w n (by omega) (impl_LiveTopology (laws_toNetwork aW)) p43 c43 (hΓ.get 118 rfl) (spec_LiveTopology (laws_toNetwork aW)) p11 c11 (hΓ.get 120 rfl) (And.intro (ok_Topology hq5).1 (ok_Topology hq14).2) hq3) ?_
                intro hq15
                refine WX.run ttOk rfl ?_
                refine WX.cases 60 rfl (fun h8 => ?_) (fun h8 => ?_)
                · skip
                  have h8d := (B.nt h8)
                  exact absurd (h2.symm.trans h8) Bool.false_ne_true
                · skip
                  have h8d := (B.nf h8)
                  refine WX.run ttOk rfl ?_
                  refine WX.slot 61 (y := .v (.agg #[.int .i64 ((laws_markTopology (impl_LiveTopology (laws_toNetwork aW)) 1).2.size), .slice p22 (((laws_markTopology (impl_LiveTopology (laws_toNetwork aW)) 1).2.links).length) c22])) rfl (fun _ => by show (.agg #[.int .i64 ((impl_LiveTopology (laws_toNetwork aW)).size), .slice p22 (((impl_LiveTopology (laws_toNetwork aW)).links).length) c22] : Value) = .agg #[.int .i64 ((laws_markTopology (impl_LiveTopology (laws_toNetwork aW)) 1).2.size), .slice p22 (((laws_markTopology (impl_LiveTopology (laws_toNetwork aW)) 1).2.links).length) c22]; simp only [hl11, hi5]) ?_
                  refine WX.callV rfl rfl rfl rfl rfl (fun _ => rfl) rfl (fun w G bs hI hΓ => f53 w n (by omega) ((laws_markTopology (impl_LiveTopology (laws_toNetwork aW)) 1).2) p22 c22 (hΓ.get 96 rfl) 1 hq11.1.2 (show I64 1 from (by unfold I64; omega))) ?_
                  intro hq16
                  refine WX.run ttOk rfl ?_
                  refine WX.cases 65 rfl (fun h9 => ?_) (fun h9 => ?_)
                  · skip
                    have h9d := B.dt h9
                    exact absurd (h6.symm.trans h9) Bool.false_ne_true
                  · skip
                    have h9d := B.df h9
                    refine WX.run ttOk rfl ?_
                    refine WX.cases 68 rfl (fun h10 => ?_) (fun h10 => ?_)
                    · skip
                      have h10d := B.nt' h10
                      exact absurd (h7.symm.trans h10) Bool.false_ne_true
                    · skip
                      have h10d := B.nf' h10
                      refine WX.run ttOk rfl ?_
                      have hP7 : laws_FnExactLiveTopology aW = true := by simp only [laws_FnExactLiveTopology, h1, h2, h3, h4, h5, h6, h7, h8, h9, h10, cond_true, cond_false]
                      refine WX.ret ttOk rfl ?_
                      intro w1 G bs hI hΓ
                      rw [hP7]
                      exact ⟨rfl, trivial⟩
end Go.Proofs.YtfffongneoegbaaGreat

namespace Go.Stp
set_option linter.unusedVariables false
set_option linter.unusedSimpArgs false
inductive PutShape (l : List TableEntry) (n_ : Name) (v : Int) : List TableEntry → Prop
  | same : PutShape l n_ v l
  | nil : PutShape l n_ v []
  | set (i : Nat) (e : TableEntry) (h : l[i]? = some e) : PutShape l n_ v (l.set i ⟨e.name, v⟩)
  | ins (i : Nat) : PutShape l n_ v (l.take i ++ [⟨n_, v⟩] ++ l.drop i)
theorem PutShape.len {l r : List TableEntry} {n_ : Name} {v : Int} (h : PutShape l n_ v r) : r.length ≤ l.length + 1 := by
  cases h with
  | same => exact Nat.le_succ _
  | nil => exact Nat.zero_le _
  | set i e h => rw [List.length_set]; exact Nat.le_succ _
  | ins i => simp only [List.length_append, List.length_take, List.length_drop, List.length_cons, List.length_nil]; omega
end Go.Stp

namespace Go.Stp
set_option linter.unusedVariables false
set_option linter.unusedSimpArgs false
inductive ApShape (m : Member) (x_ : Publication) : Member → Prop
  | same : ApShape m x_ m
  | put (l : List TableEntry) (h : PutShape m.vector.entries x_.publisher x_.seq l) : ApShape m x_ ⟨m.name, ⟨l⟩, m.publications ++ [x_]⟩
end Go.Stp

namespace Go.Stp
set_option linter.unusedVariables false
set_option linter.unusedSimpArgs false
instance ctlInh22 {α β : Type} [Inhabited α] : Inhabited (Ctl α β) := ⟨.ret default⟩
end Go.Stp

namespace Go.Stp
set_option linter.unusedVariables false
set_option linter.unusedSimpArgs false
theorem same_In (a b c : Int) : impl_InRange a b c = spec_l1In a b c := rfl
theorem same_inSet (a i : Int) : impl_inSet a i = spec_l19In a i := by
  simp only [impl_inSet, spec_l19In, same_In]
  cases decide (a ≥ 0) <;> cases spec_l1In i 0 30 <;> rfl
theorem szL_append {α : Type} [GoT α] [Sz α] (a b : List α) : szL (a ++ b) = szL a + szL b := by simp [szL]
theorem szL_set {α : Type} [GoT α] [Sz α] (x y : α) (hxy : sz x = sz y) : ∀ (l : List α) (i : Nat), l[i]? = some y → szL (l.set i x) = szL l
  | [], i, h => by simp at h
  | z :: l, 0, h => by
    simp at h; subst h
    rw [List.set_cons_zero, szL_cons, szL_cons, hxy]
  | z :: l, i + 1, h => by
    rw [List.set_cons_succ, szL_cons, szL_cons, szL_set x y hxy l i (by simpa using h)]
theorem PutShape.size {l r : List TableEntry} {n_ : Name} {v : Int} (h : PutShape l n_ v r) : sz r ≤ sz l + 1 + sz n_ := by
  cases h with
  | same => omega
  | nil => simp [sz_list, szL_nil]
  | set i e h =>
    have := szL_set ⟨e.name, v⟩ e (by rw [sz_TableEntry, sz_TableEntry]) l i h
    rw [sz_list, sz_list, List.length_set, this]; omega
  | ins i =>
    have h1 := szL_append (l.take i) (l.drop i)
    rw [List.take_append_drop] at h1
    have h2 : szL [(⟨n_, v⟩ : TableEntry)] = sz n_ := by simp [szL, sz_TableEntry]
    rw [sz_list, sz_list, szL_append, szL_append, h2]
    simp only [List.length_append, List.length_take, List.length_drop, List.length_cons, List.length_nil]
    omega
theorem ixiL (v : Int) : ∀ (l : List Int) (i : Nat), (slices_Index_int_L1 v l i = none ∧ spec_l19Has_L1 v l = none) ∨ (∃ j : Nat, slices_Index_int_L1 v l i = some (j : Int)) ∧ spec_l19Has_L1 v l = some true
  | [], i => .inl ⟨rfl, rfl⟩
  | x :: l, i => by
    simp only [slices_Index_int_L1, spec_l19Has_L1]
    have e : (v == x) = (x == v) := BEq.comm
    rw [e]
    cases x == v
    · exact ixiL v l (i + 1)
    · exact .inr ⟨⟨i, rfl⟩, rfl⟩
theorem same_Has (l : List Int) (v : Int) : slices_Contains_int l v = spec_l19Has l v := by
  unfold slices_Contains_int slices_Index_int spec_l19Has
  rcases ixiL v l 0 with ⟨h1, h2⟩ | ⟨⟨j, h1⟩, h2⟩
  · rw [h1, h2]; rfl
  · rw [h1, h2]
    exact decide_eq_true (show ((j : Nat) : Int) ≥ 0 by omega)
theorem rfL (f : List Int) (d : Int) : ∀ (l : List Link) (i : Nat) (o : List Link), impl_RemoveFailed_L1 f d l i o = spec_RemoveFailed_L1 f d l i o
  | [], i, o => rfl
  | x :: l, i, o => by
    simp only [impl_RemoveFailed_L1, spec_RemoveFailed_L1, same_Has, same_inSet, rfL f d l]
theorem same_RemoveFailed (n_ : Topology) (f : List Int) (d : Int) : impl_RemoveFailed n_ f d = spec_RemoveFailed n_ f d := by
  simp only [impl_RemoveFailed, spec_RemoveFailed, rfL]
theorem same_LiveTopology' (w_ : Network) : impl_LiveTopology w_ = spec_LiveTopology w_ := same_RemoveFailed _ _ _
theorem rfB (f : List Int) (d : Int) : ∀ (l : List Link) (i : Nat) (o : List Link), (spec_RemoveFailed_L1 f d l i o).length ≤ o.length + l.length
  | [], i, o => by simp [spec_RemoveFailed_L1]
  | x :: l, i, o => by
    have h1 := rfB f d l (i + 1) (o ++ [x])
    have h2 := rfB f d l (i + 1) o
    simp only [List.length_append, List.length_cons, List.length_nil] at h1 ⊢
    simp only [spec_RemoveFailed_L1]
    cases (!(spec_l19Has f ((i : Nat) : Int))) <;> cases (!(spec_l19In d x.a)) <;> cases (!(spec_l19In d x.b)) <;> simp only [cond_true, cond_false] <;> omega
theorem szL_link : ∀ (l : List Link), szL l = 0
  | [] => szL_nil
  | x :: l => by rw [szL_cons, sz_Link, szL_link l]
theorem bnd_LiveTopology (w_ : Network) : sz (spec_LiveTopology w_) ≤ sz w_ := by
  have h := rfB w_.failedLinks w_.downNodes w_.topology.links 0 []
  simp only [spec_LiveTopology, spec_RemoveFailed]
  rw [sz_Topology, sz_Network, sz_Topology, sz_list (spec_RemoveFailed_L1 _ _ _ _ _), sz_list w_.topology.links, szL_link, szL_link]
  simp only [List.length_nil] at h
  omega
end Go.Stp

namespace Go.Stp
open Go.RowKit (Below)
open GoT (X k ok sh fa oa)
def Opens (P : Program) (T : TypeId) (α : Type) [GoT α] : Prop :=
  P.cellsOf T = k α ∧ ∀ {H : Type} {enc : TypeId × Value → H} {w : World} {spare : Nat → Bool} {held : Bool} {fuel : Nat} {cs : List Value} {x : DataW H × List MemPlace}, DataW.trod enc P w 0 spare held fuel T cs = some x →
    ∃ (a : α) (y : X α), cs = sh a y ∧ ok 10 a ∧ All (hp w) (fa .der a y)
theorem opens_int {P : Program} {T : TypeId} (h : P.underlying T = some (.int .i64)) (hc : P.cellsOf T = 1) : Opens P T Int := ⟨hc, fun h' => by
  obtain ⟨n, rfl, _, hw⟩ := DataW.trod_int h h'
  exact ⟨n, (), rfl, by simpa [Lit.wf, IntKind.min, IntKind.max, IntKind.signed, IntKind.bits, ok, I64] using hw, (fun _ h_ => by cases h_)⟩⟩
theorem opens_bool {P : Program} {T : TypeId} (h : P.underlying T = some .bool) (hc : P.cellsOf T = 1) : Opens P T Bool := ⟨hc, fun h' => by
  obtain ⟨n, rfl, _⟩ := DataW.trod_bool h h'
  exact ⟨n, (), rfl, trivial, (fun _ h_ => by cases h_)⟩⟩
theorem opens_str {P : Program} {T : TypeId} (h : P.underlying T = some .string) (hc : P.cellsOf T = 1) : Opens P T ByteArray := ⟨hc, fun h' => by
  obtain ⟨n, rfl, _, hw⟩ := DataW.trod_string h h'
  exact ⟨n, (), rfl, (by simp only [maxLen] at hw; omega : n.size ≤ 9223372036854775807), (fun _ h_ => by cases h_)⟩⟩
theorem opens_byte {P : Program} {T : TypeId} (h : P.underlying T = some (.int .u8)) (hc : P.cellsOf T = 1) : Opens P T UInt8 := ⟨hc, fun h' => by
  obtain ⟨n, rfl, _, hw⟩ := DataW.trod_int h h'
  have hn : 0 ≤ n ∧ n ≤ 255 := by simpa [Lit.wf, IntKind.min, IntKind.max, IntKind.signed, IntKind.bits] using hw
  refine ⟨UInt8.ofNat n.toNat, (), ?_, trivial, (fun _ h_ => by cases h_)⟩
  have : ((UInt8.ofNat n.toNat).toNat : Int) = n := by
    rw [UInt8.toNat_ofNat', Nat.mod_eq_of_lt (by omega)]; omega
  simp only [sh]
  rw [this]⟩
theorem cells?_each {w : World} {a : Addr} {n : Nat} {cs : List Value} (h : w.cells? 0 a n = some cs) : ∀ j u, cs[j]? = some u → w.cell? (a.add j) = some u := by
  intro j u hj
  obtain ⟨_, h1, h2⟩ := World.cells?_some h
  rw [h2 j (by rw [← h1]; exact (List.getElem?_eq_some_iff.1 hj).1)]; exact hj
theorem opens_slice {P : Program} {T E : TypeId} {α : Type} [GoT α] (h : P.underlying T = some (.slice E)) (hc : P.cellsOf T = 1) (he : Opens P E α) : Opens P T (List α) := ⟨hc, fun {H enc w spare held fuel cs x} h' => by
  rcases DataW.trod_slice h h' with ⟨rfl, _⟩ | ⟨a, len, cap, elems, rest, n, _, rfl, _, _, hl, hm, hlen, hel, _, _⟩
  · exact ⟨[], (none, 0), rfl, ⟨Nat.zero_le _, fun _ h_ => by cases h_⟩, fun f hf => by
      obtain rfl := List.mem_singleton.1 hf
      exact ⟨Nat.zero_le _, Nat.zero_le _, [], fun j u h => by simp at h, rfl⟩⟩
  · have key : ∀ m, m ≤ len → ∃ (l : List α) (xs : List Value), l.length = m ∧ xs.length = m * k α ∧ RdL (hp w) xs l ∧ (∀ b ∈ l, ok 10 b) ∧ CellsAt (hp w) (some a) xs := by
      intro m
      induction m with
      | zero => exact fun _ => ⟨[], [], rfl, by simp, rfl, by simp, fun j u h => by simp at h⟩
      | succ m ih =>
        intro hmle
        obtain ⟨l, xs, h1, h2, h3, h4, h5⟩ := ih (by omega)
        have hm' := hel m (by omega)
        rw [he.1] at hm'
        obtain ⟨y, hy⟩ : ∃ y, elems[m]? = some y := ⟨_, List.getElem?_eq_getElem (by omega)⟩
        rw [hy, Option.bind_eq_some_iff] at hm'
        obtain ⟨cs', hcs, htr⟩ := hm'
        obtain ⟨b, yb, rfl, hok, hfa⟩ := he.2 htr
        refine ⟨l ++ [b], xs ++ sh b yb, by simp [h1], by rw [List.length_append, h2, GoT.len, Nat.add_mul]; omega, h3.snoc hfa, ?_, ?_⟩
        · intro c hc
          rcases List.mem_append.1 hc with hc | hc
          · exact h4 c hc
          · simp at hc; subst hc; exact hok
        · intro j u hj
          refine ⟨a, rfl, ?_⟩
          by_cases hlt : j < xs.length
          · rw [List.getElem?_append_left hlt] at hj
            obtain ⟨a', ha', hg⟩ := h5 j u hj
            simp at ha'; subst ha'; exact hg
          · rw [List.getElem?_append_right (by omega)] at hj
            have := cells?_each hcs _ _ hj
            rw [addr_add_add, h2, show m * k α + (j - m * k α) = j by omega] at this
            exact this
    obtain ⟨l, xs, h1, h2, h3, h4, h5⟩ := key len (Nat.le_refl _)
    have hm' : len ≤ 9223372036854775807 := by simp only [maxLen] at hm; omega
    refine ⟨l, (some a, cap), by simp [sh, h1], ⟨by show l.length ≤ 9223372036854775807; omega, h4⟩, fun f hf => ?_⟩
    obtain rfl := List.mem_singleton.1 hf
    exact ⟨by omega, by omega, xs, h5, h3⟩⟩
def OpensF (P : Program) (fs : List Field) (off : Nat) (β : Type) [GoT β] : Prop :=
  ∀ {H : Type} {enc : TypeId × Value → H} {w : World} {spare : Nat → Bool} {held : Bool} {n : Nat} {cs : List Value},
    (∀ (i : Nat) (f : Field), fs[i]? = some f → ∃ y, DataW.trod enc P w 0 spare held n f.type ((cs.drop f.offset).take (P.cellsOf f.type)) = some y) →
    ∃ (b : β) (y : X β), (cs.drop off).take (k β) = sh b y ∧ ok 10 b ∧ All (hp w) (fa .der b y)
theorem opensF_one {P : Program} {f : Field} {off : Nat} {α : Type} [GoT α] (ho : f.offset = off) (hf : Opens P f.type α) : OpensF P [f] off α := fun {H enc w spare held n cs} h => by
  obtain ⟨y, hy⟩ := h 0 f rfl
  obtain ⟨a, ya, h1, h2, h3⟩ := hf.2 hy
  rw [hf.1, ho] at h1
  exact ⟨a, ya, h1, h2, h3⟩
theorem opensF_cons {P : Program} {f : Field} {fs : List Field} {off : Nat} {α β : Type} [GoT α] [GoT β] (ho : f.offset = off) (hf : Opens P f.type α) (hr : OpensF P fs (off + k α) β) : OpensF P (f :: fs) off (α × β) := fun {H enc w spare held n cs} h => by
  obtain ⟨y, hy⟩ := h 0 f rfl
  obtain ⟨a, ya, h1, h2, h3⟩ := hf.2 hy
  obtain ⟨b, yb, k1, k2, k3⟩ := hr (cs := cs) (fun i g hg => h (i + 1) g (by simpa using hg))
  rw [hf.1, ho] at h1
  refine ⟨(a, b), (ya, yb), ?_, ⟨h2, k2⟩, All.append h3 k3⟩
  show (cs.drop off).take (k α + k β) = sh a ya ++ sh b yb
  rw [← h1, ← k1, List.take_add, List.drop_drop]
theorem opens_struct {P : Program} {T : TypeId} {fs : Array Field} {α β : Type} [GoT β] (e : α → β) (mk : β → α) (hm : ∀ b, e (mk b) = b) (h : P.underlying T = some (.struct fs)) (hc : P.cellsOf T = k β) (hf : OpensF P fs.toList 0 β) :
    @Opens P T α (GoT.via e) := by
  letI : GoT α := GoT.via e
  refine ⟨hc, fun {H enc w spare held fuel cs x} h' => ?_⟩
  obtain ⟨xs, n, _, _, hcl, hxl, hall⟩ := DataW.trod_struct h h'
  obtain ⟨b, y, h1, h2, h3⟩ := hf (cs := cs) (fun i f hi => by
    have hi' : fs[i]? = some f := by simpa using hi
    have := hall i f hi'
    obtain ⟨z, hz⟩ : ∃ z, xs[i]? = some z := ⟨_, List.getElem?_eq_getElem (by rw [hxl]; exact (Array.getElem?_eq_some_iff.1 hi').1)⟩
    exact ⟨z, by rw [this, hz]⟩)
  rw [List.drop_zero, List.take_of_length_le (by rw [hcl, hc]; exact Nat.le_refl _)] at h1
  refine ⟨mk b, y, ?_, ?_, ?_⟩
  · show cs = sh (e (mk b)) y; rw [hm]; exact h1
  · show ok 10 (e (mk b)); rw [hm]; exact h2
  · show All (hp w) (fa .der (e (mk b)) y); rw [hm]; exact h3

def Arg (P : Program) (T : TypeId) (α : Type) [GoT α] (mk : List Value → Value) : Prop :=
  ∀ {H : Type} {enc : TypeId × Value → H} {W : World} {b0 : Nat} {spare : Nat → Bool} {held : Bool} {v : Value} {d : DataW H} {ps : List MemPlace}, Value.okWide P W .any b0 T v → DataW.Trod enc P W 0 spare held T v d ps →
    ∃ (a : α) (y : X α), v = mk (sh a y) ∧ ok 10 a ∧ All (hp W) (fa .der a y)
theorem arg_struct {P : Program} {T : TypeId} {α : Type} [GoT α] {fs : Array Field} (h : P.underlying T = some (.struct fs)) (ho : Opens P T α) : Arg P T α (fun cs => .agg ⟨cs⟩) := by
  intro H enc W b0 spare held v d ps hval ⟨fuel, hf⟩
  simp only [Value.okWide, h] at hval
  obtain ⟨cs, rfl, _⟩ := hval
  obtain ⟨a, y, h1, h2, h3⟩ := ho.2 hf
  refine ⟨a, y, ?_, h2, h3⟩
  have : cs.toList = sh a y := by simpa [Value.cells] using h1
  rw [← this]
theorem trodAll_stays {H : Type} {enc : TypeId × Value → H} {P : Program} (hl : laidOutB P = true) {W W' : World} {sp : Nat → Bool} : ∀ {ts : List TypeId} {vs : List Value} {ds : List (DataW H)} {ps : List MemPlace},
    ts.all (fun t => P.readableRec t && decide (t < P.types.size)) = true → DataW.TrodAll enc P W 0 (fun _ => true) true ts vs ds ps → (∀ p ∈ ps, W.sameAt W' p) → (∀ p ∈ ps, sp p.block = true) → DataW.TrodAll enc P W' 0 sp true ts vs ds ps
  | [], [], [], _, _, h, _, _ => h
  | t :: ts, v :: vs, d :: ds, ps, ha, ⟨p, q, h1, h2, e⟩, hs, hsp => by
    simp only [List.all_cons, Bool.and_eq_true, decide_eq_true_eq] at ha
    subst e
    exact ⟨p, q, WideElems.Trod_stays hl ha.1.1 ha.1.2 h1 (fun x hx => hs x (List.mem_append_left _ hx)) (fun x hx => hsp x (List.mem_append_left _ hx)),
      trodAll_stays hl ha.2 h2 (fun x hx => hs x (List.mem_append_right _ hx)) (fun x hx => hsp x (List.mem_append_right _ hx)), rfl⟩
theorem trodAll_len {H : Type} {enc : TypeId × Value → H} {P : Program} {W : World} {b : Nat} {sp : Nat → Bool} {hd : Bool} : ∀ {ts : List TypeId} {vs : List Value} {ds : List (DataW H)} {ps : List MemPlace}, DataW.TrodAll enc P W b sp hd ts vs ds ps → ds.length = ts.length
  | [], [], [], _, _ => rfl
  | _ :: _, _ :: _, _ :: _, _, ⟨_, _, _, h2, _⟩ => by simp [trodAll_len h2]
theorem law_post {H : Type} {enc : TypeId × Value → H} {P : Program} {f : Func} {s : ChangeSpec} {W W' : World} {args : Array Value} {ds gs : List (DataW H)} {before : List MemPlace} {B : TypeId}
    (hl : laidOutB P = true) (hpar : f.params.toList.all (fun t => P.readableRec t && decide (t < P.types.size)) = true) (hvars : s.vars = []) (hB : f.resultTypes = #[B]) (hu : P.underlying B = some .bool)
    (hfn : ∀ ds : List (DataW H), ds.length = f.params.size → s.fn H ds = { results := [.lit (.bool true)], args := ds })
    (hW : DataW.Whole enc P f.params.toList s.vars false W args.toList ds gs before) (hb : Below W.heap.size W W') : s.post enc P f false true false false W args (.bool true) W' := by
  have hW' := hW
  have hlt : ∀ p ∈ before, p.block < W.heap.size := fun p hp => hW.lt p hp
  obtain ⟨p, q, hA, hV, rfl, hfz, hnd⟩ := hW'
  rw [hvars] at hV
  obtain ⟨rfl, rfl⟩ := ChangeShapes.trodVars_none hV
  have hlen : ds.length = f.params.size := by simpa using trodAll_len hA
  have hdd : s.fn H (ds ++ []) = { results := [.lit (.bool true)], args := ds } := by rw [List.append_nil]; exact hfn ds hlen
  have hres : ∀ (b : Nat) (sp : Nat → Bool) (hd : Bool), DataW.TrodAll enc P W' b sp hd f.resultTypes.toList ((Value.bool true).resultList f.resultTypes.size) (s.fn H (ds ++ [])).results [] := by
    intro b sp hd
    rw [hdd, hB]
    exact trodAll_cons_mk (RowKit.shut_bool hu _) ChangeShapes.trodAll_mk0
  have hargs : ∀ sp : Nat → Bool, (∀ x ∈ p ++ [], sp x.block = true) → DataW.TrodAll enc P W' 0 sp true f.params.toList args.toList (s.fn H (ds ++ [])).args p := by
    intro sp hsp
    rw [hdd]
    exact trodAll_stays hl hpar hA (fun x hx => hb.same (hlt x (by simpa using hx))) (fun x hx => hsp x (by simpa using hx))
  have hvars' : ∀ sp : Nat → Bool, DataW.TrodVars enc P W' sp s.vars (s.fn H (ds ++ [])).vars [] := by
    intro sp; rw [hvars, hdd]; rfl
  have hold : ∀ x ∈ p ++ [], (fun b => decide (b < W.heap.size)) x.block = true := fun x hx => by simpa using hlt x hx
  refine ⟨ds, [], p ++ [], [], p, [], hW, hres _ _ _, hargs _ hold, hvars' _, World.keptBut_mono (fun x hx => ⟨hx, Or.inr (by simpa using hx)⟩) (hb.frame (· ∈ p ++ [])), fun h => (by cases h)⟩
end Go.Stp

namespace Go.Proofs.YtfffongneoegbaaGreat.Facts
set_option maxRecDepth 100000
theorem laid : laidOutB Tryz.prog = true := by kernel_rfl
theorem rowed : mapsRowed Tryz.prog = true := by kernel_rfl
end Go.Proofs.YtfffongneoegbaaGreat.Facts

namespace Go.Stp
set_option linter.unusedVariables false
set_option linter.unusedSimpArgs false
theorem same_LiveTopology (aW : Network) : impl_LiveTopology aW = spec_LiveTopology aW := same_LiveTopology' aW
theorem bound_LiveTopology (aW : Network) : sz (spec_LiveTopology aW) ≤ sz aW := bnd_LiveTopology aW
theorem true_LiveTopology (aW : Network) (haW : GoT.ok 10 aW) : laws_FnExactLiveTopology aW = true := by
  unfold laws_FnExactLiveTopology
  by_cases s0 : laws_szNetwork aW 1048576 < 0
  · simp only [dT s0, cond_true]
  have d0 := dF (show 0 ≤ laws_szNetwork aW 1048576 by omega)
  obtain ⟨t0, z0⟩ := (sz_Network_R aW 1048576 haW (by omega) (by omega)).pos (by omega)
  obtain ⟨mp0, mq0, me0⟩ := mk_Network aW (1) (by omega) (by omega)
  have dk := dF (show 0 ≤ (laws_markNetwork aW (1)).1 by omega)
  have hb := bound_LiveTopology aW
  have hb0 := hb
  obtain ⟨gp0, gq0, ge0⟩ := mk_Topology (spec_LiveTopology aW) (1) (by omega) (by omega)
  have dg0 := dF (show 0 ≤ (laws_markTopology (spec_LiveTopology aW) (1)).1 by omega)
  simp only [d0, cond_false, to_Network, same_LiveTopology, eq_Network, eq_Topology, dk, ge0, dg0, Bool.not_true, bne_self_F, nbeq_self_F, beq_self_eq_true]
end Go.Stp
namespace Go.Proofs.YtfffongneoegbaaGreat
open Go.Stp
open Go.RowKit (Below)
open Go.ChangeShapes Go.WideShapes Go.ChangeAt
namespace LawLiveTopology
theorem own : ownKnob Tryz.prog.godebug = none := by kernel_rfl
theorem laid : laidOutB Tryz.prog = true := Facts.laid
set_option maxRecDepth 100000 in
theorem op348 : Opens Tryz.prog 348 Link := opens_struct (fun e : Link => (e.a, e.b)) (fun b => ⟨b.1, b.2⟩) (fun _ => rfl) Tryz.underlying348 (show Tryz.prog.cellsOf 348 = 2 by kernel_rfl) (opensF_cons rfl (opens_int Tryz.underlying3 (by kernel_rfl)) (opensF_one rfl (opens_int Tryz.underlying3 (by kernel_rfl))))
set_option maxRecDepth 100000 in
theorem op97 : Opens Tryz.prog 97 Topology := opens_struct (fun e : Topology => (e.size, e.links)) (fun b => ⟨b.1, b.2⟩) (fun _ => rfl) Tryz.underlying97 (show Tryz.prog.cellsOf 97 = 2 by kernel_rfl) (opensF_cons rfl (opens_int Tryz.underlying3 (by kernel_rfl)) (opensF_one rfl (opens_slice Tryz.underlying95 (by kernel_rfl) op348)))
set_option maxRecDepth 100000 in
theorem op24 : Opens Tryz.prog 24 Name := opens_struct (fun e : Name => e.parts) (fun b => ⟨b⟩) (fun _ => rfl) Tryz.underlying24 (show Tryz.prog.cellsOf 24 = 1 by kernel_rfl) (opensF_one rfl (opens_slice Tryz.underlying22 (by kernel_rfl) (opens_str Tryz.underlying9 (by kernel_rfl))))
set_option maxRecDepth 100000 in
theorem op235 : Opens Tryz.prog 235 Key := opens_struct (fun e : Key => (e.name, e.secret)) (fun b => ⟨b.1, b.2⟩) (fun _ => rfl) Tryz.underlying235 (show Tryz.prog.cellsOf 235 = 2 by kernel_rfl) (opensF_cons rfl op24 (opensF_one rfl (opens_int Tryz.underlying3 (by kernel_rfl))))
set_option maxRecDepth 100000 in
theorem op237 : Opens Tryz.prog 237 Pattern := opens_struct (fun e : Pattern => e.parts) (fun b => ⟨b⟩) (fun _ => rfl) Tryz.underlying237 (show Tryz.prog.cellsOf 237 = 1 by kernel_rfl) (opensF_one rfl (opens_slice Tryz.underlying22 (by kernel_rfl) (opens_str Tryz.underlying9 (by kernel_rfl))))
set_option maxRecDepth 100000 in
theorem op239 : Opens Tryz.prog 239 Rule := opens_struct (fun e : Rule => (e.dataPattern, e.keyPattern)) (fun b => ⟨b.1, b.2⟩) (fun _ => rfl) Tryz.underlying239 (show Tryz.prog.cellsOf 239 = 2 by kernel_rfl) (opensF_cons rfl op237 (opensF_one rfl op237))
set_option maxRecDepth 100000 in
theorem op62 : Opens Tryz.prog 62 DataP := opens_struct (fun e : DataP => (e.name, e.content, e.keyName, e.freshUntil, e.signature)) (fun b => ⟨b.1, b.2.1, b.2.2.1, b.2.2.2.1, b.2.2.2.2⟩) (fun _ => rfl) Tryz.underlying62 (show Tryz.prog.cellsOf 62 = 5 by kernel_rfl) (opensF_cons rfl op24 (opensF_cons rfl (opens_slice Tryz.underlying31 (by kernel_rfl) (opens_byte Tryz.underlying5 (by kernel_rfl))) (opensF_cons rfl op24 (opensF_cons rfl (opens_int Tryz.underlying3 (by kernel_rfl)) (opensF_one rfl (opens_int Tryz.underlying3 (by kernel_rfl)))))))
set_option maxRecDepth 100000 in
theorem op70 : Opens Tryz.prog 70 TrustPolicy := opens_struct (fun e : TrustPolicy => (e.keys, e.rules, e.anchors, e.certificates)) (fun b => ⟨b.1, b.2.1, b.2.2.1, b.2.2.2⟩) (fun _ => rfl) Tryz.underlying70 (show Tryz.prog.cellsOf 70 = 4 by kernel_rfl) (opensF_cons rfl (opens_slice Tryz.underlying65 (by kernel_rfl) op235) (opensF_cons rfl (opens_slice Tryz.underlying66 (by kernel_rfl) op239) (opensF_cons rfl (opens_slice Tryz.underlying67 (by kernel_rfl) op24) (opensF_one rfl (opens_slice Tryz.underlying68 (by kernel_rfl) op62)))))
set_option maxRecDepth 100000 in
theorem op255 : Opens Tryz.prog 255 TableEntry := opens_struct (fun e : TableEntry => (e.name, e.value)) (fun b => ⟨b.1, b.2⟩) (fun _ => rfl) Tryz.underlying255 (show Tryz.prog.cellsOf 255 = 2 by kernel_rfl) (opensF_cons rfl op24 (opensF_one rfl (opens_int Tryz.underlying3 (by kernel_rfl))))
set_option maxRecDepth 100000 in
theorem op427 : Opens Tryz.prog 427 CacheEntry := opens_struct (fun e : CacheEntry => (e.data, e.lastUsed)) (fun b => ⟨b.1, b.2⟩) (fun _ => rfl) Tryz.underlying427 (show Tryz.prog.cellsOf 427 = 6 by kernel_rfl) (opensF_cons rfl op62 (opensF_one rfl (opens_int Tryz.underlying3 (by kernel_rfl))))
set_option maxRecDepth 100000 in
theorem op259 : Opens Tryz.prog 259 ContentStore := opens_struct (fun e : ContentStore => (e.capacity, e.entries)) (fun b => ⟨b.1, b.2⟩) (fun _ => rfl) Tryz.underlying259 (show Tryz.prog.cellsOf 259 = 2 by kernel_rfl) (opensF_cons rfl (opens_int Tryz.underlying3 (by kernel_rfl)) (opensF_one rfl (opens_slice Tryz.underlying257 (by kernel_rfl) op427)))
set_option maxRecDepth 100000 in
theorem op440 : Opens Tryz.prog 440 Requester := opens_struct (fun e : Requester => (e.face, e.nonce, e.expiry)) (fun b => ⟨b.1, b.2.1, b.2.2⟩) (fun _ => rfl) Tryz.underlying440 (show Tryz.prog.cellsOf 440 = 3 by kernel_rfl) (opensF_cons rfl (opens_int Tryz.underlying3 (by kernel_rfl)) (opensF_cons rfl (opens_int Tryz.underlying3 (by kernel_rfl)) (opensF_one rfl (opens_int Tryz.underlying3 (by kernel_rfl)))))
set_option maxRecDepth 100000 in
theorem op391 : Opens Tryz.prog 391 PendingInterest := opens_struct (fun e : PendingInterest => (e.name, e.requesters, e.lastSent)) (fun b => ⟨b.1, b.2.1, b.2.2⟩) (fun _ => rfl) Tryz.underlying391 (show Tryz.prog.cellsOf 391 = 3 by kernel_rfl) (opensF_cons rfl op24 (opensF_cons rfl (opens_slice Tryz.underlying389 (by kernel_rfl) op440) (opensF_one rfl (opens_int Tryz.underlying3 (by kernel_rfl)))))
set_option maxRecDepth 100000 in
theorem op394 : Opens Tryz.prog 394 SeenNonce := opens_struct (fun e : SeenNonce => (e.name, e.nonce)) (fun b => ⟨b.1, b.2⟩) (fun _ => rfl) Tryz.underlying394 (show Tryz.prog.cellsOf 394 = 2 by kernel_rfl) (opensF_cons rfl op24 (opensF_one rfl (opens_int Tryz.underlying3 (by kernel_rfl))))
set_option maxRecDepth 100000 in
theorem op397 : Opens Tryz.prog 397 Route := opens_struct (fun e : Route => (e.pfx, e.face, e.cost)) (fun b => ⟨b.1, b.2.1, b.2.2⟩) (fun _ => rfl) Tryz.underlying397 (show Tryz.prog.cellsOf 397 = 3 by kernel_rfl) (opensF_cons rfl op24 (opensF_cons rfl (opens_int Tryz.underlying3 (by kernel_rfl)) (opensF_one rfl (opens_int Tryz.underlying3 (by kernel_rfl)))))
set_option maxRecDepth 100000 in
theorem op400 : Opens Tryz.prog 400 Measurement := opens_struct (fun e : Measurement => (e.pfx, e.face, e.failures)) (fun b => ⟨b.1, b.2.1, b.2.2⟩) (fun _ => rfl) Tryz.underlying400 (show Tryz.prog.cellsOf 400 = 3 by kernel_rfl) (opensF_cons rfl op24 (opensF_cons rfl (opens_int Tryz.underlying3 (by kernel_rfl)) (opensF_one rfl (opens_int Tryz.underlying3 (by kernel_rfl)))))
set_option maxRecDepth 100000 in
theorem op265 : Opens Tryz.prog 265 NodeP := opens_struct (fun e : NodeP => (e.locl, e.cache, e.pending, e.seen, e.routes, e.measurements, e.dropped)) (fun b => ⟨b.1, b.2.1, b.2.2.1, b.2.2.2.1, b.2.2.2.2.1, b.2.2.2.2.2.1, b.2.2.2.2.2.2⟩) (fun _ => rfl) Tryz.underlying265 (show Tryz.prog.cellsOf 265 = 8 by kernel_rfl) (opensF_cons rfl (opens_slice Tryz.underlying68 (by kernel_rfl) op62) (opensF_cons rfl op259 (opensF_cons rfl (opens_slice Tryz.underlying260 (by kernel_rfl) op391) (opensF_cons rfl (opens_slice Tryz.underlying261 (by kernel_rfl) op394) (opensF_cons rfl (opens_slice Tryz.underlying262 (by kernel_rfl) op397) (opensF_cons rfl (opens_slice Tryz.underlying263 (by kernel_rfl) op400) (opensF_one rfl (opens_int Tryz.underlying3 (by kernel_rfl)))))))))
set_option maxRecDepth 100000 in
theorem op268 : Opens Tryz.prog 268 Interest := opens_struct (fun e : Interest => (e.name, e.nonce, e.hopLimit, e.lifetime)) (fun b => ⟨b.1, b.2.1, b.2.2.1, b.2.2.2⟩) (fun _ => rfl) Tryz.underlying268 (show Tryz.prog.cellsOf 268 = 4 by kernel_rfl) (opensF_cons rfl op24 (opensF_cons rfl (opens_int Tryz.underlying3 (by kernel_rfl)) (opensF_cons rfl (opens_int Tryz.underlying3 (by kernel_rfl)) (opensF_one rfl (opens_int Tryz.underlying3 (by kernel_rfl))))))
set_option maxRecDepth 100000 in
theorem op270 : Opens Tryz.prog 270 PacketInFlight := opens_struct (fun e : PacketInFlight => (e.to, e.face, e.isInterest, e.interest, e.data)) (fun b => ⟨b.1, b.2.1, b.2.2.1, b.2.2.2.1, b.2.2.2.2⟩) (fun _ => rfl) Tryz.underlying270 (show Tryz.prog.cellsOf 270 = 12 by kernel_rfl) (opensF_cons rfl (opens_int Tryz.underlying3 (by kernel_rfl)) (opensF_cons rfl (opens_int Tryz.underlying3 (by kernel_rfl)) (opensF_cons rfl (opens_bool Tryz.underlying4 (by kernel_rfl)) (opensF_cons rfl op268 (opensF_one rfl op62)))))
set_option maxRecDepth 100000 in
theorem op64 : Opens Tryz.prog 64 Consumer := opens_struct (fun e : Consumer => (e.node, e.index, e.name, e.attempts, e.wait, e.satisfied, e.data)) (fun b => ⟨b.1, b.2.1, b.2.2.1, b.2.2.2.1, b.2.2.2.2.1, b.2.2.2.2.2.1, b.2.2.2.2.2.2⟩) (fun _ => rfl) Tryz.underlying64 (show Tryz.prog.cellsOf 64 = 11 by kernel_rfl) (opensF_cons rfl (opens_int Tryz.underlying3 (by kernel_rfl)) (opensF_cons rfl (opens_int Tryz.underlying3 (by kernel_rfl)) (opensF_cons rfl op24 (opensF_cons rfl (opens_int Tryz.underlying3 (by kernel_rfl)) (opensF_cons rfl (opens_int Tryz.underlying3 (by kernel_rfl)) (opensF_cons rfl (opens_bool Tryz.underlying4 (by kernel_rfl)) (opensF_one rfl op62)))))))
set_option maxRecDepth 100000 in
theorem op103 : Opens Tryz.prog 103 Network := opens_struct (fun e : Network => (e.topology, e.trust, e.producers, e.nodes, e.downNodes, e.failedLinks, e.inFlight, e.consumers, e.now, e.dropped)) (fun b => ⟨b.1, b.2.1, b.2.2.1, b.2.2.2.1, b.2.2.2.2.1, b.2.2.2.2.2.1, b.2.2.2.2.2.2.1, b.2.2.2.2.2.2.2.1, b.2.2.2.2.2.2.2.2.1, b.2.2.2.2.2.2.2.2.2⟩) (fun _ => rfl) Tryz.underlying103 (show Tryz.prog.cellsOf 103 = 14 by kernel_rfl) (opensF_cons rfl op97 (opensF_cons rfl op70 (opensF_cons rfl (opens_slice Tryz.underlying25 (by kernel_rfl) op255) (opensF_cons rfl (opens_slice Tryz.underlying98 (by kernel_rfl) op265) (opensF_cons rfl (opens_int Tryz.underlying3 (by kernel_rfl)) (opensF_cons rfl (opens_slice Tryz.underlying99 (by kernel_rfl) (opens_int Tryz.underlying3 (by kernel_rfl))) (opensF_cons rfl (opens_slice Tryz.underlying100 (by kernel_rfl) op270) (opensF_cons rfl (opens_slice Tryz.underlying101 (by kernel_rfl) op64) (opensF_cons rfl (opens_int Tryz.underlying3 (by kernel_rfl)) (opensF_one rfl (opens_int Tryz.underlying3 (by kernel_rfl))))))))))))
set_option maxRecDepth 100000 in
theorem lifted (os : Os) (started : os.Started) (H : Type) (enc : TypeId × Value → H) :
    ReturnsInHanded {} Tryz.checked os 8 .any (Rows.fnExactLiveTopologySpec.pre6 enc Tryz.prog Tryz.f8 Rows.fnExactLiveTopologyRow.domain false) (Rows.fnExactLiveTopologySpec.post enc Tryz.prog Tryz.f8 false true false false) := by
  refine returnsInHanded_of_change (C := Tryz.checked) own started (by kernel_rfl) Tryz.func8
    (ChangeSpec.witness6 (enc := enc) (C := Tryz.checked) false ⟨#[], #[.agg #[.int .i64 (0), .slice none 0 0, .slice none 0 0, .slice none 0 0, .slice none 0 0, .slice none 0 0, .slice none 0 0, .slice none 0 0, .int .i64 (0), .slice none 0 0, .slice none 0 0, .slice none 0 0, .int .i64 (0), .int .i64 (0)]], []⟩ 8 (by kernel_rfl) (by kernel_rfl) (by kernel_rfl) (by kernel_rfl)) ?_
  intro W base args ds gs before hval0 hW _ _
  have hval : ∀ (j : Nat) t v, Tryz.f8.params[j]? = some t → args[j]? = some v → Value.okWide Tryz.prog W .any base t v := hval0
  have hW' := hW
  obtain ⟨p, q, hA0, _⟩ := hW
  have hA : DataW.TrodAll enc Tryz.prog W 0 (fun _ => true) true Tryz.f8.params.toList args.toList ds p := hA0
  rw [Tryz.params8] at hA hval
  obtain ⟨v0, vs0, d0, ds0, p0, q0, hargs, rfl, rfl, h0, r0⟩ := ChangeShapes.trodAll_cons hA
  obtain ⟨rfl, rfl, rfl⟩ := trodAll_nil r0
  obtain rfl : args = #[v0] := by cases args; simp_all
  obtain ⟨a0, x0, rfl, k0, g0⟩ := (arg_struct Tryz.underlying103 op103) (hval 0 103 _ rfl rfl) h0
  have ht := true_LiveTopology a0 k0
  refine (f8 W 0 (by decide) a0 x0.1.2.1 x0.1.2.2 (g0 (MF.rs .der x0.1.2.1 x0.1.2.2 a0.topology.links) (List.mem_cons_self)) x0.2.1.1.1 x0.2.1.1.2 (g0 (MF.rs .der x0.2.1.1.1 x0.2.1.1.2 a0.trust.keys) (by simp [GoT.fa])) x0.2.1.2.1.1 x0.2.1.2.1.2 (g0 (MF.rs .der x0.2.1.2.1.1 x0.2.1.2.1.2 a0.trust.rules) (by simp [GoT.fa])) x0.2.1.2.2.1.1 x0.2.1.2.2.1.2 (g0 (MF.rs .der x0.2.1.2.2.1.1 x0.2.1.2.2.1.2 a0.trust.anchors) (by simp [GoT.fa])) x0.2.1.2.2.2.1 x0.2.1.2.2.2.2 (g0 (MF.rs .der x0.2.1.2.2.2.1 x0.2.1.2.2.2.2 a0.trust.certificates) (by simp [GoT.fa])) x0.2.2.1.1 x0.2.2.1.2 (g0 (MF.rs .der x0.2.2.1.1 x0.2.2.1.2 a0.producers) (by simp [GoT.fa])) x0.2.2.2.1.1 x0.2.2.2.1.2 (g0 (MF.rs .der x0.2.2.2.1.1 x0.2.2.2.1.2 a0.nodes) (by simp [GoT.fa])) x0.2.2.2.2.2.1.1 x0.2.2.2.2.2.1.2 (g0 (MF.rs .der x0.2.2.2.2.2.1.1 x0.2.2.2.2.2.1.2 a0.failedLinks) (by simp [GoT.fa])) x0.2.2.2.2.2.2.1.1 x0.2.2.2.2.2.2.1.2 (g0 (MF.rs .der x0.2.2.2.2.2.2.1.1 x0.2.2.2.2.2.2.1.2 a0.inFlight) (by simp [GoT.fa])) x0.2.2.2.2.2.2.2.1.1 x0.2.2.2.2.2.2.2.1.2 (g0 (MF.rs .der x0.2.2.2.2.2.2.2.1.1 x0.2.2.2.2.2.2.2.1.2 a0.consumers) (by simp [GoT.fa])) k0).2.mono fun e W1 ⟨v, he, hb, hv⟩ => ?_
  rw [ht] at hv
  obtain ⟨rfl, _⟩ := hv
  subst he
  exact ⟨_, rfl, law_post laid (by kernel_rfl) rfl rfl Tryz.underlying4 (fun ds h => by match ds, h with | [_], _ => rfl) hW' hb.below⟩
set_option maxRecDepth 100000 in
theorem c_inPlace : (Rows.fnExactLiveTopologyRow.inPlace == Tryz.prog.inPlace 8) = true := by kernel_rfl
set_option maxRecDepth 100000 in
theorem c_unfollowed : (Rows.fnExactLiveTopologyRow.unfollowed == Tryz.prog.unfollowed 8) = true := by kernel_rfl
set_option maxRecDepth 100000 in
theorem c_recurses : (Rows.fnExactLiveTopologyRow.recurses == Tryz.prog.recurses 8) = true := by kernel_rfl
set_option maxRecDepth 100000 in
theorem c_named : (Rows.fnExactLiveTopologyRow.named == Tryz.prog.varsNamed 8) = true := by kernel_rfl
set_option maxRecDepth 100000 in
theorem c_read : Tryz.f8.params.all (Tryz.pinned.checked.prog.readableRec ·) = true := by kernel_rfl
set_option maxRecDepth 100000 in
theorem c_maps : (Rows.fnExactLiveTopologyRow.maps == (Tryz.f8.params.toList ++ Rows.fnExactLiveTopologySpec.plain.varTypes Tryz.pinned.checked.prog).any (Tryz.pinned.checked.prog.mapsRec ·)) = true := by kernel_rfl
set_option maxRecDepth 100000 in
theorem c_ifaces : (Rows.fnExactLiveTopologyRow.ifaces == (Tryz.f8.params.toList ++ Rows.fnExactLiveTopologySpec.plain.varTypes Tryz.pinned.checked.prog).any (Tryz.pinned.checked.prog.ifacesRec ·)) = true := by kernel_rfl
set_option maxRecDepth 100000 in
theorem c_loops : (Rows.fnExactLiveTopologyRow.loops == (Tryz.f8.params.toList ++ Rows.fnExactLiveTopologySpec.plain.varTypes Tryz.pinned.checked.prog).any (Tryz.pinned.checked.prog.loopsFrom ·)) = true := by kernel_rfl
set_option maxRecDepth 100000 in
theorem c_wide : (Rows.fnExactLiveTopologyRow.wideKeys == (Tryz.f8.params.toList ++ Rows.fnExactLiveTopologySpec.plain.varTypes Tryz.pinned.checked.prog ++ Tryz.f8.resultTypes.toList).any (Tryz.pinned.checked.prog.wideKeysFrom ·)) = true := by kernel_rfl
set_option maxRecDepth 100000 in
theorem c_rread : Tryz.f8.resultTypes.all (fun t => Tryz.pinned.checked.prog.readableRec t && decide (t < Tryz.pinned.checked.prog.types.size)) = true := by kernel_rfl
set_option maxRecDepth 100000 in
theorem c_veiled : (Rows.fnExactLiveTopologyRow.veiled == (Tryz.f8.params.toList ++ Rows.fnExactLiveTopologySpec.plain.varTypes Tryz.pinned.checked.prog ++ Tryz.f8.resultTypes.toList).any (Tryz.pinned.checked.prog.veiledRec ·)) = true := by kernel_rfl
set_option maxRecDepth 100000 in
theorem c_vfits : Rows.fnExactLiveTopologyRow.veiledFits Tryz.pinned.checked.prog Tryz.f8.params.toList (Tryz.f8.params.toList ++ Rows.fnExactLiveTopologySpec.plain.varTypes Tryz.pinned.checked.prog ++ Tryz.f8.resultTypes.toList) = true := by kernel_rfl
set_option maxRecDepth 100000 in
theorem c_enter : Tryz.pinned.checked.prog.mayEnter = true := by kernel_rfl
set_option maxRecDepth 100000 in
theorem c_heard : Tryz.pinned.checked.prog.stopsHeard = true := by kernel_rfl
set_option maxRecDepth 100000 in
theorem c_lifted : (Rows.fnExactLiveTopologyRow.lifted == Tryz.pinned.checked.prog.liftsFinal) = true := by kernel_rfl
set_option maxRecDepth 100000 in
theorem c_plainKeys : (Rows.fnExactLiveTopologyRow.plainKeys == Tryz.pinned.checked.prog.plainKeys) = true := by kernel_rfl
set_option maxRecDepth 100000 in
theorem c_make : (Tryz.pinned.checked.prog.make == some Rows.fnExactLiveTopologyRow.make) = true := by kernel_rfl
set_option maxRecDepth 100000 in
theorem closed : joinedFacts Tryz.pinned.checked.prog 8 Tryz.f8 Rows.fnExactLiveTopologySpec Rows.fnExactLiveTopologyRow = true := by
  unfold joinedFacts
  rw [show laidOutB Tryz.pinned.checked.prog = true from laid, show mapsRowed Tryz.pinned.checked.prog = true from Facts.rowed, show (Rows.fnExactLiveTopologyRow.inPlace == Tryz.pinned.checked.prog.inPlace 8) = true from c_inPlace, show (Rows.fnExactLiveTopologyRow.unfollowed == Tryz.pinned.checked.prog.unfollowed 8) = true from c_unfollowed, show (Rows.fnExactLiveTopologyRow.recurses == Tryz.pinned.checked.prog.recurses 8) = true from c_recurses, show (Rows.fnExactLiveTopologyRow.named == Tryz.pinned.checked.prog.varsNamed 8) = true from c_named, c_read, c_maps, c_ifaces, c_loops, c_wide, c_rread, c_veiled, c_vfits, c_enter, c_heard, c_lifted, c_plainKeys, c_make]
  kernel_rfl
theorem over : Rows.fnExactLiveTopologyRow.holds Tryz.pinned (OpenSpec.ofChange Rows.fnExactLiveTopologySpec) :=
  OpenClaim.holds_of_wide 8 Tryz.f8 rfl rfl rfl rfl rfl rfl rfl ⟨rfl, rfl, rfl, rfl, rfl⟩ rfl rfl rfl rfl rfl (by kernel_rfl) Tryz.func8 closed
    (of_decide_eq_true (by kernel_rfl)) (by unfold Func.isWrapper; first | (rw [if_pos (by decide +kernel)]; kernel_rfl) | (rw [if_neg (by decide +kernel)]; exact ⟨rfl, rfl⟩))
    (fun os started H enc _ => lifted os started H enc)
theorem proved : Rows.FnExactLiveTopologySaid := over
#print axioms proved
end LawLiveTopology
end Go.Proofs.YtfffongneoegbaaGreat

