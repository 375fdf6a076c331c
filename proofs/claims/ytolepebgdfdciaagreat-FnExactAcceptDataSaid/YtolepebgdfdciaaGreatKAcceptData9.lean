/-
  AcceptData: the law returns true at all arguments; conditions: those of the statement, no others. Written by a program (pack.py, mklaw2.py).
-/
import Derived.Carry
import Derived.ChangeArms
import Derived.ProofKit
import Derived.OpenShut
import Derived.JoinedCond
import Derived.Test.YtolepebgdfdciaaGreatKAcceptData8
namespace Go.Stp
set_option linter.unusedVariables false
set_option linter.unusedSimpArgs false
theorem eqL_StringS : ∀ (l p : (List Str)), laws_eqStringS_L1 (p ++ l) l p.length = none
  | [], _ => rfl
  | e :: l, p => by
    have ih := eqL_StringS l (p ++ [e])
    rw [mid_app, mid_len] at ih
    simp only [laws_eqStringS_L1, mid, bne_self_F, nbeq_self_F, cond_false]
    exact ih
theorem eq_StringS (a : (List Str)) : laws_eqStringS a a = true := by
  have h := eqL_StringS a []
  simp only [List.nil_append, List.length_nil] at h
  simp only [laws_eqStringS, bne_self_F, cond_false, h]
theorem toL_StringS : ∀ (l p z : (List Str)), z.length = l.length → laws_toStringS_L1 l p.length (p ++ z) = p ++ l
  | [], p, [], _ => rfl
  | e :: l, p, y :: z, h => by
    have ih := toL_StringS l (p ++ [e]) z (by simpa using h)
    rw [mid_app p e l, mid_len] at ih
    simp only [laws_toStringS_L1, mid, mid_set]
    exact ih
theorem to_StringS (a : (List Str)) : laws_toStringS a = a := by
  simp only [laws_toStringS]
  exact toL_StringS a [] _ (by simp)
theorem szL_StringS_R : ∀ (l : (List Str)) (left : Int), (∀ a ∈ l, GoT.ok 10 a) → 0 ≤ left → left ≤ 1048576 → SzL (laws_szStringS_L1 l left) left (szL l)
  | [], left, _, h0, _ => .inr ⟨by simp [szL_nil]; omega, by simp [szL_nil, laws_szStringS_L1]⟩
  | e :: l, left, hk, h0, h1 => by
    have he : e.size ≤ 9223372036854775807 := hk e List.mem_cons_self
    rw [szL_cons, sz_str]
    unfold laws_szStringS_L1
    rw [wrap_sub h0 h1 he]
    by_cases hc : left - (e.size : Int) < 0
    · rw [dT hc, cond_true]; exact .inl rfl
    · rw [dF (by omega), cond_false]
      rcases szL_StringS_R l (left - (e.size : Int)) (fun a ha => hk a (List.mem_cons_of_mem _ ha)) (by omega) (by omega) with r | ⟨q, r⟩
      · exact .inl r
      · exact .inr ⟨by omega, by rw [r]; congr 1; omega⟩
theorem sz_StringS_R (a : (List Str)) (left : Int) (h : GoT.ok 10 a) (h0 : 0 ≤ left) (h1 : left ≤ 1048576) : SzR (laws_szStringS a left) left (sz a) := by
  have hl : a.length ≤ 9223372036854775807 := h.1
  rw [sz_list]
  unfold laws_szStringS
  rw [wrap_sub h0 h1 hl]
  by_cases hc : left - (a.length : Int) < 0
  · rw [dT hc, cond_true]; exact .inl rfl
  · rw [dF (by omega), cond_false]
    rcases szL_StringS_R a (left - (a.length : Int)) h.2 (by omega) (by omega) with r | ⟨q, r⟩
    · rw [r]; exact .inl rfl
    · rw [r]; exact .inr ⟨by omega, by show left - (a.length : Int) - (szL a : Int) = _; omega⟩
theorem mkL_StringS : ∀ (l p : (List Str)) (k : Int), 0 ≤ k → k + 16 * ((l.length : Int) + szL l) ≤ 4611686018427387904 → ∃ l' k', laws_markStringS_L1 l.length p.length (p ++ l) k = (p ++ l', k') ∧ k ≤ k' ∧ k' ≤ k + 16 * ((l.length : Int) + szL l) ∧ laws_heldStringS_L1 l' k = .nxt k'
  | [], p, k, _, _ => ⟨[], k, rfl, by omega, by simp [szL_nil], rfl⟩
  | e :: l, p, k, h0, hb => by
    rw [szL_cons, List.length_cons] at hb
    have w1 := wrap1 (x := k) (by omega) (by omega)
    obtain ⟨l', k', r1, r2, r3, r4⟩ := mkL_StringS l (p ++ [(laws_markText k)]) (k + 1) (by omega) (by omega)
    rw [mid_len] at r1
    refine ⟨(laws_markText k) :: l', k', ?_, by omega, by rw [szL_cons, List.length_cons]; omega, ?_⟩
    · simp only [List.length_cons, laws_markStringS_L1, mid, mid_set, w1]
      rw [r1, mid_app]
    · simp only [laws_heldStringS_L1, bne_self_F, nbeq_self_F, cond_false, w1]
      exact r4
theorem mk_StringS (a : (List Str)) (k : Int) (h0 : 0 ≤ k) (hb : k + 16 * (sz a : Int) ≤ 4611686018427387904) : MkR k (laws_markStringS a k).1 (sz a) (laws_heldStringS (laws_markStringS a k).2 k) := by
  rw [sz_list] at hb ⊢
  obtain ⟨l', k', r1, r2, r3, r4⟩ := mkL_StringS a [] k h0 (by omega)
  simp only [List.nil_append, List.length_nil] at r1
  simp only [laws_markStringS, r1, laws_heldStringS, r4]
  exact ⟨r2, by omega, rfl⟩
theorem eq_Name (a : Name) : laws_eqName a a = true := by
  simp only [laws_eqName, bne_self_F, nbeq_self_F, cond_false, Bool.not_true, eq_StringS]
theorem to_Name (a : Name) : laws_toName a = a := by
  simp only [laws_toName, to_StringS]
theorem sz_Name_R (a : Name) (left : Int) (h : GoT.ok 10 a) (h0 : 0 ≤ left) (h1 : left ≤ 1048576) : SzR (laws_szName a left) left (sz a) := by
  rw [sz_Name]
  unfold laws_szName
  rcases sz_StringS_R a.parts left (ok_Name h) (by omega) (by omega) with r0 | ⟨q0, r0⟩
  · rw [r0]; exact .inl rfl
  rw [r0, dF (by omega), cond_false]
  exact .inr ⟨by omega, by omega⟩
theorem mk_Name (a : Name) (k : Int) (h0 : 0 ≤ k) (hb : k + 16 * (sz a : Int) ≤ 4611686018427387904) : MkR k (laws_markName a k).1 (sz a) (laws_heldName (laws_markName a k).2 k) := by
  rw [sz_Name] at hb ⊢
  obtain ⟨p0, q0, e0⟩ := mk_StringS a.parts (k) (by omega) (by omega)
  have d0 := dF (show 0 ≤ (laws_markStringS a.parts (k)).1 by omega)
  have f0 : (laws_markName a k).2.parts = (laws_markStringS a.parts (k)).2 := rfl
  refine ⟨show k ≤ (laws_markStringS a.parts (k)).1 by omega, show (laws_markStringS a.parts (k)).1 ≤ _ by omega, ?_⟩
  show _ = (laws_markStringS a.parts (k)).1
  simp only [laws_heldName, f0, e0, d0, cond_false]
theorem eqL_ByteS : ∀ (l p : (List UInt8)), laws_eqByteS_L1 (p ++ l) l p.length = none
  | [], _ => rfl
  | e :: l, p => by
    have ih := eqL_ByteS l (p ++ [e])
    rw [mid_app, mid_len] at ih
    simp only [laws_eqByteS_L1, mid, bne_self_F, nbeq_self_F, cond_false]
    exact ih
theorem eq_ByteS (a : (List UInt8)) : laws_eqByteS a a = true := by
  have h := eqL_ByteS a []
  simp only [List.nil_append, List.length_nil] at h
  simp only [laws_eqByteS, bne_self_F, cond_false, h]
theorem toL_ByteS : ∀ (l p z : (List UInt8)), z.length = l.length → laws_toByteS_L1 l p.length (p ++ z) = p ++ l
  | [], p, [], _ => rfl
  | e :: l, p, y :: z, h => by
    have ih := toL_ByteS l (p ++ [e]) z (by simpa using h)
    rw [mid_app p e l, mid_len] at ih
    simp only [laws_toByteS_L1, mid, mid_set]
    exact ih
theorem to_ByteS (a : (List UInt8)) : laws_toByteS a = a := by
  simp only [laws_toByteS]
  exact toL_ByteS a [] _ (by simp)
theorem sz_ByteS_R (a : (List UInt8)) (left : Int) (h : GoT.ok 10 a) (h0 : 0 ≤ left) (h1 : left ≤ 1048576) : SzR (laws_szByteS a left) left (sz a) := by
  have hl : a.length ≤ 9223372036854775807 := h.1
  rw [sz_list, szL_u8]
  unfold laws_szByteS
  rw [wrap_sub h0 h1 hl]
  by_cases hc : left - (a.length : Int) < 0
  · rw [dT hc, cond_true]; exact .inl rfl
  · rw [dF (by omega), cond_false]; exact .inr ⟨by omega, rfl⟩
theorem mkL_ByteS : ∀ (l p : (List UInt8)) (k : Int), 0 ≤ k → k + 16 * ((l.length : Int) + szL l) ≤ 4611686018427387904 → ∃ l' k', laws_markByteS_L1 l.length p.length (p ++ l) k = (p ++ l', k') ∧ k ≤ k' ∧ k' ≤ k + 16 * ((l.length : Int) + szL l) ∧ laws_heldByteS_L1 l' k = .nxt k'
  | [], p, k, _, _ => ⟨[], k, rfl, by omega, by simp [szL_nil], rfl⟩
  | e :: l, p, k, h0, hb => by
    rw [szL_cons, List.length_cons] at hb
    have w1 := wrap1 (x := k) (by omega) (by omega)
    obtain ⟨l', k', r1, r2, r3, r4⟩ := mkL_ByteS l (p ++ [(toU8 k)]) (k + 1) (by omega) (by omega)
    rw [mid_len] at r1
    refine ⟨(toU8 k) :: l', k', ?_, by omega, by rw [szL_cons, List.length_cons]; omega, ?_⟩
    · simp only [List.length_cons, laws_markByteS_L1, mid, mid_set, w1]
      rw [r1, mid_app]
    · simp only [laws_heldByteS_L1, bne_self_F, nbeq_self_F, cond_false, w1]
      exact r4
theorem mk_ByteS (a : (List UInt8)) (k : Int) (h0 : 0 ≤ k) (hb : k + 16 * (sz a : Int) ≤ 4611686018427387904) : MkR k (laws_markByteS a k).1 (sz a) (laws_heldByteS (laws_markByteS a k).2 k) := by
  rw [sz_list] at hb ⊢
  obtain ⟨l', k', r1, r2, r3, r4⟩ := mkL_ByteS a [] k h0 (by omega)
  simp only [List.nil_append, List.length_nil] at r1
  simp only [laws_markByteS, r1, laws_heldByteS, r4]
  exact ⟨r2, by omega, rfl⟩
theorem eq_Data (a : DataP) : laws_eqData a a = true := by
  simp only [laws_eqData, bne_self_F, nbeq_self_F, cond_false, Bool.not_true, eq_Name, eq_ByteS]
theorem to_Data (a : DataP) : laws_toData a = a := by
  simp only [laws_toData, to_Name, to_ByteS]
theorem sz_Data_R (a : DataP) (left : Int) (h : GoT.ok 10 a) (h0 : 0 ≤ left) (h1 : left ≤ 1048576) : SzR (laws_szData a left) left (sz a) := by
  rw [sz_DataP]
  unfold laws_szData
  rcases sz_Name_R a.name left (ok_DataP h).1 (by omega) (by omega) with r0 | ⟨q0, r0⟩
  · rw [r0]; exact .inl rfl
  rw [r0, dF (by omega), cond_false]
  rcases sz_ByteS_R a.content (left - (sz a.name : Int)) (ok_DataP h).2.1 (by omega) (by omega) with r1 | ⟨q1, r1⟩
  · rw [r1]; exact .inl rfl
  rw [r1, dF (by omega), cond_false]
  rcases sz_Name_R a.keyName ((left - (sz a.name : Int)) - (sz a.content : Int)) (ok_DataP h).2.2.1 (by omega) (by omega) with r2 | ⟨q2, r2⟩
  · rw [r2]; exact .inl rfl
  rw [r2, dF (by omega), cond_false]
  exact .inr ⟨by omega, by omega⟩
theorem mk_Data (a : DataP) (k : Int) (h0 : 0 ≤ k) (hb : k + 16 * (sz a : Int) ≤ 4611686018427387904) : MkR k (laws_markData a k).1 (sz a) (laws_heldData (laws_markData a k).2 k) := by
  rw [sz_DataP] at hb ⊢
  obtain ⟨p0, q0, e0⟩ := mk_Name a.name (k) (by omega) (by omega)
  have d0 := dF (show 0 ≤ (laws_markName a.name (k)).1 by omega)
  have f0 : (laws_markData a k).2.name = (laws_markName a.name (k)).2 := rfl
  obtain ⟨p1, q1, e1⟩ := mk_ByteS a.content ((laws_markName a.name (k)).1) (by omega) (by omega)
  have d1 := dF (show 0 ≤ (laws_markByteS a.content ((laws_markName a.name (k)).1)).1 by omega)
  have f1 : (laws_markData a k).2.content = (laws_markByteS a.content ((laws_markName a.name (k)).1)).2 := rfl
  obtain ⟨p2, q2, e2⟩ := mk_Name a.keyName ((laws_markByteS a.content ((laws_markName a.name (k)).1)).1) (by omega) (by omega)
  have d2 := dF (show 0 ≤ (laws_markName a.keyName ((laws_markByteS a.content ((laws_markName a.name (k)).1)).1)).1 by omega)
  have f2 : (laws_markData a k).2.keyName = (laws_markName a.keyName ((laws_markByteS a.content ((laws_markName a.name (k)).1)).1)).2 := rfl
  refine ⟨show k ≤ (laws_markName a.keyName ((laws_markByteS a.content ((laws_markName a.name (k)).1)).1)).1 by omega, show (laws_markName a.keyName ((laws_markByteS a.content ((laws_markName a.name (k)).1)).1)).1 ≤ _ by omega, ?_⟩
  show _ = (laws_markName a.keyName ((laws_markByteS a.content ((laws_markName a.name (k)).1)).1)).1
  simp only [laws_heldData, f0, e0, d0, f1, e1, d1, f2, e2, d2, cond_false]
theorem eq_Consumer (a : Consumer) : laws_eqConsumer a a = true := by
  simp only [laws_eqConsumer, bne_self_F, nbeq_self_F, cond_false, Bool.not_true, eq_Name, eq_Data]
theorem to_Consumer (a : Consumer) : laws_toConsumer a = a := by
  simp only [laws_toConsumer, to_Name, to_Data]
theorem sz_Consumer_R (a : Consumer) (left : Int) (h : GoT.ok 10 a) (h0 : 0 ≤ left) (h1 : left ≤ 1048576) : SzR (laws_szConsumer a left) left (sz a) := by
  rw [sz_Consumer]
  unfold laws_szConsumer
  rcases sz_Name_R a.name left (ok_Consumer h).2.2.1 (by omega) (by omega) with r0 | ⟨q0, r0⟩
  · rw [r0]; exact .inl rfl
  rw [r0, dF (by omega), cond_false]
  rcases sz_Data_R a.data (left - (sz a.name : Int)) (ok_Consumer h).2.2.2.2.2.2 (by omega) (by omega) with r1 | ⟨q1, r1⟩
  · rw [r1]; exact .inl rfl
  rw [r1, dF (by omega), cond_false]
  exact .inr ⟨by omega, by omega⟩
theorem mk_Consumer (a : Consumer) (k : Int) (h0 : 0 ≤ k) (hb : k + 16 * (sz a : Int) ≤ 4611686018427387904) : MkR k (laws_markConsumer a k).1 (sz a) (laws_heldConsumer (laws_markConsumer a k).2 k) := by
  rw [sz_Consumer] at hb ⊢
  obtain ⟨p0, q0, e0⟩ := mk_Name a.name (k) (by omega) (by omega)
  have d0 := dF (show 0 ≤ (laws_markName a.name (k)).1 by omega)
  have f0 : (laws_markConsumer a k).2.name = (laws_markName a.name (k)).2 := rfl
  obtain ⟨p1, q1, e1⟩ := mk_Data a.data ((laws_markName a.name (k)).1) (by omega) (by omega)
  have d1 := dF (show 0 ≤ (laws_markData a.data ((laws_markName a.name (k)).1)).1 by omega)
  have f1 : (laws_markConsumer a k).2.data = (laws_markData a.data ((laws_markName a.name (k)).1)).2 := rfl
  refine ⟨show k ≤ (laws_markData a.data ((laws_markName a.name (k)).1)).1 by omega, show (laws_markData a.data ((laws_markName a.name (k)).1)).1 ≤ _ by omega, ?_⟩
  show _ = (laws_markData a.data ((laws_markName a.name (k)).1)).1
  simp only [laws_heldConsumer, f0, e0, d0, f1, e1, d1, cond_false]
theorem eq_Key (a : Key) : laws_eqKey a a = true := by
  simp only [laws_eqKey, bne_self_F, nbeq_self_F, cond_false, Bool.not_true, eq_Name]
theorem to_Key (a : Key) : laws_toKey a = a := by
  simp only [laws_toKey, to_Name]
theorem sz_Key_R (a : Key) (left : Int) (h : GoT.ok 10 a) (h0 : 0 ≤ left) (h1 : left ≤ 1048576) : SzR (laws_szKey a left) left (sz a) := by
  rw [sz_Key]
  unfold laws_szKey
  rcases sz_Name_R a.name left (ok_Key h).1 (by omega) (by omega) with r0 | ⟨q0, r0⟩
  · rw [r0]; exact .inl rfl
  rw [r0, dF (by omega), cond_false]
  exact .inr ⟨by omega, by omega⟩
theorem eqL_KeyS : ∀ (l p : (List Key)), laws_eqKeyS_L1 (p ++ l) l p.length = none
  | [], _ => rfl
  | e :: l, p => by
    have ih := eqL_KeyS l (p ++ [e])
    rw [mid_app, mid_len] at ih
    simp only [laws_eqKeyS_L1, mid, eq_Key e, Bool.not_true, cond_false]
    exact ih
theorem eq_KeyS (a : (List Key)) : laws_eqKeyS a a = true := by
  have h := eqL_KeyS a []
  simp only [List.nil_append, List.length_nil] at h
  simp only [laws_eqKeyS, bne_self_F, cond_false, h]
theorem toL_KeyS : ∀ (l p z : (List Key)), z.length = l.length → laws_toKeyS_L1 l p.length (p ++ z) = p ++ l
  | [], p, [], _ => rfl
  | e :: l, p, y :: z, h => by
    have ih := toL_KeyS l (p ++ [e]) z (by simpa using h)
    rw [mid_app p e l, mid_len] at ih
    simp only [laws_toKeyS_L1, mid, mid_set, to_Key e]
    exact ih
theorem to_KeyS (a : (List Key)) : laws_toKeyS a = a := by
  simp only [laws_toKeyS]
  exact toL_KeyS a [] _ (by simp)
theorem szL_KeyS_R : ∀ (l : (List Key)) (left : Int), (∀ a ∈ l, GoT.ok 10 a) → 0 ≤ left → left ≤ 1048576 → SzL (laws_szKeyS_L1 l left) left (szL l)
  | [], left, _, h0, _ => .inr ⟨by simp [szL_nil]; omega, by simp [szL_nil, laws_szKeyS_L1]⟩
  | e :: l, left, hk, h0, h1 => by
    rw [szL_cons]
    unfold laws_szKeyS_L1
    rcases sz_Key_R e left (hk e List.mem_cons_self) h0 h1 with r0 | ⟨q0, r0⟩
    · rw [r0]; exact .inl rfl
    · rw [r0, dF (by omega), cond_false]
      rcases szL_KeyS_R l (left - (sz e : Int)) (fun a ha => hk a (List.mem_cons_of_mem _ ha)) (by omega) (by omega) with r | ⟨q, r⟩
      · exact .inl r
      · exact .inr ⟨by omega, by rw [r]; congr 1; omega⟩
theorem sz_KeyS_R (a : (List Key)) (left : Int) (h : GoT.ok 10 a) (h0 : 0 ≤ left) (h1 : left ≤ 1048576) : SzR (laws_szKeyS a left) left (sz a) := by
  have hl : a.length ≤ 9223372036854775807 := h.1
  rw [sz_list]
  unfold laws_szKeyS
  rw [wrap_sub h0 h1 hl]
  by_cases hc : left - (a.length : Int) < 0
  · rw [dT hc, cond_true]; exact .inl rfl
  · rw [dF (by omega), cond_false]
    rcases szL_KeyS_R a (left - (a.length : Int)) h.2 (by omega) (by omega) with r | ⟨q, r⟩
    · rw [r]; exact .inl rfl
    · rw [r]; exact .inr ⟨by omega, by show left - (a.length : Int) - (szL a : Int) = _; omega⟩
theorem sz_flat_KeyS (e : Key) : sz e = sz e.name.parts := by
  simp only [sz_Key, sz_Name, Nat.add_assoc]
theorem mkL_KeyS : ∀ (l p : (List Key)) (k : Int), 0 ≤ k → k + 16 * ((l.length : Int) + szL l) ≤ 4611686018427387904 → ∃ l' k', laws_markKeyS_L1 l.length p.length (p ++ l) k = (p ++ l', k') ∧ k ≤ k' ∧ k' ≤ k + 16 * ((l.length : Int) + szL l) ∧ True
  | [], p, k, _, _ => ⟨[], k, rfl, by omega, by simp [szL_nil], trivial⟩
  | e :: l, p, k, h0, hb => by
    rw [szL_cons, List.length_cons] at hb
    have hsz := sz_flat_KeyS e
    obtain ⟨p1, q1, e1⟩ := mk_StringS e.name.parts (k) (by omega) (by omega)
    have d1 := dF (show 0 ≤ (laws_markStringS e.name.parts (k)).1 by omega)
    have w2 := wrap1 (x := (laws_markStringS e.name.parts (k)).1) (by omega) (by omega)
    obtain ⟨l', k', r1, r2, r3, r4⟩ := mkL_KeyS l (p ++ [(Key.mk (Name.mk (laws_markStringS e.name.parts k).2) ((laws_markStringS e.name.parts k).1))]) ((laws_markStringS e.name.parts (k)).1 + 1) (by omega) (by omega)
    rw [mid_len] at r1
    refine ⟨(Key.mk (Name.mk (laws_markStringS e.name.parts k).2) ((laws_markStringS e.name.parts k).1)) :: l', k', ?_, by omega, by rw [szL_cons, List.length_cons]; omega, ?_⟩
    · simp only [List.length_cons, laws_markKeyS_L1, mid, mid_set, w2]
      rw [r1, mid_app]
    · trivial
theorem mk_KeyS (a : (List Key)) (k : Int) (h0 : 0 ≤ k) (hb : k + 16 * (sz a : Int) ≤ 4611686018427387904) : MkR k (laws_markKeyS a k).1 (sz a) (laws_markKeyS a k).1 := by
  rw [sz_list] at hb ⊢
  obtain ⟨l', k', r1, r2, r3, r4⟩ := mkL_KeyS a [] k h0 (by omega)
  simp only [List.nil_append, List.length_nil] at r1
  simp only [laws_markKeyS, r1]
  exact ⟨r2, by omega, rfl⟩
theorem eq_Pattern (a : Pattern) : laws_eqPattern a a = true := by
  simp only [laws_eqPattern, bne_self_F, nbeq_self_F, cond_false, Bool.not_true, eq_StringS]
theorem to_Pattern (a : Pattern) : laws_toPattern a = a := by
  simp only [laws_toPattern, to_StringS]
theorem sz_Pattern_R (a : Pattern) (left : Int) (h : GoT.ok 10 a) (h0 : 0 ≤ left) (h1 : left ≤ 1048576) : SzR (laws_szPattern a left) left (sz a) := by
  rw [sz_Pattern]
  unfold laws_szPattern
  rcases sz_StringS_R a.parts left (ok_Pattern h) (by omega) (by omega) with r0 | ⟨q0, r0⟩
  · rw [r0]; exact .inl rfl
  rw [r0, dF (by omega), cond_false]
  exact .inr ⟨by omega, by omega⟩
theorem eq_Rule (a : Rule) : laws_eqRule a a = true := by
  simp only [laws_eqRule, bne_self_F, nbeq_self_F, cond_false, Bool.not_true, eq_Pattern]
theorem to_Rule (a : Rule) : laws_toRule a = a := by
  simp only [laws_toRule, to_Pattern]
theorem sz_Rule_R (a : Rule) (left : Int) (h : GoT.ok 10 a) (h0 : 0 ≤ left) (h1 : left ≤ 1048576) : SzR (laws_szRule a left) left (sz a) := by
  rw [sz_Rule]
  unfold laws_szRule
  rcases sz_Pattern_R a.dataPattern left (ok_Rule h).1 (by omega) (by omega) with r0 | ⟨q0, r0⟩
  · rw [r0]; exact .inl rfl
  rw [r0, dF (by omega), cond_false]
  rcases sz_Pattern_R a.keyPattern (left - (sz a.dataPattern : Int)) (ok_Rule h).2 (by omega) (by omega) with r1 | ⟨q1, r1⟩
  · rw [r1]; exact .inl rfl
  rw [r1, dF (by omega), cond_false]
  exact .inr ⟨by omega, by omega⟩
theorem eqL_RuleS : ∀ (l p : (List Rule)), laws_eqRuleS_L1 (p ++ l) l p.length = none
  | [], _ => rfl
  | e :: l, p => by
    have ih := eqL_RuleS l (p ++ [e])
    rw [mid_app, mid_len] at ih
    simp only [laws_eqRuleS_L1, mid, eq_Rule e, Bool.not_true, cond_false]
    exact ih
theorem eq_RuleS (a : (List Rule)) : laws_eqRuleS a a = true := by
  have h := eqL_RuleS a []
  simp only [List.nil_append, List.length_nil] at h
  simp only [laws_eqRuleS, bne_self_F, cond_false, h]
theorem toL_RuleS : ∀ (l p z : (List Rule)), z.length = l.length → laws_toRuleS_L1 l p.length (p ++ z) = p ++ l
  | [], p, [], _ => rfl
  | e :: l, p, y :: z, h => by
    have ih := toL_RuleS l (p ++ [e]) z (by simpa using h)
    rw [mid_app p e l, mid_len] at ih
    simp only [laws_toRuleS_L1, mid, mid_set, to_Rule e]
    exact ih
theorem to_RuleS (a : (List Rule)) : laws_toRuleS a = a := by
  simp only [laws_toRuleS]
  exact toL_RuleS a [] _ (by simp)
theorem szL_RuleS_R : ∀ (l : (List Rule)) (left : Int), (∀ a ∈ l, GoT.ok 10 a) → 0 ≤ left → left ≤ 1048576 → SzL (laws_szRuleS_L1 l left) left (szL l)
  | [], left, _, h0, _ => .inr ⟨by simp [szL_nil]; omega, by simp [szL_nil, laws_szRuleS_L1]⟩
  | e :: l, left, hk, h0, h1 => by
    rw [szL_cons]
    unfold laws_szRuleS_L1
    rcases sz_Rule_R e left (hk e List.mem_cons_self) h0 h1 with r0 | ⟨q0, r0⟩
    · rw [r0]; exact .inl rfl
    · rw [r0, dF (by omega), cond_false]
      rcases szL_RuleS_R l (left - (sz e : Int)) (fun a ha => hk a (List.mem_cons_of_mem _ ha)) (by omega) (by omega) with r | ⟨q, r⟩
      · exact .inl r
      · exact .inr ⟨by omega, by rw [r]; congr 1; omega⟩
theorem sz_RuleS_R (a : (List Rule)) (left : Int) (h : GoT.ok 10 a) (h0 : 0 ≤ left) (h1 : left ≤ 1048576) : SzR (laws_szRuleS a left) left (sz a) := by
  have hl : a.length ≤ 9223372036854775807 := h.1
  rw [sz_list]
  unfold laws_szRuleS
  rw [wrap_sub h0 h1 hl]
  by_cases hc : left - (a.length : Int) < 0
  · rw [dT hc, cond_true]; exact .inl rfl
  · rw [dF (by omega), cond_false]
    rcases szL_RuleS_R a (left - (a.length : Int)) h.2 (by omega) (by omega) with r | ⟨q, r⟩
    · rw [r]; exact .inl rfl
    · rw [r]; exact .inr ⟨by omega, by show left - (a.length : Int) - (szL a : Int) = _; omega⟩
theorem sz_flat_RuleS (e : Rule) : sz e = sz e.dataPattern.parts + sz e.keyPattern.parts := by
  simp only [sz_Rule, sz_Pattern, Nat.add_assoc]
theorem mkL_RuleS : ∀ (l p : (List Rule)) (k : Int), 0 ≤ k → k + 16 * ((l.length : Int) + szL l) ≤ 4611686018427387904 → ∃ l' k', laws_markRuleS_L1 l.length p.length (p ++ l) k = (p ++ l', k') ∧ k ≤ k' ∧ k' ≤ k + 16 * ((l.length : Int) + szL l) ∧ True
  | [], p, k, _, _ => ⟨[], k, rfl, by omega, by simp [szL_nil], trivial⟩
  | e :: l, p, k, h0, hb => by
    rw [szL_cons, List.length_cons] at hb
    have hsz := sz_flat_RuleS e
    obtain ⟨p1, q1, e1⟩ := mk_StringS e.dataPattern.parts (k) (by omega) (by omega)
    have d1 := dF (show 0 ≤ (laws_markStringS e.dataPattern.parts (k)).1 by omega)
    obtain ⟨p2, q2, e2⟩ := mk_StringS e.keyPattern.parts ((laws_markStringS e.dataPattern.parts (k)).1) (by omega) (by omega)
    have d2 := dF (show 0 ≤ (laws_markStringS e.keyPattern.parts ((laws_markStringS e.dataPattern.parts (k)).1)).1 by omega)
    obtain ⟨l', k', r1, r2, r3, r4⟩ := mkL_RuleS l (p ++ [(Rule.mk (Pattern.mk (laws_markStringS e.dataPattern.parts k).2) (Pattern.mk (laws_markStringS e.keyPattern.parts ((laws_markStringS e.dataPattern.parts k).1)).2))]) (laws_markStringS e.keyPattern.parts ((laws_markStringS e.dataPattern.parts (k)).1)).1 (by omega) (by omega)
    rw [mid_len] at r1
    refine ⟨(Rule.mk (Pattern.mk (laws_markStringS e.dataPattern.parts k).2) (Pattern.mk (laws_markStringS e.keyPattern.parts ((laws_markStringS e.dataPattern.parts k).1)).2)) :: l', k', ?_, by omega, by rw [szL_cons, List.length_cons]; omega, ?_⟩
    · simp only [List.length_cons, laws_markRuleS_L1, mid, mid_set]
      rw [r1, mid_app]
    · trivial
theorem mk_RuleS (a : (List Rule)) (k : Int) (h0 : 0 ≤ k) (hb : k + 16 * (sz a : Int) ≤ 4611686018427387904) : MkR k (laws_markRuleS a k).1 (sz a) (laws_markRuleS a k).1 := by
  rw [sz_list] at hb ⊢
  obtain ⟨l', k', r1, r2, r3, r4⟩ := mkL_RuleS a [] k h0 (by omega)
  simp only [List.nil_append, List.length_nil] at r1
  simp only [laws_markRuleS, r1]
  exact ⟨r2, by omega, rfl⟩
theorem eqL_NameS : ∀ (l p : (List Name)), laws_eqNameS_L1 (p ++ l) l p.length = none
  | [], _ => rfl
  | e :: l, p => by
    have ih := eqL_NameS l (p ++ [e])
    rw [mid_app, mid_len] at ih
    simp only [laws_eqNameS_L1, mid, eq_Name e, Bool.not_true, cond_false]
    exact ih
theorem eq_NameS (a : (List Name)) : laws_eqNameS a a = true := by
  have h := eqL_NameS a []
  simp only [List.nil_append, List.length_nil] at h
  simp only [laws_eqNameS, bne_self_F, cond_false, h]
theorem toL_NameS : ∀ (l p z : (List Name)), z.length = l.length → laws_toNameS_L1 l p.length (p ++ z) = p ++ l
  | [], p, [], _ => rfl
  | e :: l, p, y :: z, h => by
    have ih := toL_NameS l (p ++ [e]) z (by simpa using h)
    rw [mid_app p e l, mid_len] at ih
    simp only [laws_toNameS_L1, mid, mid_set, to_Name e]
    exact ih
theorem to_NameS (a : (List Name)) : laws_toNameS a = a := by
  simp only [laws_toNameS]
  exact toL_NameS a [] _ (by simp)
theorem szL_NameS_R : ∀ (l : (List Name)) (left : Int), (∀ a ∈ l, GoT.ok 10 a) → 0 ≤ left → left ≤ 1048576 → SzL (laws_szNameS_L1 l left) left (szL l)
  | [], left, _, h0, _ => .inr ⟨by simp [szL_nil]; omega, by simp [szL_nil, laws_szNameS_L1]⟩
  | e :: l, left, hk, h0, h1 => by
    rw [szL_cons]
    unfold laws_szNameS_L1
    rcases sz_Name_R e left (hk e List.mem_cons_self) h0 h1 with r0 | ⟨q0, r0⟩
    · rw [r0]; exact .inl rfl
    · rw [r0, dF (by omega), cond_false]
      rcases szL_NameS_R l (left - (sz e : Int)) (fun a ha => hk a (List.mem_cons_of_mem _ ha)) (by omega) (by omega) with r | ⟨q, r⟩
      · exact .inl r
      · exact .inr ⟨by omega, by rw [r]; congr 1; omega⟩
theorem sz_NameS_R (a : (List Name)) (left : Int) (h : GoT.ok 10 a) (h0 : 0 ≤ left) (h1 : left ≤ 1048576) : SzR (laws_szNameS a left) left (sz a) := by
  have hl : a.length ≤ 9223372036854775807 := h.1
  rw [sz_list]
  unfold laws_szNameS
  rw [wrap_sub h0 h1 hl]
  by_cases hc : left - (a.length : Int) < 0
  · rw [dT hc, cond_true]; exact .inl rfl
  · rw [dF (by omega), cond_false]
    rcases szL_NameS_R a (left - (a.length : Int)) h.2 (by omega) (by omega) with r | ⟨q, r⟩
    · rw [r]; exact .inl rfl
    · rw [r]; exact .inr ⟨by omega, by show left - (a.length : Int) - (szL a : Int) = _; omega⟩
theorem sz_flat_NameS (e : Name) : sz e = sz e.parts := by
  simp only [sz_Name, Nat.add_assoc]
theorem mkL_NameS : ∀ (l p : (List Name)) (k : Int), 0 ≤ k → k + 16 * ((l.length : Int) + szL l) ≤ 4611686018427387904 → ∃ l' k', laws_markNameS_L1 l.length p.length (p ++ l) k = (p ++ l', k') ∧ k ≤ k' ∧ k' ≤ k + 16 * ((l.length : Int) + szL l) ∧ True
  | [], p, k, _, _ => ⟨[], k, rfl, by omega, by simp [szL_nil], trivial⟩
  | e :: l, p, k, h0, hb => by
    rw [szL_cons, List.length_cons] at hb
    have hsz := sz_flat_NameS e
    obtain ⟨p1, q1, e1⟩ := mk_StringS e.parts (k) (by omega) (by omega)
    have d1 := dF (show 0 ≤ (laws_markStringS e.parts (k)).1 by omega)
    obtain ⟨l', k', r1, r2, r3, r4⟩ := mkL_NameS l (p ++ [(Name.mk (laws_markStringS e.parts k).2)]) (laws_markStringS e.parts (k)).1 (by omega) (by omega)
    rw [mid_len] at r1
    refine ⟨(Name.mk (laws_markStringS e.parts k).2) :: l', k', ?_, by omega, by rw [szL_cons, List.length_cons]; omega, ?_⟩
    · simp only [List.length_cons, laws_markNameS_L1, mid, mid_set]
      rw [r1, mid_app]
    · trivial
theorem mk_NameS (a : (List Name)) (k : Int) (h0 : 0 ≤ k) (hb : k + 16 * (sz a : Int) ≤ 4611686018427387904) : MkR k (laws_markNameS a k).1 (sz a) (laws_markNameS a k).1 := by
  rw [sz_list] at hb ⊢
  obtain ⟨l', k', r1, r2, r3, r4⟩ := mkL_NameS a [] k h0 (by omega)
  simp only [List.nil_append, List.length_nil] at r1
  simp only [laws_markNameS, r1]
  exact ⟨r2, by omega, rfl⟩
theorem eqL_DataS : ∀ (l p : (List DataP)), laws_eqDataS_L1 (p ++ l) l p.length = none
  | [], _ => rfl
  | e :: l, p => by
    have ih := eqL_DataS l (p ++ [e])
    rw [mid_app, mid_len] at ih
    simp only [laws_eqDataS_L1, mid, eq_Data e, Bool.not_true, cond_false]
    exact ih
theorem eq_DataS (a : (List DataP)) : laws_eqDataS a a = true := by
  have h := eqL_DataS a []
  simp only [List.nil_append, List.length_nil] at h
  simp only [laws_eqDataS, bne_self_F, cond_false, h]
theorem toL_DataS : ∀ (l p z : (List DataP)), z.length = l.length → laws_toDataS_L1 l p.length (p ++ z) = p ++ l
  | [], p, [], _ => rfl
  | e :: l, p, y :: z, h => by
    have ih := toL_DataS l (p ++ [e]) z (by simpa using h)
    rw [mid_app p e l, mid_len] at ih
    simp only [laws_toDataS_L1, mid, mid_set, to_Data e]
    exact ih
theorem to_DataS (a : (List DataP)) : laws_toDataS a = a := by
  simp only [laws_toDataS]
  exact toL_DataS a [] _ (by simp)
theorem szL_DataS_R : ∀ (l : (List DataP)) (left : Int), (∀ a ∈ l, GoT.ok 10 a) → 0 ≤ left → left ≤ 1048576 → SzL (laws_szDataS_L1 l left) left (szL l)
  | [], left, _, h0, _ => .inr ⟨by simp [szL_nil]; omega, by simp [szL_nil, laws_szDataS_L1]⟩
  | e :: l, left, hk, h0, h1 => by
    rw [szL_cons]
    unfold laws_szDataS_L1
    rcases sz_Data_R e left (hk e List.mem_cons_self) h0 h1 with r0 | ⟨q0, r0⟩
    · rw [r0]; exact .inl rfl
    · rw [r0, dF (by omega), cond_false]
      rcases szL_DataS_R l (left - (sz e : Int)) (fun a ha => hk a (List.mem_cons_of_mem _ ha)) (by omega) (by omega) with r | ⟨q, r⟩
      · exact .inl r
      · exact .inr ⟨by omega, by rw [r]; congr 1; omega⟩
theorem sz_DataS_R (a : (List DataP)) (left : Int) (h : GoT.ok 10 a) (h0 : 0 ≤ left) (h1 : left ≤ 1048576) : SzR (laws_szDataS a left) left (sz a) := by
  have hl : a.length ≤ 9223372036854775807 := h.1
  rw [sz_list]
  unfold laws_szDataS
  rw [wrap_sub h0 h1 hl]
  by_cases hc : left - (a.length : Int) < 0
  · rw [dT hc, cond_true]; exact .inl rfl
  · rw [dF (by omega), cond_false]
    rcases szL_DataS_R a (left - (a.length : Int)) h.2 (by omega) (by omega) with r | ⟨q, r⟩
    · rw [r]; exact .inl rfl
    · rw [r]; exact .inr ⟨by omega, by show left - (a.length : Int) - (szL a : Int) = _; omega⟩
theorem sz_flat_DataS (e : DataP) : sz e = sz e.name.parts + sz e.content + sz e.keyName.parts := by
  simp only [sz_DataP, sz_Name, Nat.add_assoc]
theorem mkL_DataS : ∀ (l p : (List DataP)) (k : Int), 0 ≤ k → k + 16 * ((l.length : Int) + szL l) ≤ 4611686018427387904 → ∃ l' k', laws_markDataS_L1 l.length p.length (p ++ l) k = (p ++ l', k') ∧ k ≤ k' ∧ k' ≤ k + 16 * ((l.length : Int) + szL l) ∧ True
  | [], p, k, _, _ => ⟨[], k, rfl, by omega, by simp [szL_nil], trivial⟩
  | e :: l, p, k, h0, hb => by
    rw [szL_cons, List.length_cons] at hb
    have hsz := sz_flat_DataS e
    obtain ⟨p1, q1, e1⟩ := mk_StringS e.name.parts (k) (by omega) (by omega)
    have d1 := dF (show 0 ≤ (laws_markStringS e.name.parts (k)).1 by omega)
    obtain ⟨p2, q2, e2⟩ := mk_ByteS e.content ((laws_markStringS e.name.parts (k)).1) (by omega) (by omega)
    have d2 := dF (show 0 ≤ (laws_markByteS e.content ((laws_markStringS e.name.parts (k)).1)).1 by omega)
    obtain ⟨p3, q3, e3⟩ := mk_StringS e.keyName.parts ((laws_markByteS e.content ((laws_markStringS e.name.parts (k)).1)).1) (by omega) (by omega)
    have d3 := dF (show 0 ≤ (laws_markStringS e.keyName.parts ((laws_markByteS e.content ((laws_markStringS e.name.parts (k)).1)).1)).1 by omega)
    have w4 := wrap1 (x := (laws_markStringS e.keyName.parts ((laws_markByteS e.content ((laws_markStringS e.name.parts (k)).1)).1)).1) (by omega) (by omega)
    have w5 := wrap1 (x := ((laws_markStringS e.keyName.parts ((laws_markByteS e.content ((laws_markStringS e.name.parts (k)).1)).1)).1 + 1)) (by omega) (by omega)
    obtain ⟨l', k', r1, r2, r3, r4⟩ := mkL_DataS l (p ++ [(DataP.mk (Name.mk (laws_markStringS e.name.parts k).2) (laws_markByteS e.content ((laws_markStringS e.name.parts k).1)).2 (Name.mk (laws_markStringS e.keyName.parts ((laws_markByteS e.content ((laws_markStringS e.name.parts k).1)).1)).2) ((laws_markStringS e.keyName.parts ((laws_markByteS e.content ((laws_markStringS e.name.parts k).1)).1)).1) ((laws_markStringS e.keyName.parts ((laws_markByteS e.content ((laws_markStringS e.name.parts k).1)).1)).1 + 1))]) (((laws_markStringS e.keyName.parts ((laws_markByteS e.content ((laws_markStringS e.name.parts (k)).1)).1)).1 + 1) + 1) (by omega) (by omega)
    rw [mid_len] at r1
    refine ⟨(DataP.mk (Name.mk (laws_markStringS e.name.parts k).2) (laws_markByteS e.content ((laws_markStringS e.name.parts k).1)).2 (Name.mk (laws_markStringS e.keyName.parts ((laws_markByteS e.content ((laws_markStringS e.name.parts k).1)).1)).2) ((laws_markStringS e.keyName.parts ((laws_markByteS e.content ((laws_markStringS e.name.parts k).1)).1)).1) ((laws_markStringS e.keyName.parts ((laws_markByteS e.content ((laws_markStringS e.name.parts k).1)).1)).1 + 1)) :: l', k', ?_, by omega, by rw [szL_cons, List.length_cons]; omega, ?_⟩
    · simp only [List.length_cons, laws_markDataS_L1, mid, mid_set, w4, w5]
      rw [r1, mid_app]
    · trivial
theorem mk_DataS (a : (List DataP)) (k : Int) (h0 : 0 ≤ k) (hb : k + 16 * (sz a : Int) ≤ 4611686018427387904) : MkR k (laws_markDataS a k).1 (sz a) (laws_markDataS a k).1 := by
  rw [sz_list] at hb ⊢
  obtain ⟨l', k', r1, r2, r3, r4⟩ := mkL_DataS a [] k h0 (by omega)
  simp only [List.nil_append, List.length_nil] at r1
  simp only [laws_markDataS, r1]
  exact ⟨r2, by omega, rfl⟩
theorem eq_TrustPolicy (a : TrustPolicy) : laws_eqTrustPolicy a a = true := by
  simp only [laws_eqTrustPolicy, bne_self_F, nbeq_self_F, cond_false, Bool.not_true, eq_KeyS, eq_RuleS, eq_NameS, eq_DataS]
theorem to_TrustPolicy (a : TrustPolicy) : laws_toTrustPolicy a = a := by
  simp only [laws_toTrustPolicy, to_KeyS, to_RuleS, to_NameS, to_DataS]
theorem sz_TrustPolicy_R (a : TrustPolicy) (left : Int) (h : GoT.ok 10 a) (h0 : 0 ≤ left) (h1 : left ≤ 1048576) : SzR (laws_szTrustPolicy a left) left (sz a) := by
  rw [sz_TrustPolicy]
  unfold laws_szTrustPolicy
  rcases sz_KeyS_R a.keys left (ok_TrustPolicy h).1 (by omega) (by omega) with r0 | ⟨q0, r0⟩
  · rw [r0]; exact .inl rfl
  rw [r0, dF (by omega), cond_false]
  rcases sz_RuleS_R a.rules (left - (sz a.keys : Int)) (ok_TrustPolicy h).2.1 (by omega) (by omega) with r1 | ⟨q1, r1⟩
  · rw [r1]; exact .inl rfl
  rw [r1, dF (by omega), cond_false]
  rcases sz_NameS_R a.anchors ((left - (sz a.keys : Int)) - (sz a.rules : Int)) (ok_TrustPolicy h).2.2.1 (by omega) (by omega) with r2 | ⟨q2, r2⟩
  · rw [r2]; exact .inl rfl
  rw [r2, dF (by omega), cond_false]
  rcases sz_DataS_R a.certificates (((left - (sz a.keys : Int)) - (sz a.rules : Int)) - (sz a.anchors : Int)) (ok_TrustPolicy h).2.2.2 (by omega) (by omega) with r3 | ⟨q3, r3⟩
  · rw [r3]; exact .inl rfl
  rw [r3, dF (by omega), cond_false]
  exact .inr ⟨by omega, by omega⟩
theorem mk_TrustPolicy (a : TrustPolicy) (k : Int) (h0 : 0 ≤ k) (hb : k + 16 * (sz a : Int) ≤ 4611686018427387904) : MkR k (laws_markTrustPolicy a k).1 (sz a) (laws_markTrustPolicy a k).1 := by
  rw [sz_TrustPolicy] at hb ⊢
  obtain ⟨p0, q0, e0⟩ := mk_KeyS a.keys (k) (by omega) (by omega)
  have d0 := dF (show 0 ≤ (laws_markKeyS a.keys (k)).1 by omega)
  have f0 : (laws_markTrustPolicy a k).2.keys = (laws_markKeyS a.keys (k)).2 := rfl
  obtain ⟨p1, q1, e1⟩ := mk_RuleS a.rules ((laws_markKeyS a.keys (k)).1) (by omega) (by omega)
  have d1 := dF (show 0 ≤ (laws_markRuleS a.rules ((laws_markKeyS a.keys (k)).1)).1 by omega)
  have f1 : (laws_markTrustPolicy a k).2.rules = (laws_markRuleS a.rules ((laws_markKeyS a.keys (k)).1)).2 := rfl
  obtain ⟨p2, q2, e2⟩ := mk_NameS a.anchors ((laws_markRuleS a.rules ((laws_markKeyS a.keys (k)).1)).1) (by omega) (by omega)
  have d2 := dF (show 0 ≤ (laws_markNameS a.anchors ((laws_markRuleS a.rules ((laws_markKeyS a.keys (k)).1)).1)).1 by omega)
  have f2 : (laws_markTrustPolicy a k).2.anchors = (laws_markNameS a.anchors ((laws_markRuleS a.rules ((laws_markKeyS a.keys (k)).1)).1)).2 := rfl
  obtain ⟨p3, q3, e3⟩ := mk_DataS a.certificates ((laws_markNameS a.anchors ((laws_markRuleS a.rules ((laws_markKeyS a.keys (k)).1)).1)).1) (by omega) (by omega)
  have d3 := dF (show 0 ≤ (laws_markDataS a.certificates ((laws_markNameS a.anchors ((laws_markRuleS a.rules ((laws_markKeyS a.keys (k)).1)).1)).1)).1 by omega)
  have f3 : (laws_markTrustPolicy a k).2.certificates = (laws_markDataS a.certificates ((laws_markNameS a.anchors ((laws_markRuleS a.rules ((laws_markKeyS a.keys (k)).1)).1)).1)).2 := rfl
  refine ⟨show k ≤ (laws_markDataS a.certificates ((laws_markNameS a.anchors ((laws_markRuleS a.rules ((laws_markKeyS a.keys (k)).1)).1)).1)).1 by omega, show (laws_markDataS a.certificates ((laws_markNameS a.anchors ((laws_markRuleS a.rules ((laws_markKeyS a.keys (k)).1)).1)).1)).1 ≤ _ by omega, rfl⟩
end Go.Stp

namespace Go.Stp
set_option linter.unusedVariables false
set_option linter.unusedSimpArgs false
def laws_FnExactAcceptData (aA : Consumer) (aT : TrustPolicy) (aX : DataP) (aNow : Int) : Bool :=
  bif decide ((laws_szConsumer aA 1048576) < 0) then
    true
  else
    bif decide ((laws_szTrustPolicy aT (laws_szConsumer aA 1048576)) < 0) then
      true
    else
      bif decide ((laws_szData aX (laws_szTrustPolicy aT (laws_szConsumer aA 1048576))) < 0) then
        true
      else
        bif (!(laws_eqConsumer (impl_AcceptData (laws_toConsumer aA) (laws_toTrustPolicy aT) (laws_toData aX) aNow) (spec_AcceptData (laws_toConsumer aA) (laws_toTrustPolicy aT) (laws_toData aX) aNow))) then
          false
        else
          bif (!(laws_eqConsumer (laws_toConsumer aA) (laws_toConsumer aA))) then
            false
          else
            bif (!(laws_eqTrustPolicy (laws_toTrustPolicy aT) (laws_toTrustPolicy aT))) then
              false
            else
              bif (!(laws_eqData (laws_toData aX) (laws_toData aX))) then
                false
              else
                bif decide ((laws_markData (laws_toData aX) ((laws_markTrustPolicy (laws_toTrustPolicy aT) ((laws_markConsumer (laws_toConsumer aA) 1).1)).1)).1 < 0) then
                  false
                else
                  bif decide ((laws_heldConsumer ((laws_markConsumer (impl_AcceptData (laws_toConsumer aA) (laws_toTrustPolicy aT) (laws_toData aX) aNow) 1).2) 1) < 0) then
                    false
                  else
                    bif ((laws_heldConsumer ((laws_markConsumer (impl_AcceptData (laws_toConsumer aA) (laws_toTrustPolicy aT) (laws_toData aX) aNow) 1).2) 1) != (laws_markConsumer (impl_AcceptData (laws_toConsumer aA) (laws_toTrustPolicy aT) (laws_toData aX) aNow) 1).1) then
                      false
                    else
                      true
end Go.Stp

namespace Go.Proofs.YtolepebgdfdciaaGreat
open Go.Stp
set_option linter.unusedVariables false
set_option linter.unusedSimpArgs false
theorem f5 (w : World) (n : Nat) (hn : n + 7 ≤ 9) (aA : Consumer) (K0 : Option Addr) (M0 : Nat) (N0 : RdSl (hp w) K0 M0 aA.name.parts) (K1 : Option Addr) (M1 : Nat) (N1 : RdSl (hp w) K1 M1 aA.data.name.parts) (K2 : Option Addr) (M2 : Nat) (N2 : RdSl (hp w) K2 M2 aA.data.content) (K3 : Option Addr) (M3 : Nat) (N3 : RdSl (hp w) K3 M3 aA.data.keyName.parts) (aT : TrustPolicy) (K4 : Option Addr) (M4 : Nat) (N4 : RdSl (hp w) K4 M4 aT.keys) (K5 : Option Addr) (M5 : Nat) (N5 : RdSl (hp w) K5 M5 aT.rules) (K6 : Option Addr) (M6 : Nat) (N6 : RdSl (hp w) K6 M6 aT.anchors) (K7 : Option Addr) (M7 : Nat) (N7 : RdSl (hp w) K7 M7 aT.certificates) (aX : DataP) (K8 : Option Addr) (M8 : Nat) (N8 : RdSl (hp w) K8 M8 aX.name.parts) (K9 : Option Addr) (M9 : Nat) (N9 : RdSl (hp w) K9 M9 aX.content) (K10 : Option Addr) (M10 : Nat) (N10 : RdSl (hp w) K10 M10 aX.keyName.parts) (aNow : Int) (hokaA : GoT.ok 10 aA) (hokaT : GoT.ok 10 aT) (hokaX : GoT.ok 10 aX) (hokaNow : GoT.ok 10 aNow) :
  Does Tryz.prog 5 #[.agg #[.int .i64 (aA.node), .int .i64 (aA.index), .slice K0 ((aA.name.parts).length) M0, .int .i64 (aA.attempts), .int .i64 (aA.wait), .bool aA.satisfied, .slice K1 ((aA.data.name.parts).length) M1, .slice K2 ((aA.data.content).length) M2, .slice K3 ((aA.data.keyName.parts).length) M3, .int .i64 (aA.data.freshUntil), .int .i64 (aA.data.signature)], .agg #[.slice K4 ((aT.keys).length) M4, .slice K5 ((aT.rules).length) M5, .slice K6 ((aT.anchors).length) M6, .slice K7 ((aT.certificates).length) M7], .agg #[.slice K8 ((aX.name.parts).length) M8, .slice K9 ((aX.content).length) M9, .slice K10 ((aX.keyName.parts).length) M10, .int .i64 (aX.freshUntil), .int .i64 (aX.signature)], .int .i64 (aNow)] w emp (fun (rv : Value) (_ : World) => rv = .bool (laws_FnExactAcceptData aA aT aX aNow) ∧ True) := by
 have hbP := bd_pos n
 have hbS0 : bd (n + 1) = 4 * bd (n) := bd_succ (n := n) (by omega)
 have hbS1 : bd (n + 2) = 4 * bd (n + 1) := bd_succ (n := n + 1) (by omega)
 have hbS2 : bd (n + 3) = 4 * bd (n + 2) := bd_succ (n := n + 2) (by omega)
 have hbS3 : bd (n + 4) = 4 * bd (n + 3) := bd_succ (n := n + 3) (by omega)
 have hbS4 : bd (n + 5) = 4 * bd (n + 4) := bd_succ (n := n + 4) (by omega)
 have hbS5 : bd (n + 6) = 4 * bd (n + 5) := bd_succ (n := n + 5) (by omega)
 have hbS6 : bd (n + 7) = 4 * bd (n + 6) := bd_succ (n := n + 6) (by omega)
 have hbB := bd_big (n := (n + 7)) (by omega)
 have hbM := bd_mono (show n ≤ n + 7 by omega)
 refine WX.enter (tt := tt) (Γ := [(0, MF.rs .stb K0 M0 aA.name.parts), (1, MF.rs .stb K1 M1 aA.data.name.parts), (2, MF.rs .stb K2 M2 aA.data.content), (3, MF.rs .stb K3 M3 aA.data.keyName.parts), (4, MF.rs .stb K4 M4 aT.keys), (5, MF.rs .stb K5 M5 aT.rules), (6, MF.rs .stb K6 M6 aT.anchors), (7, MF.rs .stb K7 M7 aT.certificates), (8, MF.rs .stb K8 M8 aX.name.parts), (9, MF.rs .stb K9 M9 aX.content), (10, MF.rs .stb K10 M10 aX.keyName.parts)]) Tryz.func5 rfl (by kernel_rfl) rfl (allS_cons rfl N0 (allS_cons rfl N1 (allS_cons rfl N2 (allS_cons rfl N3 (allS_cons rfl N4 (allS_cons rfl N5 (allS_cons rfl N6 (allS_cons rfl N7 (allS_cons rfl N8 (allS_cons rfl N9 (allS_cons rfl N10 allS_nil))))))))))) ?_
 refine R0 ?_
 refine WX.callV rfl rfl rfl rfl rfl (fun _ => rfl) rfl (fun w G bs hI hΓ => f61 w 10 aA K0 M0 (hΓ.get 0 rfl) K1 M1 (hΓ.get 1 rfl) K2 M2 (hΓ.get 2 rfl) K3 M3 (hΓ.get 3 rfl) 1048576 hokaA (show I64 1048576 from (by unfold I64; omega))) ?_
 intro hq1
 refine R0 ?_
 refine WX.cases 23 rfl (fun h1 => ?_) (fun h1 => ?_)
 ·skip
  have h1d := B.dt h1
  refine R0 ?_
  have hP1 : laws_FnExactAcceptData aA aT aX aNow = true := by simp only [laws_FnExactAcceptData, h1, ct, cf]
  exact R3 hP1
 ·skip
  have h1d := B.df h1
  obtain ⟨hs1, ht1⟩ := (sz_Consumer_R aA 1048576 hokaA (by omega) (by omega)).pos (by omega)
  have hk1 : GoT.ok n aA := GoT.okm (Nat.zero_le n) (Sz.low hokaA (show sz aA ≤ 1048576 by omega))
  refine R0 ?_
  refine WX.callV rfl rfl rfl rfl rfl (fun _ => rfl) rfl (fun w G bs hI hΓ => f62 w 10 aT K4 M4 (hΓ.get 4 rfl) K5 M5 (hΓ.get 5 rfl) K6 M6 (hΓ.get 6 rfl) K7 M7 (hΓ.get 7 rfl) (laws_szConsumer aA 1048576) hokaT hq1) ?_
  intro hq2
  refine R0 ?_
  refine WX.cases 28 rfl (fun h2 => ?_) (fun h2 => ?_)
  ·skip
   have h2d := B.dt h2
   refine R0 ?_
   have hP2 : laws_FnExactAcceptData aA aT aX aNow = true := by simp only [laws_FnExactAcceptData, h1, h2, ct, cf]
   exact R3 hP2
  ·skip
   have h2d := B.df h2
   obtain ⟨hs2, ht2⟩ := (sz_TrustPolicy_R aT (laws_szConsumer aA 1048576) hokaT (by omega) (by omega)).pos (by omega)
   have hk2 : GoT.ok n aT := GoT.okm (Nat.zero_le n) (Sz.low hokaT (show sz aT ≤ 1048576 by omega))
   refine R0 ?_
   refine WX.callV rfl rfl rfl rfl rfl (fun _ => rfl) rfl (fun w G bs hI hΓ => f63 w 10 aX K8 M8 (hΓ.get 8 rfl) K9 M9 (hΓ.get 9 rfl) K10 M10 (hΓ.get 10 rfl) (laws_szTrustPolicy aT (laws_szConsumer aA 1048576)) hokaX hq2) ?_
   intro hq3
   refine R0 ?_
   refine WX.cases 33 rfl (fun h3 => ?_) (fun h3 => ?_)
   ·skip
    have h3d := B.dt h3
    refine R0 ?_
    have hP3 : laws_FnExactAcceptData aA aT aX aNow = true := by simp only [laws_FnExactAcceptData, h1, h2, h3, ct, cf]
    exact R3 hP3
   ·skip
    have h3d := B.df h3
    obtain ⟨hs3, ht3⟩ := (sz_Data_R aX (laws_szTrustPolicy aT (laws_szConsumer aA 1048576)) hokaX (by omega) (by omega)).pos (by omega)
    have hk3 : GoT.ok n aX := GoT.okm (Nat.zero_le n) (Sz.low hokaX (show sz aX ≤ 1048576 by omega))
    refine R0 ?_
    refine WX.draw [9] mixed ?_
    intro bs G0 hΓ0
    refine DX.takes (fuel := 6) ttOk [(0, false), (2, false), (4, false), (6, true)] (by kernel_rfl) rfl ?_
    refine DX.pend 8 10 ⟨103, [.int .i64 (0), .int .i64 (0), .slice none (0) 0, .int .i64 (0), .int .i64 (0), .bool false, .slice none (0) 0, .slice none (0) 0, .slice none (0) 0, .int .i64 (0), .int .i64 (0)]⟩ ?_
    refine DXA.callF 1 11 (fun _ _ h => GoT.ow_rd h) (fun _ f hf => GoT.fak f hf) ttOk rfl rfl rfl rfl rfl rfl rfl (by kernel_rfl) (by kernel_rfl) (by kernel_rfl) rfl rfl rfl rfl rfl rfl rfl rfl rfl rfl (fun _ => rfl) rfl rfl (fun w G bs hI hΓ => f65 w n (by omega) aA K0 M0 (hΓ.get 0 rfl) K1 M1 (hΓ.get 1 rfl) K2 M2 (hΓ.get 2 rfl) K3 M3 (hΓ.get 3 rfl) hk1) (fun _ => rfl) (fun _ => rfl) ?_
    rintro ⟨⟨⟩, ⟨⟩, ⟨p1, c1⟩, ⟨⟩, ⟨⟩, ⟨⟩, ⟨⟨p2, c2⟩, ⟨p3, c3⟩, ⟨p4, c4⟩, ⟨⟩, ⟨⟩⟩⟩ hq4
    refine DXA.callF 3 19 (fun _ _ h => GoT.ow_rd h) (fun _ f hf => GoT.fak f hf) ttOk rfl rfl rfl rfl rfl rfl rfl (by kernel_rfl) (by kernel_rfl) (by kernel_rfl) rfl rfl rfl rfl rfl rfl rfl rfl rfl rfl (fun _ => rfl) rfl rfl (fun w G bs hI hΓ => f66 w n (by omega) aT K4 M4 (hΓ.get 4 rfl) K5 M5 (hΓ.get 5 rfl) K6 M6 (hΓ.get 6 rfl) K7 M7 (hΓ.get 7 rfl) hk2) (fun _ => rfl) (fun _ => rfl) ?_
    rintro ⟨⟨p5, c5⟩, ⟨p6, c6⟩, ⟨p7, c7⟩, ⟨p8, c8⟩⟩ hq5
    refine DXA.callF 5 27 (fun _ _ h => GoT.ow_rd h) (fun _ f hf => GoT.fak f hf) ttOk rfl rfl rfl rfl rfl rfl rfl (by kernel_rfl) (by kernel_rfl) (by kernel_rfl) rfl rfl rfl rfl rfl rfl rfl rfl rfl rfl (fun _ => rfl) rfl rfl (fun w G bs hI hΓ => f67 w n (by omega) aX K8 M8 (hΓ.get 8 rfl) K9 M9 (hΓ.get 9 rfl) K10 M10 (hΓ.get 10 rfl) hk3) (fun _ => rfl) (fun _ => rfl) ?_
    rintro ⟨⟨p9, c9⟩, ⟨p10, c10⟩, ⟨p11, c11⟩, ⟨⟩, ⟨⟩⟩ hq6
    refine DXA.callF 7 33 (fun _ _ h => GoT.ow_rd h) (fun _ f hf => GoT.fak f hf) ttOk rfl rfl rfl rfl rfl rfl rfl (by kernel_rfl) (by kernel_rfl) (by kernel_rfl) rfl rfl rfl rfl rfl rfl rfl rfl rfl rfl (fun _ => rfl) rfl rfl (fun w G bs hI hΓ => f64 w n (by omega) (laws_toConsumer aA) p1 c1 (hΓ.get 11 rfl) p2 c2 (hΓ.get 12 rfl) p3 c3 (hΓ.get 13 rfl) p4 c4 (hΓ.get 14 rfl) (laws_toTrustPolicy aT) p5 c5 (hΓ.get 19 rfl) p6 c6 (hΓ.get 20 rfl) p7 c7 (hΓ.get 21 rfl) p8 c8 (hΓ.get 22 rfl) (laws_toData aX) p9 c9 (hΓ.get 27 rfl) p10 c10 (hΓ.get 28 rfl) p11 c11 (hΓ.get 29 rfl) aNow hq4 hq5 hq6 hokaNow) (fun _ => rfl) (fun _ => rfl) ?_
    rintro ⟨⟨⟩, ⟨⟩, ⟨p12, c12⟩, ⟨⟩, ⟨⟩, ⟨⟩, ⟨⟨p13, c13⟩, ⟨p14, c14⟩, ⟨p15, c15⟩, ⟨⟩, ⟨⟩⟩⟩ hq7
    refine DXA.tail [9] ttOk rfl rfl rfl rfl rfl rfl (by kernel_rfl) rfl rfl (by kernel_rfl) ?_
    refine R0 ?_
    refine WX.callF 41 (fun _ _ h => GoT.ow_rd h) (fun _ f hf => GoT.fak f hf) rfl rfl rfl rfl rfl (fun _ => rfl) rfl (fun w G bs hI hΓ => f65 w n (by omega) aA K0 M0 (hΓ.get 0 rfl) K1 M1 (hΓ.get 1 rfl) K2 M2 (hΓ.get 2 rfl) K3 M3 (hΓ.get 3 rfl) hk1) (fun _ => rfl) (fun _ => rfl) ?_
    rintro ⟨⟨⟩, ⟨⟩, ⟨p16, c16⟩, ⟨⟩, ⟨⟩, ⟨⟩, ⟨⟨p17, c17⟩, ⟨p18, c18⟩, ⟨p19, c19⟩, ⟨⟩, ⟨⟩⟩⟩ hq8
    refine R0 ?_
    refine WX.callF 49 (fun _ _ h => GoT.ow_rd h) (fun _ f hf => GoT.fak f hf) rfl rfl rfl rfl rfl (fun _ => rfl) rfl (fun w G bs hI hΓ => f66 w n (by omega) aT K4 M4 (hΓ.get 4 rfl) K5 M5 (hΓ.get 5 rfl) K6 M6 (hΓ.get 6 rfl) K7 M7 (hΓ.get 7 rfl) hk2) (fun _ => rfl) (fun _ => rfl) ?_
    rintro ⟨⟨p20, c20⟩, ⟨p21, c21⟩, ⟨p22, c22⟩, ⟨p23, c23⟩⟩ hq9
    refine R0 ?_
    refine WX.callF 57 (fun _ _ h => GoT.ow_rd h) (fun _ f hf => GoT.fak f hf) rfl rfl rfl rfl rfl (fun _ => rfl) rfl (fun w G bs hI hΓ => f67 w n (by omega) aX K8 M8 (hΓ.get 8 rfl) K9 M9 (hΓ.get 9 rfl) K10 M10 (hΓ.get 10 rfl) hk3) (fun _ => rfl) (fun _ => rfl) ?_
    rintro ⟨⟨p24, c24⟩, ⟨p25, c25⟩, ⟨p26, c26⟩, ⟨⟩, ⟨⟩⟩ hq10
    refine R0 ?_
    refine WX.callF 63 (fun _ _ h => GoT.ow_rd h) (fun _ f hf => GoT.fak f hf) rfl rfl rfl rfl rfl (fun _ => rfl) rfl (fun w G bs hI hΓ => f68 w n (by omega) (laws_toConsumer aA) p16 c16 (hΓ.get 41 rfl) p17 c17 (hΓ.get 42 rfl) p18 c18 (hΓ.get 43 rfl) p19 c19 (hΓ.get 44 rfl) (laws_toTrustPolicy aT) p20 c20 (hΓ.get 49 rfl) p21 c21 (hΓ.get 50 rfl) p22 c22 (hΓ.get 51 rfl) p23 c23 (hΓ.get 52 rfl) (laws_toData aX) p24 c24 (hΓ.get 57 rfl) p25 c25 (hΓ.get 58 rfl) p26 c26 (hΓ.get 59 rfl) aNow (And.intro (ok_Consumer hq4).1 (And.intro (ok_Consumer hq4).2.1 (And.intro (ok_Consumer hq8).2.2.1 (And.intro (ok_Consumer hq4).2.2.2.1 (And.intro (ok_Consumer hq4).2.2.2.2.1 (And.intro trivial (And.intro (ok_DataP (ok_Consumer hq8).2.2.2.2.2.2).1 (And.intro (ok_DataP (ok_Consumer hq8).2.2.2.2.2.2).2.1 (And.intro (ok_DataP (ok_Consumer hq8).2.2.2.2.2.2).2.2.1 (And.intro (ok_DataP (ok_Consumer hq4).2.2.2.2.2.2).2.2.2.1 (ok_DataP (ok_Consumer hq4).2.2.2.2.2.2).2.2.2.2)))))))))) hq9 (And.intro (ok_DataP hq10).1 (And.intro (ok_DataP hq10).2.1 (And.intro (ok_DataP hq10).2.2.1 (And.intro (ok_DataP hq6).2.2.2.1 (ok_DataP hq6).2.2.2.2)))) hokaNow) (fun _ => rfl) (fun _ => rfl) ?_
    rintro ⟨⟨⟩, ⟨⟩, ⟨p27, c27⟩, ⟨⟩, ⟨⟩, ⟨⟩, ⟨⟨p28, c28⟩, ⟨p29, c29⟩, ⟨p30, c30⟩, ⟨⟩, ⟨⟩⟩⟩ hq11
    refine R0 ?_
    refine WX.callV rfl rfl rfl rfl rfl (fun _ => rfl) rfl (fun w G bs hI hΓ => f69 w n (by omega) (impl_AcceptData (laws_toConsumer aA) (laws_toTrustPolicy aT) (laws_toData aX) aNow) p27 c27 (hΓ.get 63 rfl) p28 c28 (hΓ.get 64 rfl) p29 c29 (hΓ.get 65 rfl) p30 c30 (hΓ.get 66 rfl) (spec_AcceptData (laws_toConsumer aA) (laws_toTrustPolicy aT) (laws_toData aX) aNow) p12 c12 (hΓ.get 33 rfl) p13 c13 (hΓ.get 34 rfl) p14 c14 (hΓ.get 35 rfl) p15 c15 (hΓ.get 36 rfl) hq11 hq7) ?_
    intro hq12
    refine R0 ?_
    refine WX.cases 56 rfl (fun h4 => ?_) (fun h4 => ?_)
    ·skip
     have h4d := (B.nt h4)
     refine R0 ?_
     have hP4 : laws_FnExactAcceptData aA aT aX aNow = false := by simp only [laws_FnExactAcceptData, h1, h2, h3, h4, ct, cf]
     exact R3 hP4
    ·skip
     have h4d := (B.nf h4)
     refine R0 ?_
     refine WX.draw [] mixed ?_
     intro bs G0 hΓ0
     refine DX.takes (fuel := 3) ttOk [(0, false), (1, false)] (by kernel_rfl) rfl ?_
     refine DX.callF 2 71 (fun _ _ h => GoT.ow_rd h) (fun _ f hf => GoT.fak f hf) rfl (by kernel_rfl) rfl rfl rfl rfl rfl rfl (fun _ => rfl) rfl (fun w G bs hI hΓ => f65 w n (by omega) aA K0 M0 (hΓ.get 0 rfl) K1 M1 (hΓ.get 1 rfl) K2 M2 (hΓ.get 2 rfl) K3 M3 (hΓ.get 3 rfl) hk1) (fun _ => rfl) (fun _ => rfl) ?_
     rintro ⟨⟨⟩, ⟨⟩, ⟨p31, c31⟩, ⟨⟩, ⟨⟩, ⟨⟩, ⟨⟨p32, c32⟩, ⟨p33, c33⟩, ⟨p34, c34⟩, ⟨⟩, ⟨⟩⟩⟩ hq13
     refine DX.callV 3 rfl (by kernel_rfl) rfl rfl rfl rfl rfl rfl (fun _ => rfl) rfl (fun w G bs hI hΓ => f69 w n (by omega) (laws_toConsumer aA) p16 c16 (hΓ.get 41 rfl) p17 c17 (hΓ.get 42 rfl) p18 c18 (hΓ.get 43 rfl) p19 c19 (hΓ.get 44 rfl) (laws_toConsumer aA) p31 c31 (hΓ.get 71 rfl) p32 c32 (hΓ.get 72 rfl) p33 c33 (hΓ.get 73 rfl) p34 c34 (hΓ.get 74 rfl) (And.intro (ok_Consumer hq4).1 (And.intro (ok_Consumer hq4).2.1 (And.intro (ok_Consumer hq8).2.2.1 (And.intro (ok_Consumer hq4).2.2.2.1 (And.intro (ok_Consumer hq4).2.2.2.2.1 (And.intro trivial (And.intro (ok_DataP (ok_Consumer hq8).2.2.2.2.2.2).1 (And.intro (ok_DataP (ok_Consumer hq8).2.2.2.2.2.2).2.1 (And.intro (ok_DataP (ok_Consumer hq8).2.2.2.2.2.2).2.2.1 (And.intro (ok_DataP (ok_Consumer hq4).2.2.2.2.2.2).2.2.2.1 (ok_DataP (ok_Consumer hq4).2.2.2.2.2.2).2.2.2.2)))))))))) (And.intro (ok_Consumer hq4).1 (And.intro (ok_Consumer hq4).2.1 (And.intro (ok_Consumer hq13).2.2.1 (And.intro (ok_Consumer hq4).2.2.2.1 (And.intro (ok_Consumer hq4).2.2.2.2.1 (And.intro trivial (And.intro (ok_DataP (ok_Consumer hq13).2.2.2.2.2.2).1 (And.intro (ok_DataP (ok_Consumer hq13).2.2.2.2.2.2).2.1 (And.intro (ok_DataP (ok_Consumer hq13).2.2.2.2.2.2).2.2.1 (And.intro (ok_DataP (ok_Consumer hq4).2.2.2.2.2.2).2.2.2.1 (ok_DataP (ok_Consumer hq4).2.2.2.2.2.2).2.2.2.2))))))))))) ?_
     intro hq14
     refine DX.takes (fuel := 0) ttOk [(4, true)] (by kernel_rfl) rfl ?_
     refine DX.tail2 [] rfl rfl (by kernel_rfl) ?_
     refine R0 ?_
     refine WX.cases 61 rfl (fun h5 => ?_) (fun h5 => ?_)
     ·skip
      have h5d := (B.nt h5)
      refine R0 ?_
      have hP5 : laws_FnExactAcceptData aA aT aX aNow = false := by simp only [laws_FnExactAcceptData, h1, h2, h3, h4, h5, ct, cf]
      exact R3 hP5
     ·skip
      have h5d := (B.nf h5)
      refine R0 ?_
      refine WX.draw [] mixed ?_
      intro bs G0 hΓ0
      refine DX.takes (fuel := 3) ttOk [(0, false), (1, false)] (by kernel_rfl) rfl ?_
      refine DX.callF 2 79 (fun _ _ h => GoT.ow_rd h) (fun _ f hf => GoT.fak f hf) rfl (by kernel_rfl) rfl rfl rfl rfl rfl rfl (fun _ => rfl) rfl (fun w G bs hI hΓ => f66 w n (by omega) aT K4 M4 (hΓ.get 4 rfl) K5 M5 (hΓ.get 5 rfl) K6 M6 (hΓ.get 6 rfl) K7 M7 (hΓ.get 7 rfl) hk2) (fun _ => rfl) (fun _ => rfl) ?_
      rintro ⟨⟨p35, c35⟩, ⟨p36, c36⟩, ⟨p37, c37⟩, ⟨p38, c38⟩⟩ hq15
      refine DX.callV 3 rfl (by kernel_rfl) rfl rfl rfl rfl rfl rfl (fun _ => rfl) rfl (fun w G bs hI hΓ => f70 w n (by omega) (laws_toTrustPolicy aT) p20 c20 (hΓ.get 49 rfl) p21 c21 (hΓ.get 50 rfl) p22 c22 (hΓ.get 51 rfl) p23 c23 (hΓ.get 52 rfl) (laws_toTrustPolicy aT) p35 c35 (hΓ.get 79 rfl) p36 c36 (hΓ.get 80 rfl) p37 c37 (hΓ.get 81 rfl) p38 c38 (hΓ.get 82 rfl) hq9 hq15) ?_
      intro hq16
      refine DX.takes (fuel := 0) ttOk [(4, true)] (by kernel_rfl) rfl ?_
      refine DX.tail2 [] rfl rfl (by kernel_rfl) ?_
      refine R0 ?_
      refine WX.cases 66 rfl (fun h6 => ?_) (fun h6 => ?_)
      ·skip
       have h6d := (B.nt h6)
       refine R0 ?_
       have hP6 : laws_FnExactAcceptData aA aT aX aNow = false := by simp only [laws_FnExactAcceptData, h1, h2, h3, h4, h5, h6, ct, cf]
       exact R3 hP6
      ·skip
       have h6d := (B.nf h6)
       refine R0 ?_
       refine WX.draw [] mixed ?_
       intro bs G0 hΓ0
       refine DX.takes (fuel := 3) ttOk [(0, false), (1, false)] (by kernel_rfl) rfl ?_
       refine DX.callF 2 87 (fun _ _ h => GoT.ow_rd h) (fun _ f hf => GoT.fak f hf) rfl (by kernel_rfl) rfl rfl rfl rfl rfl rfl (fun _ => rfl) rfl (fun w G bs hI hΓ => f67 w n (by omega) aX K8 M8 (hΓ.get 8 rfl) K9 M9 (hΓ.get 9 rfl) K10 M10 (hΓ.get 10 rfl) hk3) (fun _ => rfl) (fun _ => rfl) ?_
       rintro ⟨⟨p39, c39⟩, ⟨p40, c40⟩, ⟨p41, c41⟩, ⟨⟩, ⟨⟩⟩ hq17
       refine DX.callV 3 rfl (by kernel_rfl) rfl rfl rfl rfl rfl rfl (fun _ => rfl) rfl (fun w G bs hI hΓ => f71 w n (by omega) (laws_toData aX) p24 c24 (hΓ.get 57 rfl) p25 c25 (hΓ.get 58 rfl) p26 c26 (hΓ.get 59 rfl) (laws_toData aX) p39 c39 (hΓ.get 87 rfl) p40 c40 (hΓ.get 88 rfl) p41 c41 (hΓ.get 89 rfl) (And.intro (ok_DataP hq10).1 (And.intro (ok_DataP hq10).2.1 (And.intro (ok_DataP hq10).2.2.1 (And.intro (ok_DataP hq6).2.2.2.1 (ok_DataP hq6).2.2.2.2)))) (And.intro (ok_DataP hq17).1 (And.intro (ok_DataP hq17).2.1 (And.intro (ok_DataP hq17).2.2.1 (And.intro (ok_DataP hq6).2.2.2.1 (ok_DataP hq6).2.2.2.2))))) ?_
       intro hq18
       refine DX.takes (fuel := 0) ttOk [(4, true)] (by kernel_rfl) rfl ?_
       refine DX.tail2 [] rfl rfl (by kernel_rfl) ?_
       refine R0 ?_
       refine WX.cases 71 rfl (fun h7 => ?_) (fun h7 => ?_)
       ·skip
        have h7d := (B.nt h7)
        refine R0 ?_
        have hP7 : laws_FnExactAcceptData aA aT aX aNow = false := by simp only [laws_FnExactAcceptData, h1, h2, h3, h4, h5, h6, h7, ct, cf]
        exact R3 hP7
       ·skip
        have h7d := (B.nf h7)
        refine R0 ?_
        refine WX.callM [45, 46, 47, 48] 93 rfl (fun _ _ h => GoT.ow_rd h) (fun _ f hf => GoT.fak f hf) rfl rfl rfl rfl rfl (fun _ => rfl) rfl (fun w G bs H hI hH hs hΓ => f72 w n (by omega) (laws_toConsumer aA) p16 c16 p17 c17 p18 c18 p19 c19 1 H hH hs (And.intro (ok_Consumer hq4).1 (And.intro (ok_Consumer hq4).2.1 (And.intro (ok_Consumer hq8).2.2.1 (And.intro (ok_Consumer hq4).2.2.2.1 (And.intro (ok_Consumer hq4).2.2.2.2.1 (And.intro trivial (And.intro (ok_DataP (ok_Consumer hq8).2.2.2.2.2.2).1 (And.intro (ok_DataP (ok_Consumer hq8).2.2.2.2.2.2).2.1 (And.intro (ok_DataP (ok_Consumer hq8).2.2.2.2.2.2).2.2.1 (And.intro (ok_DataP (ok_Consumer hq4).2.2.2.2.2.2).2.2.2.1 (ok_DataP (ok_Consumer hq4).2.2.2.2.2.2).2.2.2.2)))))))))) (show I64 1 from (by unfold I64; omega))) (fun _ => rfl) (fun _ => rfl) ?_
        rintro ⟨⟩ hq19
        have hl1 : ((laws_markConsumer (laws_toConsumer aA) 1).2.name.parts).length = ((laws_toConsumer aA).name.parts).length := hq19.2.2.2.1
        have hl2 : ((laws_markConsumer (laws_toConsumer aA) 1).2.data.name.parts).length = ((laws_toConsumer aA).data.name.parts).length := hq19.2.2.2.2.2.2.2.1
        have hl3 : ((laws_markConsumer (laws_toConsumer aA) 1).2.data.content).length = ((laws_toConsumer aA).data.content).length := hq19.2.2.2.2.2.2.2.2.1
        have hl4 : ((laws_markConsumer (laws_toConsumer aA) 1).2.data.keyName.parts).length = ((laws_toConsumer aA).data.keyName.parts).length := hq19.2.2.2.2.2.2.2.2.2.1
        refine R0 ?_
        refine WX.callM [53, 54, 55, 56] 101 rfl (fun _ _ h => GoT.ow_rd h) (fun _ f hf => GoT.fak f hf) rfl rfl rfl rfl rfl (fun _ => rfl) rfl (fun w G bs H hI hH hs hΓ => f73 w n (by omega) (laws_toTrustPolicy aT) p20 c20 p21 c21 p22 c22 p23 c23 ((laws_markConsumer (laws_toConsumer aA) 1).1) H hH hs hq9 hq19.1.1) (fun _ => rfl) (fun _ => rfl) ?_
        rintro ⟨⟩ hq20
        have hl5 : ((laws_markTrustPolicy (laws_toTrustPolicy aT) ((laws_markConsumer (laws_toConsumer aA) 1).1)).2.keys).length = ((laws_toTrustPolicy aT).keys).length := hq20.2.1
        have hl6 : ((laws_markTrustPolicy (laws_toTrustPolicy aT) ((laws_markConsumer (laws_toConsumer aA) 1).1)).2.rules).length = ((laws_toTrustPolicy aT).rules).length := hq20.2.2.1
        have hl7 : ((laws_markTrustPolicy (laws_toTrustPolicy aT) ((laws_markConsumer (laws_toConsumer aA) 1).1)).2.anchors).length = ((laws_toTrustPolicy aT).anchors).length := hq20.2.2.2.1
        have hl8 : ((laws_markTrustPolicy (laws_toTrustPolicy aT) ((laws_markConsumer (laws_toConsumer aA) 1).1)).2.certificates).length = ((laws_toTrustPolicy aT).certificates).length := hq20.2.2.2.2
        refine R0 ?_
        refine WX.callM [60, 61, 62] 109 rfl (fun _ _ h => GoT.ow_rd h) (fun _ f hf => GoT.fak f hf) rfl rfl rfl rfl rfl (fun _ => rfl) rfl (fun w G bs H hI hH hs hΓ => f74 w n (by omega) (laws_toData aX) p24 c24 p25 c25 p26 c26 ((laws_markTrustPolicy (laws_toTrustPolicy aT) ((laws_markConsumer (laws_toConsumer aA) 1).1)).1) H hH hs (And.intro (ok_DataP hq10).1 (And.intro (ok_DataP hq10).2.1 (And.intro (ok_DataP hq10).2.2.1 (And.intro (ok_DataP hq6).2.2.2.1 (ok_DataP hq6).2.2.2.2)))) hq20.1.1) (fun _ => rfl) (fun _ => rfl) ?_
        rintro ⟨⟩ hq21
        have hl9 : ((laws_markData (laws_toData aX) ((laws_markTrustPolicy (laws_toTrustPolicy aT) ((laws_markConsumer (laws_toConsumer aA) 1).1)).1)).2.name.parts).length = ((laws_toData aX).name.parts).length := hq21.2.1
        have hl10 : ((laws_markData (laws_toData aX) ((laws_markTrustPolicy (laws_toTrustPolicy aT) ((laws_markConsumer (laws_toConsumer aA) 1).1)).1)).2.content).length = ((laws_toData aX).content).length := hq21.2.2.1
        have hl11 : ((laws_markData (laws_toData aX) ((laws_markTrustPolicy (laws_toTrustPolicy aT) ((laws_markConsumer (laws_toConsumer aA) 1).1)).1)).2.keyName.parts).length = ((laws_toData aX).keyName.parts).length := hq21.2.2.2.1
        refine R0 ?_
        refine WX.cases 83 rfl (fun h8 => ?_) (fun h8 => ?_)
        ·skip
         have h8d := B.dt h8
         refine R0 ?_
         have hP8 : laws_FnExactAcceptData aA aT aX aNow = false := by simp only [laws_FnExactAcceptData, h1, h2, h3, h4, h5, h6, h7, h8, ct, cf]
         exact R3 hP8
        ·skip
         have h8d := B.df h8
         refine R0 ?_
         refine WX.der 115 (MF.rs .der p27 c27 ((impl_AcceptData (laws_toConsumer aA) (laws_toTrustPolicy aT) (laws_toData aX) aNow).name.parts)) rfl (fun _ hΓ => (hΓ.get 67 rfl : OwSl _ _ _ _).rd) ?_
         refine WX.der 116 (MF.rs .der p28 c28 ((impl_AcceptData (laws_toConsumer aA) (laws_toTrustPolicy aT) (laws_toData aX) aNow).data.name.parts)) rfl (fun _ hΓ => (hΓ.get 68 rfl : OwSl _ _ _ _).rd) ?_
         refine WX.der 117 (MF.rs .der p29 c29 ((impl_AcceptData (laws_toConsumer aA) (laws_toTrustPolicy aT) (laws_toData aX) aNow).data.content)) rfl (fun _ hΓ => (hΓ.get 69 rfl : OwSl _ _ _ _).rd) ?_
         refine WX.der 118 (MF.rs .der p30 c30 ((impl_AcceptData (laws_toConsumer aA) (laws_toTrustPolicy aT) (laws_toData aX) aNow).data.keyName.parts)) rfl (fun _ hΓ => (hΓ.get 70 rfl : OwSl _ _ _ _).rd) ?_
         refine WX.der 119 (MF.rs .der p12 c12 ((spec_AcceptData (laws_toConsumer aA) (laws_toTrustPolicy aT) (laws_toData aX) aNow).name.parts)) rfl (fun _ hΓ => (hΓ.get 37 rfl : OwSl _ _ _ _).rd) ?_
         refine WX.der 120 (MF.rs .der p13 c13 ((spec_AcceptData (laws_toConsumer aA) (laws_toTrustPolicy aT) (laws_toData aX) aNow).data.name.parts)) rfl (fun _ hΓ => (hΓ.get 38 rfl : OwSl _ _ _ _).rd) ?_
         refine WX.der 121 (MF.rs .der p14 c14 ((spec_AcceptData (laws_toConsumer aA) (laws_toTrustPolicy aT) (laws_toData aX) aNow).data.content)) rfl (fun _ hΓ => (hΓ.get 39 rfl : OwSl _ _ _ _).rd) ?_
         refine WX.der 122 (MF.rs .der p15 c15 ((spec_AcceptData (laws_toConsumer aA) (laws_toTrustPolicy aT) (laws_toData aX) aNow).data.keyName.parts)) rfl (fun _ hΓ => (hΓ.get 40 rfl : OwSl _ _ _ _).rd) ?_
         refine WX.callV rfl rfl rfl rfl rfl (fun _ => rfl) rfl (fun w G bs hI hΓ => f69 w n (by omega) (impl_AcceptData (laws_toConsumer aA) (laws_toTrustPolicy aT) (laws_toData aX) aNow) p27 c27 (hΓ.get 115 rfl) p28 c28 (hΓ.get 116 rfl) p29 c29 (hΓ.get 117 rfl) p30 c30 (hΓ.get 118 rfl) (spec_AcceptData (laws_toConsumer aA) (laws_toTrustPolicy aT) (laws_toData aX) aNow) p12 c12 (hΓ.get 119 rfl) p13 c13 (hΓ.get 120 rfl) p14 c14 (hΓ.get 121 rfl) p15 c15 (hΓ.get 122 rfl) hq11 hq7) ?_
         intro hq22
         refine R0 ?_
         refine WX.cases 88 rfl (fun h9 => ?_) (fun h9 => ?_)
         ·skip
          have h9d := (B.nt h9)
          exact absurd (h4.symm.trans h9) Bool.false_ne_true
         ·skip
          have h9d := (B.nf h9)
          refine R0 ?_
          refine WX.callM [67, 68, 69, 70] 123 rfl (fun _ _ h => GoT.ow_rd h) (fun _ f hf => GoT.fak f hf) rfl rfl rfl rfl rfl (fun _ => rfl) rfl (fun w G bs H hI hH hs hΓ => f72 w n (by omega) (impl_AcceptData (laws_toConsumer aA) (laws_toTrustPolicy aT) (laws_toData aX) aNow) p27 c27 p28 c28 p29 c29 p30 c30 1 H hH hs hq11 (show I64 1 from (by unfold I64; omega))) (fun _ => rfl) (fun _ => rfl) ?_
          rintro ⟨⟩ hq23
          have hl12 : ((laws_markConsumer (impl_AcceptData (laws_toConsumer aA) (laws_toTrustPolicy aT) (laws_toData aX) aNow) 1).2.name.parts).length = ((impl_AcceptData (laws_toConsumer aA) (laws_toTrustPolicy aT) (laws_toData aX) aNow).name.parts).length := hq23.2.2.2.1
          have hl13 : ((laws_markConsumer (impl_AcceptData (laws_toConsumer aA) (laws_toTrustPolicy aT) (laws_toData aX) aNow) 1).2.data.name.parts).length = ((impl_AcceptData (laws_toConsumer aA) (laws_toTrustPolicy aT) (laws_toData aX) aNow).data.name.parts).length := hq23.2.2.2.2.2.2.2.1
          have hl14 : ((laws_markConsumer (impl_AcceptData (laws_toConsumer aA) (laws_toTrustPolicy aT) (laws_toData aX) aNow) 1).2.data.content).length = ((impl_AcceptData (laws_toConsumer aA) (laws_toTrustPolicy aT) (laws_toData aX) aNow).data.content).length := hq23.2.2.2.2.2.2.2.2.1
          have hl15 : ((laws_markConsumer (impl_AcceptData (laws_toConsumer aA) (laws_toTrustPolicy aT) (laws_toData aX) aNow) 1).2.data.keyName.parts).length = ((impl_AcceptData (laws_toConsumer aA) (laws_toTrustPolicy aT) (laws_toData aX) aNow).data.keyName.parts).length := hq23.2.2.2.2.2.2.2.2.2.1
          refine R0 ?_
          have hi10 : (laws_markConsumer (impl_AcceptData (laws_toConsumer aA) (laws_toTrustPolicy aT) (laws_toData aX) aNow) 1).2.node = (impl_AcceptData (laws_toConsumer aA) (laws_toTrustPolicy aT) (laws_toData aX) aNow).node := hq23.2.1
          have hi11 : (laws_markConsumer (impl_AcceptData (laws_toConsumer aA) (laws_toTrustPolicy aT) (laws_toData aX) aNow) 1).2.index = (impl_AcceptData (laws_toConsumer aA) (laws_toTrustPolicy aT) (laws_toData aX) aNow).index := hq23.2.2.1
          have hi12 : (laws_markConsumer (impl_AcceptData (laws_toConsumer aA) (laws_toTrustPolicy aT) (laws_toData aX) aNow) 1).2.attempts = (impl_AcceptData (laws_toConsumer aA) (laws_toTrustPolicy aT) (laws_toData aX) aNow).attempts := hq23.2.2.2.2.1
          have hi13 : (laws_markConsumer (impl_AcceptData (laws_toConsumer aA) (laws_toTrustPolicy aT) (laws_toData aX) aNow) 1).2.wait = (impl_AcceptData (laws_toConsumer aA) (laws_toTrustPolicy aT) (laws_toData aX) aNow).wait := hq23.2.2.2.2.2.1
          have hi14 : (laws_markConsumer (impl_AcceptData (laws_toConsumer aA) (laws_toTrustPolicy aT) (laws_toData aX) aNow) 1).2.satisfied = (impl_AcceptData (laws_toConsumer aA) (laws_toTrustPolicy aT) (laws_toData aX) aNow).satisfied := hq23.2.2.2.2.2.2.1
          have hi15 : (laws_markConsumer (impl_AcceptData (laws_toConsumer aA) (laws_toTrustPolicy aT) (laws_toData aX) aNow) 1).2.data.freshUntil = (impl_AcceptData (laws_toConsumer aA) (laws_toTrustPolicy aT) (laws_toData aX) aNow).data.freshUntil := hq23.2.2.2.2.2.2.2.2.2.2.1
          have hi16 : (laws_markConsumer (impl_AcceptData (laws_toConsumer aA) (laws_toTrustPolicy aT) (laws_toData aX) aNow) 1).2.data.signature = (impl_AcceptData (laws_toConsumer aA) (laws_toTrustPolicy aT) (laws_toData aX) aNow).data.signature := hq23.2.2.2.2.2.2.2.2.2.2.2
          refine WX.slot 92 (y := .v (.agg #[.int .i64 ((laws_markConsumer (impl_AcceptData (laws_toConsumer aA) (laws_toTrustPolicy aT) (laws_toData aX) aNow) 1).2.node), .int .i64 ((laws_markConsumer (impl_AcceptData (laws_toConsumer aA) (laws_toTrustPolicy aT) (laws_toData aX) aNow) 1).2.index), .slice p27 (((laws_markConsumer (impl_AcceptData (laws_toConsumer aA) (laws_toTrustPolicy aT) (laws_toData aX) aNow) 1).2.name.parts).length) c27, .int .i64 ((laws_markConsumer (impl_AcceptData (laws_toConsumer aA) (laws_toTrustPolicy aT) (laws_toData aX) aNow) 1).2.attempts), .int .i64 ((laws_markConsumer (impl_AcceptData (laws_toConsumer aA) (laws_toTrustPolicy aT) (laws_toData aX) aNow) 1).2.wait), .bool ((laws_markConsumer (impl_AcceptData (laws_toConsumer aA) (laws_toTrustPolicy aT) (laws_toData aX) aNow) 1).2.satisfied), .slice p28 (((laws_markConsumer (impl_AcceptData (laws_toConsumer aA) (laws_toTrustPolicy aT) (laws_toData aX) aNow) 1).2.data.name.parts).length) c28, .slice p29 (((laws_markConsumer (impl_AcceptData (laws_toConsumer aA) (laws_toTrustPolicy aT) (laws_toData aX) aNow) 1).2.data.content).length) c29, .slice p30 (((laws_markConsumer (impl_AcceptData (laws_toConsumer aA) (laws_toTrustPolicy aT) (laws_toData aX) aNow) 1).2.data.keyName.parts).length) c30, .int .i64 ((laws_markConsumer (impl_AcceptData (laws_toConsumer aA) (laws_toTrustPolicy aT) (laws_toData aX) aNow) 1).2.data.freshUntil), .int .i64 ((laws_markConsumer (impl_AcceptData (laws_toConsumer aA) (laws_toTrustPolicy aT) (laws_toData aX) aNow) 1).2.data.signature)])) rfl (fun _ => by show (.agg #[.int .i64 ((impl_AcceptData (laws_toConsumer aA) (laws_toTrustPolicy aT) (laws_toData aX) aNow).node), .int .i64 ((impl_AcceptData (laws_toConsumer aA) (laws_toTrustPolicy aT) (laws_toData aX) aNow).index), .slice p27 (((impl_AcceptData (laws_toConsumer aA) (laws_toTrustPolicy aT) (laws_toData aX) aNow).name.parts).length) c27, .int .i64 ((impl_AcceptData (laws_toConsumer aA) (laws_toTrustPolicy aT) (laws_toData aX) aNow).attempts), .int .i64 ((impl_AcceptData (laws_toConsumer aA) (laws_toTrustPolicy aT) (laws_toData aX) aNow).wait), .bool ((impl_AcceptData (laws_toConsumer aA) (laws_toTrustPolicy aT) (laws_toData aX) aNow).satisfied), .slice p28 (((impl_AcceptData (laws_toConsumer aA) (laws_toTrustPolicy aT) (laws_toData aX) aNow).data.name.parts).length) c28, .slice p29 (((impl_AcceptData (laws_toConsumer aA) (laws_toTrustPolicy aT) (laws_toData aX) aNow).data.content).length) c29, .slice p30 (((impl_AcceptData (laws_toConsumer aA) (laws_toTrustPolicy aT) (laws_toData aX) aNow).data.keyName.parts).length) c30, .int .i64 ((impl_AcceptData (laws_toConsumer aA) (laws_toTrustPolicy aT) (laws_toData aX) aNow).data.freshUntil), .int .i64 ((impl_AcceptData (laws_toConsumer aA) (laws_toTrustPolicy aT) (laws_toData aX) aNow).data.signature)] : Value) = .agg #[.int .i64 ((laws_markConsumer (impl_AcceptData (laws_toConsumer aA) (laws_toTrustPolicy aT) (laws_toData aX) aNow) 1).2.node), .int .i64 ((laws_markConsumer (impl_AcceptData (laws_toConsumer aA) (laws_toTrustPolicy aT) (laws_toData aX) aNow) 1).2.index), .slice p27 (((laws_markConsumer (impl_AcceptData (laws_toConsumer aA) (laws_toTrustPolicy aT) (laws_toData aX) aNow) 1).2.name.parts).length) c27, .int .i64 ((laws_markConsumer (impl_AcceptData (laws_toConsumer aA) (laws_toTrustPolicy aT) (laws_toData aX) aNow) 1).2.attempts), .int .i64 ((laws_markConsumer (impl_AcceptData (laws_toConsumer aA) (laws_toTrustPolicy aT) (laws_toData aX) aNow) 1).2.wait), .bool ((laws_markConsumer (impl_AcceptData (laws_toConsumer aA) (laws_toTrustPolicy aT) (laws_toData aX) aNow) 1).2.satisfied), .slice p28 (((laws_markConsumer (impl_AcceptData (laws_toConsumer aA) (laws_toTrustPolicy aT) (laws_toData aX) aNow) 1).2.data.name.parts).length) c28, .slice p29 (((laws_markConsumer (impl_AcceptData (laws_toConsumer aA) (laws_toTrustPolicy aT) (laws_toData aX) aNow) 1).2.data.content).length) c29, .slice p30 (((laws_markConsumer (impl_AcceptData (laws_toConsumer aA) (laws_toTrustPolicy aT) (laws_toData aX) aNow) 1).2.data.keyName.parts).length) c30, .int .i64 ((laws_markConsumer (impl_AcceptData (laws_toConsumer aA) (laws_toTrustPolicy aT) (laws_toData aX) aNow) 1).2.data.freshUntil), .int .i64 ((laws_markConsumer (impl_AcceptData (laws_toConsumer aA) (laws_toTrustPolicy aT) (laws_toData aX) aNow) 1).2.data.signature)]; simp only [hl12, hl13, hl14, hl15, hi10, hi11, hi12, hi13, hi14, hi15, hi16]) ?_
          refine WX.callV rfl rfl rfl rfl rfl (fun _ => rfl) rfl (fun w G bs hI hΓ => f75 w n (by omega) ((laws_markConsumer (impl_AcceptData (laws_toConsumer aA) (laws_toTrustPolicy aT) (laws_toData aX) aNow) 1).2) p27 c27 (hΓ.get 123 rfl) p28 c28 (hΓ.get 124 rfl) p29 c29 (hΓ.get 125 rfl) p30 c30 (hΓ.get 126 rfl) 1 hq23.1.2 (show I64 1 from (by unfold I64; omega))) ?_
          intro hq24
          refine R0 ?_
          refine WX.cases 96 rfl (fun h10 => ?_) (fun h10 => ?_)
          ·skip
           have h10d := B.dt h10
           refine R0 ?_
           have hP9 : laws_FnExactAcceptData aA aT aX aNow = false := by simp only [laws_FnExactAcceptData, h1, h2, h3, h4, h5, h6, h7, h8, h9, h10, ct, cf]
           exact R3 hP9
          ·skip
           have h10d := B.df h10
           refine R0 ?_
           refine WX.cases 99 rfl (fun h11 => ?_) (fun h11 => ?_)
           ·skip
            have h11d := B.nt' h11
            refine R0 ?_
            have hP10 : laws_FnExactAcceptData aA aT aX aNow = false := by simp only [laws_FnExactAcceptData, h1, h2, h3, h4, h5, h6, h7, h8, h9, h10, h11, ct, cf]
            exact R3 hP10
           ·skip
            have h11d := B.nf' h11
            refine R0 ?_
            refine WX.der 131 (MF.rs .der p24 c24 ((laws_markData (laws_toData aX) ((laws_markTrustPolicy (laws_toTrustPolicy aT) ((laws_markConsumer (laws_toConsumer aA) 1).1)).1)).2.name.parts)) rfl (fun _ hΓ => (hΓ.get 112 rfl : OwSl _ _ _ _).rd) ?_
            refine WX.der 132 (MF.rs .der p25 c25 ((laws_markData (laws_toData aX) ((laws_markTrustPolicy (laws_toTrustPolicy aT) ((laws_markConsumer (laws_toConsumer aA) 1).1)).1)).2.content)) rfl (fun _ hΓ => (hΓ.get 113 rfl : OwSl _ _ _ _).rd) ?_
            refine WX.der 133 (MF.rs .der p26 c26 ((laws_markData (laws_toData aX) ((laws_markTrustPolicy (laws_toTrustPolicy aT) ((laws_markConsumer (laws_toConsumer aA) 1).1)).1)).2.keyName.parts)) rfl (fun _ hΓ => (hΓ.get 114 rfl : OwSl _ _ _ _).rd) ?_
            refine WX.der 134 (MF.rs .der p20 c20 ((laws_markTrustPolicy (laws_toTrustPolicy aT) ((laws_markConsumer (laws_toConsumer aA) 1).1)).2.keys)) rfl (fun _ hΓ => (hΓ.get 105 rfl : OwSl _ _ _ _).rd) ?_
            refine WX.der 135 (MF.rs .der p21 c21 ((laws_markTrustPolicy (laws_toTrustPolicy aT) ((laws_markConsumer (laws_toConsumer aA) 1).1)).2.rules)) rfl (fun _ hΓ => (hΓ.get 106 rfl : OwSl _ _ _ _).rd) ?_
            refine WX.der 136 (MF.rs .der p22 c22 ((laws_markTrustPolicy (laws_toTrustPolicy aT) ((laws_markConsumer (laws_toConsumer aA) 1).1)).2.anchors)) rfl (fun _ hΓ => (hΓ.get 107 rfl : OwSl _ _ _ _).rd) ?_
            refine WX.der 137 (MF.rs .der p23 c23 ((laws_markTrustPolicy (laws_toTrustPolicy aT) ((laws_markConsumer (laws_toConsumer aA) 1).1)).2.certificates)) rfl (fun _ hΓ => (hΓ.get 108 rfl : OwSl _ _ _ _).rd) ?_
            refine WX.der 138 (MF.rs .der p16 c16 ((laws_markConsumer (laws_toConsumer aA) 1).2.name.parts)) rfl (fun _ hΓ => (hΓ.get 97 rfl : OwSl _ _ _ _).rd) ?_
            refine WX.der 139 (MF.rs .der p17 c17 ((laws_markConsumer (laws_toConsumer aA) 1).2.data.name.parts)) rfl (fun _ hΓ => (hΓ.get 98 rfl : OwSl _ _ _ _).rd) ?_
            refine WX.der 140 (MF.rs .der p18 c18 ((laws_markConsumer (laws_toConsumer aA) 1).2.data.content)) rfl (fun _ hΓ => (hΓ.get 99 rfl : OwSl _ _ _ _).rd) ?_
            refine WX.der 141 (MF.rs .der p19 c19 ((laws_markConsumer (laws_toConsumer aA) 1).2.data.keyName.parts)) rfl (fun _ hΓ => (hΓ.get 100 rfl : OwSl _ _ _ _).rd) ?_
            refine WX.der 142 (MF.rs .der p12 c12 ((spec_AcceptData (laws_toConsumer aA) (laws_toTrustPolicy aT) (laws_toData aX) aNow).name.parts)) rfl (fun _ hΓ => (hΓ.get 37 rfl : OwSl _ _ _ _).rd) ?_
            refine WX.der 143 (MF.rs .der p13 c13 ((spec_AcceptData (laws_toConsumer aA) (laws_toTrustPolicy aT) (laws_toData aX) aNow).data.name.parts)) rfl (fun _ hΓ => (hΓ.get 38 rfl : OwSl _ _ _ _).rd) ?_
            refine WX.der 144 (MF.rs .der p14 c14 ((spec_AcceptData (laws_toConsumer aA) (laws_toTrustPolicy aT) (laws_toData aX) aNow).data.content)) rfl (fun _ hΓ => (hΓ.get 39 rfl : OwSl _ _ _ _).rd) ?_
            refine WX.der 145 (MF.rs .der p15 c15 ((spec_AcceptData (laws_toConsumer aA) (laws_toTrustPolicy aT) (laws_toData aX) aNow).data.keyName.parts)) rfl (fun _ hΓ => (hΓ.get 40 rfl : OwSl _ _ _ _).rd) ?_
            refine WX.draw [9] mixed ?_
            intro bs G0 hΓ0
            refine DX.takes (fuel := 6) ttOk [(0, false), (2, false), (4, false), (6, true)] (by kernel_rfl) rfl ?_
            refine DX.pend 8 18 ⟨103, [.int .i64 (0), .int .i64 (0), .slice none (0) 0, .int .i64 (0), .int .i64 (0), .bool false, .slice none (0) 0, .slice none (0) 0, .slice none (0) 0, .int .i64 (0), .int .i64 (0)]⟩ ?_
            refine DXA.callF 1 146 (fun _ _ h => GoT.ow_rd h) (fun _ f hf => GoT.fak f hf) ttOk rfl rfl rfl rfl rfl rfl rfl (by kernel_rfl) (by kernel_rfl) (by kernel_rfl) rfl rfl rfl rfl rfl rfl rfl rfl rfl rfl (fun _ => rfl) rfl rfl (fun w G bs hI hΓ => f65 w n (by omega) aA K0 M0 (hΓ.get 0 rfl) K1 M1 (hΓ.get 1 rfl) K2 M2 (hΓ.get 2 rfl) K3 M3 (hΓ.get 3 rfl) hk1) (fun _ => rfl) (fun _ => rfl) ?_
            rintro ⟨⟨⟩, ⟨⟩, ⟨p42, c42⟩, ⟨⟩, ⟨⟩, ⟨⟩, ⟨⟨p43, c43⟩, ⟨p44, c44⟩, ⟨p45, c45⟩, ⟨⟩, ⟨⟩⟩⟩ hq25
            refine DXA.callF 3 154 (fun _ _ h => GoT.ow_rd h) (fun _ f hf => GoT.fak f hf) ttOk rfl rfl rfl rfl rfl rfl rfl (by kernel_rfl) (by kernel_rfl) (by kernel_rfl) rfl rfl rfl rfl rfl rfl rfl rfl rfl rfl (fun _ => rfl) rfl rfl (fun w G bs hI hΓ => f66 w n (by omega) aT K4 M4 (hΓ.get 4 rfl) K5 M5 (hΓ.get 5 rfl) K6 M6 (hΓ.get 6 rfl) K7 M7 (hΓ.get 7 rfl) hk2) (fun _ => rfl) (fun _ => rfl) ?_
            rintro ⟨⟨p46, c46⟩, ⟨p47, c47⟩, ⟨p48, c48⟩, ⟨p49, c49⟩⟩ hq26
            refine DXA.callF 5 162 (fun _ _ h => GoT.ow_rd h) (fun _ f hf => GoT.fak f hf) ttOk rfl rfl rfl rfl rfl rfl rfl (by kernel_rfl) (by kernel_rfl) (by kernel_rfl) rfl rfl rfl rfl rfl rfl rfl rfl rfl rfl (fun _ => rfl) rfl rfl (fun w G bs hI hΓ => f67 w n (by omega) aX K8 M8 (hΓ.get 8 rfl) K9 M9 (hΓ.get 9 rfl) K10 M10 (hΓ.get 10 rfl) hk3) (fun _ => rfl) (fun _ => rfl) ?_
            rintro ⟨⟨p50, c50⟩, ⟨p51, c51⟩, ⟨p52, c52⟩, ⟨⟩, ⟨⟩⟩ hq27
            refine DXA.callF 7 168 (fun _ _ h => GoT.ow_rd h) (fun _ f hf => GoT.fak f hf) ttOk rfl rfl rfl rfl rfl rfl rfl (by kernel_rfl) (by kernel_rfl) (by kernel_rfl) rfl rfl rfl rfl rfl rfl rfl rfl rfl rfl (fun _ => rfl) rfl rfl (fun w G bs hI hΓ => f68 w n (by omega) (laws_toConsumer aA) p42 c42 (hΓ.get 146 rfl) p43 c43 (hΓ.get 147 rfl) p44 c44 (hΓ.get 148 rfl) p45 c45 (hΓ.get 149 rfl) (laws_toTrustPolicy aT) p46 c46 (hΓ.get 154 rfl) p47 c47 (hΓ.get 155 rfl) p48 c48 (hΓ.get 156 rfl) p49 c49 (hΓ.get 157 rfl) (laws_toData aX) p50 c50 (hΓ.get 162 rfl) p51 c51 (hΓ.get 163 rfl) p52 c52 (hΓ.get 164 rfl) aNow (And.intro (ok_Consumer hq4).1 (And.intro (ok_Consumer hq4).2.1 (And.intro (ok_Consumer hq25).2.2.1 (And.intro (ok_Consumer hq4).2.2.2.1 (And.intro (ok_Consumer hq4).2.2.2.2.1 (And.intro trivial (And.intro (ok_DataP (ok_Consumer hq25).2.2.2.2.2.2).1 (And.intro (ok_DataP (ok_Consumer hq25).2.2.2.2.2.2).2.1 (And.intro (ok_DataP (ok_Consumer hq25).2.2.2.2.2.2).2.2.1 (And.intro (ok_DataP (ok_Consumer hq4).2.2.2.2.2.2).2.2.2.1 (ok_DataP (ok_Consumer hq4).2.2.2.2.2.2).2.2.2.2)))))))))) hq26 (And.intro (ok_DataP hq27).1 (And.intro (ok_DataP hq27).2.1 (And.intro (ok_DataP hq27).2.2.1 (And.intro (ok_DataP hq6).2.2.2.1 (ok_DataP hq6).2.2.2.2)))) hokaNow) (fun _ => rfl) (fun _ => rfl) ?_
            rintro ⟨⟨⟩, ⟨⟩, ⟨p53, c53⟩, ⟨⟩, ⟨⟩, ⟨⟩, ⟨⟨p54, c54⟩, ⟨p55, c55⟩, ⟨p56, c56⟩, ⟨⟩, ⟨⟩⟩⟩ hq28
            refine DXA.tail [9] ttOk rfl rfl rfl rfl rfl rfl (by kernel_rfl) rfl rfl (by kernel_rfl) ?_
            refine R0 ?_
            refine WX.callV rfl rfl rfl rfl rfl (fun _ => rfl) rfl (fun w G bs hI hΓ => f69 w n (by omega) (impl_AcceptData (laws_toConsumer aA) (laws_toTrustPolicy aT) (laws_toData aX) aNow) p53 c53 (hΓ.get 168 rfl) p54 c54 (hΓ.get 169 rfl) p55 c55 (hΓ.get 170 rfl) p56 c56 (hΓ.get 171 rfl) (spec_AcceptData (laws_toConsumer aA) (laws_toTrustPolicy aT) (laws_toData aX) aNow) p12 c12 (hΓ.get 142 rfl) p13 c13 (hΓ.get 143 rfl) p14 c14 (hΓ.get 144 rfl) p15 c15 (hΓ.get 145 rfl) (And.intro (ok_Consumer hq11).1 (And.intro (ok_Consumer hq11).2.1 (And.intro (ok_Consumer hq28).2.2.1 (And.intro (ok_Consumer hq11).2.2.2.1 (And.intro (ok_Consumer hq11).2.2.2.2.1 (And.intro trivial (And.intro (ok_DataP (ok_Consumer hq28).2.2.2.2.2.2).1 (And.intro (ok_DataP (ok_Consumer hq28).2.2.2.2.2.2).2.1 (And.intro (ok_DataP (ok_Consumer hq28).2.2.2.2.2.2).2.2.1 (And.intro (ok_DataP (ok_Consumer hq11).2.2.2.2.2.2).2.2.2.1 (ok_DataP (ok_Consumer hq11).2.2.2.2.2.2).2.2.2.2)))))))))) hq7) ?_
            intro hq29
            refine R0 ?_
            refine WX.cases 111 rfl (fun h12 => ?_) (fun h12 => ?_)
            ·skip
             have h12d := (B.nt h12)
             exact absurd (h4.symm.trans h12) Bool.false_ne_true
            ·skip
             have h12d := (B.nf h12)
             refine R0 ?_
             refine WX.slot 112 (y := .v (.agg #[.int .i64 ((laws_markConsumer (impl_AcceptData (laws_toConsumer aA) (laws_toTrustPolicy aT) (laws_toData aX) aNow) 1).2.node), .int .i64 ((laws_markConsumer (impl_AcceptData (laws_toConsumer aA) (laws_toTrustPolicy aT) (laws_toData aX) aNow) 1).2.index), .slice p27 (((laws_markConsumer (impl_AcceptData (laws_toConsumer aA) (laws_toTrustPolicy aT) (laws_toData aX) aNow) 1).2.name.parts).length) c27, .int .i64 ((laws_markConsumer (impl_AcceptData (laws_toConsumer aA) (laws_toTrustPolicy aT) (laws_toData aX) aNow) 1).2.attempts), .int .i64 ((laws_markConsumer (impl_AcceptData (laws_toConsumer aA) (laws_toTrustPolicy aT) (laws_toData aX) aNow) 1).2.wait), .bool ((laws_markConsumer (impl_AcceptData (laws_toConsumer aA) (laws_toTrustPolicy aT) (laws_toData aX) aNow) 1).2.satisfied), .slice p28 (((laws_markConsumer (impl_AcceptData (laws_toConsumer aA) (laws_toTrustPolicy aT) (laws_toData aX) aNow) 1).2.data.name.parts).length) c28, .slice p29 (((laws_markConsumer (impl_AcceptData (laws_toConsumer aA) (laws_toTrustPolicy aT) (laws_toData aX) aNow) 1).2.data.content).length) c29, .slice p30 (((laws_markConsumer (impl_AcceptData (laws_toConsumer aA) (laws_toTrustPolicy aT) (laws_toData aX) aNow) 1).2.data.keyName.parts).length) c30, .int .i64 ((laws_markConsumer (impl_AcceptData (laws_toConsumer aA) (laws_toTrustPolicy aT) (laws_toData aX) aNow) 1).2.data.freshUntil), .int .i64 ((laws_markConsumer (impl_AcceptData (laws_toConsumer aA) (laws_toTrustPolicy aT) (laws_toData aX) aNow) 1).2.data.signature)])) rfl (fun _ => by show (.agg #[.int .i64 ((impl_AcceptData (laws_toConsumer aA) (laws_toTrustPolicy aT) (laws_toData aX) aNow).node), .int .i64 ((impl_AcceptData (laws_toConsumer aA) (laws_toTrustPolicy aT) (laws_toData aX) aNow).index), .slice p27 (((impl_AcceptData (laws_toConsumer aA) (laws_toTrustPolicy aT) (laws_toData aX) aNow).name.parts).length) c27, .int .i64 ((impl_AcceptData (laws_toConsumer aA) (laws_toTrustPolicy aT) (laws_toData aX) aNow).attempts), .int .i64 ((impl_AcceptData (laws_toConsumer aA) (laws_toTrustPolicy aT) (laws_toData aX) aNow).wait), .bool ((impl_AcceptData (laws_toConsumer aA) (laws_toTrustPolicy aT) (laws_toData aX) aNow).satisfied), .slice p28 (((impl_AcceptData (laws_toConsumer aA) (laws_toTrustPolicy aT) (laws_toData aX) aNow).data.name.parts).length) c28, .slice p29 (((impl_AcceptData (laws_toConsumer aA) (laws_toTrustPolicy aT) (laws_toData aX) aNow).data.content).length) c29, .slice p30 (((impl_AcceptData (laws_toConsumer aA) (laws_toTrustPolicy aT) (laws_toData aX) aNow).data.keyName.parts).length) c30, .int .i64 ((impl_AcceptData (laws_toConsumer aA) (laws_toTrustPolicy aT) (laws_toData aX) aNow).data.freshUntil), .int .i64 ((impl_AcceptData (laws_toConsumer aA) (laws_toTrustPolicy aT) (laws_toData aX) aNow).data.signature)] : Value) = .agg #[.int .i64 ((laws_markConsumer (impl_AcceptData (laws_toConsumer aA) (laws_toTrustPolicy aT) (laws_toData aX) aNow) 1).2.node), .int .i64 ((laws_markConsumer (impl_AcceptData (laws_toConsumer aA) (laws_toTrustPolicy aT) (laws_toData aX) aNow) 1).2.index), .slice p27 (((laws_markConsumer (impl_AcceptData (laws_toConsumer aA) (laws_toTrustPolicy aT) (laws_toData aX) aNow) 1).2.name.parts).length) c27, .int .i64 ((laws_markConsumer (impl_AcceptData (laws_toConsumer aA) (laws_toTrustPolicy aT) (laws_toData aX) aNow) 1).2.attempts), .int .i64 ((laws_markConsumer (impl_AcceptData (laws_toConsumer aA) (laws_toTrustPolicy aT) (laws_toData aX) aNow) 1).2.wait), .bool ((laws_markConsumer (impl_AcceptData (laws_toConsumer aA) (laws_toTrustPolicy aT) (laws_toData aX) aNow) 1).2.satisfied), .slice p28 (((laws_markConsumer (impl_AcceptData (laws_toConsumer aA) (laws_toTrustPolicy aT) (laws_toData aX) aNow) 1).2.data.name.parts).length) c28, .slice p29 (((laws_markConsumer (impl_AcceptData (laws_toConsumer aA) (laws_toTrustPolicy aT) (laws_toData aX) aNow) 1).2.data.content).length) c29, .slice p30 (((laws_markConsumer (impl_AcceptData (laws_toConsumer aA) (laws_toTrustPolicy aT) (laws_toData aX) aNow) 1).2.data.keyName.parts).length) c30, .int .i64 ((laws_markConsumer (impl_AcceptData (laws_toConsumer aA) (laws_toTrustPolicy aT) (laws_toData aX) aNow) 1).2.data.freshUntil), .int .i64 ((laws_markConsumer (impl_AcceptData (laws_toConsumer aA) (laws_toTrustPolicy aT) (laws_toData aX) aNow) 1).2.data.signature)]; simp only [hl12, hl13, hl14, hl15, hi10, hi11, hi12, hi13, hi14, hi15, hi16]) ?_
             refine WX.callV rfl rfl rfl rfl rfl (fun _ => rfl) rfl (fun w G bs hI hΓ => f75 w n (by omega) ((laws_markConsumer (impl_AcceptData (laws_toConsumer aA) (laws_toTrustPolicy aT) (laws_toData aX) aNow) 1).2) p27 c27 (hΓ.get 123 rfl) p28 c28 (hΓ.get 124 rfl) p29 c29 (hΓ.get 125 rfl) p30 c30 (hΓ.get 126 rfl) 1 hq23.1.2 (show I64 1 from (by unfold I64; omega))) ?_
             intro hq30
             refine R0 ?_
             refine WX.cases 116 rfl (fun h13 => ?_) (fun h13 => ?_)
             ·skip
              have h13d := B.dt h13
              exact absurd (h10.symm.trans h13) Bool.false_ne_true
             ·skip
              have h13d := B.df h13
              refine R0 ?_
              refine WX.cases 119 rfl (fun h14 => ?_) (fun h14 => ?_)
              ·skip
               have h14d := B.nt' h14
               exact absurd (h11.symm.trans h14) Bool.false_ne_true
              ·skip
               have h14d := B.nf' h14
               refine R0 ?_
               have hP11 : laws_FnExactAcceptData aA aT aX aNow = true := by simp only [laws_FnExactAcceptData, h1, h2, h3, h4, h5, h6, h7, h8, h9, h10, h11, h12, h13, h14, ct, cf]
               exact R3 hP11
end Go.Proofs.YtolepebgdfdciaaGreat

namespace Go.Stp
set_option linter.unusedVariables false
set_option linter.unusedSimpArgs false
inductive PutShape (l : List TableEntry) (n_ : Name) (v : Int) : List TableEntry → Prop
  | same : PutShape l n_ v l
  | nil : PutShape l n_ v []
  | set (i : Nat) (e : TableEntry) (h : l[i]? = some e) : PutShape l n_ v (l.set i ⟨e.name, v⟩)
  | ins (i : Nat) : PutShape l n_ v (l.take i ++ [⟨n_, v⟩] ++ l.drop i)
theorem PutShape.len {l r : List TableEntry} {n_ : Name} {v : Int} (h : PutShape l n_ v r) : r.length ≤ l.length + 1 := by
  cases h with
  | same => exact Nat.le_succ _
  | nil => exact Nat.zero_le _
  | set i e h => rw [List.length_set]; exact Nat.le_succ _
  | ins i => simp only [List.length_append, List.length_take, List.length_drop, List.length_cons, List.length_nil]; omega
end Go.Stp

namespace Go.Stp
set_option linter.unusedVariables false
set_option linter.unusedSimpArgs false
inductive ApShape (m : Member) (x_ : Publication) : Member → Prop
  | same : ApShape m x_ m
  | put (l : List TableEntry) (h : PutShape m.vector.entries x_.publisher x_.seq l) : ApShape m x_ ⟨m.name, ⟨l⟩, m.publications ++ [x_]⟩
end Go.Stp

namespace Go.Stp
set_option linter.unusedVariables false
set_option linter.unusedSimpArgs false
theorem same_In (a b c : Int) : impl_InRange a b c = spec_l1In a b c := rfl
theorem sEqL_string : ∀ (a b p : List Str), a.length = b.length → slices_Equal_string_L1 (p ++ b) a p.length = (if a.map (fun z : Str => z.toList) = b.map (fun z : Str => z.toList) then none else some false)
  | [], [], p, _ => by simp [slices_Equal_string_L1]
  | x :: a, y :: b, p, h => by
    have ih := sEqL_string a b (p ++ [y]) (by simpa using h)
    rw [mid_app, mid_len] at ih
    simp only [slices_Equal_string_L1, mid]
    by_cases hxy : x.toList = y.toList
    · simp [hxy, ih]
    · have hb : (x.toList == y.toList) = false := by simpa using hxy
      simp [hb, hxy]
theorem sEq_string (a b : List Str) : slices_Equal_string a b = decide (a.map (fun z : Str => z.toList) = b.map (fun z : Str => z.toList)) := by
  unfold slices_Equal_string
  by_cases hl : a.length = b.length
  · have h := sEqL_string a b [] hl
    simp only [List.nil_append, List.length_nil] at h
    simp only [hl, bne_self_F, cond_false, h]
    split <;> simp_all
  · have hne : a.map (fun z : Str => z.toList) ≠ b.map (fun z : Str => z.toList) := fun h => hl (by simpa using congrArg List.length h)
    have hn : ((a.length : Int) != (b.length : Int)) = true := by simp; omega
    simp [hn, hne]
theorem sEqL_byte : ∀ (a b p : List UInt8), a.length = b.length → slices_Equal_byte_L1 (p ++ b) a p.length = (if a = b then none else some false)
  | [], [], p, _ => by simp [slices_Equal_byte_L1]
  | x :: a, y :: b, p, h => by
    have ih := sEqL_byte a b (p ++ [y]) (by simpa using h)
    rw [mid_app, mid_len] at ih
    simp only [slices_Equal_byte_L1, mid]
    by_cases hxy : x = y
    · simp [hxy, ih]
    · have hn : ((x.toNat : Int) != (y.toNat : Int)) = true := by
        have : x.toNat ≠ y.toNat := fun h => hxy (UInt8.toNat_inj.mp h)
        simp; omega
      simp [hn, hxy]
theorem sEq_byte (a b : List UInt8) : slices_Equal_byte a b = decide (a = b) := by
  unfold slices_Equal_byte
  by_cases hl : a.length = b.length
  · have h := sEqL_byte a b [] hl
    simp only [List.nil_append, List.length_nil] at h
    simp only [hl, bne_self_F, cond_false, h]
    split <;> simp_all
  · have hne : a ≠ b := fun h => hl (by rw [h])
    have hn : ((a.length : Int) != (b.length : Int)) = true := by simp; omega
    simp [hn, hne]
theorem cNL : ∀ (a b p : List Str), match spec_CompareNames_L1 ⟨p ++ b⟩ a p.length with
    | some k => k ≠ 0 ∧ a.map (fun z : Str => z.toList) ≠ b.map (fun z : Str => z.toList)
    | none => a.length = b.length → a.map (fun z : Str => z.toList) = b.map (fun z : Str => z.toList)
  | [], b, p => by
    simp only [spec_CompareNames_L1]
    intro h
    cases b with
    | nil => rfl
    | cons => simp at h
  | x :: a, [], p => by simp [spec_CompareNames_L1]
  | x :: a, y :: b, p => by
    have ih := cNL a b (p ++ [y])
    rw [mid_app, mid_len] at ih
    have hlt : decide (((p.length : Nat) : Int) < (((p ++ y :: b).length : Nat) : Int)) = true := by simp; omega
    simp only [spec_CompareNames_L1, hlt, cond_true, mid]
    by_cases hk : spec_l4Cmp x y = 0
    · have e : x.toList = y.toList := (l4_zero _ _).1 hk
      rw [hk]
      simp only [bne_self_F, cond_false]
      revert ih
      cases spec_CompareNames_L1 ⟨p ++ y :: b⟩ a (p.length + 1) with
      | none => intro ih h; simp [e, ih (by simpa using h)]
      | some k => intro ih; exact ⟨ih.1, fun h => ih.2 (by simpa [e] using h)⟩
    · have hn : (spec_l4Cmp x y != 0) = true := by simpa using hk
      simp only [hn, cond_true]
      exact ⟨hk, fun h => hk ((l4_zero _ _).2 (by simp at h; exact h.1))⟩
theorem same_EqualNames (a b : Name) : impl_EqualNames a b = spec_EqualNames a b := by
  unfold impl_EqualNames spec_EqualNames spec_CompareNames
  rw [sEq_string]
  have h : match spec_CompareNames_L1 b a.parts 0 with
    | some k => k ≠ 0 ∧ a.parts.map (fun z : Str => z.toList) ≠ b.parts.map (fun z : Str => z.toList)
    | none => a.parts.length = b.parts.length → a.parts.map (fun z : Str => z.toList) = b.parts.map (fun z : Str => z.toList) := cNL a.parts b.parts []
  revert h
  cases spec_CompareNames_L1 b a.parts 0 with
  | some k => intro ⟨h1, h2⟩; simp [h1, h2]
  | none =>
    intro h
    by_cases hl : a.parts.length = b.parts.length
    · simp [h hl, hl]
    · have ne : a.parts.map (fun z : Str => z.toList) ≠ b.parts.map (fun z : Str => z.toList) := fun h => hl (by simpa using congrArg List.length h)
      rcases Nat.lt_or_gt_of_ne hl with c | c
      · simp [ne, c]
      · have c' : ¬ a.parts.length < b.parts.length := by omega
        simp [ne, c, c']
theorem same_EqualBytes (a b : List UInt8) : slices_Equal_byte a b = spec_EqualBytes a b := by
  rw [sEq_byte]
  unfold spec_EqualBytes bstr
  rw [ByteArray.toList_mk, ByteArray.toList_mk]
  by_cases e : a = b
  · simp [e]
  · have hb : (a == b) = false := by simpa using e
    simp [hb, e]
theorem vPL : ∀ l : List UInt8, impl_ValidPart_L1 l = spec_ValidPart_L1 l ∧ (spec_ValidPart_L1 l = none ∨ spec_ValidPart_L1 l = some false)
  | [] => ⟨rfl, .inl rfl⟩
  | c :: l => by
    obtain ⟨h1, h2⟩ := vPL l
    simp only [impl_ValidPart_L1, spec_ValidPart_L1, h1, spec_l1In, ge_iff_le]
    cases decide ((97 : Int) ≤ (c.toNat : Int)) <;> cases decide ((c.toNat : Int) ≤ 122) <;> cases decide ((48 : Int) ≤ (c.toNat : Int)) <;> cases decide ((c.toNat : Int) ≤ 57) <;> cases hc : ((c.toNat : Int) == 45) <;> simp [bne, hc, h2]
theorem same_ValidPart (s : Str) : impl_ValidPart s = spec_ValidPart s := by
  unfold impl_ValidPart spec_ValidPart
  obtain ⟨h1, h2⟩ := vPL s.data.toList
  rw [h1, same_In]
  rcases h2 with h | h <;> rw [h] <;> cases spec_l1In (((s).size : Nat) : Int) 1 8 <;> rfl
theorem iF_string : ∀ (f : Str → Bool) (l : List Str) (i : Nat), (slices_IndexFunc_string_L1 f l i = none ∧ l.any f = false) ∨ ∃ j : Nat, slices_IndexFunc_string_L1 f l i = some (j : Int) ∧ l.any f = true
  | f, [], i => .inl ⟨rfl, rfl⟩
  | f, x :: l, i => by
    simp only [slices_IndexFunc_string_L1, List.any_cons]
    cases hx : f x
    · simpa using iF_string f l (i + 1)
    · exact .inr ⟨i, rfl, rfl⟩
theorem cF_string (l : List Str) (f : Str → Bool) : slices_ContainsFunc_string l f = l.any f := by
  unfold slices_ContainsFunc_string slices_IndexFunc_string
  rcases iF_string f l 0 with ⟨h1, h2⟩ | ⟨j, h1, h2⟩ <;> simp [h1, h2]
theorem vNL : ∀ l : List Str, spec_ValidName_L1 l = bif l.any (fun e => !(spec_ValidPart e)) then some false else none
  | [] => rfl
  | x :: l => by
    simp only [spec_ValidName_L1, List.any_cons]
    cases (!(spec_ValidPart x)) <;> simp [vNL l]
theorem same_ValidName (a : Name) : impl_ValidName a = spec_ValidName a := by
  unfold impl_ValidName spec_ValidName impl_ValidName_c1
  rw [cF_string, vNL]
  simp only [same_ValidPart]
  cases a.parts.any (fun e => !(spec_ValidPart e)) <;> cases decide ((((a.parts).length : Nat) : Int) ≤ 6) <;> rfl
theorem same_ValidData (a : DataP) : impl_ValidData a = spec_ValidData a := by
  simp only [impl_ValidData, spec_ValidData, same_ValidName, same_In]
theorem szL_append {α : Type} [GoT α] [Sz α] (a b : List α) : szL (a ++ b) = szL a + szL b := by simp [szL]
theorem szL_set {α : Type} [GoT α] [Sz α] (x y : α) (hxy : sz x = sz y) : ∀ (l : List α) (i : Nat), l[i]? = some y → szL (l.set i x) = szL l
  | [], i, h => by simp at h
  | z :: l, 0, h => by
    simp at h; subst h
    rw [List.set_cons_zero, szL_cons, szL_cons, hxy]
  | z :: l, i + 1, h => by
    rw [List.set_cons_succ, szL_cons, szL_cons, szL_set x y hxy l i (by simpa using h)]
theorem PutShape.size {l r : List TableEntry} {n_ : Name} {v : Int} (h : PutShape l n_ v r) : sz r ≤ sz l + 1 + sz n_ := by
  cases h with
  | same => omega
  | nil => simp [sz_list, szL_nil]
  | set i e h =>
    have := szL_set ⟨e.name, v⟩ e (by rw [sz_TableEntry, sz_TableEntry]) l i h
    rw [sz_list, sz_list, List.length_set, this]; omega
  | ins i =>
    have h1 := szL_append (l.take i) (l.drop i)
    rw [List.take_append_drop] at h1
    have h2 : szL [(⟨n_, v⟩ : TableEntry)] = sz n_ := by simp [szL, sz_TableEntry]
    rw [sz_list, sz_list, szL_append, szL_append, h2]
    simp only [List.length_append, List.length_take, List.length_drop, List.length_cons, List.length_nil]
    omega
end Go.Stp

namespace Go.Stp
set_option linter.unusedVariables false
set_option linter.unusedSimpArgs false
theorem same_isVariable (s : Str) : impl_isVariable s = spec_l5Letter s := by
  simp only [impl_isVariable, spec_l5Letter, spec_l1In]
theorem wrap_len1 {n : Nat} (h : n ≤ 9223372036854775807) : IntKind.i64.wrap ((n : Int) - 1) = (n : Int) - 1 := by
  simp [IntKind.wrap, IntKind.bits, IntKind.signed]
  omega
theorem vpL (p_ : Pattern) (hp : p_.parts.length ≤ 9223372036854775807) : ∀ (l : List Str) (i : Nat), i + l.length = p_.parts.length → impl_ValidPattern_L1 p_ l i = spec_ValidPattern_L1 p_ l i
  | [], i, _ => rfl
  | x :: l, i, h => by
    rw [List.length_cons] at h
    have ih := vpL p_ hp l (i + 1) (by omega)
    have e : (((i : Nat) : Int) != IntKind.i64.wrap (((p_.parts.length : Nat) : Int) - 1)) = decide (((i : Nat) : Int) < IntKind.i64.wrap (((p_.parts.length : Nat) : Int) - 1)) := by
      rw [wrap_len1 hp]
      by_cases hc : ((i : Nat) : Int) < ((p_.parts.length : Nat) : Int) - 1
      · rw [decide_eq_true hc]; simp only [bne, beq_eq_false_iff_ne.2 (show ((i : Nat) : Int) ≠ ((p_.parts.length : Nat) : Int) - 1 by omega), Bool.not_false]
      · rw [decide_eq_false hc, show ((i : Nat) : Int) = ((p_.parts.length : Nat) : Int) - 1 by omega, bne_self_eq_false]
    simp only [impl_ValidPattern_L1, spec_ValidPattern_L1, same_ValidPart, same_isVariable, ih, e]
theorem same_ValidPattern (p_ : Pattern) (hp : p_.parts.length ≤ 9223372036854775807) : impl_ValidPattern p_ = spec_ValidPattern p_ := by
  simp only [impl_ValidPattern, spec_ValidPattern, vpL p_ hp p_.parts 0 (Nat.zero_add _)]
theorem ixsL (v : Str) : ∀ (l : List Str) (i : Nat), (slices_Index_string_L1 v l i = none ∧ spec_l10Has_L1 v l = none) ∨ (∃ j : Nat, slices_Index_string_L1 v l i = some (j : Int)) ∧ spec_l10Has_L1 v l = some true
  | [], i => .inl ⟨rfl, rfl⟩
  | x :: l, i => by
    simp only [slices_Index_string_L1, spec_l10Has_L1]
    have e : (v.toList == x.toList) = (x.toList == v.toList) := BEq.comm
    rw [e]
    cases x.toList == v.toList
    · exact ixsL v l (i + 1)
    · exact .inr ⟨⟨i, rfl⟩, rfl⟩
theorem same_l10Has (p_ : Pattern) (v : Str) : slices_Contains_string p_.parts v = spec_l10Has p_ v := by
  unfold slices_Contains_string slices_Index_string spec_l10Has
  rcases ixsL v p_.parts 0 with ⟨h1, h2⟩ | ⟨⟨j, h1⟩, h2⟩
  · rw [h1, h2]; rfl
  · rw [h1, h2]
    exact decide_eq_true (show ((j : Nat) : Int) ≥ 0 by omega)
theorem vrL (r : Rule) : ∀ (l : List Str), impl_ValidRule_L1 r l = spec_ValidRule_L1 r l
  | [] => rfl
  | x :: l => by
    simp only [impl_ValidRule_L1, spec_ValidRule_L1, same_isVariable, same_l10Has, vrL r l]
theorem same_ValidRule (r : Rule) (h : GoT.ok 10 r) : impl_ValidRule r = spec_ValidRule r := by
  have h1 : r.dataPattern.parts.length ≤ 9223372036854775807 := (okl (ok_Pattern (ok_Rule h).1)).1
  have h2 : r.keyPattern.parts.length ≤ 9223372036854775807 := (okl (ok_Pattern (ok_Rule h).2)).1
  simp only [impl_ValidRule, spec_ValidRule, same_ValidPattern _ h1, same_ValidPattern _ h2, vrL]
end Go.Stp

namespace Go.Stp
set_option linter.unusedVariables false
set_option linter.unusedSimpArgs false
theorem i64w {x : Int} (h : -9223372036854775808 ≤ x ∧ x ≤ 9223372036854775807) : IntKind.i64.wrap x = x := by
  simp [IntKind.wrap, IntKind.bits, IntKind.signed]
  omega
theorem ofI64 {x : Int} (h : 0 ≤ x ∧ x ≤ 9223372036854775807) : (BitVec.ofInt 64 x).toNat = x.toNat := by
  rw [BitVec.toNat_ofInt]
  omega
set_option maxRecDepth 100000 in
theorem m128 : ∀ m : Fin 256, m.val ||| 128 = ((m.val &&& 127) ||| 128) := by decide
theorem byteE {n : Int} (h : 0 ≤ n ∧ n ≤ 1000000000000) : ((toU8 n) ||| (128 : UInt8)) = toU8 (bitO .or (bitO .and n 127) 128) := by
  apply UInt8.toNat_inj.1
  have a1 : bitO .and n 127 = ((n.toNat &&& 127 : Nat) : Int) := by
    have h2 : (BitVec.ofInt 64 (127 : Int)).toNat = 127 := by decide
    have h3 : n.toNat &&& 127 ≤ 127 := Nat.and_le_right
    simp only [bitO, BitVec.toNat_and, ofI64 (x := n) (by omega), h2]
    exact i64w (by omega)
  have h3 : n.toNat &&& 127 ≤ 127 := Nat.and_le_right
  have h4 : (n.toNat &&& 127) ||| 128 < 2 ^ 8 := Nat.or_lt_two_pow (by omega) (by decide)
  have a2 : bitO .or (bitO .and n 127) 128 = ((((n.toNat &&& 127) ||| 128 : Nat)) : Int) := by
    have h2 : (BitVec.ofInt 64 (128 : Int)).toNat = 128 := by decide
    rw [a1]
    simp only [bitO, BitVec.toNat_or, ofI64 (x := ((n.toNat &&& 127 : Nat) : Int)) (by omega), h2, Int.toNat_natCast]
    exact i64w (by omega)
  rw [a2, UInt8.toNat_or]
  have b1 : (toU8 n).toNat = n.toNat % 256 := by
    unfold toU8
    rw [UInt8.toNat_ofNat']
    omega
  have b2 : (toU8 ((((n.toNat &&& 127) ||| 128 : Nat)) : Int)).toNat = (n.toNat &&& 127) ||| 128 := by
    unfold toU8
    rw [UInt8.toNat_ofNat']
    omega
  have b3 : ((128 : UInt8)).toNat = 128 := rfl
  rw [b1, b2, b3]
  have h5 := m128 ⟨n.toNat % 256, Nat.mod_lt _ (by decide)⟩
  dsimp only at h5
  rw [h5]
  have h6 : n.toNat % 256 &&& 127 = n.toNat &&& 127 := by
    rw [show (127 : Nat) = 2 ^ 7 - 1 from rfl, Nat.and_two_pow_sub_one_eq_mod, Nat.and_two_pow_sub_one_eq_mod]
    omega
  rw [h6]
theorem avE : ∀ (m : Nat) (n : Int) (out : List UInt8) (k : Nat), avI n k → 5 - k = m → impl_AppendVarint_L1 n out = spec_AppendVarint_L1 n out
  | 0, n, out, k, h, hm => by
    have h1 := avI_len h
    have h2 : n < 128 := by unfold avI at h; omega
    rw [impl_AppendVarint_L1, spec_AppendVarint_L1, if_neg (by omega), if_neg (by omega)]
  | m + 1, n, out, k, h, hm => by
    rw [impl_AppendVarint_L1, spec_AppendVarint_L1]
    by_cases hn : n ≥ 128
    · rw [if_pos hn, if_pos (by omega), sh7, byteE (avI_rng h)]
      exact avE m (n / 128) _ (k + 1) (avI_step h hn) (by omega)
    · rw [if_neg hn, if_neg (by omega)]
theorem same_AppendVarint (b : List UInt8) (n_ : Int) : impl_AppendVarint b n_ = spec_AppendVarint b n_ := by
  unfold impl_AppendVarint spec_AppendVarint
  rw [same_In]
  cases hr : spec_l1In n_ 0 1000000000000
  · rfl
  · rw [avE 5 n_ b 0 (avI_0 (inR_specP hr)) rfl]
theorem same_AppendBytes (b s : List UInt8) : impl_AppendBytes b s = spec_AppendBytes b s := by
  simp only [impl_AppendBytes, spec_AppendBytes, same_AppendVarint]
theorem anE : ∀ (l : List Str) (o : List UInt8), impl_AppendName_L1 l o = spec_AppendName_L1 l o
  | [], o => rfl
  | x :: l, o => by simp only [impl_AppendName_L1, spec_AppendName_L1, same_AppendBytes, anE l]
theorem same_AppendName (b : List UInt8) (n_ : Name) : impl_AppendName b n_ = spec_AppendName b n_ := by
  simp only [impl_AppendName, spec_AppendName, same_ValidName, same_AppendVarint, anE]
theorem biT : ∀ (b : List UInt8) (l : List Int), impl_BytesToInts_L1 b l = spec_BytesToInts_L1 b l
  | [], _ => rfl
  | x :: b, l => by simp only [impl_BytesToInts_L1, spec_BytesToInts_L1]; exact biT b _
theorem same_BytesToInts (b : List UInt8) : impl_BytesToInts b = spec_BytesToInts b := by simp only [impl_BytesToInts, spec_BytesToInts, biT]
theorem same_Mod (a b : Int) : impl_Mod a b = spec_Mod a b := by simp only [impl_Mod, spec_Mod, same_In]
theorem dgT : ∀ (l : List Int) (d : Int), impl_Digest_L1 l d = spec_Digest_L1 l d
  | [], _ => rfl
  | x :: l, d => by simp only [impl_Digest_L1, spec_Digest_L1, same_Mod]; exact dgT l _
theorem same_Digest (l : List Int) : impl_Digest l = spec_Digest l := by simp only [impl_Digest, spec_Digest, dgT]
theorem same_ComputeMAC (s : Int) (l : List Int) : impl_ComputeMAC s l = spec_ComputeMAC s l := by
  simp only [impl_ComputeMAC, spec_ComputeMAC, same_Digest, slices_Concat_int, slices_Grow_int, concL]
  simp
theorem same_SignedPortion (x : DataP) : impl_SignedPortion x = spec_SignedPortion x := by
  simp only [impl_SignedPortion, spec_SignedPortion, slices_Concat_int, slices_Grow_int, concL, same_BytesToInts, same_AppendName]
  simp
theorem soT (n_ : Name) : ∀ (l : List Key) (i : Nat), (impl_SecretOf_L1 n_ l = none ∧ spec_l9Find_L1 n_ l i = none) ∨ ∃ (j : Nat) (e : Key), spec_l9Find_L1 n_ l i = some ((i + j : Nat) : Int) ∧ l[j]? = some e ∧ impl_SecretOf_L1 n_ l = some e.secret
  | [], _ => .inl ⟨rfl, rfl⟩
  | x :: l, i => by
    simp only [impl_SecretOf_L1, spec_l9Find_L1, same_EqualNames]
    cases h : spec_EqualNames x.name n_
    · simp only [cond_false]
      rcases soT n_ l (i + 1) with ⟨h1, h2⟩ | ⟨j, e, h1, h2, h3⟩
      · exact .inl ⟨h1, h2⟩
      · refine .inr ⟨j + 1, e, ?_, by simpa using h2, h3⟩
        rw [h1]
        congr 1
        omega
    · simp only [cond_true]
      exact .inr ⟨0, x, rfl, rfl, rfl⟩
theorem same_SecretOf (l : List Key) (n_ : Name) : impl_SecretOf l n_ = spec_SecretOf l n_ := by
  unfold impl_SecretOf spec_SecretOf spec_l9Find
  rcases soT n_ l 0 with ⟨h1, h2⟩ | ⟨j, e, h1, h2, h3⟩
  · rw [h1, h2]; rfl
  · rw [h1, h3]
    simp only [Nat.zero_add, decide_eq_false (show ¬ ((j : Nat) : Int) < 0 by omega), cond_false, Int.toNat_natCast, h2]
theorem same_VerifySignature (l : List Key) (x : DataP) : impl_VerifySignature l x = spec_VerifySignature l x := by
  simp only [impl_VerifySignature, spec_VerifySignature, impl_VerifyData, spec_VerifyData, same_SecretOf, same_ComputeMAC, same_SignedPortion, impl_ValidSecret, spec_ValidSecret, same_In]
theorem fbT (k : Str) : ∀ (l : List Binding) (i : Nat), slices_IndexFunc_Binding_L1 (fun e0_ => (impl_Match_c1 k e0_)) l i = spec_l5Find_L1 k l i
  | [], _ => rfl
  | x :: l, i => by
    have ih := fbT k l (i + 1)
    simp only [slices_IndexFunc_Binding_L1, spec_l5Find_L1, ih]
    rfl
theorem same_l5Find (k : Str) (l : List Binding) : slices_IndexFunc_Binding l (fun e0_ => (impl_Match_c1 k e0_)) = spec_l5Find l k := by
  simp only [slices_IndexFunc_Binding, spec_l5Find, fbT]
theorem mtT (n_ : Name) (l : List Binding) : ∀ (r : List Str) (i : Nat) (o : List Binding), impl_Match_L1 n_ l r i o = spec_Match_L1 n_ l r i o
  | [], _, _ => rfl
  | x :: r, i, o => by
    simp only [impl_Match_L1, spec_Match_L1, same_l5Find, same_isVariable, mtT n_ l r]
    cases h1 : ((x).toList == ((⟨#[42, 42]⟩ : Str)).toList)
    · simp only [cond_false]
      cases h2 : decide (((i : Nat) : Int) ≥ (((n_.parts).length : Nat) : Int))
      · simp only [cond_false]
        have h3 : i < n_.parts.length := by have := of_decide_eq_false h2; omega
        obtain ⟨e, he⟩ : ∃ e, n_.parts[i]? = some e := ⟨_, List.getElem?_eq_getElem h3⟩
        simp only [he]
        cases h4 : ((x).toList == ((⟨#[42]⟩ : Str)).toList)
        · simp only [cond_false]
          cases h5 : spec_l5Letter x <;> simp only [Bool.not_true, Bool.not_false, cond_true, cond_false]
        · rfl
      · rfl
    · rfl
theorem mtN (n_ : Name) (l : List Binding) : ∀ (r : List Str) (i : Nat) (o q : List Binding), spec_Match_L1 n_ l r i o = .nxt q → i ≤ n_.parts.length → i + r.length ≤ n_.parts.length
  | [], i, o, q, _, hi => by simpa using hi
  | x :: r, i, o, q, h, hi => by
    simp only [spec_Match_L1] at h
    cases h1 : ((x).toList == ((⟨#[42, 42]⟩ : Str)).toList) <;> simp only [h1, cond_true, cond_false] at h
    · cases h2 : decide (((i : Nat) : Int) ≥ (((n_.parts).length : Nat) : Int)) <;> simp only [h2, cond_true, cond_false] at h
      · have h3 : i < n_.parts.length := by have := of_decide_eq_false h2; omega
        have go : ∀ o', spec_Match_L1 n_ l r (i + 1) o' = .nxt q → i + (x :: r).length ≤ n_.parts.length := fun o' h' => by
          have := mtN n_ l r (i + 1) o' q h' (by omega)
          rw [List.length_cons]; omega
        obtain ⟨e, he⟩ : ∃ e, n_.parts[i]? = some e := ⟨_, List.getElem?_eq_getElem h3⟩
        simp only [he] at h
        cases h4 : ((x).toList == ((⟨#[42]⟩ : Str)).toList) <;> simp only [h4, cond_true, cond_false] at h
        · cases h5 : spec_l5Letter x <;> simp only [h5, cond_true, cond_false] at h
          · cases h6 : (!((x).toList == (e).toList)) <;> simp only [h6, cond_true, cond_false] at h
            · exact go _ h
            · cases h
          · cases h6 : decide ((spec_l5Find o x) < 0) <;> simp only [h6, cond_true, cond_false] at h
            · cases h7 : (o)[((spec_l5Find o x)).toNat]? with
              | none => simp only [h7] at h; cases h
              | some e3 =>
                simp only [h7] at h
                cases h8 : (!((e3.value).toList == (e).toList)) <;> simp only [h8, cond_true, cond_false] at h
                · exact go _ h
                · cases h
            · exact go _ h
        · exact go _ h
      · cases h
    · cases h
theorem same_Match (p_ : Pattern) (n_ : Name) (l : List Binding) (hp : p_.parts.length ≤ 9223372036854775807) : impl_Match p_ n_ l = spec_Match p_ n_ l := by
  unfold impl_Match spec_Match
  rw [same_ValidPattern p_ hp, same_ValidName, mtT]
  cases (!(spec_ValidPattern p_)) <;> simp only [cond_true, cond_false]
  cases (!(spec_ValidName n_)) <;> simp only [cond_true, cond_false]
  cases h : spec_Match_L1 n_ l p_.parts 0 l with
  | ret r => rfl
  | nxt q =>
    have h1 := mtN n_ l p_.parts 0 l q h (by omega)
    simp only
    by_cases h2 : n_.parts.length = p_.parts.length
    · rw [decide_eq_false (show ¬ ((((n_.parts).length : Nat) : Int) > (((p_.parts).length : Nat) : Int)) by omega), h2]; simp
    · rw [decide_eq_true (show ((((n_.parts).length : Nat) : Int) > (((p_.parts).length : Nat) : Int)) by omega)]
      have h3 : ((((n_.parts).length : Nat) : Int) != (((p_.parts).length : Nat) : Int)) = true := by rw [bne_iff_ne]; omega
      rw [h3]
theorem same_RuleAllows (r : Rule) (n_ k : Name) (h : GoT.ok 10 r) : impl_RuleAllows r n_ k = spec_RuleAllows r n_ k := by
  have h1 : r.dataPattern.parts.length ≤ 9223372036854775807 := (okl (ok_Pattern (ok_Rule h).1)).1
  have h2 : r.keyPattern.parts.length ≤ 9223372036854775807 := (okl (ok_Pattern (ok_Rule h).2)).1
  simp only [impl_RuleAllows, spec_RuleAllows, same_ValidRule r h, same_Match _ _ _ h1, same_Match _ _ _ h2]
theorem arT (n_ k : Name) : ∀ (l : List Rule) (i : Nat), (∀ r ∈ l, GoT.ok 10 r) → slices_IndexFunc_Rule_L1 (fun e0_ => (impl_FirstAllowingRule_c1 n_ k e0_)) l i = spec_FirstAllowingRule_L1 n_ k l i
  | [], _, _ => rfl
  | x :: l, i, h => by
    simp only [slices_IndexFunc_Rule_L1, spec_FirstAllowingRule_L1, impl_FirstAllowingRule_c1, same_RuleAllows x _ _ (h x List.mem_cons_self)]
    have := arT n_ k l (i + 1) fun r hr => h r (List.mem_cons_of_mem _ hr)
    simp only [impl_FirstAllowingRule_c1] at this
    rw [this]
theorem same_Allowed (l : List Rule) (n_ k : Name) (h : ∀ r ∈ l, GoT.ok 10 r) : impl_Allowed l n_ k = spec_Allowed l n_ k := by
  simp only [impl_Allowed, spec_Allowed, impl_FirstAllowingRule, spec_FirstAllowingRule, slices_IndexFunc_Rule, arT _ _ l 0 h]
  rfl
theorem anT (n_ : Name) : ∀ (l : List Name) (i : Nat), (slices_IndexFunc_Name_L1 (fun e0_ => (impl_IsAnchor_c1 n_ e0_)) l i = none ∧ spec_IsAnchor_L1 n_ l = none) ∨ ∃ j : Nat, slices_IndexFunc_Name_L1 (fun e0_ => (impl_IsAnchor_c1 n_ e0_)) l i = some ((j : Nat) : Int) ∧ spec_IsAnchor_L1 n_ l = some true
  | [], _ => .inl ⟨rfl, rfl⟩
  | x :: l, i => by
    simp only [slices_IndexFunc_Name_L1, spec_IsAnchor_L1, impl_IsAnchor_c1, same_EqualNames]
    cases h : spec_EqualNames x n_
    · simp only [cond_false]
      have := anT n_ l (i + 1)
      simp only [impl_IsAnchor_c1, same_EqualNames] at this
      exact this
    · exact .inr ⟨i, rfl, rfl⟩
theorem same_IsAnchor (t : TrustPolicy) (n_ : Name) : impl_IsAnchor t n_ = spec_IsAnchor t n_ := by
  unfold impl_IsAnchor slices_ContainsFunc_Name slices_IndexFunc_Name spec_IsAnchor
  rcases anT n_ t.anchors 0 with ⟨h1, h2⟩ | ⟨j, h1, h2⟩
  · rw [h1, h2]; rfl
  · rw [h1, h2]
    exact decide_eq_true (show ((j : Nat) : Int) ≥ 0 by omega)
theorem same_KeyDigest (l : List Key) (n_ : Name) : impl_KeyDigest l n_ = spec_KeyDigest l n_ := by
  simp only [impl_KeyDigest, spec_KeyDigest, same_SecretOf, same_AppendVarint, same_Digest]
theorem fcT (n_ : Name) (now : Int) (t : TrustPolicy) : ∀ (l : List DataP) (i : Nat), slices_IndexFunc_Data_L1 (fun e0_ => (impl_FindCertificate_c1 n_ now t e0_)) l i = spec_FindCertificate_L1 t n_ now l i
  | [], _ => rfl
  | x :: l, i => by
    have ih := fcT n_ now t l (i + 1)
    simp only [slices_IndexFunc_Data_L1, spec_FindCertificate_L1, ih]
    simp only [impl_FindCertificate_c1, same_EqualNames, impl_FreshAt, spec_FreshAt, same_VerifySignature, same_EqualBytes, same_KeyDigest]
    cases spec_EqualNames x.name n_ <;> simp only [cond_true, cond_false]
    cases decide (now ≤ x.freshUntil) <;> simp only [cond_true, cond_false]
    cases spec_VerifySignature t.keys x <;> simp only [cond_true, cond_false]
theorem same_FindCertificate (t : TrustPolicy) (n_ : Name) (now : Int) : impl_FindCertificate t n_ now = spec_FindCertificate t n_ now := by
  simp only [impl_FindCertificate, spec_FindCertificate, same_SecretOf, slices_IndexFunc_Data, fcT]
  rfl
def outT {σ : Type} (d : List Name × Bool) : Ctl (List Name × Bool) σ → List Name × Bool
  | .ret r => r
  | .nxt _ => d
theorem tcT (t : TrustPolicy) (now : Int) (h : ∀ r ∈ t.rules, GoT.ok 10 r) : ∀ (m : Nat) (o : List Name) (a : List Str) (b : List UInt8) (c : List Str) (d e : Int), 4 - o.length = m → o.length ≤ 4 →
    outT default (impl_TrustChain_L1 t now o a b c d e) = outT ([], false) (spec_TrustChain_L1 t now o a b c d e)
  | 0, o, a, b, c, d, e, hm, hl => by
    have h4 : o.length = 4 := by omega
    rw [impl_TrustChain_L1, spec_TrustChain_L1, if_pos hl, if_neg (show ¬ ((((o).length : Nat) : Int) < 4) by omega)]
    have h5 : ((((o).length : Nat) : Int) == 4) = true := by rw [h4]; rfl
    rw [if_pos h5]
    split
    · rfl
    · split <;> rfl
  | m + 1, o, a, b, c, d, e, hm, hl => by
    rw [impl_TrustChain_L1, spec_TrustChain_L1, if_pos hl, if_pos (show ((((o).length : Nat) : Int) < 4) by omega)]
    have h5 : ¬ ((((o).length : Nat) : Int) == 4) = true := by rw [beq_iff_eq]; omega
    rw [if_neg h5]
    simp only [same_VerifySignature, same_Allowed _ _ _ h, same_IsAnchor, same_FindCertificate, show ∀ n, spec_l4Copy n = n from fun _ => rfl, show ∀ n, impl_copyName n = n from fun _ => rfl]
    split
    · rfl
    · split
      · rfl
      · split
        · rfl
        · split
          · rfl
          · cases (t.certificates)[((spec_FindCertificate t (Name.mk c) now)).toNat]? with
            | none => rfl
            | some e1 => exact tcT t now h m _ _ _ _ _ _ (by rw [List.length_append, List.length_cons, List.length_nil]; omega) (by rw [List.length_append, List.length_cons, List.length_nil]; omega)
theorem same_TrustChain (t : TrustPolicy) (x : DataP) (now : Int) (h : ∀ r ∈ t.rules, GoT.ok 10 r) : impl_TrustChain t x now = spec_TrustChain t x now := by
  have h1 := tcT t now h 4 [] x.name.parts x.content x.keyName.parts x.freshUntil x.signature rfl (by simp)
  unfold impl_TrustChain spec_TrustChain
  cases h2 : impl_TrustChain_L1 t now [] x.name.parts x.content x.keyName.parts x.freshUntil x.signature <;> cases h3 : spec_TrustChain_L1 t now [] x.name.parts x.content x.keyName.parts x.freshUntil x.signature <;> rw [h2, h3] at h1 <;> exact h1
theorem same_IsTrusted (t : TrustPolicy) (x : DataP) (now : Int) (h : ∀ r ∈ t.rules, GoT.ok 10 r) : impl_IsTrusted t x now = spec_IsTrusted t x now := by
  simp only [impl_IsTrusted, spec_IsTrusted, same_TrustChain t x now h, same_ValidData]
  cases spec_ValidData x <;> cases (spec_TrustChain t x now).2 <;> rfl
theorem same_AcceptData' (a : Consumer) (t : TrustPolicy) (x : DataP) (now : Int) (h : GoT.ok 10 t) : impl_AcceptData a t x now = spec_AcceptData a t x now := by
  have hr : ∀ r ∈ t.rules, GoT.ok 10 r := (okl (ok_TrustPolicy h).2.1).2
  simp only [impl_AcceptData, spec_AcceptData, same_EqualNames, same_IsTrusted t x now hr]
  rfl
end Go.Stp

namespace Go.Stp
open Go.RowKit (Below)
open GoT (X k ok sh fa oa)
def Opens (P : Program) (T : TypeId) (α : Type) [GoT α] : Prop :=
  P.cellsOf T = k α ∧ ∀ {H : Type} {enc : TypeId × Value → H} {w : World} {spare : Nat → Bool} {held : Bool} {fuel : Nat} {cs : List Value} {x : DataW H × List MemPlace}, DataW.trod enc P w 0 spare held fuel T cs = some x →
    ∃ (a : α) (y : X α), cs = sh a y ∧ ok 10 a ∧ All (hp w) (fa .der a y)
theorem opens_int {P : Program} {T : TypeId} (h : P.underlying T = some (.int .i64)) (hc : P.cellsOf T = 1) : Opens P T Int := ⟨hc, fun h' => by
  obtain ⟨n, rfl, _, hw⟩ := DataW.trod_int h h'
  exact ⟨n, (), rfl, by simpa [Lit.wf, IntKind.min, IntKind.max, IntKind.signed, IntKind.bits, ok, I64] using hw, (fun _ h_ => by cases h_)⟩⟩
theorem opens_bool {P : Program} {T : TypeId} (h : P.underlying T = some .bool) (hc : P.cellsOf T = 1) : Opens P T Bool := ⟨hc, fun h' => by
  obtain ⟨n, rfl, _⟩ := DataW.trod_bool h h'
  exact ⟨n, (), rfl, trivial, (fun _ h_ => by cases h_)⟩⟩
theorem opens_str {P : Program} {T : TypeId} (h : P.underlying T = some .string) (hc : P.cellsOf T = 1) : Opens P T ByteArray := ⟨hc, fun h' => by
  obtain ⟨n, rfl, _, hw⟩ := DataW.trod_string h h'
  exact ⟨n, (), rfl, (by simp only [maxLen] at hw; omega : n.size ≤ 9223372036854775807), (fun _ h_ => by cases h_)⟩⟩
theorem opens_byte {P : Program} {T : TypeId} (h : P.underlying T = some (.int .u8)) (hc : P.cellsOf T = 1) : Opens P T UInt8 := ⟨hc, fun h' => by
  obtain ⟨n, rfl, _, hw⟩ := DataW.trod_int h h'
  have hn : 0 ≤ n ∧ n ≤ 255 := by simpa [Lit.wf, IntKind.min, IntKind.max, IntKind.signed, IntKind.bits] using hw
  refine ⟨UInt8.ofNat n.toNat, (), ?_, trivial, (fun _ h_ => by cases h_)⟩
  have : ((UInt8.ofNat n.toNat).toNat : Int) = n := by
    rw [UInt8.toNat_ofNat', Nat.mod_eq_of_lt (by omega)]; omega
  simp only [sh]
  rw [this]⟩
theorem cells?_each {w : World} {a : Addr} {n : Nat} {cs : List Value} (h : w.cells? 0 a n = some cs) : ∀ j u, cs[j]? = some u → w.cell? (a.add j) = some u := by
  intro j u hj
  obtain ⟨_, h1, h2⟩ := World.cells?_some h
  rw [h2 j (by rw [← h1]; exact (List.getElem?_eq_some_iff.1 hj).1)]; exact hj
theorem opens_slice {P : Program} {T E : TypeId} {α : Type} [GoT α] (h : P.underlying T = some (.slice E)) (hc : P.cellsOf T = 1) (he : Opens P E α) : Opens P T (List α) := ⟨hc, fun {H enc w spare held fuel cs x} h' => by
  rcases DataW.trod_slice h h' with ⟨rfl, _⟩ | ⟨a, len, cap, elems, rest, n, _, rfl, _, _, hl, hm, hlen, hel, _, _⟩
  · exact ⟨[], (none, 0), rfl, ⟨Nat.zero_le _, fun _ h_ => by cases h_⟩, fun f hf => by
      obtain rfl := List.mem_singleton.1 hf
      exact ⟨Nat.zero_le _, Nat.zero_le _, [], fun j u h => by simp at h, rfl⟩⟩
  · have key : ∀ m, m ≤ len → ∃ (l : List α) (xs : List Value), l.length = m ∧ xs.length = m * k α ∧ RdL (hp w) xs l ∧ (∀ b ∈ l, ok 10 b) ∧ CellsAt (hp w) (some a) xs := by
      intro m
      induction m with
      | zero => exact fun _ => ⟨[], [], rfl, by simp, rfl, by simp, fun j u h => by simp at h⟩
      | succ m ih =>
        intro hmle
        obtain ⟨l, xs, h1, h2, h3, h4, h5⟩ := ih (by omega)
        have hm' := hel m (by omega)
        rw [he.1] at hm'
        obtain ⟨y, hy⟩ : ∃ y, elems[m]? = some y := ⟨_, List.getElem?_eq_getElem (by omega)⟩
        rw [hy, Option.bind_eq_some_iff] at hm'
        obtain ⟨cs', hcs, htr⟩ := hm'
        obtain ⟨b, yb, rfl, hok, hfa⟩ := he.2 htr
        refine ⟨l ++ [b], xs ++ sh b yb, by simp [h1], by rw [List.length_append, h2, GoT.len, Nat.add_mul]; omega, h3.snoc hfa, ?_, ?_⟩
        · intro c hc
          rcases List.mem_append.1 hc with hc | hc
          · exact h4 c hc
          · simp at hc; subst hc; exact hok
        · intro j u hj
          refine ⟨a, rfl, ?_⟩
          by_cases hlt : j < xs.length
          · rw [List.getElem?_append_left hlt] at hj
            obtain ⟨a', ha', hg⟩ := h5 j u hj
            simp at ha'; subst ha'; exact hg
          · rw [List.getElem?_append_right (by omega)] at hj
            have := cells?_each hcs _ _ hj
            rw [addr_add_add, h2, show m * k α + (j - m * k α) = j by omega] at this
            exact this
    obtain ⟨l, xs, h1, h2, h3, h4, h5⟩ := key len (Nat.le_refl _)
    have hm' : len ≤ 9223372036854775807 := by simp only [maxLen] at hm; omega
    refine ⟨l, (some a, cap), by simp [sh, h1], ⟨by show l.length ≤ 9223372036854775807; omega, h4⟩, fun f hf => ?_⟩
    obtain rfl := List.mem_singleton.1 hf
    exact ⟨by omega, by omega, xs, h5, h3⟩⟩
def OpensF (P : Program) (fs : List Field) (off : Nat) (β : Type) [GoT β] : Prop :=
  ∀ {H : Type} {enc : TypeId × Value → H} {w : World} {spare : Nat → Bool} {held : Bool} {n : Nat} {cs : List Value},
    (∀ (i : Nat) (f : Field), fs[i]? = some f → ∃ y, DataW.trod enc P w 0 spare held n f.type ((cs.drop f.offset).take (P.cellsOf f.type)) = some y) →
    ∃ (b : β) (y : X β), (cs.drop off).take (k β) = sh b y ∧ ok 10 b ∧ All (hp w) (fa .der b y)
theorem opensF_one {P : Program} {f : Field} {off : Nat} {α : Type} [GoT α] (ho : f.offset = off) (hf : Opens P f.type α) : OpensF P [f] off α := fun {H enc w spare held n cs} h => by
  obtain ⟨y, hy⟩ := h 0 f rfl
  obtain ⟨a, ya, h1, h2, h3⟩ := hf.2 hy
  rw [hf.1, ho] at h1
  exact ⟨a, ya, h1, h2, h3⟩
theorem opensF_cons {P : Program} {f : Field} {fs : List Field} {off : Nat} {α β : Type} [GoT α] [GoT β] (ho : f.offset = off) (hf : Opens P f.type α) (hr : OpensF P fs (off + k α) β) : OpensF P (f :: fs) off (α × β) := fun {H enc w spare held n cs} h => by
  obtain ⟨y, hy⟩ := h 0 f rfl
  obtain ⟨a, ya, h1, h2, h3⟩ := hf.2 hy
  obtain ⟨b, yb, k1, k2, k3⟩ := hr (cs := cs) (fun i g hg => h (i + 1) g (by simpa using hg))
  rw [hf.1, ho] at h1
  refine ⟨(a, b), (ya, yb), ?_, ⟨h2, k2⟩, All.append h3 k3⟩
  show (cs.drop off).take (k α + k β) = sh a ya ++ sh b yb
  rw [← h1, ← k1, List.take_add, List.drop_drop]
theorem opens_struct {P : Program} {T : TypeId} {fs : Array Field} {α β : Type} [GoT β] (e : α → β) (mk : β → α) (hm : ∀ b, e (mk b) = b) (h : P.underlying T = some (.struct fs)) (hc : P.cellsOf T = k β) (hf : OpensF P fs.toList 0 β) :
    @Opens P T α (GoT.via e) := by
  letI : GoT α := GoT.via e
  refine ⟨hc, fun {H enc w spare held fuel cs x} h' => ?_⟩
  obtain ⟨xs, n, _, _, hcl, hxl, hall⟩ := DataW.trod_struct h h'
  obtain ⟨b, y, h1, h2, h3⟩ := hf (cs := cs) (fun i f hi => by
    have hi' : fs[i]? = some f := by simpa using hi
    have := hall i f hi'
    obtain ⟨z, hz⟩ : ∃ z, xs[i]? = some z := ⟨_, List.getElem?_eq_getElem (by rw [hxl]; exact (Array.getElem?_eq_some_iff.1 hi').1)⟩
    exact ⟨z, by rw [this, hz]⟩)
  rw [List.drop_zero, List.take_of_length_le (by rw [hcl, hc]; exact Nat.le_refl _)] at h1
  refine ⟨mk b, y, ?_, ?_, ?_⟩
  · show cs = sh (e (mk b)) y; rw [hm]; exact h1
  · show ok 10 (e (mk b)); rw [hm]; exact h2
  · show All (hp w) (fa .der (e (mk b)) y); rw [hm]; exact h3

def Arg (P : Program) (T : TypeId) (α : Type) [GoT α] (mk : List Value → Value) : Prop :=
  ∀ {H : Type} {enc : TypeId × Value → H} {W : World} {b0 : Nat} {spare : Nat → Bool} {held : Bool} {v : Value} {d : DataW H} {ps : List MemPlace}, Value.okWide P W .any b0 T v → DataW.Trod enc P W 0 spare held T v d ps →
    ∃ (a : α) (y : X α), v = mk (sh a y) ∧ ok 10 a ∧ All (hp W) (fa .der a y)
theorem arg_struct {P : Program} {T : TypeId} {α : Type} [GoT α] {fs : Array Field} (h : P.underlying T = some (.struct fs)) (ho : Opens P T α) : Arg P T α (fun cs => .agg ⟨cs⟩) := by
  intro H enc W b0 spare held v d ps hval ⟨fuel, hf⟩
  simp only [Value.okWide, h] at hval
  obtain ⟨cs, rfl, _⟩ := hval
  obtain ⟨a, y, h1, h2, h3⟩ := ho.2 hf
  refine ⟨a, y, ?_, h2, h3⟩
  have : cs.toList = sh a y := by simpa [Value.cells] using h1
  rw [← this]
theorem arg_int {P : Program} {T : TypeId} (h : P.underlying T = some (.int .i64)) : Arg P T Int (fun cs => cs.headD undef) := by
  intro H enc W b0 spare held v d ps hval ht
  obtain ⟨n, rfl, _, _, hw⟩ := ChangeShapes.open_int h hval ht
  exact ⟨n, (), rfl, by simpa [Lit.wf, IntKind.min, IntKind.max, IntKind.signed, IntKind.bits, ok, I64] using hw, (fun _ h_ => by cases h_)⟩
theorem trodAll_stays {H : Type} {enc : TypeId × Value → H} {P : Program} (hl : laidOutB P = true) {W W' : World} {sp : Nat → Bool} : ∀ {ts : List TypeId} {vs : List Value} {ds : List (DataW H)} {ps : List MemPlace},
    ts.all (fun t => P.readableRec t && decide (t < P.types.size)) = true → DataW.TrodAll enc P W 0 (fun _ => true) true ts vs ds ps → (∀ p ∈ ps, W.sameAt W' p) → (∀ p ∈ ps, sp p.block = true) → DataW.TrodAll enc P W' 0 sp true ts vs ds ps
  | [], [], [], _, _, h, _, _ => h
  | t :: ts, v :: vs, d :: ds, ps, ha, ⟨p, q, h1, h2, e⟩, hs, hsp => by
    simp only [List.all_cons, Bool.and_eq_true, decide_eq_true_eq] at ha
    subst e
    exact ⟨p, q, WideElems.Trod_stays hl ha.1.1 ha.1.2 h1 (fun x hx => hs x (List.mem_append_left _ hx)) (fun x hx => hsp x (List.mem_append_left _ hx)),
      trodAll_stays hl ha.2 h2 (fun x hx => hs x (List.mem_append_right _ hx)) (fun x hx => hsp x (List.mem_append_right _ hx)), rfl⟩
theorem trodAll_len {H : Type} {enc : TypeId × Value → H} {P : Program} {W : World} {b : Nat} {sp : Nat → Bool} {hd : Bool} : ∀ {ts : List TypeId} {vs : List Value} {ds : List (DataW H)} {ps : List MemPlace}, DataW.TrodAll enc P W b sp hd ts vs ds ps → ds.length = ts.length
  | [], [], [], _, _ => rfl
  | _ :: _, _ :: _, _ :: _, _, ⟨_, _, _, h2, _⟩ => by simp [trodAll_len h2]
theorem law_post {H : Type} {enc : TypeId × Value → H} {P : Program} {f : Func} {s : ChangeSpec} {W W' : World} {args : Array Value} {ds gs : List (DataW H)} {before : List MemPlace} {B : TypeId}
    (hl : laidOutB P = true) (hpar : f.params.toList.all (fun t => P.readableRec t && decide (t < P.types.size)) = true) (hvars : s.vars = []) (hB : f.resultTypes = #[B]) (hu : P.underlying B = some .bool)
    (hfn : ∀ ds : List (DataW H), ds.length = f.params.size → s.fn H ds = { results := [.lit (.bool true)], args := ds })
    (hW : DataW.Whole enc P f.params.toList s.vars false W args.toList ds gs before) (hb : Below W.heap.size W W') : s.post enc P f false true false false W args (.bool true) W' := by
  have hW' := hW
  have hlt : ∀ p ∈ before, p.block < W.heap.size := fun p hp => hW.lt p hp
  obtain ⟨p, q, hA, hV, rfl, hfz, hnd⟩ := hW'
  rw [hvars] at hV
  obtain ⟨rfl, rfl⟩ := ChangeShapes.trodVars_none hV
  have hlen : ds.length = f.params.size := by simpa using trodAll_len hA
  have hdd : s.fn H (ds ++ []) = { results := [.lit (.bool true)], args := ds } := by rw [List.append_nil]; exact hfn ds hlen
  have hres : ∀ (b : Nat) (sp : Nat → Bool) (hd : Bool), DataW.TrodAll enc P W' b sp hd f.resultTypes.toList ((Value.bool true).resultList f.resultTypes.size) (s.fn H (ds ++ [])).results [] := by
    intro b sp hd
    rw [hdd, hB]
    exact trodAll_cons_mk (RowKit.shut_bool hu _) ChangeShapes.trodAll_mk0
  have hargs : ∀ sp : Nat → Bool, (∀ x ∈ p ++ [], sp x.block = true) → DataW.TrodAll enc P W' 0 sp true f.params.toList args.toList (s.fn H (ds ++ [])).args p := by
    intro sp hsp
    rw [hdd]
    exact trodAll_stays hl hpar hA (fun x hx => hb.same (hlt x (by simpa using hx))) (fun x hx => hsp x (by simpa using hx))
  have hvars' : ∀ sp : Nat → Bool, DataW.TrodVars enc P W' sp s.vars (s.fn H (ds ++ [])).vars [] := by
    intro sp; rw [hvars, hdd]; rfl
  have hold : ∀ x ∈ p ++ [], (fun b => decide (b < W.heap.size)) x.block = true := fun x hx => by simpa using hlt x hx
  refine ⟨ds, [], p ++ [], [], p, [], hW, hres _ _ _, hargs _ hold, hvars' _, World.keptBut_mono (fun x hx => ⟨hx, Or.inr (by simpa using hx)⟩) (hb.frame (· ∈ p ++ [])), fun h => (by cases h)⟩
end Go.Stp

namespace Go.Proofs.YtolepebgdfdciaaGreat.Facts
set_option maxRecDepth 100000
theorem laid : laidOutB Tryz.prog = true := by kernel_rfl
theorem rowed : mapsRowed Tryz.prog = true := by kernel_rfl
end Go.Proofs.YtolepebgdfdciaaGreat.Facts

namespace Go.Stp
set_option linter.unusedVariables false
set_option linter.unusedSimpArgs false
theorem same_AcceptData (aA : Consumer) (aT : TrustPolicy) (aX : DataP) (aNow : Int) (haA : GoT.ok 10 aA) (haT : GoT.ok 10 aT) (haX : GoT.ok 10 aX): impl_AcceptData aA aT aX aNow = spec_AcceptData aA aT aX aNow := same_AcceptData' aA aT aX aNow haT
theorem bound_AcceptData (aA : Consumer) (aT : TrustPolicy) (aX : DataP) (aNow : Int) : sz (spec_AcceptData aA aT aX aNow) ≤ sz aA + sz aT + sz aX := by
  have h1 : sz (spec_l31Copy aA) = sz aA := rfl
  have h2 : sz (spec_l8Copy aX) = sz aX := rfl
  unfold spec_AcceptData
  cases !aA.satisfied
  · simp only [cond_false, h1]; omega
  · cases spec_EqualNames aX.name aA.name
    · simp only [cond_false, cond_true, h1]; omega
    · cases spec_IsTrusted aT aX aNow
      · simp only [cond_false, cond_true, h1]; omega
      · simp only [cond_true, sz_Consumer, h2]
        have h3 : sz (spec_l31Copy aA).name = sz aA.name := rfl
        omega
theorem true_AcceptData (aA : Consumer) (aT : TrustPolicy) (aX : DataP) (aNow : Int) (haA : GoT.ok 10 aA) (haT : GoT.ok 10 aT) (haX : GoT.ok 10 aX) : laws_FnExactAcceptData aA aT aX aNow = true := by
  unfold laws_FnExactAcceptData
  by_cases s0 : laws_szConsumer aA 1048576 < 0
  · simp only [dT s0, cond_true]
  have d0 := dF (show 0 ≤ laws_szConsumer aA 1048576 by omega)
  obtain ⟨t0, z0⟩ := (sz_Consumer_R aA 1048576 haA (by omega) (by omega)).pos (by omega)
  by_cases s1 : laws_szTrustPolicy aT (laws_szConsumer aA 1048576) < 0
  · simp only [dT s1, cond_true, d0, cond_false]
  have d1 := dF (show 0 ≤ laws_szTrustPolicy aT (laws_szConsumer aA 1048576) by omega)
  obtain ⟨t1, z1⟩ := (sz_TrustPolicy_R aT (laws_szConsumer aA 1048576) haT (by omega) (by omega)).pos (by omega)
  by_cases s2 : laws_szData aX (laws_szTrustPolicy aT (laws_szConsumer aA 1048576)) < 0
  · simp only [dT s2, cond_true, d0, cond_false, d1, cond_false]
  have d2 := dF (show 0 ≤ laws_szData aX (laws_szTrustPolicy aT (laws_szConsumer aA 1048576)) by omega)
  obtain ⟨t2, z2⟩ := (sz_Data_R aX (laws_szTrustPolicy aT (laws_szConsumer aA 1048576)) haX (by omega) (by omega)).pos (by omega)
  obtain ⟨mp0, mq0, me0⟩ := mk_Consumer aA (1) (by omega) (by omega)
  obtain ⟨mp1, mq1, me1⟩ := mk_TrustPolicy aT ((laws_markConsumer aA (1)).1) (by omega) (by omega)
  obtain ⟨mp2, mq2, me2⟩ := mk_Data aX ((laws_markTrustPolicy aT ((laws_markConsumer aA (1)).1)).1) (by omega) (by omega)
  have dk := dF (show 0 ≤ (laws_markData aX ((laws_markTrustPolicy aT ((laws_markConsumer aA (1)).1)).1)).1 by omega)
  have hb := bound_AcceptData aA aT aX aNow
  have hb0 := hb
  obtain ⟨gp0, gq0, ge0⟩ := mk_Consumer (spec_AcceptData aA aT aX aNow) (1) (by omega) (by omega)
  have dg0 := dF (show 0 ≤ (laws_markConsumer (spec_AcceptData aA aT aX aNow) (1)).1 by omega)
  simp only [d0, cond_false, d1, d2, to_Consumer, to_TrustPolicy, to_Data, same_AcceptData aA aT aX aNow haA haT haX, eq_Consumer, eq_TrustPolicy, eq_Data, dk, ge0, dg0, Bool.not_true, bne_self_F, nbeq_self_F, beq_self_eq_true]
end Go.Stp
namespace Go.Proofs.YtolepebgdfdciaaGreat
open Go.Stp
open Go.RowKit (Below)
open Go.ChangeShapes Go.WideShapes Go.ChangeAt
namespace LawAcceptData
theorem own : ownKnob Tryz.prog.godebug = none := by kernel_rfl
theorem laid : laidOutB Tryz.prog = true := Facts.laid
set_option maxRecDepth 100000 in
theorem op88 : Opens Tryz.prog 88 Name := opens_struct (fun e : Name => e.parts) (fun b => ⟨b⟩) (fun _ => rfl) Tryz.underlying88 (show Tryz.prog.cellsOf 88 = 1 by kernel_rfl) (opensF_one rfl (opens_slice Tryz.underlying28 (by kernel_rfl) (opens_str Tryz.underlying9 (by kernel_rfl))))
set_option maxRecDepth 100000 in
theorem op90 : Opens Tryz.prog 90 DataP := opens_struct (fun e : DataP => (e.name, e.content, e.keyName, e.freshUntil, e.signature)) (fun b => ⟨b.1, b.2.1, b.2.2.1, b.2.2.2.1, b.2.2.2.2⟩) (fun _ => rfl) Tryz.underlying90 (show Tryz.prog.cellsOf 90 = 5 by kernel_rfl) (opensF_cons rfl op88 (opensF_cons rfl (opens_slice Tryz.underlying22 (by kernel_rfl) (opens_byte Tryz.underlying5 (by kernel_rfl))) (opensF_cons rfl op88 (opensF_cons rfl (opens_int Tryz.underlying3 (by kernel_rfl)) (opensF_one rfl (opens_int Tryz.underlying3 (by kernel_rfl)))))))
set_option maxRecDepth 100000 in
theorem op92 : Opens Tryz.prog 92 Consumer := opens_struct (fun e : Consumer => (e.node, e.index, e.name, e.attempts, e.wait, e.satisfied, e.data)) (fun b => ⟨b.1, b.2.1, b.2.2.1, b.2.2.2.1, b.2.2.2.2.1, b.2.2.2.2.2.1, b.2.2.2.2.2.2⟩) (fun _ => rfl) Tryz.underlying92 (show Tryz.prog.cellsOf 92 = 11 by kernel_rfl) (opensF_cons rfl (opens_int Tryz.underlying3 (by kernel_rfl)) (opensF_cons rfl (opens_int Tryz.underlying3 (by kernel_rfl)) (opensF_cons rfl op88 (opensF_cons rfl (opens_int Tryz.underlying3 (by kernel_rfl)) (opensF_cons rfl (opens_int Tryz.underlying3 (by kernel_rfl)) (opensF_cons rfl (opens_bool Tryz.underlying4 (by kernel_rfl)) (opensF_one rfl op90)))))))
set_option maxRecDepth 100000 in
theorem op209 : Opens Tryz.prog 209 Key := opens_struct (fun e : Key => (e.name, e.secret)) (fun b => ⟨b.1, b.2⟩) (fun _ => rfl) Tryz.underlying209 (show Tryz.prog.cellsOf 209 = 2 by kernel_rfl) (opensF_cons rfl op88 (opensF_one rfl (opens_int Tryz.underlying3 (by kernel_rfl))))
set_option maxRecDepth 100000 in
theorem op211 : Opens Tryz.prog 211 Pattern := opens_struct (fun e : Pattern => e.parts) (fun b => ⟨b⟩) (fun _ => rfl) Tryz.underlying211 (show Tryz.prog.cellsOf 211 = 1 by kernel_rfl) (opensF_one rfl (opens_slice Tryz.underlying28 (by kernel_rfl) (opens_str Tryz.underlying9 (by kernel_rfl))))
set_option maxRecDepth 100000 in
theorem op213 : Opens Tryz.prog 213 Rule := opens_struct (fun e : Rule => (e.dataPattern, e.keyPattern)) (fun b => ⟨b.1, b.2⟩) (fun _ => rfl) Tryz.underlying213 (show Tryz.prog.cellsOf 213 = 2 by kernel_rfl) (opensF_cons rfl op211 (opensF_one rfl op211))
set_option maxRecDepth 100000 in
theorem op98 : Opens Tryz.prog 98 TrustPolicy := opens_struct (fun e : TrustPolicy => (e.keys, e.rules, e.anchors, e.certificates)) (fun b => ⟨b.1, b.2.1, b.2.2.1, b.2.2.2⟩) (fun _ => rfl) Tryz.underlying98 (show Tryz.prog.cellsOf 98 = 4 by kernel_rfl) (opensF_cons rfl (opens_slice Tryz.underlying93 (by kernel_rfl) op209) (opensF_cons rfl (opens_slice Tryz.underlying94 (by kernel_rfl) op213) (opensF_cons rfl (opens_slice Tryz.underlying95 (by kernel_rfl) op88) (opensF_one rfl (opens_slice Tryz.underlying96 (by kernel_rfl) op90)))))
set_option maxRecDepth 100000 in
theorem lifted (os : Os) (started : os.Started) (H : Type) (enc : TypeId × Value → H) :
    ReturnsInHanded {} Tryz.checked os 5 .any (Rows.fnExactAcceptDataSpec.pre6 enc Tryz.prog Tryz.f5 Rows.fnExactAcceptDataRow.domain false) (Rows.fnExactAcceptDataSpec.post enc Tryz.prog Tryz.f5 false true false false) := by
  refine returnsInHanded_of_change (C := Tryz.checked) own started (by kernel_rfl) Tryz.func5
    (ChangeSpec.witness6 (enc := enc) (C := Tryz.checked) false ⟨#[], #[.agg #[.int .i64 (0), .int .i64 (0), .slice none 0 0, .int .i64 (0), .int .i64 (0), .bool false, .slice none 0 0, .slice none 0 0, .slice none 0 0, .int .i64 (0), .int .i64 (0)], .agg #[.slice none 0 0, .slice none 0 0, .slice none 0 0, .slice none 0 0], .agg #[.slice none 0 0, .slice none 0 0, .slice none 0 0, .int .i64 (0), .int .i64 (0)], .int .i64 (0)], []⟩ 8 (by kernel_rfl) (by kernel_rfl) (by kernel_rfl) (by kernel_rfl)) ?_
  intro W base args ds gs before hval0 hW _ _
  have hval : ∀ (j : Nat) t v, Tryz.f5.params[j]? = some t → args[j]? = some v → Value.okWide Tryz.prog W .any base t v := hval0
  have hW' := hW
  obtain ⟨p, q, hA0, _⟩ := hW
  have hA : DataW.TrodAll enc Tryz.prog W 0 (fun _ => true) true Tryz.f5.params.toList args.toList ds p := hA0
  rw [Tryz.params5] at hA hval
  obtain ⟨v0, vs0, d0, ds0, p0, q0, hargs, rfl, rfl, h0, r0⟩ := ChangeShapes.trodAll_cons hA
  obtain ⟨v1, vs1, d1, ds1, p1, q1, rfl, rfl, rfl, h1, r1⟩ := ChangeShapes.trodAll_cons r0
  obtain ⟨v2, vs2, d2, ds2, p2, q2, rfl, rfl, rfl, h2, r2⟩ := ChangeShapes.trodAll_cons r1
  obtain ⟨v3, vs3, d3, ds3, p3, q3, rfl, rfl, rfl, h3, r3⟩ := ChangeShapes.trodAll_cons r2
  obtain ⟨rfl, rfl, rfl⟩ := trodAll_nil r3
  obtain rfl : args = #[v0, v1, v2, v3] := by cases args; simp_all
  obtain ⟨a0, x0, rfl, k0, g0⟩ := (arg_struct Tryz.underlying92 op92) (hval 0 92 _ rfl rfl) h0
  obtain ⟨a1, x1, rfl, k1, g1⟩ := (arg_struct Tryz.underlying98 op98) (hval 1 98 _ rfl rfl) h1
  obtain ⟨a2, x2, rfl, k2, g2⟩ := (arg_struct Tryz.underlying90 op90) (hval 2 90 _ rfl rfl) h2
  obtain ⟨a3, x3, rfl, k3, g3⟩ := (arg_int Tryz.underlying3) (hval 3 3 _ rfl rfl) h3
  have ht := true_AcceptData a0 a1 a2 a3 k0 k1 k2
  refine (f5 W 0 (by decide) a0 x0.2.2.1.1 x0.2.2.1.2 (g0 (MF.rs .der x0.2.2.1.1 x0.2.2.1.2 a0.name.parts) (List.mem_cons_self)) x0.2.2.2.2.2.2.1.1 x0.2.2.2.2.2.2.1.2 (g0 (MF.rs .der x0.2.2.2.2.2.2.1.1 x0.2.2.2.2.2.2.1.2 a0.data.name.parts) (by simp [GoT.fa])) x0.2.2.2.2.2.2.2.1.1 x0.2.2.2.2.2.2.2.1.2 (g0 (MF.rs .der x0.2.2.2.2.2.2.2.1.1 x0.2.2.2.2.2.2.2.1.2 a0.data.content) (by simp [GoT.fa])) x0.2.2.2.2.2.2.2.2.1.1 x0.2.2.2.2.2.2.2.2.1.2 (g0 (MF.rs .der x0.2.2.2.2.2.2.2.2.1.1 x0.2.2.2.2.2.2.2.2.1.2 a0.data.keyName.parts) (by simp [GoT.fa])) a1 x1.1.1 x1.1.2 (g1 (MF.rs .der x1.1.1 x1.1.2 a1.keys) (List.mem_cons_self)) x1.2.1.1 x1.2.1.2 (g1 (MF.rs .der x1.2.1.1 x1.2.1.2 a1.rules) (by simp [GoT.fa])) x1.2.2.1.1 x1.2.2.1.2 (g1 (MF.rs .der x1.2.2.1.1 x1.2.2.1.2 a1.anchors) (by simp [GoT.fa])) x1.2.2.2.1 x1.2.2.2.2 (g1 (MF.rs .der x1.2.2.2.1 x1.2.2.2.2 a1.certificates) (by simp [GoT.fa])) a2 x2.1.1 x2.1.2 (g2 (MF.rs .der x2.1.1 x2.1.2 a2.name.parts) (List.mem_cons_self)) x2.2.1.1 x2.2.1.2 (g2 (MF.rs .der x2.2.1.1 x2.2.1.2 a2.content) (by simp [GoT.fa])) x2.2.2.1.1 x2.2.2.1.2 (g2 (MF.rs .der x2.2.2.1.1 x2.2.2.1.2 a2.keyName.parts) (by simp [GoT.fa])) a3 k0 k1 k2 k3).2.mono fun e W1 ⟨v, he, hb, hv⟩ => ?_
  rw [ht] at hv
  obtain ⟨rfl, _⟩ := hv
  subst he
  exact ⟨_, rfl, law_post laid (by kernel_rfl) rfl rfl Tryz.underlying4 (fun ds h => by match ds, h with | [_, _, _, _], _ => rfl) hW' hb.below⟩
set_option maxRecDepth 100000 in
theorem c_inPlace : (Rows.fnExactAcceptDataRow.inPlace == Tryz.prog.inPlace 5) = true := by kernel_rfl
set_option maxRecDepth 100000 in
theorem c_unfollowed : (Rows.fnExactAcceptDataRow.unfollowed == Tryz.prog.unfollowed 5) = true := by kernel_rfl
set_option maxRecDepth 100000 in
theorem c_recurses : (Rows.fnExactAcceptDataRow.recurses == Tryz.prog.recurses 5) = true := by kernel_rfl
set_option maxRecDepth 100000 in
theorem c_named : (Rows.fnExactAcceptDataRow.named == Tryz.prog.varsNamed 5) = true := by kernel_rfl
set_option maxRecDepth 100000 in
theorem c_read : Tryz.f5.params.all (Tryz.pinned.checked.prog.readableRec ·) = true := by kernel_rfl
set_option maxRecDepth 100000 in
theorem c_maps : (Rows.fnExactAcceptDataRow.maps == (Tryz.f5.params.toList ++ Rows.fnExactAcceptDataSpec.plain.varTypes Tryz.pinned.checked.prog).any (Tryz.pinned.checked.prog.mapsRec ·)) = true := by kernel_rfl
set_option maxRecDepth 100000 in
theorem c_ifaces : (Rows.fnExactAcceptDataRow.ifaces == (Tryz.f5.params.toList ++ Rows.fnExactAcceptDataSpec.plain.varTypes Tryz.pinned.checked.prog).any (Tryz.pinned.checked.prog.ifacesRec ·)) = true := by kernel_rfl
set_option maxRecDepth 100000 in
theorem c_loops : (Rows.fnExactAcceptDataRow.loops == (Tryz.f5.params.toList ++ Rows.fnExactAcceptDataSpec.plain.varTypes Tryz.pinned.checked.prog).any (Tryz.pinned.checked.prog.loopsFrom ·)) = true := by kernel_rfl
set_option maxRecDepth 100000 in
theorem c_wide : (Rows.fnExactAcceptDataRow.wideKeys == (Tryz.f5.params.toList ++ Rows.fnExactAcceptDataSpec.plain.varTypes Tryz.pinned.checked.prog ++ Tryz.f5.resultTypes.toList).any (Tryz.pinned.checked.prog.wideKeysFrom ·)) = true := by kernel_rfl
set_option maxRecDepth 100000 in
theorem c_rread : Tryz.f5.resultTypes.all (fun t => Tryz.pinned.checked.prog.readableRec t && decide (t < Tryz.pinned.checked.prog.types.size)) = true := by kernel_rfl
set_option maxRecDepth 100000 in
theorem c_veiled : (Rows.fnExactAcceptDataRow.veiled == (Tryz.f5.params.toList ++ Rows.fnExactAcceptDataSpec.plain.varTypes Tryz.pinned.checked.prog ++ Tryz.f5.resultTypes.toList).any (Tryz.pinned.checked.prog.veiledRec ·)) = true := by kernel_rfl
set_option maxRecDepth 100000 in
theorem c_vfits : Rows.fnExactAcceptDataRow.veiledFits Tryz.pinned.checked.prog Tryz.f5.params.toList (Tryz.f5.params.toList ++ Rows.fnExactAcceptDataSpec.plain.varTypes Tryz.pinned.checked.prog ++ Tryz.f5.resultTypes.toList) = true := by kernel_rfl
set_option maxRecDepth 100000 in
theorem c_enter : Tryz.pinned.checked.prog.mayEnter = true := by kernel_rfl
set_option maxRecDepth 100000 in
theorem c_heard : Tryz.pinned.checked.prog.stopsHeard = true := by kernel_rfl
set_option maxRecDepth 100000 in
theorem c_lifted : (Rows.fnExactAcceptDataRow.lifted == Tryz.pinned.checked.prog.liftsFinal) = true := by kernel_rfl
set_option maxRecDepth 100000 in
theorem c_plainKeys : (Rows.fnExactAcceptDataRow.plainKeys == Tryz.pinned.checked.prog.plainKeys) = true := by kernel_rfl
set_option maxRecDepth 100000 in
theorem c_make : (Tryz.pinned.checked.prog.make == some Rows.fnExactAcceptDataRow.make) = true := by kernel_rfl
set_option maxRecDepth 100000 in
theorem closed : joinedFacts Tryz.pinned.checked.prog 5 Tryz.f5 Rows.fnExactAcceptDataSpec Rows.fnExactAcceptDataRow = true := by
  unfold joinedFacts
  rw [show laidOutB Tryz.pinned.checked.prog = true from laid, show mapsRowed Tryz.pinned.checked.prog = true from Facts.rowed, show (Rows.fnExactAcceptDataRow.inPlace == Tryz.pinned.checked.prog.inPlace 5) = true from c_inPlace, show (Rows.fnExactAcceptDataRow.unfollowed == Tryz.pinned.checked.prog.unfollowed 5) = true from c_unfollowed, show (Rows.fnExactAcceptDataRow.recurses == Tryz.pinned.checked.prog.recurses 5) = true from c_recurses, show (Rows.fnExactAcceptDataRow.named == Tryz.pinned.checked.prog.varsNamed 5) = true from c_named, c_read, c_maps, c_ifaces, c_loops, c_wide, c_rread, c_veiled, c_vfits, c_enter, c_heard, c_lifted, c_plainKeys, c_make]
  kernel_rfl
theorem over : Rows.fnExactAcceptDataRow.holds Tryz.pinned (OpenSpec.ofChange Rows.fnExactAcceptDataSpec) :=
  OpenClaim.holds_of_wide 5 Tryz.f5 rfl rfl rfl rfl rfl rfl rfl ⟨rfl, rfl, rfl, rfl, rfl⟩ rfl rfl rfl rfl rfl (by kernel_rfl) Tryz.func5 closed
    (of_decide_eq_true (by kernel_rfl)) (by unfold Func.isWrapper; first | (rw [if_pos (by decide +kernel)]; kernel_rfl) | (rw [if_neg (by decide +kernel)]; exact ⟨rfl, rfl⟩))
    (fun os started H enc _ => lifted os started H enc)
theorem proved : Rows.FnExactAcceptDataSaid := over
#print axioms proved
end LawAcceptData
end Go.Proofs.YtolepebgdfdciaaGreat

