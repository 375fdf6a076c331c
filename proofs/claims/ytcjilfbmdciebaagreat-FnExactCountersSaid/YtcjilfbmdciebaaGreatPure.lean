/-
  What the laws' own functions answer. No program, no condition. Written by a program (mkpure.py).
-/
import Derived.Test.YtcjilfbmdciebaaGreatP4h
import Derived.Test.YtcjilfbmdciebaaGreatLaws
namespace Go.Stp
set_option linter.unusedVariables false
set_option linter.unusedSimpArgs false
theorem eq_Link (a : Link) : laws_eqLink a a = true := by
  simp only [laws_eqLink, bne_self_F, nbeq_self_F, cond_false, Bool.not_true]
theorem to_Link (a : Link) : laws_toLink a = a := by
  simp only [laws_toLink]
theorem eqL_LinkS : ∀ (l p : (List Link)), laws_eqLinkS_L1 (p ++ l) l p.length = none
  | [], _ => rfl
  | e :: l, p => by
    have ih := eqL_LinkS l (p ++ [e])
    rw [mid_app, mid_len] at ih
    simp only [laws_eqLinkS_L1, mid, eq_Link e, Bool.not_true, cond_false]
    exact ih
theorem eq_LinkS (a : (List Link)) : laws_eqLinkS a a = true := by
  have h := eqL_LinkS a []
  simp only [List.nil_append, List.length_nil] at h
  simp only [laws_eqLinkS, bne_self_F, cond_false, h]
theorem toL_LinkS : ∀ (l p z : (List Link)), z.length = l.length → laws_toLinkS_L1 l p.length (p ++ z) = p ++ l
  | [], p, [], _ => rfl
  | e :: l, p, y :: z, h => by
    have ih := toL_LinkS l (p ++ [e]) z (by simpa using h)
    rw [mid_app p e l, mid_len] at ih
    simp only [laws_toLinkS_L1, mid, mid_set, to_Link e]
    exact ih
theorem to_LinkS (a : (List Link)) : laws_toLinkS a = a := by
  simp only [laws_toLinkS]
  exact toL_LinkS a [] _ (by simp)
theorem sz_LinkS_R (a : (List Link)) (left : Int) (h : GoT.ok 10 a) (h0 : 0 ≤ left) (h1 : left ≤ 1048576) : SzR (laws_szLinkS a left) left (sz a) := by
  have hl : a.length ≤ 9223372036854775807 := h.1
  rw [sz_list, szL_zero (fun b => sz_Link b)]
  unfold laws_szLinkS
  rw [wrap_sub h0 h1 hl]
  by_cases hc : left - (a.length : Int) < 0
  · rw [dT hc, cond_true]; exact .inl rfl
  · rw [dF (by omega), cond_false]; exact .inr ⟨by omega, rfl⟩
theorem sz_flat_LinkS (e : Link) : sz e = 0 := by
  simp only [sz_Link, Nat.add_assoc]
theorem mkL_LinkS : ∀ (l p : (List Link)) (k : Int), 0 ≤ k → k + 16 * ((l.length : Int) + szL l) ≤ 4611686018427387904 → ∃ l' k', laws_markLinkS_L1 l.length p.length (p ++ l) k = (p ++ l', k') ∧ k ≤ k' ∧ k' ≤ k + 16 * ((l.length : Int) + szL l) ∧ True
  | [], p, k, _, _ => ⟨[], k, rfl, by omega, by simp [szL_nil], trivial⟩
  | e :: l, p, k, h0, hb => by
    rw [szL_cons, List.length_cons] at hb
    have hsz := sz_flat_LinkS e
    have w1 := wrap1 (x := k) (by omega) (by omega)
    have w2 := wrap1 (x := (k + 1)) (by omega) (by omega)
    obtain ⟨l', k', r1, r2, r3, r4⟩ := mkL_LinkS l (p ++ [(Link.mk k (k + 1))]) ((k + 1) + 1) (by omega) (by omega)
    rw [mid_len] at r1
    refine ⟨(Link.mk k (k + 1)) :: l', k', ?_, by omega, by rw [szL_cons, List.length_cons]; omega, ?_⟩
    · simp only [List.length_cons, laws_markLinkS_L1, mid, mid_set, w1, w2]
      rw [r1, mid_app]
    · trivial
theorem mk_LinkS (a : (List Link)) (k : Int) (h0 : 0 ≤ k) (hb : k + 16 * (sz a : Int) ≤ 4611686018427387904) : MkR k (laws_markLinkS a k).1 (sz a) (laws_markLinkS a k).1 := by
  rw [sz_list] at hb ⊢
  obtain ⟨l', k', r1, r2, r3, r4⟩ := mkL_LinkS a [] k h0 (by omega)
  simp only [List.nil_append, List.length_nil] at r1
  simp only [laws_markLinkS, r1]
  exact ⟨r2, by omega, rfl⟩
theorem eq_Topology (a : Topology) : laws_eqTopology a a = true := by
  simp only [laws_eqTopology, bne_self_F, nbeq_self_F, cond_false, Bool.not_true, eq_LinkS]
theorem to_Topology (a : Topology) : laws_toTopology a = a := by
  simp only [laws_toTopology, to_LinkS]
theorem sz_Topology_R (a : Topology) (left : Int) (h : GoT.ok 10 a) (h0 : 0 ≤ left) (h1 : left ≤ 1048576) : SzR (laws_szTopology a left) left (sz a) := by
  rw [sz_Topology]
  unfold laws_szTopology
  rcases sz_LinkS_R a.links left (ok_Topology h).2 (by omega) (by omega) with r0 | ⟨q0, r0⟩
  · rw [r0]; exact .inl rfl
  rw [r0, dF (by omega), cond_false]
  exact .inr ⟨by omega, by omega⟩
theorem mk_Topology (a : Topology) (k : Int) (h0 : 0 ≤ k) (hb : k + 16 * (sz a : Int) ≤ 4611686018427387904) : MkR k (laws_markTopology a k).1 (sz a) (laws_markTopology a k).1 := by
  rw [sz_Topology] at hb ⊢
  obtain ⟨p0, q0, e0⟩ := mk_LinkS a.links (k) (by omega) (by omega)
  have d0 := dF (show 0 ≤ (laws_markLinkS a.links (k)).1 by omega)
  have f0 : (laws_markTopology a k).2.links = (laws_markLinkS a.links (k)).2 := rfl
  refine ⟨show k ≤ (laws_markLinkS a.links (k)).1 by omega, show (laws_markLinkS a.links (k)).1 ≤ _ by omega, rfl⟩
theorem eqL_StringS : ∀ (l p : (List Str)), laws_eqStringS_L1 (p ++ l) l p.length = none
  | [], _ => rfl
  | e :: l, p => by
    have ih := eqL_StringS l (p ++ [e])
    rw [mid_app, mid_len] at ih
    simp only [laws_eqStringS_L1, mid, bne_self_F, nbeq_self_F, cond_false]
    exact ih
theorem eq_StringS (a : (List Str)) : laws_eqStringS a a = true := by
  have h := eqL_StringS a []
  simp only [List.nil_append, List.length_nil] at h
  simp only [laws_eqStringS, bne_self_F, cond_false, h]
theorem toL_StringS : ∀ (l p z : (List Str)), z.length = l.length → laws_toStringS_L1 l p.length (p ++ z) = p ++ l
  | [], p, [], _ => rfl
  | e :: l, p, y :: z, h => by
    have ih := toL_StringS l (p ++ [e]) z (by simpa using h)
    rw [mid_app p e l, mid_len] at ih
    simp only [laws_toStringS_L1, mid, mid_set]
    exact ih
theorem to_StringS (a : (List Str)) : laws_toStringS a = a := by
  simp only [laws_toStringS]
  exact toL_StringS a [] _ (by simp)
theorem szL_StringS_R : ∀ (l : (List Str)) (left : Int), (∀ a ∈ l, GoT.ok 10 a) → 0 ≤ left → left ≤ 1048576 → SzL (laws_szStringS_L1 l left) left (szL l)
  | [], left, _, h0, _ => .inr ⟨by simp [szL_nil]; omega, by simp [szL_nil, laws_szStringS_L1]⟩
  | e :: l, left, hk, h0, h1 => by
    have he : e.size ≤ 9223372036854775807 := hk e List.mem_cons_self
    rw [szL_cons, sz_str]
    unfold laws_szStringS_L1
    rw [wrap_sub h0 h1 he]
    by_cases hc : left - (e.size : Int) < 0
    · rw [dT hc, cond_true]; exact .inl rfl
    · rw [dF (by omega), cond_false]
      rcases szL_StringS_R l (left - (e.size : Int)) (fun a ha => hk a (List.mem_cons_of_mem _ ha)) (by omega) (by omega) with r | ⟨q, r⟩
      · exact .inl r
      · exact .inr ⟨by omega, by rw [r]; congr 1; omega⟩
theorem sz_StringS_R (a : (List Str)) (left : Int) (h : GoT.ok 10 a) (h0 : 0 ≤ left) (h1 : left ≤ 1048576) : SzR (laws_szStringS a left) left (sz a) := by
  have hl : a.length ≤ 9223372036854775807 := h.1
  rw [sz_list]
  unfold laws_szStringS
  rw [wrap_sub h0 h1 hl]
  by_cases hc : left - (a.length : Int) < 0
  · rw [dT hc, cond_true]; exact .inl rfl
  · rw [dF (by omega), cond_false]
    rcases szL_StringS_R a (left - (a.length : Int)) h.2 (by omega) (by omega) with r | ⟨q, r⟩
    · rw [r]; exact .inl rfl
    · rw [r]; exact .inr ⟨by omega, by show left - (a.length : Int) - (szL a : Int) = _; omega⟩
theorem mkL_StringS : ∀ (l p : (List Str)) (k : Int), 0 ≤ k → k + 16 * ((l.length : Int) + szL l) ≤ 4611686018427387904 → ∃ l' k', laws_markStringS_L1 l.length p.length (p ++ l) k = (p ++ l', k') ∧ k ≤ k' ∧ k' ≤ k + 16 * ((l.length : Int) + szL l) ∧ True
  | [], p, k, _, _ => ⟨[], k, rfl, by omega, by simp [szL_nil], trivial⟩
  | e :: l, p, k, h0, hb => by
    rw [szL_cons, List.length_cons] at hb
    have w1 := wrap1 (x := k) (by omega) (by omega)
    obtain ⟨l', k', r1, r2, r3, r4⟩ := mkL_StringS l (p ++ [(laws_markText k)]) (k + 1) (by omega) (by omega)
    rw [mid_len] at r1
    refine ⟨(laws_markText k) :: l', k', ?_, by omega, by rw [szL_cons, List.length_cons]; omega, ?_⟩
    · simp only [List.length_cons, laws_markStringS_L1, mid, mid_set, w1]
      rw [r1, mid_app]
    · trivial
theorem mk_StringS (a : (List Str)) (k : Int) (h0 : 0 ≤ k) (hb : k + 16 * (sz a : Int) ≤ 4611686018427387904) : MkR k (laws_markStringS a k).1 (sz a) (laws_markStringS a k).1 := by
  rw [sz_list] at hb ⊢
  obtain ⟨l', k', r1, r2, r3, r4⟩ := mkL_StringS a [] k h0 (by omega)
  simp only [List.nil_append, List.length_nil] at r1
  simp only [laws_markStringS, r1]
  exact ⟨r2, by omega, rfl⟩
theorem eq_Name (a : Name) : laws_eqName a a = true := by
  simp only [laws_eqName, bne_self_F, nbeq_self_F, cond_false, Bool.not_true, eq_StringS]
theorem to_Name (a : Name) : laws_toName a = a := by
  simp only [laws_toName, to_StringS]
theorem sz_Name_R (a : Name) (left : Int) (h : GoT.ok 10 a) (h0 : 0 ≤ left) (h1 : left ≤ 1048576) : SzR (laws_szName a left) left (sz a) := by
  rw [sz_Name]
  unfold laws_szName
  rcases sz_StringS_R a.parts left (ok_Name h) (by omega) (by omega) with r0 | ⟨q0, r0⟩
  · rw [r0]; exact .inl rfl
  rw [r0, dF (by omega), cond_false]
  exact .inr ⟨by omega, by omega⟩
theorem eq_Key (a : Key) : laws_eqKey a a = true := by
  simp only [laws_eqKey, bne_self_F, nbeq_self_F, cond_false, Bool.not_true, eq_Name]
theorem to_Key (a : Key) : laws_toKey a = a := by
  simp only [laws_toKey, to_Name]
theorem sz_Key_R (a : Key) (left : Int) (h : GoT.ok 10 a) (h0 : 0 ≤ left) (h1 : left ≤ 1048576) : SzR (laws_szKey a left) left (sz a) := by
  rw [sz_Key]
  unfold laws_szKey
  rcases sz_Name_R a.name left (ok_Key h).1 (by omega) (by omega) with r0 | ⟨q0, r0⟩
  · rw [r0]; exact .inl rfl
  rw [r0, dF (by omega), cond_false]
  exact .inr ⟨by omega, by omega⟩
theorem eqL_KeyS : ∀ (l p : (List Key)), laws_eqKeyS_L1 (p ++ l) l p.length = none
  | [], _ => rfl
  | e :: l, p => by
    have ih := eqL_KeyS l (p ++ [e])
    rw [mid_app, mid_len] at ih
    simp only [laws_eqKeyS_L1, mid, eq_Key e, Bool.not_true, cond_false]
    exact ih
theorem eq_KeyS (a : (List Key)) : laws_eqKeyS a a = true := by
  have h := eqL_KeyS a []
  simp only [List.nil_append, List.length_nil] at h
  simp only [laws_eqKeyS, bne_self_F, cond_false, h]
theorem toL_KeyS : ∀ (l p z : (List Key)), z.length = l.length → laws_toKeyS_L1 l p.length (p ++ z) = p ++ l
  | [], p, [], _ => rfl
  | e :: l, p, y :: z, h => by
    have ih := toL_KeyS l (p ++ [e]) z (by simpa using h)
    rw [mid_app p e l, mid_len] at ih
    simp only [laws_toKeyS_L1, mid, mid_set, to_Key e]
    exact ih
theorem to_KeyS (a : (List Key)) : laws_toKeyS a = a := by
  simp only [laws_toKeyS]
  exact toL_KeyS a [] _ (by simp)
theorem szL_KeyS_R : ∀ (l : (List Key)) (left : Int), (∀ a ∈ l, GoT.ok 10 a) → 0 ≤ left → left ≤ 1048576 → SzL (laws_szKeyS_L1 l left) left (szL l)
  | [], left, _, h0, _ => .inr ⟨by simp [szL_nil]; omega, by simp [szL_nil, laws_szKeyS_L1]⟩
  | e :: l, left, hk, h0, h1 => by
    rw [szL_cons]
    unfold laws_szKeyS_L1
    rcases sz_Key_R e left (hk e List.mem_cons_self) h0 h1 with r0 | ⟨q0, r0⟩
    · rw [r0]; exact .inl rfl
    · rw [r0, dF (by omega), cond_false]
      rcases szL_KeyS_R l (left - (sz e : Int)) (fun a ha => hk a (List.mem_cons_of_mem _ ha)) (by omega) (by omega) with r | ⟨q, r⟩
      · exact .inl r
      · exact .inr ⟨by omega, by rw [r]; congr 1; omega⟩
theorem sz_KeyS_R (a : (List Key)) (left : Int) (h : GoT.ok 10 a) (h0 : 0 ≤ left) (h1 : left ≤ 1048576) : SzR (laws_szKeyS a left) left (sz a) := by
  have hl : a.length ≤ 9223372036854775807 := h.1
  rw [sz_list]
  unfold laws_szKeyS
  rw [wrap_sub h0 h1 hl]
  by_cases hc : left - (a.length : Int) < 0
  · rw [dT hc, cond_true]; exact .inl rfl
  · rw [dF (by omega), cond_false]
    rcases szL_KeyS_R a (left - (a.length : Int)) h.2 (by omega) (by omega) with r | ⟨q, r⟩
    · rw [r]; exact .inl rfl
    · rw [r]; exact .inr ⟨by omega, by show left - (a.length : Int) - (szL a : Int) = _; omega⟩
theorem sz_flat_KeyS (e : Key) : sz e = sz e.name.parts := by
  simp only [sz_Key, sz_Name, Nat.add_assoc]
theorem mkL_KeyS : ∀ (l p : (List Key)) (k : Int), 0 ≤ k → k + 16 * ((l.length : Int) + szL l) ≤ 4611686018427387904 → ∃ l' k', laws_markKeyS_L1 l.length p.length (p ++ l) k = (p ++ l', k') ∧ k ≤ k' ∧ k' ≤ k + 16 * ((l.length : Int) + szL l) ∧ True
  | [], p, k, _, _ => ⟨[], k, rfl, by omega, by simp [szL_nil], trivial⟩
  | e :: l, p, k, h0, hb => by
    rw [szL_cons, List.length_cons] at hb
    have hsz := sz_flat_KeyS e
    obtain ⟨p1, q1, e1⟩ := mk_StringS e.name.parts (k) (by omega) (by omega)
    have d1 := dF (show 0 ≤ (laws_markStringS e.name.parts (k)).1 by omega)
    have w2 := wrap1 (x := (laws_markStringS e.name.parts (k)).1) (by omega) (by omega)
    obtain ⟨l', k', r1, r2, r3, r4⟩ := mkL_KeyS l (p ++ [(Key.mk (Name.mk (laws_markStringS e.name.parts k).2) ((laws_markStringS e.name.parts k).1))]) ((laws_markStringS e.name.parts (k)).1 + 1) (by omega) (by omega)
    rw [mid_len] at r1
    refine ⟨(Key.mk (Name.mk (laws_markStringS e.name.parts k).2) ((laws_markStringS e.name.parts k).1)) :: l', k', ?_, by omega, by rw [szL_cons, List.length_cons]; omega, ?_⟩
    · simp only [List.length_cons, laws_markKeyS_L1, mid, mid_set, w2]
      rw [r1, mid_app]
    · trivial
theorem mk_KeyS (a : (List Key)) (k : Int) (h0 : 0 ≤ k) (hb : k + 16 * (sz a : Int) ≤ 4611686018427387904) : MkR k (laws_markKeyS a k).1 (sz a) (laws_markKeyS a k).1 := by
  rw [sz_list] at hb ⊢
  obtain ⟨l', k', r1, r2, r3, r4⟩ := mkL_KeyS a [] k h0 (by omega)
  simp only [List.nil_append, List.length_nil] at r1
  simp only [laws_markKeyS, r1]
  exact ⟨r2, by omega, rfl⟩
theorem eq_Pattern (a : Pattern) : laws_eqPattern a a = true := by
  simp only [laws_eqPattern, bne_self_F, nbeq_self_F, cond_false, Bool.not_true, eq_StringS]
theorem to_Pattern (a : Pattern) : laws_toPattern a = a := by
  simp only [laws_toPattern, to_StringS]
theorem sz_Pattern_R (a : Pattern) (left : Int) (h : GoT.ok 10 a) (h0 : 0 ≤ left) (h1 : left ≤ 1048576) : SzR (laws_szPattern a left) left (sz a) := by
  rw [sz_Pattern]
  unfold laws_szPattern
  rcases sz_StringS_R a.parts left (ok_Pattern h) (by omega) (by omega) with r0 | ⟨q0, r0⟩
  · rw [r0]; exact .inl rfl
  rw [r0, dF (by omega), cond_false]
  exact .inr ⟨by omega, by omega⟩
theorem eq_Rule (a : Rule) : laws_eqRule a a = true := by
  simp only [laws_eqRule, bne_self_F, nbeq_self_F, cond_false, Bool.not_true, eq_Pattern]
theorem to_Rule (a : Rule) : laws_toRule a = a := by
  simp only [laws_toRule, to_Pattern]
theorem sz_Rule_R (a : Rule) (left : Int) (h : GoT.ok 10 a) (h0 : 0 ≤ left) (h1 : left ≤ 1048576) : SzR (laws_szRule a left) left (sz a) := by
  rw [sz_Rule]
  unfold laws_szRule
  rcases sz_Pattern_R a.dataPattern left (ok_Rule h).1 (by omega) (by omega) with r0 | ⟨q0, r0⟩
  · rw [r0]; exact .inl rfl
  rw [r0, dF (by omega), cond_false]
  rcases sz_Pattern_R a.keyPattern (left - (sz a.dataPattern : Int)) (ok_Rule h).2 (by omega) (by omega) with r1 | ⟨q1, r1⟩
  · rw [r1]; exact .inl rfl
  rw [r1, dF (by omega), cond_false]
  exact .inr ⟨by omega, by omega⟩
theorem eqL_RuleS : ∀ (l p : (List Rule)), laws_eqRuleS_L1 (p ++ l) l p.length = none
  | [], _ => rfl
  | e :: l, p => by
    have ih := eqL_RuleS l (p ++ [e])
    rw [mid_app, mid_len] at ih
    simp only [laws_eqRuleS_L1, mid, eq_Rule e, Bool.not_true, cond_false]
    exact ih
theorem eq_RuleS (a : (List Rule)) : laws_eqRuleS a a = true := by
  have h := eqL_RuleS a []
  simp only [List.nil_append, List.length_nil] at h
  simp only [laws_eqRuleS, bne_self_F, cond_false, h]
theorem toL_RuleS : ∀ (l p z : (List Rule)), z.length = l.length → laws_toRuleS_L1 l p.length (p ++ z) = p ++ l
  | [], p, [], _ => rfl
  | e :: l, p, y :: z, h => by
    have ih := toL_RuleS l (p ++ [e]) z (by simpa using h)
    rw [mid_app p e l, mid_len] at ih
    simp only [laws_toRuleS_L1, mid, mid_set, to_Rule e]
    exact ih
theorem to_RuleS (a : (List Rule)) : laws_toRuleS a = a := by
  simp only [laws_toRuleS]
  exact toL_RuleS a [] _ (by simp)
theorem szL_RuleS_R : ∀ (l : (List Rule)) (left : Int), (∀ a ∈ l, GoT.ok 10 a) → 0 ≤ left → left ≤ 1048576 → SzL (laws_szRuleS_L1 l left) left (szL l)
  | [], left, _, h0, _ => .inr ⟨by simp [szL_nil]; omega, by simp [szL_nil, laws_szRuleS_L1]⟩
  | e :: l, left, hk, h0, h1 => by
    rw [szL_cons]
    unfold laws_szRuleS_L1
    rcases sz_Rule_R e left (hk e List.mem_cons_self) h0 h1 with r0 | ⟨q0, r0⟩
    · rw [r0]; exact .inl rfl
    · rw [r0, dF (by omega), cond_false]
      rcases szL_RuleS_R l (left - (sz e : Int)) (fun a ha => hk a (List.mem_cons_of_mem _ ha)) (by omega) (by omega) with r | ⟨q, r⟩
      · exact .inl r
      · exact .inr ⟨by omega, by rw [r]; congr 1; omega⟩
theorem sz_RuleS_R (a : (List Rule)) (left : Int) (h : GoT.ok 10 a) (h0 : 0 ≤ left) (h1 : left ≤ 1048576) : SzR (laws_szRuleS a left) left (sz a) := by
  have hl : a.length ≤ 9223372036854775807 := h.1
  rw [sz_list]
  unfold laws_szRuleS
  rw [wrap_sub h0 h1 hl]
  by_cases hc : left - (a.length : Int) < 0
  · rw [dT hc, cond_true]; exact .inl rfl
  · rw [dF (by omega), cond_false]
    rcases szL_RuleS_R a (left - (a.length : Int)) h.2 (by omega) (by omega) with r | ⟨q, r⟩
    · rw [r]; exact .inl rfl
    · rw [r]; exact .inr ⟨by omega, by show left - (a.length : Int) - (szL a : Int) = _; omega⟩
theorem sz_flat_RuleS (e : Rule) : sz e = sz e.dataPattern.parts + sz e.keyPattern.parts := by
  simp only [sz_Rule, sz_Pattern, Nat.add_assoc]
theorem mkL_RuleS : ∀ (l p : (List Rule)) (k : Int), 0 ≤ k → k + 16 * ((l.length : Int) + szL l) ≤ 4611686018427387904 → ∃ l' k', laws_markRuleS_L1 l.length p.length (p ++ l) k = (p ++ l', k') ∧ k ≤ k' ∧ k' ≤ k + 16 * ((l.length : Int) + szL l) ∧ True
  | [], p, k, _, _ => ⟨[], k, rfl, by omega, by simp [szL_nil], trivial⟩
  | e :: l, p, k, h0, hb => by
    rw [szL_cons, List.length_cons] at hb
    have hsz := sz_flat_RuleS e
    obtain ⟨p1, q1, e1⟩ := mk_StringS e.dataPattern.parts (k) (by omega) (by omega)
    have d1 := dF (show 0 ≤ (laws_markStringS e.dataPattern.parts (k)).1 by omega)
    obtain ⟨p2, q2, e2⟩ := mk_StringS e.keyPattern.parts ((laws_markStringS e.dataPattern.parts (k)).1) (by omega) (by omega)
    have d2 := dF (show 0 ≤ (laws_markStringS e.keyPattern.parts ((laws_markStringS e.dataPattern.parts (k)).1)).1 by omega)
    obtain ⟨l', k', r1, r2, r3, r4⟩ := mkL_RuleS l (p ++ [(Rule.mk (Pattern.mk (laws_markStringS e.dataPattern.parts k).2) (Pattern.mk (laws_markStringS e.keyPattern.parts ((laws_markStringS e.dataPattern.parts k).1)).2))]) (laws_markStringS e.keyPattern.parts ((laws_markStringS e.dataPattern.parts (k)).1)).1 (by omega) (by omega)
    rw [mid_len] at r1
    refine ⟨(Rule.mk (Pattern.mk (laws_markStringS e.dataPattern.parts k).2) (Pattern.mk (laws_markStringS e.keyPattern.parts ((laws_markStringS e.dataPattern.parts k).1)).2)) :: l', k', ?_, by omega, by rw [szL_cons, List.length_cons]; omega, ?_⟩
    · simp only [List.length_cons, laws_markRuleS_L1, mid, mid_set]
      rw [r1, mid_app]
    · trivial
theorem mk_RuleS (a : (List Rule)) (k : Int) (h0 : 0 ≤ k) (hb : k + 16 * (sz a : Int) ≤ 4611686018427387904) : MkR k (laws_markRuleS a k).1 (sz a) (laws_markRuleS a k).1 := by
  rw [sz_list] at hb ⊢
  obtain ⟨l', k', r1, r2, r3, r4⟩ := mkL_RuleS a [] k h0 (by omega)
  simp only [List.nil_append, List.length_nil] at r1
  simp only [laws_markRuleS, r1]
  exact ⟨r2, by omega, rfl⟩
theorem eqL_NameS : ∀ (l p : (List Name)), laws_eqNameS_L1 (p ++ l) l p.length = none
  | [], _ => rfl
  | e :: l, p => by
    have ih := eqL_NameS l (p ++ [e])
    rw [mid_app, mid_len] at ih
    simp only [laws_eqNameS_L1, mid, eq_Name e, Bool.not_true, cond_false]
    exact ih
theorem eq_NameS (a : (List Name)) : laws_eqNameS a a = true := by
  have h := eqL_NameS a []
  simp only [List.nil_append, List.length_nil] at h
  simp only [laws_eqNameS, bne_self_F, cond_false, h]
theorem toL_NameS : ∀ (l p z : (List Name)), z.length = l.length → laws_toNameS_L1 l p.length (p ++ z) = p ++ l
  | [], p, [], _ => rfl
  | e :: l, p, y :: z, h => by
    have ih := toL_NameS l (p ++ [e]) z (by simpa using h)
    rw [mid_app p e l, mid_len] at ih
    simp only [laws_toNameS_L1, mid, mid_set, to_Name e]
    exact ih
theorem to_NameS (a : (List Name)) : laws_toNameS a = a := by
  simp only [laws_toNameS]
  exact toL_NameS a [] _ (by simp)
theorem szL_NameS_R : ∀ (l : (List Name)) (left : Int), (∀ a ∈ l, GoT.ok 10 a) → 0 ≤ left → left ≤ 1048576 → SzL (laws_szNameS_L1 l left) left (szL l)
  | [], left, _, h0, _ => .inr ⟨by simp [szL_nil]; omega, by simp [szL_nil, laws_szNameS_L1]⟩
  | e :: l, left, hk, h0, h1 => by
    rw [szL_cons]
    unfold laws_szNameS_L1
    rcases sz_Name_R e left (hk e List.mem_cons_self) h0 h1 with r0 | ⟨q0, r0⟩
    · rw [r0]; exact .inl rfl
    · rw [r0, dF (by omega), cond_false]
      rcases szL_NameS_R l (left - (sz e : Int)) (fun a ha => hk a (List.mem_cons_of_mem _ ha)) (by omega) (by omega) with r | ⟨q, r⟩
      · exact .inl r
      · exact .inr ⟨by omega, by rw [r]; congr 1; omega⟩
theorem sz_NameS_R (a : (List Name)) (left : Int) (h : GoT.ok 10 a) (h0 : 0 ≤ left) (h1 : left ≤ 1048576) : SzR (laws_szNameS a left) left (sz a) := by
  have hl : a.length ≤ 9223372036854775807 := h.1
  rw [sz_list]
  unfold laws_szNameS
  rw [wrap_sub h0 h1 hl]
  by_cases hc : left - (a.length : Int) < 0
  · rw [dT hc, cond_true]; exact .inl rfl
  · rw [dF (by omega), cond_false]
    rcases szL_NameS_R a (left - (a.length : Int)) h.2 (by omega) (by omega) with r | ⟨q, r⟩
    · rw [r]; exact .inl rfl
    · rw [r]; exact .inr ⟨by omega, by show left - (a.length : Int) - (szL a : Int) = _; omega⟩
theorem sz_flat_NameS (e : Name) : sz e = sz e.parts := by
  simp only [sz_Name, Nat.add_assoc]
theorem mkL_NameS : ∀ (l p : (List Name)) (k : Int), 0 ≤ k → k + 16 * ((l.length : Int) + szL l) ≤ 4611686018427387904 → ∃ l' k', laws_markNameS_L1 l.length p.length (p ++ l) k = (p ++ l', k') ∧ k ≤ k' ∧ k' ≤ k + 16 * ((l.length : Int) + szL l) ∧ True
  | [], p, k, _, _ => ⟨[], k, rfl, by omega, by simp [szL_nil], trivial⟩
  | e :: l, p, k, h0, hb => by
    rw [szL_cons, List.length_cons] at hb
    have hsz := sz_flat_NameS e
    obtain ⟨p1, q1, e1⟩ := mk_StringS e.parts (k) (by omega) (by omega)
    have d1 := dF (show 0 ≤ (laws_markStringS e.parts (k)).1 by omega)
    obtain ⟨l', k', r1, r2, r3, r4⟩ := mkL_NameS l (p ++ [(Name.mk (laws_markStringS e.parts k).2)]) (laws_markStringS e.parts (k)).1 (by omega) (by omega)
    rw [mid_len] at r1
    refine ⟨(Name.mk (laws_markStringS e.parts k).2) :: l', k', ?_, by omega, by rw [szL_cons, List.length_cons]; omega, ?_⟩
    · simp only [List.length_cons, laws_markNameS_L1, mid, mid_set]
      rw [r1, mid_app]
    · trivial
theorem mk_NameS (a : (List Name)) (k : Int) (h0 : 0 ≤ k) (hb : k + 16 * (sz a : Int) ≤ 4611686018427387904) : MkR k (laws_markNameS a k).1 (sz a) (laws_markNameS a k).1 := by
  rw [sz_list] at hb ⊢
  obtain ⟨l', k', r1, r2, r3, r4⟩ := mkL_NameS a [] k h0 (by omega)
  simp only [List.nil_append, List.length_nil] at r1
  simp only [laws_markNameS, r1]
  exact ⟨r2, by omega, rfl⟩
theorem eqL_ByteS : ∀ (l p : (List UInt8)), laws_eqByteS_L1 (p ++ l) l p.length = none
  | [], _ => rfl
  | e :: l, p => by
    have ih := eqL_ByteS l (p ++ [e])
    rw [mid_app, mid_len] at ih
    simp only [laws_eqByteS_L1, mid, bne_self_F, nbeq_self_F, cond_false]
    exact ih
theorem eq_ByteS (a : (List UInt8)) : laws_eqByteS a a = true := by
  have h := eqL_ByteS a []
  simp only [List.nil_append, List.length_nil] at h
  simp only [laws_eqByteS, bne_self_F, cond_false, h]
theorem toL_ByteS : ∀ (l p z : (List UInt8)), z.length = l.length → laws_toByteS_L1 l p.length (p ++ z) = p ++ l
  | [], p, [], _ => rfl
  | e :: l, p, y :: z, h => by
    have ih := toL_ByteS l (p ++ [e]) z (by simpa using h)
    rw [mid_app p e l, mid_len] at ih
    simp only [laws_toByteS_L1, mid, mid_set]
    exact ih
theorem to_ByteS (a : (List UInt8)) : laws_toByteS a = a := by
  simp only [laws_toByteS]
  exact toL_ByteS a [] _ (by simp)
theorem sz_ByteS_R (a : (List UInt8)) (left : Int) (h : GoT.ok 10 a) (h0 : 0 ≤ left) (h1 : left ≤ 1048576) : SzR (laws_szByteS a left) left (sz a) := by
  have hl : a.length ≤ 9223372036854775807 := h.1
  rw [sz_list, szL_u8]
  unfold laws_szByteS
  rw [wrap_sub h0 h1 hl]
  by_cases hc : left - (a.length : Int) < 0
  · rw [dT hc, cond_true]; exact .inl rfl
  · rw [dF (by omega), cond_false]; exact .inr ⟨by omega, rfl⟩
theorem mkL_ByteS : ∀ (l p : (List UInt8)) (k : Int), 0 ≤ k → k + 16 * ((l.length : Int) + szL l) ≤ 4611686018427387904 → ∃ l' k', laws_markByteS_L1 l.length p.length (p ++ l) k = (p ++ l', k') ∧ k ≤ k' ∧ k' ≤ k + 16 * ((l.length : Int) + szL l) ∧ True
  | [], p, k, _, _ => ⟨[], k, rfl, by omega, by simp [szL_nil], trivial⟩
  | e :: l, p, k, h0, hb => by
    rw [szL_cons, List.length_cons] at hb
    have w1 := wrap1 (x := k) (by omega) (by omega)
    obtain ⟨l', k', r1, r2, r3, r4⟩ := mkL_ByteS l (p ++ [(toU8 k)]) (k + 1) (by omega) (by omega)
    rw [mid_len] at r1
    refine ⟨(toU8 k) :: l', k', ?_, by omega, by rw [szL_cons, List.length_cons]; omega, ?_⟩
    · simp only [List.length_cons, laws_markByteS_L1, mid, mid_set, w1]
      rw [r1, mid_app]
    · trivial
theorem mk_ByteS (a : (List UInt8)) (k : Int) (h0 : 0 ≤ k) (hb : k + 16 * (sz a : Int) ≤ 4611686018427387904) : MkR k (laws_markByteS a k).1 (sz a) (laws_markByteS a k).1 := by
  rw [sz_list] at hb ⊢
  obtain ⟨l', k', r1, r2, r3, r4⟩ := mkL_ByteS a [] k h0 (by omega)
  simp only [List.nil_append, List.length_nil] at r1
  simp only [laws_markByteS, r1]
  exact ⟨r2, by omega, rfl⟩
theorem eq_Data (a : DataP) : laws_eqData a a = true := by
  simp only [laws_eqData, bne_self_F, nbeq_self_F, cond_false, Bool.not_true, eq_Name, eq_ByteS]
theorem to_Data (a : DataP) : laws_toData a = a := by
  simp only [laws_toData, to_Name, to_ByteS]
theorem sz_Data_R (a : DataP) (left : Int) (h : GoT.ok 10 a) (h0 : 0 ≤ left) (h1 : left ≤ 1048576) : SzR (laws_szData a left) left (sz a) := by
  rw [sz_DataP]
  unfold laws_szData
  rcases sz_Name_R a.name left (ok_DataP h).1 (by omega) (by omega) with r0 | ⟨q0, r0⟩
  · rw [r0]; exact .inl rfl
  rw [r0, dF (by omega), cond_false]
  rcases sz_ByteS_R a.content (left - (sz a.name : Int)) (ok_DataP h).2.1 (by omega) (by omega) with r1 | ⟨q1, r1⟩
  · rw [r1]; exact .inl rfl
  rw [r1, dF (by omega), cond_false]
  rcases sz_Name_R a.keyName ((left - (sz a.name : Int)) - (sz a.content : Int)) (ok_DataP h).2.2.1 (by omega) (by omega) with r2 | ⟨q2, r2⟩
  · rw [r2]; exact .inl rfl
  rw [r2, dF (by omega), cond_false]
  exact .inr ⟨by omega, by omega⟩
theorem eqL_DataS : ∀ (l p : (List DataP)), laws_eqDataS_L1 (p ++ l) l p.length = none
  | [], _ => rfl
  | e :: l, p => by
    have ih := eqL_DataS l (p ++ [e])
    rw [mid_app, mid_len] at ih
    simp only [laws_eqDataS_L1, mid, eq_Data e, Bool.not_true, cond_false]
    exact ih
theorem eq_DataS (a : (List DataP)) : laws_eqDataS a a = true := by
  have h := eqL_DataS a []
  simp only [List.nil_append, List.length_nil] at h
  simp only [laws_eqDataS, bne_self_F, cond_false, h]
theorem toL_DataS : ∀ (l p z : (List DataP)), z.length = l.length → laws_toDataS_L1 l p.length (p ++ z) = p ++ l
  | [], p, [], _ => rfl
  | e :: l, p, y :: z, h => by
    have ih := toL_DataS l (p ++ [e]) z (by simpa using h)
    rw [mid_app p e l, mid_len] at ih
    simp only [laws_toDataS_L1, mid, mid_set, to_Data e]
    exact ih
theorem to_DataS (a : (List DataP)) : laws_toDataS a = a := by
  simp only [laws_toDataS]
  exact toL_DataS a [] _ (by simp)
theorem szL_DataS_R : ∀ (l : (List DataP)) (left : Int), (∀ a ∈ l, GoT.ok 10 a) → 0 ≤ left → left ≤ 1048576 → SzL (laws_szDataS_L1 l left) left (szL l)
  | [], left, _, h0, _ => .inr ⟨by simp [szL_nil]; omega, by simp [szL_nil, laws_szDataS_L1]⟩
  | e :: l, left, hk, h0, h1 => by
    rw [szL_cons]
    unfold laws_szDataS_L1
    rcases sz_Data_R e left (hk e List.mem_cons_self) h0 h1 with r0 | ⟨q0, r0⟩
    · rw [r0]; exact .inl rfl
    · rw [r0, dF (by omega), cond_false]
      rcases szL_DataS_R l (left - (sz e : Int)) (fun a ha => hk a (List.mem_cons_of_mem _ ha)) (by omega) (by omega) with r | ⟨q, r⟩
      · exact .inl r
      · exact .inr ⟨by omega, by rw [r]; congr 1; omega⟩
theorem sz_DataS_R (a : (List DataP)) (left : Int) (h : GoT.ok 10 a) (h0 : 0 ≤ left) (h1 : left ≤ 1048576) : SzR (laws_szDataS a left) left (sz a) := by
  have hl : a.length ≤ 9223372036854775807 := h.1
  rw [sz_list]
  unfold laws_szDataS
  rw [wrap_sub h0 h1 hl]
  by_cases hc : left - (a.length : Int) < 0
  · rw [dT hc, cond_true]; exact .inl rfl
  · rw [dF (by omega), cond_false]
    rcases szL_DataS_R a (left - (a.length : Int)) h.2 (by omega) (by omega) with r | ⟨q, r⟩
    · rw [r]; exact .inl rfl
    · rw [r]; exact .inr ⟨by omega, by show left - (a.length : Int) - (szL a : Int) = _; omega⟩
theorem sz_flat_DataS (e : DataP) : sz e = sz e.name.parts + sz e.content + sz e.keyName.parts := by
  simp only [sz_DataP, sz_Name, Nat.add_assoc]
theorem mkL_DataS : ∀ (l p : (List DataP)) (k : Int), 0 ≤ k → k + 16 * ((l.length : Int) + szL l) ≤ 4611686018427387904 → ∃ l' k', laws_markDataS_L1 l.length p.length (p ++ l) k = (p ++ l', k') ∧ k ≤ k' ∧ k' ≤ k + 16 * ((l.length : Int) + szL l) ∧ True
  | [], p, k, _, _ => ⟨[], k, rfl, by omega, by simp [szL_nil], trivial⟩
  | e :: l, p, k, h0, hb => by
    rw [szL_cons, List.length_cons] at hb
    have hsz := sz_flat_DataS e
    obtain ⟨p1, q1, e1⟩ := mk_StringS e.name.parts (k) (by omega) (by omega)
    have d1 := dF (show 0 ≤ (laws_markStringS e.name.parts (k)).1 by omega)
    obtain ⟨p2, q2, e2⟩ := mk_ByteS e.content ((laws_markStringS e.name.parts (k)).1) (by omega) (by omega)
    have d2 := dF (show 0 ≤ (laws_markByteS e.content ((laws_markStringS e.name.parts (k)).1)).1 by omega)
    obtain ⟨p3, q3, e3⟩ := mk_StringS e.keyName.parts ((laws_markByteS e.content ((laws_markStringS e.name.parts (k)).1)).1) (by omega) (by omega)
    have d3 := dF (show 0 ≤ (laws_markStringS e.keyName.parts ((laws_markByteS e.content ((laws_markStringS e.name.parts (k)).1)).1)).1 by omega)
    have w4 := wrap1 (x := (laws_markStringS e.keyName.parts ((laws_markByteS e.content ((laws_markStringS e.name.parts (k)).1)).1)).1) (by omega) (by omega)
    have w5 := wrap1 (x := ((laws_markStringS e.keyName.parts ((laws_markByteS e.content ((laws_markStringS e.name.parts (k)).1)).1)).1 + 1)) (by omega) (by omega)
    obtain ⟨l', k', r1, r2, r3, r4⟩ := mkL_DataS l (p ++ [(DataP.mk (Name.mk (laws_markStringS e.name.parts k).2) (laws_markByteS e.content ((laws_markStringS e.name.parts k).1)).2 (Name.mk (laws_markStringS e.keyName.parts ((laws_markByteS e.content ((laws_markStringS e.name.parts k).1)).1)).2) ((laws_markStringS e.keyName.parts ((laws_markByteS e.content ((laws_markStringS e.name.parts k).1)).1)).1) ((laws_markStringS e.keyName.parts ((laws_markByteS e.content ((laws_markStringS e.name.parts k).1)).1)).1 + 1))]) (((laws_markStringS e.keyName.parts ((laws_markByteS e.content ((laws_markStringS e.name.parts (k)).1)).1)).1 + 1) + 1) (by omega) (by omega)
    rw [mid_len] at r1
    refine ⟨(DataP.mk (Name.mk (laws_markStringS e.name.parts k).2) (laws_markByteS e.content ((laws_markStringS e.name.parts k).1)).2 (Name.mk (laws_markStringS e.keyName.parts ((laws_markByteS e.content ((laws_markStringS e.name.parts k).1)).1)).2) ((laws_markStringS e.keyName.parts ((laws_markByteS e.content ((laws_markStringS e.name.parts k).1)).1)).1) ((laws_markStringS e.keyName.parts ((laws_markByteS e.content ((laws_markStringS e.name.parts k).1)).1)).1 + 1)) :: l', k', ?_, by omega, by rw [szL_cons, List.length_cons]; omega, ?_⟩
    · simp only [List.length_cons, laws_markDataS_L1, mid, mid_set, w4, w5]
      rw [r1, mid_app]
    · trivial
theorem mk_DataS (a : (List DataP)) (k : Int) (h0 : 0 ≤ k) (hb : k + 16 * (sz a : Int) ≤ 4611686018427387904) : MkR k (laws_markDataS a k).1 (sz a) (laws_markDataS a k).1 := by
  rw [sz_list] at hb ⊢
  obtain ⟨l', k', r1, r2, r3, r4⟩ := mkL_DataS a [] k h0 (by omega)
  simp only [List.nil_append, List.length_nil] at r1
  simp only [laws_markDataS, r1]
  exact ⟨r2, by omega, rfl⟩
theorem eq_TrustPolicy (a : TrustPolicy) : laws_eqTrustPolicy a a = true := by
  simp only [laws_eqTrustPolicy, bne_self_F, nbeq_self_F, cond_false, Bool.not_true, eq_KeyS, eq_RuleS, eq_NameS, eq_DataS]
theorem to_TrustPolicy (a : TrustPolicy) : laws_toTrustPolicy a = a := by
  simp only [laws_toTrustPolicy, to_KeyS, to_RuleS, to_NameS, to_DataS]
theorem sz_TrustPolicy_R (a : TrustPolicy) (left : Int) (h : GoT.ok 10 a) (h0 : 0 ≤ left) (h1 : left ≤ 1048576) : SzR (laws_szTrustPolicy a left) left (sz a) := by
  rw [sz_TrustPolicy]
  unfold laws_szTrustPolicy
  rcases sz_KeyS_R a.keys left (ok_TrustPolicy h).1 (by omega) (by omega) with r0 | ⟨q0, r0⟩
  · rw [r0]; exact .inl rfl
  rw [r0, dF (by omega), cond_false]
  rcases sz_RuleS_R a.rules (left - (sz a.keys : Int)) (ok_TrustPolicy h).2.1 (by omega) (by omega) with r1 | ⟨q1, r1⟩
  · rw [r1]; exact .inl rfl
  rw [r1, dF (by omega), cond_false]
  rcases sz_NameS_R a.anchors ((left - (sz a.keys : Int)) - (sz a.rules : Int)) (ok_TrustPolicy h).2.2.1 (by omega) (by omega) with r2 | ⟨q2, r2⟩
  · rw [r2]; exact .inl rfl
  rw [r2, dF (by omega), cond_false]
  rcases sz_DataS_R a.certificates (((left - (sz a.keys : Int)) - (sz a.rules : Int)) - (sz a.anchors : Int)) (ok_TrustPolicy h).2.2.2 (by omega) (by omega) with r3 | ⟨q3, r3⟩
  · rw [r3]; exact .inl rfl
  rw [r3, dF (by omega), cond_false]
  exact .inr ⟨by omega, by omega⟩
theorem mk_TrustPolicy (a : TrustPolicy) (k : Int) (h0 : 0 ≤ k) (hb : k + 16 * (sz a : Int) ≤ 4611686018427387904) : MkR k (laws_markTrustPolicy a k).1 (sz a) (laws_markTrustPolicy a k).1 := by
  rw [sz_TrustPolicy] at hb ⊢
  obtain ⟨p0, q0, e0⟩ := mk_KeyS a.keys (k) (by omega) (by omega)
  have d0 := dF (show 0 ≤ (laws_markKeyS a.keys (k)).1 by omega)
  have f0 : (laws_markTrustPolicy a k).2.keys = (laws_markKeyS a.keys (k)).2 := rfl
  obtain ⟨p1, q1, e1⟩ := mk_RuleS a.rules ((laws_markKeyS a.keys (k)).1) (by omega) (by omega)
  have d1 := dF (show 0 ≤ (laws_markRuleS a.rules ((laws_markKeyS a.keys (k)).1)).1 by omega)
  have f1 : (laws_markTrustPolicy a k).2.rules = (laws_markRuleS a.rules ((laws_markKeyS a.keys (k)).1)).2 := rfl
  obtain ⟨p2, q2, e2⟩ := mk_NameS a.anchors ((laws_markRuleS a.rules ((laws_markKeyS a.keys (k)).1)).1) (by omega) (by omega)
  have d2 := dF (show 0 ≤ (laws_markNameS a.anchors ((laws_markRuleS a.rules ((laws_markKeyS a.keys (k)).1)).1)).1 by omega)
  have f2 : (laws_markTrustPolicy a k).2.anchors = (laws_markNameS a.anchors ((laws_markRuleS a.rules ((laws_markKeyS a.keys (k)).1)).1)).2 := rfl
  obtain ⟨p3, q3, e3⟩ := mk_DataS a.certificates ((laws_markNameS a.anchors ((laws_markRuleS a.rules ((laws_markKeyS a.keys (k)).1)).1)).1) (by omega) (by omega)
  have d3 := dF (show 0 ≤ (laws_markDataS a.certificates ((laws_markNameS a.anchors ((laws_markRuleS a.rules ((laws_markKeyS a.keys (k)).1)).1)).1)).1 by omega)
  have f3 : (laws_markTrustPolicy a k).2.certificates = (laws_markDataS a.certificates ((laws_markNameS a.anchors ((laws_markRuleS a.rules ((laws_markKeyS a.keys (k)).1)).1)).1)).2 := rfl
  refine ⟨show k ≤ (laws_markDataS a.certificates ((laws_markNameS a.anchors ((laws_markRuleS a.rules ((laws_markKeyS a.keys (k)).1)).1)).1)).1 by omega, show (laws_markDataS a.certificates ((laws_markNameS a.anchors ((laws_markRuleS a.rules ((laws_markKeyS a.keys (k)).1)).1)).1)).1 ≤ _ by omega, rfl⟩
theorem eq_TableEntry (a : TableEntry) : laws_eqTableEntry a a = true := by
  simp only [laws_eqTableEntry, bne_self_F, nbeq_self_F, cond_false, Bool.not_true, eq_Name]
theorem to_TableEntry (a : TableEntry) : laws_toTableEntry a = a := by
  simp only [laws_toTableEntry, to_Name]
theorem sz_TableEntry_R (a : TableEntry) (left : Int) (h : GoT.ok 10 a) (h0 : 0 ≤ left) (h1 : left ≤ 1048576) : SzR (laws_szTableEntry a left) left (sz a) := by
  rw [sz_TableEntry]
  unfold laws_szTableEntry
  rcases sz_Name_R a.name left (ok_TableEntry h).1 (by omega) (by omega) with r0 | ⟨q0, r0⟩
  · rw [r0]; exact .inl rfl
  rw [r0, dF (by omega), cond_false]
  exact .inr ⟨by omega, by omega⟩
theorem eqL_TableEntryS : ∀ (l p : (List TableEntry)), laws_eqTableEntryS_L1 (p ++ l) l p.length = none
  | [], _ => rfl
  | e :: l, p => by
    have ih := eqL_TableEntryS l (p ++ [e])
    rw [mid_app, mid_len] at ih
    simp only [laws_eqTableEntryS_L1, mid, eq_TableEntry e, Bool.not_true, cond_false]
    exact ih
theorem eq_TableEntryS (a : (List TableEntry)) : laws_eqTableEntryS a a = true := by
  have h := eqL_TableEntryS a []
  simp only [List.nil_append, List.length_nil] at h
  simp only [laws_eqTableEntryS, bne_self_F, cond_false, h]
theorem toL_TableEntryS : ∀ (l p z : (List TableEntry)), z.length = l.length → laws_toTableEntryS_L1 l p.length (p ++ z) = p ++ l
  | [], p, [], _ => rfl
  | e :: l, p, y :: z, h => by
    have ih := toL_TableEntryS l (p ++ [e]) z (by simpa using h)
    rw [mid_app p e l, mid_len] at ih
    simp only [laws_toTableEntryS_L1, mid, mid_set, to_TableEntry e]
    exact ih
theorem to_TableEntryS (a : (List TableEntry)) : laws_toTableEntryS a = a := by
  simp only [laws_toTableEntryS]
  exact toL_TableEntryS a [] _ (by simp)
theorem szL_TableEntryS_R : ∀ (l : (List TableEntry)) (left : Int), (∀ a ∈ l, GoT.ok 10 a) → 0 ≤ left → left ≤ 1048576 → SzL (laws_szTableEntryS_L1 l left) left (szL l)
  | [], left, _, h0, _ => .inr ⟨by simp [szL_nil]; omega, by simp [szL_nil, laws_szTableEntryS_L1]⟩
  | e :: l, left, hk, h0, h1 => by
    rw [szL_cons]
    unfold laws_szTableEntryS_L1
    rcases sz_TableEntry_R e left (hk e List.mem_cons_self) h0 h1 with r0 | ⟨q0, r0⟩
    · rw [r0]; exact .inl rfl
    · rw [r0, dF (by omega), cond_false]
      rcases szL_TableEntryS_R l (left - (sz e : Int)) (fun a ha => hk a (List.mem_cons_of_mem _ ha)) (by omega) (by omega) with r | ⟨q, r⟩
      · exact .inl r
      · exact .inr ⟨by omega, by rw [r]; congr 1; omega⟩
theorem sz_TableEntryS_R (a : (List TableEntry)) (left : Int) (h : GoT.ok 10 a) (h0 : 0 ≤ left) (h1 : left ≤ 1048576) : SzR (laws_szTableEntryS a left) left (sz a) := by
  have hl : a.length ≤ 9223372036854775807 := h.1
  rw [sz_list]
  unfold laws_szTableEntryS
  rw [wrap_sub h0 h1 hl]
  by_cases hc : left - (a.length : Int) < 0
  · rw [dT hc, cond_true]; exact .inl rfl
  · rw [dF (by omega), cond_false]
    rcases szL_TableEntryS_R a (left - (a.length : Int)) h.2 (by omega) (by omega) with r | ⟨q, r⟩
    · rw [r]; exact .inl rfl
    · rw [r]; exact .inr ⟨by omega, by show left - (a.length : Int) - (szL a : Int) = _; omega⟩
theorem sz_flat_TableEntryS (e : TableEntry) : sz e = sz e.name.parts := by
  simp only [sz_TableEntry, sz_Name, Nat.add_assoc]
theorem mkL_TableEntryS : ∀ (l p : (List TableEntry)) (k : Int), 0 ≤ k → k + 16 * ((l.length : Int) + szL l) ≤ 4611686018427387904 → ∃ l' k', laws_markTableEntryS_L1 l.length p.length (p ++ l) k = (p ++ l', k') ∧ k ≤ k' ∧ k' ≤ k + 16 * ((l.length : Int) + szL l) ∧ True
  | [], p, k, _, _ => ⟨[], k, rfl, by omega, by simp [szL_nil], trivial⟩
  | e :: l, p, k, h0, hb => by
    rw [szL_cons, List.length_cons] at hb
    have hsz := sz_flat_TableEntryS e
    obtain ⟨p1, q1, e1⟩ := mk_StringS e.name.parts (k) (by omega) (by omega)
    have d1 := dF (show 0 ≤ (laws_markStringS e.name.parts (k)).1 by omega)
    have w2 := wrap1 (x := (laws_markStringS e.name.parts (k)).1) (by omega) (by omega)
    obtain ⟨l', k', r1, r2, r3, r4⟩ := mkL_TableEntryS l (p ++ [(TableEntry.mk (Name.mk (laws_markStringS e.name.parts k).2) ((laws_markStringS e.name.parts k).1))]) ((laws_markStringS e.name.parts (k)).1 + 1) (by omega) (by omega)
    rw [mid_len] at r1
    refine ⟨(TableEntry.mk (Name.mk (laws_markStringS e.name.parts k).2) ((laws_markStringS e.name.parts k).1)) :: l', k', ?_, by omega, by rw [szL_cons, List.length_cons]; omega, ?_⟩
    · simp only [List.length_cons, laws_markTableEntryS_L1, mid, mid_set, w2]
      rw [r1, mid_app]
    · trivial
theorem mk_TableEntryS (a : (List TableEntry)) (k : Int) (h0 : 0 ≤ k) (hb : k + 16 * (sz a : Int) ≤ 4611686018427387904) : MkR k (laws_markTableEntryS a k).1 (sz a) (laws_markTableEntryS a k).1 := by
  rw [sz_list] at hb ⊢
  obtain ⟨l', k', r1, r2, r3, r4⟩ := mkL_TableEntryS a [] k h0 (by omega)
  simp only [List.nil_append, List.length_nil] at r1
  simp only [laws_markTableEntryS, r1]
  exact ⟨r2, by omega, rfl⟩
theorem eq_CacheEntry (a : CacheEntry) : laws_eqCacheEntry a a = true := by
  simp only [laws_eqCacheEntry, bne_self_F, nbeq_self_F, cond_false, Bool.not_true, eq_Data]
theorem to_CacheEntry (a : CacheEntry) : laws_toCacheEntry a = a := by
  simp only [laws_toCacheEntry, to_Data]
theorem sz_CacheEntry_R (a : CacheEntry) (left : Int) (h : GoT.ok 10 a) (h0 : 0 ≤ left) (h1 : left ≤ 1048576) : SzR (laws_szCacheEntry a left) left (sz a) := by
  rw [sz_CacheEntry]
  unfold laws_szCacheEntry
  rcases sz_Data_R a.data left (ok_CacheEntry h).1 (by omega) (by omega) with r0 | ⟨q0, r0⟩
  · rw [r0]; exact .inl rfl
  rw [r0, dF (by omega), cond_false]
  exact .inr ⟨by omega, by omega⟩
theorem eqL_CacheEntryS : ∀ (l p : (List CacheEntry)), laws_eqCacheEntryS_L1 (p ++ l) l p.length = none
  | [], _ => rfl
  | e :: l, p => by
    have ih := eqL_CacheEntryS l (p ++ [e])
    rw [mid_app, mid_len] at ih
    simp only [laws_eqCacheEntryS_L1, mid, eq_CacheEntry e, Bool.not_true, cond_false]
    exact ih
theorem eq_CacheEntryS (a : (List CacheEntry)) : laws_eqCacheEntryS a a = true := by
  have h := eqL_CacheEntryS a []
  simp only [List.nil_append, List.length_nil] at h
  simp only [laws_eqCacheEntryS, bne_self_F, cond_false, h]
theorem toL_CacheEntryS : ∀ (l p z : (List CacheEntry)), z.length = l.length → laws_toCacheEntryS_L1 l p.length (p ++ z) = p ++ l
  | [], p, [], _ => rfl
  | e :: l, p, y :: z, h => by
    have ih := toL_CacheEntryS l (p ++ [e]) z (by simpa using h)
    rw [mid_app p e l, mid_len] at ih
    simp only [laws_toCacheEntryS_L1, mid, mid_set, to_CacheEntry e]
    exact ih
theorem to_CacheEntryS (a : (List CacheEntry)) : laws_toCacheEntryS a = a := by
  simp only [laws_toCacheEntryS]
  exact toL_CacheEntryS a [] _ (by simp)
theorem szL_CacheEntryS_R : ∀ (l : (List CacheEntry)) (left : Int), (∀ a ∈ l, GoT.ok 10 a) → 0 ≤ left → left ≤ 1048576 → SzL (laws_szCacheEntryS_L1 l left) left (szL l)
  | [], left, _, h0, _ => .inr ⟨by simp [szL_nil]; omega, by simp [szL_nil, laws_szCacheEntryS_L1]⟩
  | e :: l, left, hk, h0, h1 => by
    rw [szL_cons]
    unfold laws_szCacheEntryS_L1
    rcases sz_CacheEntry_R e left (hk e List.mem_cons_self) h0 h1 with r0 | ⟨q0, r0⟩
    · rw [r0]; exact .inl rfl
    · rw [r0, dF (by omega), cond_false]
      rcases szL_CacheEntryS_R l (left - (sz e : Int)) (fun a ha => hk a (List.mem_cons_of_mem _ ha)) (by omega) (by omega) with r | ⟨q, r⟩
      · exact .inl r
      · exact .inr ⟨by omega, by rw [r]; congr 1; omega⟩
theorem sz_CacheEntryS_R (a : (List CacheEntry)) (left : Int) (h : GoT.ok 10 a) (h0 : 0 ≤ left) (h1 : left ≤ 1048576) : SzR (laws_szCacheEntryS a left) left (sz a) := by
  have hl : a.length ≤ 9223372036854775807 := h.1
  rw [sz_list]
  unfold laws_szCacheEntryS
  rw [wrap_sub h0 h1 hl]
  by_cases hc : left - (a.length : Int) < 0
  · rw [dT hc, cond_true]; exact .inl rfl
  · rw [dF (by omega), cond_false]
    rcases szL_CacheEntryS_R a (left - (a.length : Int)) h.2 (by omega) (by omega) with r | ⟨q, r⟩
    · rw [r]; exact .inl rfl
    · rw [r]; exact .inr ⟨by omega, by show left - (a.length : Int) - (szL a : Int) = _; omega⟩
theorem sz_flat_CacheEntryS (e : CacheEntry) : sz e = sz e.data.name.parts + sz e.data.content + sz e.data.keyName.parts := by
  simp only [sz_CacheEntry, sz_DataP, sz_Name, Nat.add_assoc]
theorem mkL_CacheEntryS : ∀ (l p : (List CacheEntry)) (k : Int), 0 ≤ k → k + 16 * ((l.length : Int) + szL l) ≤ 4611686018427387904 → ∃ l' k', laws_markCacheEntryS_L1 l.length p.length (p ++ l) k = (p ++ l', k') ∧ k ≤ k' ∧ k' ≤ k + 16 * ((l.length : Int) + szL l) ∧ True
  | [], p, k, _, _ => ⟨[], k, rfl, by omega, by simp [szL_nil], trivial⟩
  | e :: l, p, k, h0, hb => by
    rw [szL_cons, List.length_cons] at hb
    have hsz := sz_flat_CacheEntryS e
    obtain ⟨p1, q1, e1⟩ := mk_StringS e.data.name.parts (k) (by omega) (by omega)
    have d1 := dF (show 0 ≤ (laws_markStringS e.data.name.parts (k)).1 by omega)
    obtain ⟨p2, q2, e2⟩ := mk_ByteS e.data.content ((laws_markStringS e.data.name.parts (k)).1) (by omega) (by omega)
    have d2 := dF (show 0 ≤ (laws_markByteS e.data.content ((laws_markStringS e.data.name.parts (k)).1)).1 by omega)
    obtain ⟨p3, q3, e3⟩ := mk_StringS e.data.keyName.parts ((laws_markByteS e.data.content ((laws_markStringS e.data.name.parts (k)).1)).1) (by omega) (by omega)
    have d3 := dF (show 0 ≤ (laws_markStringS e.data.keyName.parts ((laws_markByteS e.data.content ((laws_markStringS e.data.name.parts (k)).1)).1)).1 by omega)
    have w4 := wrap1 (x := (laws_markStringS e.data.keyName.parts ((laws_markByteS e.data.content ((laws_markStringS e.data.name.parts (k)).1)).1)).1) (by omega) (by omega)
    have w5 := wrap1 (x := ((laws_markStringS e.data.keyName.parts ((laws_markByteS e.data.content ((laws_markStringS e.data.name.parts (k)).1)).1)).1 + 1)) (by omega) (by omega)
    have w6 := wrap1 (x := (((laws_markStringS e.data.keyName.parts ((laws_markByteS e.data.content ((laws_markStringS e.data.name.parts (k)).1)).1)).1 + 1) + 1)) (by omega) (by omega)
    obtain ⟨l', k', r1, r2, r3, r4⟩ := mkL_CacheEntryS l (p ++ [(CacheEntry.mk (DataP.mk (Name.mk (laws_markStringS e.data.name.parts k).2) (laws_markByteS e.data.content ((laws_markStringS e.data.name.parts k).1)).2 (Name.mk (laws_markStringS e.data.keyName.parts ((laws_markByteS e.data.content ((laws_markStringS e.data.name.parts k).1)).1)).2) ((laws_markStringS e.data.keyName.parts ((laws_markByteS e.data.content ((laws_markStringS e.data.name.parts k).1)).1)).1) ((laws_markStringS e.data.keyName.parts ((laws_markByteS e.data.content ((laws_markStringS e.data.name.parts k).1)).1)).1 + 1)) (((laws_markStringS e.data.keyName.parts ((laws_markByteS e.data.content ((laws_markStringS e.data.name.parts k).1)).1)).1 + 1) + 1))]) ((((laws_markStringS e.data.keyName.parts ((laws_markByteS e.data.content ((laws_markStringS e.data.name.parts (k)).1)).1)).1 + 1) + 1) + 1) (by omega) (by omega)
    rw [mid_len] at r1
    refine ⟨(CacheEntry.mk (DataP.mk (Name.mk (laws_markStringS e.data.name.parts k).2) (laws_markByteS e.data.content ((laws_markStringS e.data.name.parts k).1)).2 (Name.mk (laws_markStringS e.data.keyName.parts ((laws_markByteS e.data.content ((laws_markStringS e.data.name.parts k).1)).1)).2) ((laws_markStringS e.data.keyName.parts ((laws_markByteS e.data.content ((laws_markStringS e.data.name.parts k).1)).1)).1) ((laws_markStringS e.data.keyName.parts ((laws_markByteS e.data.content ((laws_markStringS e.data.name.parts k).1)).1)).1 + 1)) (((laws_markStringS e.data.keyName.parts ((laws_markByteS e.data.content ((laws_markStringS e.data.name.parts k).1)).1)).1 + 1) + 1)) :: l', k', ?_, by omega, by rw [szL_cons, List.length_cons]; omega, ?_⟩
    · simp only [List.length_cons, laws_markCacheEntryS_L1, mid, mid_set, w4, w5, w6]
      rw [r1, mid_app]
    · trivial
theorem mk_CacheEntryS (a : (List CacheEntry)) (k : Int) (h0 : 0 ≤ k) (hb : k + 16 * (sz a : Int) ≤ 4611686018427387904) : MkR k (laws_markCacheEntryS a k).1 (sz a) (laws_markCacheEntryS a k).1 := by
  rw [sz_list] at hb ⊢
  obtain ⟨l', k', r1, r2, r3, r4⟩ := mkL_CacheEntryS a [] k h0 (by omega)
  simp only [List.nil_append, List.length_nil] at r1
  simp only [laws_markCacheEntryS, r1]
  exact ⟨r2, by omega, rfl⟩
theorem eq_ContentStore (a : ContentStore) : laws_eqContentStore a a = true := by
  simp only [laws_eqContentStore, bne_self_F, nbeq_self_F, cond_false, Bool.not_true, eq_CacheEntryS]
theorem to_ContentStore (a : ContentStore) : laws_toContentStore a = a := by
  simp only [laws_toContentStore, to_CacheEntryS]
theorem sz_ContentStore_R (a : ContentStore) (left : Int) (h : GoT.ok 10 a) (h0 : 0 ≤ left) (h1 : left ≤ 1048576) : SzR (laws_szContentStore a left) left (sz a) := by
  rw [sz_ContentStore]
  unfold laws_szContentStore
  rcases sz_CacheEntryS_R a.entries left (ok_ContentStore h).2 (by omega) (by omega) with r0 | ⟨q0, r0⟩
  · rw [r0]; exact .inl rfl
  rw [r0, dF (by omega), cond_false]
  exact .inr ⟨by omega, by omega⟩
theorem eq_Requester (a : Requester) : laws_eqRequester a a = true := by
  simp only [laws_eqRequester, bne_self_F, nbeq_self_F, cond_false, Bool.not_true]
theorem to_Requester (a : Requester) : laws_toRequester a = a := by
  simp only [laws_toRequester]
theorem eqL_RequesterS : ∀ (l p : (List Requester)), laws_eqRequesterS_L1 (p ++ l) l p.length = none
  | [], _ => rfl
  | e :: l, p => by
    have ih := eqL_RequesterS l (p ++ [e])
    rw [mid_app, mid_len] at ih
    simp only [laws_eqRequesterS_L1, mid, eq_Requester e, Bool.not_true, cond_false]
    exact ih
theorem eq_RequesterS (a : (List Requester)) : laws_eqRequesterS a a = true := by
  have h := eqL_RequesterS a []
  simp only [List.nil_append, List.length_nil] at h
  simp only [laws_eqRequesterS, bne_self_F, cond_false, h]
theorem toL_RequesterS : ∀ (l p z : (List Requester)), z.length = l.length → laws_toRequesterS_L1 l p.length (p ++ z) = p ++ l
  | [], p, [], _ => rfl
  | e :: l, p, y :: z, h => by
    have ih := toL_RequesterS l (p ++ [e]) z (by simpa using h)
    rw [mid_app p e l, mid_len] at ih
    simp only [laws_toRequesterS_L1, mid, mid_set, to_Requester e]
    exact ih
theorem to_RequesterS (a : (List Requester)) : laws_toRequesterS a = a := by
  simp only [laws_toRequesterS]
  exact toL_RequesterS a [] _ (by simp)
theorem sz_RequesterS_R (a : (List Requester)) (left : Int) (h : GoT.ok 10 a) (h0 : 0 ≤ left) (h1 : left ≤ 1048576) : SzR (laws_szRequesterS a left) left (sz a) := by
  have hl : a.length ≤ 9223372036854775807 := h.1
  rw [sz_list, szL_zero (fun b => sz_Requester b)]
  unfold laws_szRequesterS
  rw [wrap_sub h0 h1 hl]
  by_cases hc : left - (a.length : Int) < 0
  · rw [dT hc, cond_true]; exact .inl rfl
  · rw [dF (by omega), cond_false]; exact .inr ⟨by omega, rfl⟩
theorem sz_flat_RequesterS (e : Requester) : sz e = 0 := by
  simp only [sz_Requester, Nat.add_assoc]
theorem mkL_RequesterS : ∀ (l p : (List Requester)) (k : Int), 0 ≤ k → k + 16 * ((l.length : Int) + szL l) ≤ 4611686018427387904 → ∃ l' k', laws_markRequesterS_L1 l.length p.length (p ++ l) k = (p ++ l', k') ∧ k ≤ k' ∧ k' ≤ k + 16 * ((l.length : Int) + szL l) ∧ True
  | [], p, k, _, _ => ⟨[], k, rfl, by omega, by simp [szL_nil], trivial⟩
  | e :: l, p, k, h0, hb => by
    rw [szL_cons, List.length_cons] at hb
    have hsz := sz_flat_RequesterS e
    have w1 := wrap1 (x := k) (by omega) (by omega)
    have w2 := wrap1 (x := (k + 1)) (by omega) (by omega)
    have w3 := wrap1 (x := ((k + 1) + 1)) (by omega) (by omega)
    obtain ⟨l', k', r1, r2, r3, r4⟩ := mkL_RequesterS l (p ++ [(Requester.mk k (k + 1) ((k + 1) + 1))]) (((k + 1) + 1) + 1) (by omega) (by omega)
    rw [mid_len] at r1
    refine ⟨(Requester.mk k (k + 1) ((k + 1) + 1)) :: l', k', ?_, by omega, by rw [szL_cons, List.length_cons]; omega, ?_⟩
    · simp only [List.length_cons, laws_markRequesterS_L1, mid, mid_set, w1, w2, w3]
      rw [r1, mid_app]
    · trivial
theorem mk_RequesterS (a : (List Requester)) (k : Int) (h0 : 0 ≤ k) (hb : k + 16 * (sz a : Int) ≤ 4611686018427387904) : MkR k (laws_markRequesterS a k).1 (sz a) (laws_markRequesterS a k).1 := by
  rw [sz_list] at hb ⊢
  obtain ⟨l', k', r1, r2, r3, r4⟩ := mkL_RequesterS a [] k h0 (by omega)
  simp only [List.nil_append, List.length_nil] at r1
  simp only [laws_markRequesterS, r1]
  exact ⟨r2, by omega, rfl⟩
theorem eq_PendingInterest (a : PendingInterest) : laws_eqPendingInterest a a = true := by
  simp only [laws_eqPendingInterest, bne_self_F, nbeq_self_F, cond_false, Bool.not_true, eq_Name, eq_RequesterS]
theorem to_PendingInterest (a : PendingInterest) : laws_toPendingInterest a = a := by
  simp only [laws_toPendingInterest, to_Name, to_RequesterS]
theorem sz_PendingInterest_R (a : PendingInterest) (left : Int) (h : GoT.ok 10 a) (h0 : 0 ≤ left) (h1 : left ≤ 1048576) : SzR (laws_szPendingInterest a left) left (sz a) := by
  rw [sz_PendingInterest]
  unfold laws_szPendingInterest
  rcases sz_Name_R a.name left (ok_PendingInterest h).1 (by omega) (by omega) with r0 | ⟨q0, r0⟩
  · rw [r0]; exact .inl rfl
  rw [r0, dF (by omega), cond_false]
  rcases sz_RequesterS_R a.requesters (left - (sz a.name : Int)) (ok_PendingInterest h).2.1 (by omega) (by omega) with r1 | ⟨q1, r1⟩
  · rw [r1]; exact .inl rfl
  rw [r1, dF (by omega), cond_false]
  exact .inr ⟨by omega, by omega⟩
theorem eqL_PendingInterestS : ∀ (l p : (List PendingInterest)), laws_eqPendingInterestS_L1 (p ++ l) l p.length = none
  | [], _ => rfl
  | e :: l, p => by
    have ih := eqL_PendingInterestS l (p ++ [e])
    rw [mid_app, mid_len] at ih
    simp only [laws_eqPendingInterestS_L1, mid, eq_PendingInterest e, Bool.not_true, cond_false]
    exact ih
theorem eq_PendingInterestS (a : (List PendingInterest)) : laws_eqPendingInterestS a a = true := by
  have h := eqL_PendingInterestS a []
  simp only [List.nil_append, List.length_nil] at h
  simp only [laws_eqPendingInterestS, bne_self_F, cond_false, h]
theorem toL_PendingInterestS : ∀ (l p z : (List PendingInterest)), z.length = l.length → laws_toPendingInterestS_L1 l p.length (p ++ z) = p ++ l
  | [], p, [], _ => rfl
  | e :: l, p, y :: z, h => by
    have ih := toL_PendingInterestS l (p ++ [e]) z (by simpa using h)
    rw [mid_app p e l, mid_len] at ih
    simp only [laws_toPendingInterestS_L1, mid, mid_set, to_PendingInterest e]
    exact ih
theorem to_PendingInterestS (a : (List PendingInterest)) : laws_toPendingInterestS a = a := by
  simp only [laws_toPendingInterestS]
  exact toL_PendingInterestS a [] _ (by simp)
theorem szL_PendingInterestS_R : ∀ (l : (List PendingInterest)) (left : Int), (∀ a ∈ l, GoT.ok 10 a) → 0 ≤ left → left ≤ 1048576 → SzL (laws_szPendingInterestS_L1 l left) left (szL l)
  | [], left, _, h0, _ => .inr ⟨by simp [szL_nil]; omega, by simp [szL_nil, laws_szPendingInterestS_L1]⟩
  | e :: l, left, hk, h0, h1 => by
    rw [szL_cons]
    unfold laws_szPendingInterestS_L1
    rcases sz_PendingInterest_R e left (hk e List.mem_cons_self) h0 h1 with r0 | ⟨q0, r0⟩
    · rw [r0]; exact .inl rfl
    · rw [r0, dF (by omega), cond_false]
      rcases szL_PendingInterestS_R l (left - (sz e : Int)) (fun a ha => hk a (List.mem_cons_of_mem _ ha)) (by omega) (by omega) with r | ⟨q, r⟩
      · exact .inl r
      · exact .inr ⟨by omega, by rw [r]; congr 1; omega⟩
theorem sz_PendingInterestS_R (a : (List PendingInterest)) (left : Int) (h : GoT.ok 10 a) (h0 : 0 ≤ left) (h1 : left ≤ 1048576) : SzR (laws_szPendingInterestS a left) left (sz a) := by
  have hl : a.length ≤ 9223372036854775807 := h.1
  rw [sz_list]
  unfold laws_szPendingInterestS
  rw [wrap_sub h0 h1 hl]
  by_cases hc : left - (a.length : Int) < 0
  · rw [dT hc, cond_true]; exact .inl rfl
  · rw [dF (by omega), cond_false]
    rcases szL_PendingInterestS_R a (left - (a.length : Int)) h.2 (by omega) (by omega) with r | ⟨q, r⟩
    · rw [r]; exact .inl rfl
    · rw [r]; exact .inr ⟨by omega, by show left - (a.length : Int) - (szL a : Int) = _; omega⟩
theorem sz_flat_PendingInterestS (e : PendingInterest) : sz e = sz e.name.parts + sz e.requesters := by
  simp only [sz_PendingInterest, sz_Name, Nat.add_assoc]
theorem mkL_PendingInterestS : ∀ (l p : (List PendingInterest)) (k : Int), 0 ≤ k → k + 16 * ((l.length : Int) + szL l) ≤ 4611686018427387904 → ∃ l' k', laws_markPendingInterestS_L1 l.length p.length (p ++ l) k = (p ++ l', k') ∧ k ≤ k' ∧ k' ≤ k + 16 * ((l.length : Int) + szL l) ∧ True
  | [], p, k, _, _ => ⟨[], k, rfl, by omega, by simp [szL_nil], trivial⟩
  | e :: l, p, k, h0, hb => by
    rw [szL_cons, List.length_cons] at hb
    have hsz := sz_flat_PendingInterestS e
    obtain ⟨p1, q1, e1⟩ := mk_StringS e.name.parts (k) (by omega) (by omega)
    have d1 := dF (show 0 ≤ (laws_markStringS e.name.parts (k)).1 by omega)
    obtain ⟨p2, q2, e2⟩ := mk_RequesterS e.requesters ((laws_markStringS e.name.parts (k)).1) (by omega) (by omega)
    have d2 := dF (show 0 ≤ (laws_markRequesterS e.requesters ((laws_markStringS e.name.parts (k)).1)).1 by omega)
    have w3 := wrap1 (x := (laws_markRequesterS e.requesters ((laws_markStringS e.name.parts (k)).1)).1) (by omega) (by omega)
    obtain ⟨l', k', r1, r2, r3, r4⟩ := mkL_PendingInterestS l (p ++ [(PendingInterest.mk (Name.mk (laws_markStringS e.name.parts k).2) (laws_markRequesterS e.requesters ((laws_markStringS e.name.parts k).1)).2 ((laws_markRequesterS e.requesters ((laws_markStringS e.name.parts k).1)).1))]) ((laws_markRequesterS e.requesters ((laws_markStringS e.name.parts (k)).1)).1 + 1) (by omega) (by omega)
    rw [mid_len] at r1
    refine ⟨(PendingInterest.mk (Name.mk (laws_markStringS e.name.parts k).2) (laws_markRequesterS e.requesters ((laws_markStringS e.name.parts k).1)).2 ((laws_markRequesterS e.requesters ((laws_markStringS e.name.parts k).1)).1)) :: l', k', ?_, by omega, by rw [szL_cons, List.length_cons]; omega, ?_⟩
    · simp only [List.length_cons, laws_markPendingInterestS_L1, mid, mid_set, w3]
      rw [r1, mid_app]
    · trivial
theorem mk_PendingInterestS (a : (List PendingInterest)) (k : Int) (h0 : 0 ≤ k) (hb : k + 16 * (sz a : Int) ≤ 4611686018427387904) : MkR k (laws_markPendingInterestS a k).1 (sz a) (laws_markPendingInterestS a k).1 := by
  rw [sz_list] at hb ⊢
  obtain ⟨l', k', r1, r2, r3, r4⟩ := mkL_PendingInterestS a [] k h0 (by omega)
  simp only [List.nil_append, List.length_nil] at r1
  simp only [laws_markPendingInterestS, r1]
  exact ⟨r2, by omega, rfl⟩
theorem eq_SeenNonce (a : SeenNonce) : laws_eqSeenNonce a a = true := by
  simp only [laws_eqSeenNonce, bne_self_F, nbeq_self_F, cond_false, Bool.not_true, eq_Name]
theorem to_SeenNonce (a : SeenNonce) : laws_toSeenNonce a = a := by
  simp only [laws_toSeenNonce, to_Name]
theorem sz_SeenNonce_R (a : SeenNonce) (left : Int) (h : GoT.ok 10 a) (h0 : 0 ≤ left) (h1 : left ≤ 1048576) : SzR (laws_szSeenNonce a left) left (sz a) := by
  rw [sz_SeenNonce]
  unfold laws_szSeenNonce
  rcases sz_Name_R a.name left (ok_SeenNonce h).1 (by omega) (by omega) with r0 | ⟨q0, r0⟩
  · rw [r0]; exact .inl rfl
  rw [r0, dF (by omega), cond_false]
  exact .inr ⟨by omega, by omega⟩
theorem eqL_SeenNonceS : ∀ (l p : (List SeenNonce)), laws_eqSeenNonceS_L1 (p ++ l) l p.length = none
  | [], _ => rfl
  | e :: l, p => by
    have ih := eqL_SeenNonceS l (p ++ [e])
    rw [mid_app, mid_len] at ih
    simp only [laws_eqSeenNonceS_L1, mid, eq_SeenNonce e, Bool.not_true, cond_false]
    exact ih
theorem eq_SeenNonceS (a : (List SeenNonce)) : laws_eqSeenNonceS a a = true := by
  have h := eqL_SeenNonceS a []
  simp only [List.nil_append, List.length_nil] at h
  simp only [laws_eqSeenNonceS, bne_self_F, cond_false, h]
theorem toL_SeenNonceS : ∀ (l p z : (List SeenNonce)), z.length = l.length → laws_toSeenNonceS_L1 l p.length (p ++ z) = p ++ l
  | [], p, [], _ => rfl
  | e :: l, p, y :: z, h => by
    have ih := toL_SeenNonceS l (p ++ [e]) z (by simpa using h)
    rw [mid_app p e l, mid_len] at ih
    simp only [laws_toSeenNonceS_L1, mid, mid_set, to_SeenNonce e]
    exact ih
theorem to_SeenNonceS (a : (List SeenNonce)) : laws_toSeenNonceS a = a := by
  simp only [laws_toSeenNonceS]
  exact toL_SeenNonceS a [] _ (by simp)
theorem szL_SeenNonceS_R : ∀ (l : (List SeenNonce)) (left : Int), (∀ a ∈ l, GoT.ok 10 a) → 0 ≤ left → left ≤ 1048576 → SzL (laws_szSeenNonceS_L1 l left) left (szL l)
  | [], left, _, h0, _ => .inr ⟨by simp [szL_nil]; omega, by simp [szL_nil, laws_szSeenNonceS_L1]⟩
  | e :: l, left, hk, h0, h1 => by
    rw [szL_cons]
    unfold laws_szSeenNonceS_L1
    rcases sz_SeenNonce_R e left (hk e List.mem_cons_self) h0 h1 with r0 | ⟨q0, r0⟩
    · rw [r0]; exact .inl rfl
    · rw [r0, dF (by omega), cond_false]
      rcases szL_SeenNonceS_R l (left - (sz e : Int)) (fun a ha => hk a (List.mem_cons_of_mem _ ha)) (by omega) (by omega) with r | ⟨q, r⟩
      · exact .inl r
      · exact .inr ⟨by omega, by rw [r]; congr 1; omega⟩
theorem sz_SeenNonceS_R (a : (List SeenNonce)) (left : Int) (h : GoT.ok 10 a) (h0 : 0 ≤ left) (h1 : left ≤ 1048576) : SzR (laws_szSeenNonceS a left) left (sz a) := by
  have hl : a.length ≤ 9223372036854775807 := h.1
  rw [sz_list]
  unfold laws_szSeenNonceS
  rw [wrap_sub h0 h1 hl]
  by_cases hc : left - (a.length : Int) < 0
  · rw [dT hc, cond_true]; exact .inl rfl
  · rw [dF (by omega), cond_false]
    rcases szL_SeenNonceS_R a (left - (a.length : Int)) h.2 (by omega) (by omega) with r | ⟨q, r⟩
    · rw [r]; exact .inl rfl
    · rw [r]; exact .inr ⟨by omega, by show left - (a.length : Int) - (szL a : Int) = _; omega⟩
theorem sz_flat_SeenNonceS (e : SeenNonce) : sz e = sz e.name.parts := by
  simp only [sz_SeenNonce, sz_Name, Nat.add_assoc]
theorem mkL_SeenNonceS : ∀ (l p : (List SeenNonce)) (k : Int), 0 ≤ k → k + 16 * ((l.length : Int) + szL l) ≤ 4611686018427387904 → ∃ l' k', laws_markSeenNonceS_L1 l.length p.length (p ++ l) k = (p ++ l', k') ∧ k ≤ k' ∧ k' ≤ k + 16 * ((l.length : Int) + szL l) ∧ True
  | [], p, k, _, _ => ⟨[], k, rfl, by omega, by simp [szL_nil], trivial⟩
  | e :: l, p, k, h0, hb => by
    rw [szL_cons, List.length_cons] at hb
    have hsz := sz_flat_SeenNonceS e
    obtain ⟨p1, q1, e1⟩ := mk_StringS e.name.parts (k) (by omega) (by omega)
    have d1 := dF (show 0 ≤ (laws_markStringS e.name.parts (k)).1 by omega)
    have w2 := wrap1 (x := (laws_markStringS e.name.parts (k)).1) (by omega) (by omega)
    obtain ⟨l', k', r1, r2, r3, r4⟩ := mkL_SeenNonceS l (p ++ [(SeenNonce.mk (Name.mk (laws_markStringS e.name.parts k).2) ((laws_markStringS e.name.parts k).1))]) ((laws_markStringS e.name.parts (k)).1 + 1) (by omega) (by omega)
    rw [mid_len] at r1
    refine ⟨(SeenNonce.mk (Name.mk (laws_markStringS e.name.parts k).2) ((laws_markStringS e.name.parts k).1)) :: l', k', ?_, by omega, by rw [szL_cons, List.length_cons]; omega, ?_⟩
    · simp only [List.length_cons, laws_markSeenNonceS_L1, mid, mid_set, w2]
      rw [r1, mid_app]
    · trivial
theorem mk_SeenNonceS (a : (List SeenNonce)) (k : Int) (h0 : 0 ≤ k) (hb : k + 16 * (sz a : Int) ≤ 4611686018427387904) : MkR k (laws_markSeenNonceS a k).1 (sz a) (laws_markSeenNonceS a k).1 := by
  rw [sz_list] at hb ⊢
  obtain ⟨l', k', r1, r2, r3, r4⟩ := mkL_SeenNonceS a [] k h0 (by omega)
  simp only [List.nil_append, List.length_nil] at r1
  simp only [laws_markSeenNonceS, r1]
  exact ⟨r2, by omega, rfl⟩
theorem eq_Route (a : Route) : laws_eqRoute a a = true := by
  simp only [laws_eqRoute, bne_self_F, nbeq_self_F, cond_false, Bool.not_true, eq_Name]
theorem to_Route (a : Route) : laws_toRoute a = a := by
  simp only [laws_toRoute, to_Name]
theorem sz_Route_R (a : Route) (left : Int) (h : GoT.ok 10 a) (h0 : 0 ≤ left) (h1 : left ≤ 1048576) : SzR (laws_szRoute a left) left (sz a) := by
  rw [sz_Route]
  unfold laws_szRoute
  rcases sz_Name_R a.pfx left (ok_Route h).1 (by omega) (by omega) with r0 | ⟨q0, r0⟩
  · rw [r0]; exact .inl rfl
  rw [r0, dF (by omega), cond_false]
  exact .inr ⟨by omega, by omega⟩
theorem eqL_RouteS : ∀ (l p : (List Route)), laws_eqRouteS_L1 (p ++ l) l p.length = none
  | [], _ => rfl
  | e :: l, p => by
    have ih := eqL_RouteS l (p ++ [e])
    rw [mid_app, mid_len] at ih
    simp only [laws_eqRouteS_L1, mid, eq_Route e, Bool.not_true, cond_false]
    exact ih
theorem eq_RouteS (a : (List Route)) : laws_eqRouteS a a = true := by
  have h := eqL_RouteS a []
  simp only [List.nil_append, List.length_nil] at h
  simp only [laws_eqRouteS, bne_self_F, cond_false, h]
theorem toL_RouteS : ∀ (l p z : (List Route)), z.length = l.length → laws_toRouteS_L1 l p.length (p ++ z) = p ++ l
  | [], p, [], _ => rfl
  | e :: l, p, y :: z, h => by
    have ih := toL_RouteS l (p ++ [e]) z (by simpa using h)
    rw [mid_app p e l, mid_len] at ih
    simp only [laws_toRouteS_L1, mid, mid_set, to_Route e]
    exact ih
theorem to_RouteS (a : (List Route)) : laws_toRouteS a = a := by
  simp only [laws_toRouteS]
  exact toL_RouteS a [] _ (by simp)
theorem szL_RouteS_R : ∀ (l : (List Route)) (left : Int), (∀ a ∈ l, GoT.ok 10 a) → 0 ≤ left → left ≤ 1048576 → SzL (laws_szRouteS_L1 l left) left (szL l)
  | [], left, _, h0, _ => .inr ⟨by simp [szL_nil]; omega, by simp [szL_nil, laws_szRouteS_L1]⟩
  | e :: l, left, hk, h0, h1 => by
    rw [szL_cons]
    unfold laws_szRouteS_L1
    rcases sz_Route_R e left (hk e List.mem_cons_self) h0 h1 with r0 | ⟨q0, r0⟩
    · rw [r0]; exact .inl rfl
    · rw [r0, dF (by omega), cond_false]
      rcases szL_RouteS_R l (left - (sz e : Int)) (fun a ha => hk a (List.mem_cons_of_mem _ ha)) (by omega) (by omega) with r | ⟨q, r⟩
      · exact .inl r
      · exact .inr ⟨by omega, by rw [r]; congr 1; omega⟩
theorem sz_RouteS_R (a : (List Route)) (left : Int) (h : GoT.ok 10 a) (h0 : 0 ≤ left) (h1 : left ≤ 1048576) : SzR (laws_szRouteS a left) left (sz a) := by
  have hl : a.length ≤ 9223372036854775807 := h.1
  rw [sz_list]
  unfold laws_szRouteS
  rw [wrap_sub h0 h1 hl]
  by_cases hc : left - (a.length : Int) < 0
  · rw [dT hc, cond_true]; exact .inl rfl
  · rw [dF (by omega), cond_false]
    rcases szL_RouteS_R a (left - (a.length : Int)) h.2 (by omega) (by omega) with r | ⟨q, r⟩
    · rw [r]; exact .inl rfl
    · rw [r]; exact .inr ⟨by omega, by show left - (a.length : Int) - (szL a : Int) = _; omega⟩
theorem sz_flat_RouteS (e : Route) : sz e = sz e.pfx.parts := by
  simp only [sz_Route, sz_Name, Nat.add_assoc]
theorem mkL_RouteS : ∀ (l p : (List Route)) (k : Int), 0 ≤ k → k + 16 * ((l.length : Int) + szL l) ≤ 4611686018427387904 → ∃ l' k', laws_markRouteS_L1 l.length p.length (p ++ l) k = (p ++ l', k') ∧ k ≤ k' ∧ k' ≤ k + 16 * ((l.length : Int) + szL l) ∧ True
  | [], p, k, _, _ => ⟨[], k, rfl, by omega, by simp [szL_nil], trivial⟩
  | e :: l, p, k, h0, hb => by
    rw [szL_cons, List.length_cons] at hb
    have hsz := sz_flat_RouteS e
    obtain ⟨p1, q1, e1⟩ := mk_StringS e.pfx.parts (k) (by omega) (by omega)
    have d1 := dF (show 0 ≤ (laws_markStringS e.pfx.parts (k)).1 by omega)
    have w2 := wrap1 (x := (laws_markStringS e.pfx.parts (k)).1) (by omega) (by omega)
    have w3 := wrap1 (x := ((laws_markStringS e.pfx.parts (k)).1 + 1)) (by omega) (by omega)
    obtain ⟨l', k', r1, r2, r3, r4⟩ := mkL_RouteS l (p ++ [(Route.mk (Name.mk (laws_markStringS e.pfx.parts k).2) ((laws_markStringS e.pfx.parts k).1) ((laws_markStringS e.pfx.parts k).1 + 1))]) (((laws_markStringS e.pfx.parts (k)).1 + 1) + 1) (by omega) (by omega)
    rw [mid_len] at r1
    refine ⟨(Route.mk (Name.mk (laws_markStringS e.pfx.parts k).2) ((laws_markStringS e.pfx.parts k).1) ((laws_markStringS e.pfx.parts k).1 + 1)) :: l', k', ?_, by omega, by rw [szL_cons, List.length_cons]; omega, ?_⟩
    · simp only [List.length_cons, laws_markRouteS_L1, mid, mid_set, w2, w3]
      rw [r1, mid_app]
    · trivial
theorem mk_RouteS (a : (List Route)) (k : Int) (h0 : 0 ≤ k) (hb : k + 16 * (sz a : Int) ≤ 4611686018427387904) : MkR k (laws_markRouteS a k).1 (sz a) (laws_markRouteS a k).1 := by
  rw [sz_list] at hb ⊢
  obtain ⟨l', k', r1, r2, r3, r4⟩ := mkL_RouteS a [] k h0 (by omega)
  simp only [List.nil_append, List.length_nil] at r1
  simp only [laws_markRouteS, r1]
  exact ⟨r2, by omega, rfl⟩
theorem eq_Measurement (a : Measurement) : laws_eqMeasurement a a = true := by
  simp only [laws_eqMeasurement, bne_self_F, nbeq_self_F, cond_false, Bool.not_true, eq_Name]
theorem to_Measurement (a : Measurement) : laws_toMeasurement a = a := by
  simp only [laws_toMeasurement, to_Name]
theorem sz_Measurement_R (a : Measurement) (left : Int) (h : GoT.ok 10 a) (h0 : 0 ≤ left) (h1 : left ≤ 1048576) : SzR (laws_szMeasurement a left) left (sz a) := by
  rw [sz_Measurement]
  unfold laws_szMeasurement
  rcases sz_Name_R a.pfx left (ok_Measurement h).1 (by omega) (by omega) with r0 | ⟨q0, r0⟩
  · rw [r0]; exact .inl rfl
  rw [r0, dF (by omega), cond_false]
  exact .inr ⟨by omega, by omega⟩
theorem eqL_MeasurementS : ∀ (l p : (List Measurement)), laws_eqMeasurementS_L1 (p ++ l) l p.length = none
  | [], _ => rfl
  | e :: l, p => by
    have ih := eqL_MeasurementS l (p ++ [e])
    rw [mid_app, mid_len] at ih
    simp only [laws_eqMeasurementS_L1, mid, eq_Measurement e, Bool.not_true, cond_false]
    exact ih
theorem eq_MeasurementS (a : (List Measurement)) : laws_eqMeasurementS a a = true := by
  have h := eqL_MeasurementS a []
  simp only [List.nil_append, List.length_nil] at h
  simp only [laws_eqMeasurementS, bne_self_F, cond_false, h]
theorem toL_MeasurementS : ∀ (l p z : (List Measurement)), z.length = l.length → laws_toMeasurementS_L1 l p.length (p ++ z) = p ++ l
  | [], p, [], _ => rfl
  | e :: l, p, y :: z, h => by
    have ih := toL_MeasurementS l (p ++ [e]) z (by simpa using h)
    rw [mid_app p e l, mid_len] at ih
    simp only [laws_toMeasurementS_L1, mid, mid_set, to_Measurement e]
    exact ih
theorem to_MeasurementS (a : (List Measurement)) : laws_toMeasurementS a = a := by
  simp only [laws_toMeasurementS]
  exact toL_MeasurementS a [] _ (by simp)
theorem szL_MeasurementS_R : ∀ (l : (List Measurement)) (left : Int), (∀ a ∈ l, GoT.ok 10 a) → 0 ≤ left → left ≤ 1048576 → SzL (laws_szMeasurementS_L1 l left) left (szL l)
  | [], left, _, h0, _ => .inr ⟨by simp [szL_nil]; omega, by simp [szL_nil, laws_szMeasurementS_L1]⟩
  | e :: l, left, hk, h0, h1 => by
    rw [szL_cons]
    unfold laws_szMeasurementS_L1
    rcases sz_Measurement_R e left (hk e List.mem_cons_self) h0 h1 with r0 | ⟨q0, r0⟩
    · rw [r0]; exact .inl rfl
    · rw [r0, dF (by omega), cond_false]
      rcases szL_MeasurementS_R l (left - (sz e : Int)) (fun a ha => hk a (List.mem_cons_of_mem _ ha)) (by omega) (by omega) with r | ⟨q, r⟩
      · exact .inl r
      · exact .inr ⟨by omega, by rw [r]; congr 1; omega⟩
theorem sz_MeasurementS_R (a : (List Measurement)) (left : Int) (h : GoT.ok 10 a) (h0 : 0 ≤ left) (h1 : left ≤ 1048576) : SzR (laws_szMeasurementS a left) left (sz a) := by
  have hl : a.length ≤ 9223372036854775807 := h.1
  rw [sz_list]
  unfold laws_szMeasurementS
  rw [wrap_sub h0 h1 hl]
  by_cases hc : left - (a.length : Int) < 0
  · rw [dT hc, cond_true]; exact .inl rfl
  · rw [dF (by omega), cond_false]
    rcases szL_MeasurementS_R a (left - (a.length : Int)) h.2 (by omega) (by omega) with r | ⟨q, r⟩
    · rw [r]; exact .inl rfl
    · rw [r]; exact .inr ⟨by omega, by show left - (a.length : Int) - (szL a : Int) = _; omega⟩
theorem sz_flat_MeasurementS (e : Measurement) : sz e = sz e.pfx.parts := by
  simp only [sz_Measurement, sz_Name, Nat.add_assoc]
theorem mkL_MeasurementS : ∀ (l p : (List Measurement)) (k : Int), 0 ≤ k → k + 16 * ((l.length : Int) + szL l) ≤ 4611686018427387904 → ∃ l' k', laws_markMeasurementS_L1 l.length p.length (p ++ l) k = (p ++ l', k') ∧ k ≤ k' ∧ k' ≤ k + 16 * ((l.length : Int) + szL l) ∧ True
  | [], p, k, _, _ => ⟨[], k, rfl, by omega, by simp [szL_nil], trivial⟩
  | e :: l, p, k, h0, hb => by
    rw [szL_cons, List.length_cons] at hb
    have hsz := sz_flat_MeasurementS e
    obtain ⟨p1, q1, e1⟩ := mk_StringS e.pfx.parts (k) (by omega) (by omega)
    have d1 := dF (show 0 ≤ (laws_markStringS e.pfx.parts (k)).1 by omega)
    have w2 := wrap1 (x := (laws_markStringS e.pfx.parts (k)).1) (by omega) (by omega)
    have w3 := wrap1 (x := ((laws_markStringS e.pfx.parts (k)).1 + 1)) (by omega) (by omega)
    obtain ⟨l', k', r1, r2, r3, r4⟩ := mkL_MeasurementS l (p ++ [(Measurement.mk (Name.mk (laws_markStringS e.pfx.parts k).2) ((laws_markStringS e.pfx.parts k).1) ((laws_markStringS e.pfx.parts k).1 + 1))]) (((laws_markStringS e.pfx.parts (k)).1 + 1) + 1) (by omega) (by omega)
    rw [mid_len] at r1
    refine ⟨(Measurement.mk (Name.mk (laws_markStringS e.pfx.parts k).2) ((laws_markStringS e.pfx.parts k).1) ((laws_markStringS e.pfx.parts k).1 + 1)) :: l', k', ?_, by omega, by rw [szL_cons, List.length_cons]; omega, ?_⟩
    · simp only [List.length_cons, laws_markMeasurementS_L1, mid, mid_set, w2, w3]
      rw [r1, mid_app]
    · trivial
theorem mk_MeasurementS (a : (List Measurement)) (k : Int) (h0 : 0 ≤ k) (hb : k + 16 * (sz a : Int) ≤ 4611686018427387904) : MkR k (laws_markMeasurementS a k).1 (sz a) (laws_markMeasurementS a k).1 := by
  rw [sz_list] at hb ⊢
  obtain ⟨l', k', r1, r2, r3, r4⟩ := mkL_MeasurementS a [] k h0 (by omega)
  simp only [List.nil_append, List.length_nil] at r1
  simp only [laws_markMeasurementS, r1]
  exact ⟨r2, by omega, rfl⟩
theorem eq_Node (a : NodeP) : laws_eqNode a a = true := by
  simp only [laws_eqNode, bne_self_F, nbeq_self_F, cond_false, Bool.not_true, eq_DataS, eq_ContentStore, eq_PendingInterestS, eq_SeenNonceS, eq_RouteS, eq_MeasurementS]
theorem to_Node (a : NodeP) : laws_toNode a = a := by
  simp only [laws_toNode, to_DataS, to_ContentStore, to_PendingInterestS, to_SeenNonceS, to_RouteS, to_MeasurementS]
theorem sz_Node_R (a : NodeP) (left : Int) (h : GoT.ok 10 a) (h0 : 0 ≤ left) (h1 : left ≤ 1048576) : SzR (laws_szNode a left) left (sz a) := by
  rw [sz_NodeP]
  unfold laws_szNode
  rcases sz_DataS_R a.locl left (ok_NodeP h).1 (by omega) (by omega) with r0 | ⟨q0, r0⟩
  · rw [r0]; exact .inl rfl
  rw [r0, dF (by omega), cond_false]
  rcases sz_ContentStore_R a.cache (left - (sz a.locl : Int)) (ok_NodeP h).2.1 (by omega) (by omega) with r1 | ⟨q1, r1⟩
  · rw [r1]; exact .inl rfl
  rw [r1, dF (by omega), cond_false]
  rcases sz_PendingInterestS_R a.pending ((left - (sz a.locl : Int)) - (sz a.cache : Int)) (ok_NodeP h).2.2.1 (by omega) (by omega) with r2 | ⟨q2, r2⟩
  · rw [r2]; exact .inl rfl
  rw [r2, dF (by omega), cond_false]
  rcases sz_SeenNonceS_R a.seen (((left - (sz a.locl : Int)) - (sz a.cache : Int)) - (sz a.pending : Int)) (ok_NodeP h).2.2.2.1 (by omega) (by omega) with r3 | ⟨q3, r3⟩
  · rw [r3]; exact .inl rfl
  rw [r3, dF (by omega), cond_false]
  rcases sz_RouteS_R a.routes ((((left - (sz a.locl : Int)) - (sz a.cache : Int)) - (sz a.pending : Int)) - (sz a.seen : Int)) (ok_NodeP h).2.2.2.2.1 (by omega) (by omega) with r4 | ⟨q4, r4⟩
  · rw [r4]; exact .inl rfl
  rw [r4, dF (by omega), cond_false]
  rcases sz_MeasurementS_R a.measurements (((((left - (sz a.locl : Int)) - (sz a.cache : Int)) - (sz a.pending : Int)) - (sz a.seen : Int)) - (sz a.routes : Int)) (ok_NodeP h).2.2.2.2.2.1 (by omega) (by omega) with r5 | ⟨q5, r5⟩
  · rw [r5]; exact .inl rfl
  rw [r5, dF (by omega), cond_false]
  exact .inr ⟨by omega, by omega⟩
theorem eqL_NodeS : ∀ (l p : (List NodeP)), laws_eqNodeS_L1 (p ++ l) l p.length = none
  | [], _ => rfl
  | e :: l, p => by
    have ih := eqL_NodeS l (p ++ [e])
    rw [mid_app, mid_len] at ih
    simp only [laws_eqNodeS_L1, mid, eq_Node e, Bool.not_true, cond_false]
    exact ih
theorem eq_NodeS (a : (List NodeP)) : laws_eqNodeS a a = true := by
  have h := eqL_NodeS a []
  simp only [List.nil_append, List.length_nil] at h
  simp only [laws_eqNodeS, bne_self_F, cond_false, h]
theorem toL_NodeS : ∀ (l p z : (List NodeP)), z.length = l.length → laws_toNodeS_L1 l p.length (p ++ z) = p ++ l
  | [], p, [], _ => rfl
  | e :: l, p, y :: z, h => by
    have ih := toL_NodeS l (p ++ [e]) z (by simpa using h)
    rw [mid_app p e l, mid_len] at ih
    simp only [laws_toNodeS_L1, mid, mid_set, to_Node e]
    exact ih
theorem to_NodeS (a : (List NodeP)) : laws_toNodeS a = a := by
  simp only [laws_toNodeS]
  exact toL_NodeS a [] _ (by simp)
theorem szL_NodeS_R : ∀ (l : (List NodeP)) (left : Int), (∀ a ∈ l, GoT.ok 10 a) → 0 ≤ left → left ≤ 1048576 → SzL (laws_szNodeS_L1 l left) left (szL l)
  | [], left, _, h0, _ => .inr ⟨by simp [szL_nil]; omega, by simp [szL_nil, laws_szNodeS_L1]⟩
  | e :: l, left, hk, h0, h1 => by
    rw [szL_cons]
    unfold laws_szNodeS_L1
    rcases sz_Node_R e left (hk e List.mem_cons_self) h0 h1 with r0 | ⟨q0, r0⟩
    · rw [r0]; exact .inl rfl
    · rw [r0, dF (by omega), cond_false]
      rcases szL_NodeS_R l (left - (sz e : Int)) (fun a ha => hk a (List.mem_cons_of_mem _ ha)) (by omega) (by omega) with r | ⟨q, r⟩
      · exact .inl r
      · exact .inr ⟨by omega, by rw [r]; congr 1; omega⟩
theorem sz_NodeS_R (a : (List NodeP)) (left : Int) (h : GoT.ok 10 a) (h0 : 0 ≤ left) (h1 : left ≤ 1048576) : SzR (laws_szNodeS a left) left (sz a) := by
  have hl : a.length ≤ 9223372036854775807 := h.1
  rw [sz_list]
  unfold laws_szNodeS
  rw [wrap_sub h0 h1 hl]
  by_cases hc : left - (a.length : Int) < 0
  · rw [dT hc, cond_true]; exact .inl rfl
  · rw [dF (by omega), cond_false]
    rcases szL_NodeS_R a (left - (a.length : Int)) h.2 (by omega) (by omega) with r | ⟨q, r⟩
    · rw [r]; exact .inl rfl
    · rw [r]; exact .inr ⟨by omega, by show left - (a.length : Int) - (szL a : Int) = _; omega⟩
theorem sz_flat_NodeS (e : NodeP) : sz e = sz e.locl + sz e.cache.entries + sz e.pending + sz e.seen + sz e.routes + sz e.measurements := by
  simp only [sz_NodeP, sz_ContentStore, Nat.add_assoc]
theorem mkL_NodeS : ∀ (l p : (List NodeP)) (k : Int), 0 ≤ k → k + 16 * ((l.length : Int) + szL l) ≤ 4611686018427387904 → ∃ l' k', laws_markNodeS_L1 l.length p.length (p ++ l) k = (p ++ l', k') ∧ k ≤ k' ∧ k' ≤ k + 16 * ((l.length : Int) + szL l) ∧ True
  | [], p, k, _, _ => ⟨[], k, rfl, by omega, by simp [szL_nil], trivial⟩
  | e :: l, p, k, h0, hb => by
    rw [szL_cons, List.length_cons] at hb
    have hsz := sz_flat_NodeS e
    obtain ⟨p1, q1, e1⟩ := mk_DataS e.locl (k) (by omega) (by omega)
    have d1 := dF (show 0 ≤ (laws_markDataS e.locl (k)).1 by omega)
    have w2 := wrap1 (x := (laws_markDataS e.locl (k)).1) (by omega) (by omega)
    obtain ⟨p3, q3, e3⟩ := mk_CacheEntryS e.cache.entries (((laws_markDataS e.locl (k)).1 + 1)) (by omega) (by omega)
    have d3 := dF (show 0 ≤ (laws_markCacheEntryS e.cache.entries (((laws_markDataS e.locl (k)).1 + 1))).1 by omega)
    obtain ⟨p4, q4, e4⟩ := mk_PendingInterestS e.pending ((laws_markCacheEntryS e.cache.entries (((laws_markDataS e.locl (k)).1 + 1))).1) (by omega) (by omega)
    have d4 := dF (show 0 ≤ (laws_markPendingInterestS e.pending ((laws_markCacheEntryS e.cache.entries (((laws_markDataS e.locl (k)).1 + 1))).1)).1 by omega)
    obtain ⟨p5, q5, e5⟩ := mk_SeenNonceS e.seen ((laws_markPendingInterestS e.pending ((laws_markCacheEntryS e.cache.entries (((laws_markDataS e.locl (k)).1 + 1))).1)).1) (by omega) (by omega)
    have d5 := dF (show 0 ≤ (laws_markSeenNonceS e.seen ((laws_markPendingInterestS e.pending ((laws_markCacheEntryS e.cache.entries (((laws_markDataS e.locl (k)).1 + 1))).1)).1)).1 by omega)
    obtain ⟨p6, q6, e6⟩ := mk_RouteS e.routes ((laws_markSeenNonceS e.seen ((laws_markPendingInterestS e.pending ((laws_markCacheEntryS e.cache.entries (((laws_markDataS e.locl (k)).1 + 1))).1)).1)).1) (by omega) (by omega)
    have d6 := dF (show 0 ≤ (laws_markRouteS e.routes ((laws_markSeenNonceS e.seen ((laws_markPendingInterestS e.pending ((laws_markCacheEntryS e.cache.entries (((laws_markDataS e.locl (k)).1 + 1))).1)).1)).1)).1 by omega)
    obtain ⟨p7, q7, e7⟩ := mk_MeasurementS e.measurements ((laws_markRouteS e.routes ((laws_markSeenNonceS e.seen ((laws_markPendingInterestS e.pending ((laws_markCacheEntryS e.cache.entries (((laws_markDataS e.locl (k)).1 + 1))).1)).1)).1)).1) (by omega) (by omega)
    have d7 := dF (show 0 ≤ (laws_markMeasurementS e.measurements ((laws_markRouteS e.routes ((laws_markSeenNonceS e.seen ((laws_markPendingInterestS e.pending ((laws_markCacheEntryS e.cache.entries (((laws_markDataS e.locl (k)).1 + 1))).1)).1)).1)).1)).1 by omega)
    have w8 := wrap1 (x := (laws_markMeasurementS e.measurements ((laws_markRouteS e.routes ((laws_markSeenNonceS e.seen ((laws_markPendingInterestS e.pending ((laws_markCacheEntryS e.cache.entries (((laws_markDataS e.locl (k)).1 + 1))).1)).1)).1)).1)).1) (by omega) (by omega)
    obtain ⟨l', k', r1, r2, r3, r4⟩ := mkL_NodeS l (p ++ [(NodeP.mk (laws_markDataS e.locl k).2 (ContentStore.mk ((laws_markDataS e.locl k).1) (laws_markCacheEntryS e.cache.entries ((laws_markDataS e.locl k).1 + 1)).2) (laws_markPendingInterestS e.pending ((laws_markCacheEntryS e.cache.entries ((laws_markDataS e.locl k).1 + 1)).1)).2 (laws_markSeenNonceS e.seen ((laws_markPendingInterestS e.pending ((laws_markCacheEntryS e.cache.entries ((laws_markDataS e.locl k).1 + 1)).1)).1)).2 (laws_markRouteS e.routes ((laws_markSeenNonceS e.seen ((laws_markPendingInterestS e.pending ((laws_markCacheEntryS e.cache.entries ((laws_markDataS e.locl k).1 + 1)).1)).1)).1)).2 (laws_markMeasurementS e.measurements ((laws_markRouteS e.routes ((laws_markSeenNonceS e.seen ((laws_markPendingInterestS e.pending ((laws_markCacheEntryS e.cache.entries ((laws_markDataS e.locl k).1 + 1)).1)).1)).1)).1)).2 ((laws_markMeasurementS e.measurements ((laws_markRouteS e.routes ((laws_markSeenNonceS e.seen ((laws_markPendingInterestS e.pending ((laws_markCacheEntryS e.cache.entries ((laws_markDataS e.locl k).1 + 1)).1)).1)).1)).1)).1))]) ((laws_markMeasurementS e.measurements ((laws_markRouteS e.routes ((laws_markSeenNonceS e.seen ((laws_markPendingInterestS e.pending ((laws_markCacheEntryS e.cache.entries (((laws_markDataS e.locl (k)).1 + 1))).1)).1)).1)).1)).1 + 1) (by omega) (by omega)
    rw [mid_len] at r1
    refine ⟨(NodeP.mk (laws_markDataS e.locl k).2 (ContentStore.mk ((laws_markDataS e.locl k).1) (laws_markCacheEntryS e.cache.entries ((laws_markDataS e.locl k).1 + 1)).2) (laws_markPendingInterestS e.pending ((laws_markCacheEntryS e.cache.entries ((laws_markDataS e.locl k).1 + 1)).1)).2 (laws_markSeenNonceS e.seen ((laws_markPendingInterestS e.pending ((laws_markCacheEntryS e.cache.entries ((laws_markDataS e.locl k).1 + 1)).1)).1)).2 (laws_markRouteS e.routes ((laws_markSeenNonceS e.seen ((laws_markPendingInterestS e.pending ((laws_markCacheEntryS e.cache.entries ((laws_markDataS e.locl k).1 + 1)).1)).1)).1)).2 (laws_markMeasurementS e.measurements ((laws_markRouteS e.routes ((laws_markSeenNonceS e.seen ((laws_markPendingInterestS e.pending ((laws_markCacheEntryS e.cache.entries ((laws_markDataS e.locl k).1 + 1)).1)).1)).1)).1)).2 ((laws_markMeasurementS e.measurements ((laws_markRouteS e.routes ((laws_markSeenNonceS e.seen ((laws_markPendingInterestS e.pending ((laws_markCacheEntryS e.cache.entries ((laws_markDataS e.locl k).1 + 1)).1)).1)).1)).1)).1)) :: l', k', ?_, by omega, by rw [szL_cons, List.length_cons]; omega, ?_⟩
    · simp only [List.length_cons, laws_markNodeS_L1, mid, mid_set, w2, w8]
      rw [r1, mid_app]
    · trivial
theorem mk_NodeS (a : (List NodeP)) (k : Int) (h0 : 0 ≤ k) (hb : k + 16 * (sz a : Int) ≤ 4611686018427387904) : MkR k (laws_markNodeS a k).1 (sz a) (laws_markNodeS a k).1 := by
  rw [sz_list] at hb ⊢
  obtain ⟨l', k', r1, r2, r3, r4⟩ := mkL_NodeS a [] k h0 (by omega)
  simp only [List.nil_append, List.length_nil] at r1
  simp only [laws_markNodeS, r1]
  exact ⟨r2, by omega, rfl⟩
theorem eqL_IntS : ∀ (l p : (List Int)), laws_eqIntS_L1 (p ++ l) l p.length = none
  | [], _ => rfl
  | e :: l, p => by
    have ih := eqL_IntS l (p ++ [e])
    rw [mid_app, mid_len] at ih
    simp only [laws_eqIntS_L1, mid, bne_self_F, nbeq_self_F, cond_false]
    exact ih
theorem eq_IntS (a : (List Int)) : laws_eqIntS a a = true := by
  have h := eqL_IntS a []
  simp only [List.nil_append, List.length_nil] at h
  simp only [laws_eqIntS, bne_self_F, cond_false, h]
theorem toL_IntS : ∀ (l p z : (List Int)), z.length = l.length → laws_toIntS_L1 l p.length (p ++ z) = p ++ l
  | [], p, [], _ => rfl
  | e :: l, p, y :: z, h => by
    have ih := toL_IntS l (p ++ [e]) z (by simpa using h)
    rw [mid_app p e l, mid_len] at ih
    simp only [laws_toIntS_L1, mid, mid_set]
    exact ih
theorem to_IntS (a : (List Int)) : laws_toIntS a = a := by
  simp only [laws_toIntS]
  exact toL_IntS a [] _ (by simp)
theorem sz_IntS_R (a : (List Int)) (left : Int) (h : GoT.ok 10 a) (h0 : 0 ≤ left) (h1 : left ≤ 1048576) : SzR (laws_szIntS a left) left (sz a) := by
  have hl : a.length ≤ 9223372036854775807 := h.1
  rw [sz_list, szL_int]
  unfold laws_szIntS
  rw [wrap_sub h0 h1 hl]
  by_cases hc : left - (a.length : Int) < 0
  · rw [dT hc, cond_true]; exact .inl rfl
  · rw [dF (by omega), cond_false]; exact .inr ⟨by omega, rfl⟩
theorem mkL_IntS : ∀ (l p : (List Int)) (k : Int), 0 ≤ k → k + 16 * ((l.length : Int) + szL l) ≤ 4611686018427387904 → ∃ l' k', laws_markIntS_L1 l.length p.length (p ++ l) k = (p ++ l', k') ∧ k ≤ k' ∧ k' ≤ k + 16 * ((l.length : Int) + szL l) ∧ laws_heldIntS_L1 l' k = .nxt k'
  | [], p, k, _, _ => ⟨[], k, rfl, by omega, by simp [szL_nil], rfl⟩
  | e :: l, p, k, h0, hb => by
    rw [szL_cons, List.length_cons] at hb
    have w1 := wrap1 (x := k) (by omega) (by omega)
    obtain ⟨l', k', r1, r2, r3, r4⟩ := mkL_IntS l (p ++ [k]) (k + 1) (by omega) (by omega)
    rw [mid_len] at r1
    refine ⟨k :: l', k', ?_, by omega, by rw [szL_cons, List.length_cons]; omega, ?_⟩
    · simp only [List.length_cons, laws_markIntS_L1, mid, mid_set, w1]
      rw [r1, mid_app]
    · simp only [laws_heldIntS_L1, bne_self_F, nbeq_self_F, cond_false, w1]
      exact r4
theorem mk_IntS (a : (List Int)) (k : Int) (h0 : 0 ≤ k) (hb : k + 16 * (sz a : Int) ≤ 4611686018427387904) : MkR k (laws_markIntS a k).1 (sz a) (laws_heldIntS (laws_markIntS a k).2 k) := by
  rw [sz_list] at hb ⊢
  obtain ⟨l', k', r1, r2, r3, r4⟩ := mkL_IntS a [] k h0 (by omega)
  simp only [List.nil_append, List.length_nil] at r1
  simp only [laws_markIntS, r1, laws_heldIntS, r4]
  exact ⟨r2, by omega, rfl⟩
theorem eq_Interest (a : Interest) : laws_eqInterest a a = true := by
  simp only [laws_eqInterest, bne_self_F, nbeq_self_F, cond_false, Bool.not_true, eq_Name]
theorem to_Interest (a : Interest) : laws_toInterest a = a := by
  simp only [laws_toInterest, to_Name]
theorem sz_Interest_R (a : Interest) (left : Int) (h : GoT.ok 10 a) (h0 : 0 ≤ left) (h1 : left ≤ 1048576) : SzR (laws_szInterest a left) left (sz a) := by
  rw [sz_Interest]
  unfold laws_szInterest
  rcases sz_Name_R a.name left (ok_Interest h).1 (by omega) (by omega) with r0 | ⟨q0, r0⟩
  · rw [r0]; exact .inl rfl
  rw [r0, dF (by omega), cond_false]
  exact .inr ⟨by omega, by omega⟩
theorem eq_PacketInFlight (a : PacketInFlight) : laws_eqPacketInFlight a a = true := by
  simp only [laws_eqPacketInFlight, bne_self_F, nbeq_self_F, cond_false, Bool.not_true, eq_Interest, eq_Data]
theorem to_PacketInFlight (a : PacketInFlight) : laws_toPacketInFlight a = a := by
  simp only [laws_toPacketInFlight, to_Interest, to_Data]
theorem sz_PacketInFlight_R (a : PacketInFlight) (left : Int) (h : GoT.ok 10 a) (h0 : 0 ≤ left) (h1 : left ≤ 1048576) : SzR (laws_szPacketInFlight a left) left (sz a) := by
  rw [sz_PacketInFlight]
  unfold laws_szPacketInFlight
  rcases sz_Interest_R a.interest left (ok_PacketInFlight h).2.2.2.1 (by omega) (by omega) with r0 | ⟨q0, r0⟩
  · rw [r0]; exact .inl rfl
  rw [r0, dF (by omega), cond_false]
  rcases sz_Data_R a.data (left - (sz a.interest : Int)) (ok_PacketInFlight h).2.2.2.2 (by omega) (by omega) with r1 | ⟨q1, r1⟩
  · rw [r1]; exact .inl rfl
  rw [r1, dF (by omega), cond_false]
  exact .inr ⟨by omega, by omega⟩
theorem eqL_PacketInFlightS : ∀ (l p : (List PacketInFlight)), laws_eqPacketInFlightS_L1 (p ++ l) l p.length = none
  | [], _ => rfl
  | e :: l, p => by
    have ih := eqL_PacketInFlightS l (p ++ [e])
    rw [mid_app, mid_len] at ih
    simp only [laws_eqPacketInFlightS_L1, mid, eq_PacketInFlight e, Bool.not_true, cond_false]
    exact ih
theorem eq_PacketInFlightS (a : (List PacketInFlight)) : laws_eqPacketInFlightS a a = true := by
  have h := eqL_PacketInFlightS a []
  simp only [List.nil_append, List.length_nil] at h
  simp only [laws_eqPacketInFlightS, bne_self_F, cond_false, h]
theorem toL_PacketInFlightS : ∀ (l p z : (List PacketInFlight)), z.length = l.length → laws_toPacketInFlightS_L1 l p.length (p ++ z) = p ++ l
  | [], p, [], _ => rfl
  | e :: l, p, y :: z, h => by
    have ih := toL_PacketInFlightS l (p ++ [e]) z (by simpa using h)
    rw [mid_app p e l, mid_len] at ih
    simp only [laws_toPacketInFlightS_L1, mid, mid_set, to_PacketInFlight e]
    exact ih
theorem to_PacketInFlightS (a : (List PacketInFlight)) : laws_toPacketInFlightS a = a := by
  simp only [laws_toPacketInFlightS]
  exact toL_PacketInFlightS a [] _ (by simp)
theorem szL_PacketInFlightS_R : ∀ (l : (List PacketInFlight)) (left : Int), (∀ a ∈ l, GoT.ok 10 a) → 0 ≤ left → left ≤ 1048576 → SzL (laws_szPacketInFlightS_L1 l left) left (szL l)
  | [], left, _, h0, _ => .inr ⟨by simp [szL_nil]; omega, by simp [szL_nil, laws_szPacketInFlightS_L1]⟩
  | e :: l, left, hk, h0, h1 => by
    rw [szL_cons]
    unfold laws_szPacketInFlightS_L1
    rcases sz_PacketInFlight_R e left (hk e List.mem_cons_self) h0 h1 with r0 | ⟨q0, r0⟩
    · rw [r0]; exact .inl rfl
    · rw [r0, dF (by omega), cond_false]
      rcases szL_PacketInFlightS_R l (left - (sz e : Int)) (fun a ha => hk a (List.mem_cons_of_mem _ ha)) (by omega) (by omega) with r | ⟨q, r⟩
      · exact .inl r
      · exact .inr ⟨by omega, by rw [r]; congr 1; omega⟩
theorem sz_PacketInFlightS_R (a : (List PacketInFlight)) (left : Int) (h : GoT.ok 10 a) (h0 : 0 ≤ left) (h1 : left ≤ 1048576) : SzR (laws_szPacketInFlightS a left) left (sz a) := by
  have hl : a.length ≤ 9223372036854775807 := h.1
  rw [sz_list]
  unfold laws_szPacketInFlightS
  rw [wrap_sub h0 h1 hl]
  by_cases hc : left - (a.length : Int) < 0
  · rw [dT hc, cond_true]; exact .inl rfl
  · rw [dF (by omega), cond_false]
    rcases szL_PacketInFlightS_R a (left - (a.length : Int)) h.2 (by omega) (by omega) with r | ⟨q, r⟩
    · rw [r]; exact .inl rfl
    · rw [r]; exact .inr ⟨by omega, by show left - (a.length : Int) - (szL a : Int) = _; omega⟩
theorem sz_flat_PacketInFlightS (e : PacketInFlight) : sz e = sz e.interest.name.parts + sz e.data.name.parts + sz e.data.content + sz e.data.keyName.parts := by
  simp only [sz_PacketInFlight, sz_Interest, sz_Name, sz_DataP, Nat.add_assoc]
theorem mkL_PacketInFlightS : ∀ (l p : (List PacketInFlight)) (k : Int), 0 ≤ k → k + 16 * ((l.length : Int) + szL l) ≤ 4611686018427387904 → ∃ l' k', laws_markPacketInFlightS_L1 l.length p.length (p ++ l) k = (p ++ l', k') ∧ k ≤ k' ∧ k' ≤ k + 16 * ((l.length : Int) + szL l) ∧ True
  | [], p, k, _, _ => ⟨[], k, rfl, by omega, by simp [szL_nil], trivial⟩
  | e :: l, p, k, h0, hb => by
    rw [szL_cons, List.length_cons] at hb
    have hsz := sz_flat_PacketInFlightS e
    have w1 := wrap1 (x := k) (by omega) (by omega)
    have w2 := wrap1 (x := (k + 1)) (by omega) (by omega)
    have w3 := wrap1 (x := ((k + 1) + 1)) (by omega) (by omega)
    obtain ⟨p4, q4, e4⟩ := mk_StringS e.interest.name.parts ((((k + 1) + 1) + 1)) (by omega) (by omega)
    have d4 := dF (show 0 ≤ (laws_markStringS e.interest.name.parts ((((k + 1) + 1) + 1))).1 by omega)
    have w5 := wrap1 (x := (laws_markStringS e.interest.name.parts ((((k + 1) + 1) + 1))).1) (by omega) (by omega)
    have w6 := wrap1 (x := ((laws_markStringS e.interest.name.parts ((((k + 1) + 1) + 1))).1 + 1)) (by omega) (by omega)
    have w7 := wrap1 (x := (((laws_markStringS e.interest.name.parts ((((k + 1) + 1) + 1))).1 + 1) + 1)) (by omega) (by omega)
    obtain ⟨p8, q8, e8⟩ := mk_StringS e.data.name.parts (((((laws_markStringS e.interest.name.parts ((((k + 1) + 1) + 1))).1 + 1) + 1) + 1)) (by omega) (by omega)
    have d8 := dF (show 0 ≤ (laws_markStringS e.data.name.parts (((((laws_markStringS e.interest.name.parts ((((k + 1) + 1) + 1))).1 + 1) + 1) + 1))).1 by omega)
    obtain ⟨p9, q9, e9⟩ := mk_ByteS e.data.content ((laws_markStringS e.data.name.parts (((((laws_markStringS e.interest.name.parts ((((k + 1) + 1) + 1))).1 + 1) + 1) + 1))).1) (by omega) (by omega)
    have d9 := dF (show 0 ≤ (laws_markByteS e.data.content ((laws_markStringS e.data.name.parts (((((laws_markStringS e.interest.name.parts ((((k + 1) + 1) + 1))).1 + 1) + 1) + 1))).1)).1 by omega)
    obtain ⟨p10, q10, e10⟩ := mk_StringS e.data.keyName.parts ((laws_markByteS e.data.content ((laws_markStringS e.data.name.parts (((((laws_markStringS e.interest.name.parts ((((k + 1) + 1) + 1))).1 + 1) + 1) + 1))).1)).1) (by omega) (by omega)
    have d10 := dF (show 0 ≤ (laws_markStringS e.data.keyName.parts ((laws_markByteS e.data.content ((laws_markStringS e.data.name.parts (((((laws_markStringS e.interest.name.parts ((((k + 1) + 1) + 1))).1 + 1) + 1) + 1))).1)).1)).1 by omega)
    have w11 := wrap1 (x := (laws_markStringS e.data.keyName.parts ((laws_markByteS e.data.content ((laws_markStringS e.data.name.parts (((((laws_markStringS e.interest.name.parts ((((k + 1) + 1) + 1))).1 + 1) + 1) + 1))).1)).1)).1) (by omega) (by omega)
    have w12 := wrap1 (x := ((laws_markStringS e.data.keyName.parts ((laws_markByteS e.data.content ((laws_markStringS e.data.name.parts (((((laws_markStringS e.interest.name.parts ((((k + 1) + 1) + 1))).1 + 1) + 1) + 1))).1)).1)).1 + 1)) (by omega) (by omega)
    obtain ⟨l', k', r1, r2, r3, r4⟩ := mkL_PacketInFlightS l (p ++ [(PacketInFlight.mk k (k + 1) ((Int.tmod ((k + 1) + 1) 3) == 0) (Interest.mk (Name.mk (laws_markStringS e.interest.name.parts (((k + 1) + 1) + 1)).2) ((laws_markStringS e.interest.name.parts (((k + 1) + 1) + 1)).1) ((laws_markStringS e.interest.name.parts (((k + 1) + 1) + 1)).1 + 1) (((laws_markStringS e.interest.name.parts (((k + 1) + 1) + 1)).1 + 1) + 1)) (DataP.mk (Name.mk (laws_markStringS e.data.name.parts ((((laws_markStringS e.interest.name.parts (((k + 1) + 1) + 1)).1 + 1) + 1) + 1)).2) (laws_markByteS e.data.content ((laws_markStringS e.data.name.parts ((((laws_markStringS e.interest.name.parts (((k + 1) + 1) + 1)).1 + 1) + 1) + 1)).1)).2 (Name.mk (laws_markStringS e.data.keyName.parts ((laws_markByteS e.data.content ((laws_markStringS e.data.name.parts ((((laws_markStringS e.interest.name.parts (((k + 1) + 1) + 1)).1 + 1) + 1) + 1)).1)).1)).2) ((laws_markStringS e.data.keyName.parts ((laws_markByteS e.data.content ((laws_markStringS e.data.name.parts ((((laws_markStringS e.interest.name.parts (((k + 1) + 1) + 1)).1 + 1) + 1) + 1)).1)).1)).1) ((laws_markStringS e.data.keyName.parts ((laws_markByteS e.data.content ((laws_markStringS e.data.name.parts ((((laws_markStringS e.interest.name.parts (((k + 1) + 1) + 1)).1 + 1) + 1) + 1)).1)).1)).1 + 1)))]) (((laws_markStringS e.data.keyName.parts ((laws_markByteS e.data.content ((laws_markStringS e.data.name.parts (((((laws_markStringS e.interest.name.parts ((((k + 1) + 1) + 1))).1 + 1) + 1) + 1))).1)).1)).1 + 1) + 1) (by omega) (by omega)
    rw [mid_len] at r1
    refine ⟨(PacketInFlight.mk k (k + 1) ((Int.tmod ((k + 1) + 1) 3) == 0) (Interest.mk (Name.mk (laws_markStringS e.interest.name.parts (((k + 1) + 1) + 1)).2) ((laws_markStringS e.interest.name.parts (((k + 1) + 1) + 1)).1) ((laws_markStringS e.interest.name.parts (((k + 1) + 1) + 1)).1 + 1) (((laws_markStringS e.interest.name.parts (((k + 1) + 1) + 1)).1 + 1) + 1)) (DataP.mk (Name.mk (laws_markStringS e.data.name.parts ((((laws_markStringS e.interest.name.parts (((k + 1) + 1) + 1)).1 + 1) + 1) + 1)).2) (laws_markByteS e.data.content ((laws_markStringS e.data.name.parts ((((laws_markStringS e.interest.name.parts (((k + 1) + 1) + 1)).1 + 1) + 1) + 1)).1)).2 (Name.mk (laws_markStringS e.data.keyName.parts ((laws_markByteS e.data.content ((laws_markStringS e.data.name.parts ((((laws_markStringS e.interest.name.parts (((k + 1) + 1) + 1)).1 + 1) + 1) + 1)).1)).1)).2) ((laws_markStringS e.data.keyName.parts ((laws_markByteS e.data.content ((laws_markStringS e.data.name.parts ((((laws_markStringS e.interest.name.parts (((k + 1) + 1) + 1)).1 + 1) + 1) + 1)).1)).1)).1) ((laws_markStringS e.data.keyName.parts ((laws_markByteS e.data.content ((laws_markStringS e.data.name.parts ((((laws_markStringS e.interest.name.parts (((k + 1) + 1) + 1)).1 + 1) + 1) + 1)).1)).1)).1 + 1))) :: l', k', ?_, by omega, by rw [szL_cons, List.length_cons]; omega, ?_⟩
    · simp only [List.length_cons, laws_markPacketInFlightS_L1, mid, mid_set, w1, w2, w3, w5, w6, w7, w11, w12]
      rw [r1, mid_app]
    · trivial
theorem mk_PacketInFlightS (a : (List PacketInFlight)) (k : Int) (h0 : 0 ≤ k) (hb : k + 16 * (sz a : Int) ≤ 4611686018427387904) : MkR k (laws_markPacketInFlightS a k).1 (sz a) (laws_markPacketInFlightS a k).1 := by
  rw [sz_list] at hb ⊢
  obtain ⟨l', k', r1, r2, r3, r4⟩ := mkL_PacketInFlightS a [] k h0 (by omega)
  simp only [List.nil_append, List.length_nil] at r1
  simp only [laws_markPacketInFlightS, r1]
  exact ⟨r2, by omega, rfl⟩
theorem eq_Consumer (a : Consumer) : laws_eqConsumer a a = true := by
  simp only [laws_eqConsumer, bne_self_F, nbeq_self_F, cond_false, Bool.not_true, eq_Name, eq_Data]
theorem to_Consumer (a : Consumer) : laws_toConsumer a = a := by
  simp only [laws_toConsumer, to_Name, to_Data]
theorem sz_Consumer_R (a : Consumer) (left : Int) (h : GoT.ok 10 a) (h0 : 0 ≤ left) (h1 : left ≤ 1048576) : SzR (laws_szConsumer a left) left (sz a) := by
  rw [sz_Consumer]
  unfold laws_szConsumer
  rcases sz_Name_R a.name left (ok_Consumer h).2.2.1 (by omega) (by omega) with r0 | ⟨q0, r0⟩
  · rw [r0]; exact .inl rfl
  rw [r0, dF (by omega), cond_false]
  rcases sz_Data_R a.data (left - (sz a.name : Int)) (ok_Consumer h).2.2.2.2.2.2 (by omega) (by omega) with r1 | ⟨q1, r1⟩
  · rw [r1]; exact .inl rfl
  rw [r1, dF (by omega), cond_false]
  exact .inr ⟨by omega, by omega⟩
theorem eqL_ConsumerS : ∀ (l p : (List Consumer)), laws_eqConsumerS_L1 (p ++ l) l p.length = none
  | [], _ => rfl
  | e :: l, p => by
    have ih := eqL_ConsumerS l (p ++ [e])
    rw [mid_app, mid_len] at ih
    simp only [laws_eqConsumerS_L1, mid, eq_Consumer e, Bool.not_true, cond_false]
    exact ih
theorem eq_ConsumerS (a : (List Consumer)) : laws_eqConsumerS a a = true := by
  have h := eqL_ConsumerS a []
  simp only [List.nil_append, List.length_nil] at h
  simp only [laws_eqConsumerS, bne_self_F, cond_false, h]
theorem toL_ConsumerS : ∀ (l p z : (List Consumer)), z.length = l.length → laws_toConsumerS_L1 l p.length (p ++ z) = p ++ l
  | [], p, [], _ => rfl
  | e :: l, p, y :: z, h => by
    have ih := toL_ConsumerS l (p ++ [e]) z (by simpa using h)
    rw [mid_app p e l, mid_len] at ih
    simp only [laws_toConsumerS_L1, mid, mid_set, to_Consumer e]
    exact ih
theorem to_ConsumerS (a : (List Consumer)) : laws_toConsumerS a = a := by
  simp only [laws_toConsumerS]
  exact toL_ConsumerS a [] _ (by simp)
theorem szL_ConsumerS_R : ∀ (l : (List Consumer)) (left : Int), (∀ a ∈ l, GoT.ok 10 a) → 0 ≤ left → left ≤ 1048576 → SzL (laws_szConsumerS_L1 l left) left (szL l)
  | [], left, _, h0, _ => .inr ⟨by simp [szL_nil]; omega, by simp [szL_nil, laws_szConsumerS_L1]⟩
  | e :: l, left, hk, h0, h1 => by
    rw [szL_cons]
    unfold laws_szConsumerS_L1
    rcases sz_Consumer_R e left (hk e List.mem_cons_self) h0 h1 with r0 | ⟨q0, r0⟩
    · rw [r0]; exact .inl rfl
    · rw [r0, dF (by omega), cond_false]
      rcases szL_ConsumerS_R l (left - (sz e : Int)) (fun a ha => hk a (List.mem_cons_of_mem _ ha)) (by omega) (by omega) with r | ⟨q, r⟩
      · exact .inl r
      · exact .inr ⟨by omega, by rw [r]; congr 1; omega⟩
theorem sz_ConsumerS_R (a : (List Consumer)) (left : Int) (h : GoT.ok 10 a) (h0 : 0 ≤ left) (h1 : left ≤ 1048576) : SzR (laws_szConsumerS a left) left (sz a) := by
  have hl : a.length ≤ 9223372036854775807 := h.1
  rw [sz_list]
  unfold laws_szConsumerS
  rw [wrap_sub h0 h1 hl]
  by_cases hc : left - (a.length : Int) < 0
  · rw [dT hc, cond_true]; exact .inl rfl
  · rw [dF (by omega), cond_false]
    rcases szL_ConsumerS_R a (left - (a.length : Int)) h.2 (by omega) (by omega) with r | ⟨q, r⟩
    · rw [r]; exact .inl rfl
    · rw [r]; exact .inr ⟨by omega, by show left - (a.length : Int) - (szL a : Int) = _; omega⟩
theorem sz_flat_ConsumerS (e : Consumer) : sz e = sz e.name.parts + sz e.data.name.parts + sz e.data.content + sz e.data.keyName.parts := by
  simp only [sz_Consumer, sz_Name, sz_DataP, Nat.add_assoc]
theorem mkL_ConsumerS : ∀ (l p : (List Consumer)) (k : Int), 0 ≤ k → k + 16 * ((l.length : Int) + szL l) ≤ 4611686018427387904 → ∃ l' k', laws_markConsumerS_L1 l.length p.length (p ++ l) k = (p ++ l', k') ∧ k ≤ k' ∧ k' ≤ k + 16 * ((l.length : Int) + szL l) ∧ True
  | [], p, k, _, _ => ⟨[], k, rfl, by omega, by simp [szL_nil], trivial⟩
  | e :: l, p, k, h0, hb => by
    rw [szL_cons, List.length_cons] at hb
    have hsz := sz_flat_ConsumerS e
    have w1 := wrap1 (x := k) (by omega) (by omega)
    have w2 := wrap1 (x := (k + 1)) (by omega) (by omega)
    obtain ⟨p3, q3, e3⟩ := mk_StringS e.name.parts (((k + 1) + 1)) (by omega) (by omega)
    have d3 := dF (show 0 ≤ (laws_markStringS e.name.parts (((k + 1) + 1))).1 by omega)
    have w4 := wrap1 (x := (laws_markStringS e.name.parts (((k + 1) + 1))).1) (by omega) (by omega)
    have w5 := wrap1 (x := ((laws_markStringS e.name.parts (((k + 1) + 1))).1 + 1)) (by omega) (by omega)
    have w6 := wrap1 (x := (((laws_markStringS e.name.parts (((k + 1) + 1))).1 + 1) + 1)) (by omega) (by omega)
    obtain ⟨p7, q7, e7⟩ := mk_StringS e.data.name.parts (((((laws_markStringS e.name.parts (((k + 1) + 1))).1 + 1) + 1) + 1)) (by omega) (by omega)
    have d7 := dF (show 0 ≤ (laws_markStringS e.data.name.parts (((((laws_markStringS e.name.parts (((k + 1) + 1))).1 + 1) + 1) + 1))).1 by omega)
    obtain ⟨p8, q8, e8⟩ := mk_ByteS e.data.content ((laws_markStringS e.data.name.parts (((((laws_markStringS e.name.parts (((k + 1) + 1))).1 + 1) + 1) + 1))).1) (by omega) (by omega)
    have d8 := dF (show 0 ≤ (laws_markByteS e.data.content ((laws_markStringS e.data.name.parts (((((laws_markStringS e.name.parts (((k + 1) + 1))).1 + 1) + 1) + 1))).1)).1 by omega)
    obtain ⟨p9, q9, e9⟩ := mk_StringS e.data.keyName.parts ((laws_markByteS e.data.content ((laws_markStringS e.data.name.parts (((((laws_markStringS e.name.parts (((k + 1) + 1))).1 + 1) + 1) + 1))).1)).1) (by omega) (by omega)
    have d9 := dF (show 0 ≤ (laws_markStringS e.data.keyName.parts ((laws_markByteS e.data.content ((laws_markStringS e.data.name.parts (((((laws_markStringS e.name.parts (((k + 1) + 1))).1 + 1) + 1) + 1))).1)).1)).1 by omega)
    have w10 := wrap1 (x := (laws_markStringS e.data.keyName.parts ((laws_markByteS e.data.content ((laws_markStringS e.data.name.parts (((((laws_markStringS e.name.parts (((k + 1) + 1))).1 + 1) + 1) + 1))).1)).1)).1) (by omega) (by omega)
    have w11 := wrap1 (x := ((laws_markStringS e.data.keyName.parts ((laws_markByteS e.data.content ((laws_markStringS e.data.name.parts (((((laws_markStringS e.name.parts (((k + 1) + 1))).1 + 1) + 1) + 1))).1)).1)).1 + 1)) (by omega) (by omega)
    obtain ⟨l', k', r1, r2, r3, r4⟩ := mkL_ConsumerS l (p ++ [(Consumer.mk k (k + 1) (Name.mk (laws_markStringS e.name.parts ((k + 1) + 1)).2) ((laws_markStringS e.name.parts ((k + 1) + 1)).1) ((laws_markStringS e.name.parts ((k + 1) + 1)).1 + 1) ((Int.tmod (((laws_markStringS e.name.parts ((k + 1) + 1)).1 + 1) + 1) 3) == 0) (DataP.mk (Name.mk (laws_markStringS e.data.name.parts ((((laws_markStringS e.name.parts ((k + 1) + 1)).1 + 1) + 1) + 1)).2) (laws_markByteS e.data.content ((laws_markStringS e.data.name.parts ((((laws_markStringS e.name.parts ((k + 1) + 1)).1 + 1) + 1) + 1)).1)).2 (Name.mk (laws_markStringS e.data.keyName.parts ((laws_markByteS e.data.content ((laws_markStringS e.data.name.parts ((((laws_markStringS e.name.parts ((k + 1) + 1)).1 + 1) + 1) + 1)).1)).1)).2) ((laws_markStringS e.data.keyName.parts ((laws_markByteS e.data.content ((laws_markStringS e.data.name.parts ((((laws_markStringS e.name.parts ((k + 1) + 1)).1 + 1) + 1) + 1)).1)).1)).1) ((laws_markStringS e.data.keyName.parts ((laws_markByteS e.data.content ((laws_markStringS e.data.name.parts ((((laws_markStringS e.name.parts ((k + 1) + 1)).1 + 1) + 1) + 1)).1)).1)).1 + 1)))]) (((laws_markStringS e.data.keyName.parts ((laws_markByteS e.data.content ((laws_markStringS e.data.name.parts (((((laws_markStringS e.name.parts (((k + 1) + 1))).1 + 1) + 1) + 1))).1)).1)).1 + 1) + 1) (by omega) (by omega)
    rw [mid_len] at r1
    refine ⟨(Consumer.mk k (k + 1) (Name.mk (laws_markStringS e.name.parts ((k + 1) + 1)).2) ((laws_markStringS e.name.parts ((k + 1) + 1)).1) ((laws_markStringS e.name.parts ((k + 1) + 1)).1 + 1) ((Int.tmod (((laws_markStringS e.name.parts ((k + 1) + 1)).1 + 1) + 1) 3) == 0) (DataP.mk (Name.mk (laws_markStringS e.data.name.parts ((((laws_markStringS e.name.parts ((k + 1) + 1)).1 + 1) + 1) + 1)).2) (laws_markByteS e.data.content ((laws_markStringS e.data.name.parts ((((laws_markStringS e.name.parts ((k + 1) + 1)).1 + 1) + 1) + 1)).1)).2 (Name.mk (laws_markStringS e.data.keyName.parts ((laws_markByteS e.data.content ((laws_markStringS e.data.name.parts ((((laws_markStringS e.name.parts ((k + 1) + 1)).1 + 1) + 1) + 1)).1)).1)).2) ((laws_markStringS e.data.keyName.parts ((laws_markByteS e.data.content ((laws_markStringS e.data.name.parts ((((laws_markStringS e.name.parts ((k + 1) + 1)).1 + 1) + 1) + 1)).1)).1)).1) ((laws_markStringS e.data.keyName.parts ((laws_markByteS e.data.content ((laws_markStringS e.data.name.parts ((((laws_markStringS e.name.parts ((k + 1) + 1)).1 + 1) + 1) + 1)).1)).1)).1 + 1))) :: l', k', ?_, by omega, by rw [szL_cons, List.length_cons]; omega, ?_⟩
    · simp only [List.length_cons, laws_markConsumerS_L1, mid, mid_set, w1, w2, w4, w5, w6, w10, w11]
      rw [r1, mid_app]
    · trivial
theorem mk_ConsumerS (a : (List Consumer)) (k : Int) (h0 : 0 ≤ k) (hb : k + 16 * (sz a : Int) ≤ 4611686018427387904) : MkR k (laws_markConsumerS a k).1 (sz a) (laws_markConsumerS a k).1 := by
  rw [sz_list] at hb ⊢
  obtain ⟨l', k', r1, r2, r3, r4⟩ := mkL_ConsumerS a [] k h0 (by omega)
  simp only [List.nil_append, List.length_nil] at r1
  simp only [laws_markConsumerS, r1]
  exact ⟨r2, by omega, rfl⟩
theorem eq_Network (a : Network) : laws_eqNetwork a a = true := by
  simp only [laws_eqNetwork, bne_self_F, nbeq_self_F, cond_false, Bool.not_true, eq_Topology, eq_TrustPolicy, eq_TableEntryS, eq_NodeS, eq_IntS, eq_PacketInFlightS, eq_ConsumerS]
theorem to_Network (a : Network) : laws_toNetwork a = a := by
  simp only [laws_toNetwork, to_Topology, to_TrustPolicy, to_TableEntryS, to_NodeS, to_IntS, to_PacketInFlightS, to_ConsumerS]
theorem sz_Network_R (a : Network) (left : Int) (h : GoT.ok 10 a) (h0 : 0 ≤ left) (h1 : left ≤ 1048576) : SzR (laws_szNetwork a left) left (sz a) := by
  rw [sz_Network]
  unfold laws_szNetwork
  rcases sz_Topology_R a.topology left (ok_Network h).1 (by omega) (by omega) with r0 | ⟨q0, r0⟩
  · rw [r0]; exact .inl rfl
  rw [r0, dF (by omega), cond_false]
  rcases sz_TrustPolicy_R a.trust (left - (sz a.topology : Int)) (ok_Network h).2.1 (by omega) (by omega) with r1 | ⟨q1, r1⟩
  · rw [r1]; exact .inl rfl
  rw [r1, dF (by omega), cond_false]
  rcases sz_TableEntryS_R a.producers ((left - (sz a.topology : Int)) - (sz a.trust : Int)) (ok_Network h).2.2.1 (by omega) (by omega) with r2 | ⟨q2, r2⟩
  · rw [r2]; exact .inl rfl
  rw [r2, dF (by omega), cond_false]
  rcases sz_NodeS_R a.nodes (((left - (sz a.topology : Int)) - (sz a.trust : Int)) - (sz a.producers : Int)) (ok_Network h).2.2.2.1 (by omega) (by omega) with r3 | ⟨q3, r3⟩
  · rw [r3]; exact .inl rfl
  rw [r3, dF (by omega), cond_false]
  rcases sz_IntS_R a.failedLinks ((((left - (sz a.topology : Int)) - (sz a.trust : Int)) - (sz a.producers : Int)) - (sz a.nodes : Int)) (ok_Network h).2.2.2.2.2.1 (by omega) (by omega) with r4 | ⟨q4, r4⟩
  · rw [r4]; exact .inl rfl
  rw [r4, dF (by omega), cond_false]
  rcases sz_PacketInFlightS_R a.inFlight (((((left - (sz a.topology : Int)) - (sz a.trust : Int)) - (sz a.producers : Int)) - (sz a.nodes : Int)) - (sz a.failedLinks : Int)) (ok_Network h).2.2.2.2.2.2.1 (by omega) (by omega) with r5 | ⟨q5, r5⟩
  · rw [r5]; exact .inl rfl
  rw [r5, dF (by omega), cond_false]
  rcases sz_ConsumerS_R a.consumers ((((((left - (sz a.topology : Int)) - (sz a.trust : Int)) - (sz a.producers : Int)) - (sz a.nodes : Int)) - (sz a.failedLinks : Int)) - (sz a.inFlight : Int)) (ok_Network h).2.2.2.2.2.2.2.1 (by omega) (by omega) with r6 | ⟨q6, r6⟩
  · rw [r6]; exact .inl rfl
  rw [r6, dF (by omega), cond_false]
  exact .inr ⟨by omega, by omega⟩
theorem mk_Network (a : Network) (k : Int) (h0 : 0 ≤ k) (hb : k + 16 * (sz a : Int) ≤ 4611686018427387904) : MkR k (laws_markNetwork a k).1 (sz a) (laws_markNetwork a k).1 := by
  rw [sz_Network] at hb ⊢
  obtain ⟨p0, q0, e0⟩ := mk_Topology a.topology (k) (by omega) (by omega)
  have d0 := dF (show 0 ≤ (laws_markTopology a.topology (k)).1 by omega)
  have f0 : (laws_markNetwork a k).2.topology = (laws_markTopology a.topology (k)).2 := rfl
  obtain ⟨p1, q1, e1⟩ := mk_TrustPolicy a.trust ((laws_markTopology a.topology (k)).1) (by omega) (by omega)
  have d1 := dF (show 0 ≤ (laws_markTrustPolicy a.trust ((laws_markTopology a.topology (k)).1)).1 by omega)
  have f1 : (laws_markNetwork a k).2.trust = (laws_markTrustPolicy a.trust ((laws_markTopology a.topology (k)).1)).2 := rfl
  obtain ⟨p2, q2, e2⟩ := mk_TableEntryS a.producers ((laws_markTrustPolicy a.trust ((laws_markTopology a.topology (k)).1)).1) (by omega) (by omega)
  have d2 := dF (show 0 ≤ (laws_markTableEntryS a.producers ((laws_markTrustPolicy a.trust ((laws_markTopology a.topology (k)).1)).1)).1 by omega)
  have f2 : (laws_markNetwork a k).2.producers = (laws_markTableEntryS a.producers ((laws_markTrustPolicy a.trust ((laws_markTopology a.topology (k)).1)).1)).2 := rfl
  obtain ⟨p3, q3, e3⟩ := mk_NodeS a.nodes ((laws_markTableEntryS a.producers ((laws_markTrustPolicy a.trust ((laws_markTopology a.topology (k)).1)).1)).1) (by omega) (by omega)
  have d3 := dF (show 0 ≤ (laws_markNodeS a.nodes ((laws_markTableEntryS a.producers ((laws_markTrustPolicy a.trust ((laws_markTopology a.topology (k)).1)).1)).1)).1 by omega)
  have f3 : (laws_markNetwork a k).2.nodes = (laws_markNodeS a.nodes ((laws_markTableEntryS a.producers ((laws_markTrustPolicy a.trust ((laws_markTopology a.topology (k)).1)).1)).1)).2 := rfl
  obtain ⟨p4, q4, e4⟩ := mk_IntS a.failedLinks ((laws_markNodeS a.nodes ((laws_markTableEntryS a.producers ((laws_markTrustPolicy a.trust ((laws_markTopology a.topology (k)).1)).1)).1)).1) (by omega) (by omega)
  have d4 := dF (show 0 ≤ (laws_markIntS a.failedLinks ((laws_markNodeS a.nodes ((laws_markTableEntryS a.producers ((laws_markTrustPolicy a.trust ((laws_markTopology a.topology (k)).1)).1)).1)).1)).1 by omega)
  have f4 : (laws_markNetwork a k).2.failedLinks = (laws_markIntS a.failedLinks ((laws_markNodeS a.nodes ((laws_markTableEntryS a.producers ((laws_markTrustPolicy a.trust ((laws_markTopology a.topology (k)).1)).1)).1)).1)).2 := rfl
  obtain ⟨p5, q5, e5⟩ := mk_PacketInFlightS a.inFlight ((laws_markIntS a.failedLinks ((laws_markNodeS a.nodes ((laws_markTableEntryS a.producers ((laws_markTrustPolicy a.trust ((laws_markTopology a.topology (k)).1)).1)).1)).1)).1) (by omega) (by omega)
  have d5 := dF (show 0 ≤ (laws_markPacketInFlightS a.inFlight ((laws_markIntS a.failedLinks ((laws_markNodeS a.nodes ((laws_markTableEntryS a.producers ((laws_markTrustPolicy a.trust ((laws_markTopology a.topology (k)).1)).1)).1)).1)).1)).1 by omega)
  have f5 : (laws_markNetwork a k).2.inFlight = (laws_markPacketInFlightS a.inFlight ((laws_markIntS a.failedLinks ((laws_markNodeS a.nodes ((laws_markTableEntryS a.producers ((laws_markTrustPolicy a.trust ((laws_markTopology a.topology (k)).1)).1)).1)).1)).1)).2 := rfl
  obtain ⟨p6, q6, e6⟩ := mk_ConsumerS a.consumers ((laws_markPacketInFlightS a.inFlight ((laws_markIntS a.failedLinks ((laws_markNodeS a.nodes ((laws_markTableEntryS a.producers ((laws_markTrustPolicy a.trust ((laws_markTopology a.topology (k)).1)).1)).1)).1)).1)).1) (by omega) (by omega)
  have d6 := dF (show 0 ≤ (laws_markConsumerS a.consumers ((laws_markPacketInFlightS a.inFlight ((laws_markIntS a.failedLinks ((laws_markNodeS a.nodes ((laws_markTableEntryS a.producers ((laws_markTrustPolicy a.trust ((laws_markTopology a.topology (k)).1)).1)).1)).1)).1)).1)).1 by omega)
  have f6 : (laws_markNetwork a k).2.consumers = (laws_markConsumerS a.consumers ((laws_markPacketInFlightS a.inFlight ((laws_markIntS a.failedLinks ((laws_markNodeS a.nodes ((laws_markTableEntryS a.producers ((laws_markTrustPolicy a.trust ((laws_markTopology a.topology (k)).1)).1)).1)).1)).1)).1)).2 := rfl
  refine ⟨show k ≤ (laws_markConsumerS a.consumers ((laws_markPacketInFlightS a.inFlight ((laws_markIntS a.failedLinks ((laws_markNodeS a.nodes ((laws_markTableEntryS a.producers ((laws_markTrustPolicy a.trust ((laws_markTopology a.topology (k)).1)).1)).1)).1)).1)).1)).1 by omega, show (laws_markConsumerS a.consumers ((laws_markPacketInFlightS a.inFlight ((laws_markIntS a.failedLinks ((laws_markNodeS a.nodes ((laws_markTableEntryS a.producers ((laws_markTrustPolicy a.trust ((laws_markTopology a.topology (k)).1)).1)).1)).1)).1)).1)).1 ≤ _ by omega, rfl⟩
theorem eq_Event (a : EventP) : laws_eqEvent a a = true := by
  simp only [laws_eqEvent, bne_self_F, nbeq_self_F, cond_false, Bool.not_true, eq_Name, eq_PacketInFlight]
theorem to_Event (a : EventP) : laws_toEvent a = a := by
  simp only [laws_toEvent, to_Name, to_PacketInFlight]
theorem sz_Event_R (a : EventP) (left : Int) (h : GoT.ok 10 a) (h0 : 0 ≤ left) (h1 : left ≤ 1048576) : SzR (laws_szEvent a left) left (sz a) := by
  rw [sz_EventP]
  unfold laws_szEvent
  rcases sz_Name_R a.name left (ok_EventP h).2.2.1 (by omega) (by omega) with r0 | ⟨q0, r0⟩
  · rw [r0]; exact .inl rfl
  rw [r0, dF (by omega), cond_false]
  rcases sz_PacketInFlight_R a.forged (left - (sz a.name : Int)) (ok_EventP h).2.2.2 (by omega) (by omega) with r1 | ⟨q1, r1⟩
  · rw [r1]; exact .inl rfl
  rw [r1, dF (by omega), cond_false]
  exact .inr ⟨by omega, by omega⟩
end Go.Stp
