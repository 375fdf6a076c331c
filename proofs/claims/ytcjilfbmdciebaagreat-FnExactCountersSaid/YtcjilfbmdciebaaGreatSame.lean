/-
  That the program's functions compute what the reference's do, said of the Lean functions. No program, no condition.
-/
import Derived.Test.YtcjilfbmdciebaaGreatP12
import Derived.Test.YtcjilfbmdciebaaGreatLaws
namespace Go.Stp
set_option linter.unusedVariables false
set_option linter.unusedSimpArgs false
theorem same_In (a b c : Int) : impl_InRange a b c = spec_l1In a b c := rfl
theorem sEqL_string : ∀ (a b p : List Str), a.length = b.length → slices_Equal_string_L1 (p ++ b) a p.length = (if a.map (fun z : Str => z.toList) = b.map (fun z : Str => z.toList) then none else some false)
  | [], [], p, _ => by simp [slices_Equal_string_L1]
  | x :: a, y :: b, p, h => by
    have ih := sEqL_string a b (p ++ [y]) (by simpa using h)
    rw [mid_app, mid_len] at ih
    simp only [slices_Equal_string_L1, mid]
    by_cases hxy : x.toList = y.toList
    · simp [hxy, ih]
    · have hb : (x.toList == y.toList) = false := by simpa using hxy
      simp [hb, hxy]
theorem sEq_string (a b : List Str) : slices_Equal_string a b = decide (a.map (fun z : Str => z.toList) = b.map (fun z : Str => z.toList)) := by
  unfold slices_Equal_string
  by_cases hl : a.length = b.length
  · have h := sEqL_string a b [] hl
    simp only [List.nil_append, List.length_nil] at h
    simp only [hl, bne_self_F, cond_false, h]
    split <;> simp_all
  · have hne : a.map (fun z : Str => z.toList) ≠ b.map (fun z : Str => z.toList) := fun h => hl (by simpa using congrArg List.length h)
    have hn : ((a.length : Int) != (b.length : Int)) = true := by simp; omega
    simp [hn, hne]
theorem sEqL_byte : ∀ (a b p : List UInt8), a.length = b.length → slices_Equal_byte_L1 (p ++ b) a p.length = (if a = b then none else some false)
  | [], [], p, _ => by simp [slices_Equal_byte_L1]
  | x :: a, y :: b, p, h => by
    have ih := sEqL_byte a b (p ++ [y]) (by simpa using h)
    rw [mid_app, mid_len] at ih
    simp only [slices_Equal_byte_L1, mid]
    by_cases hxy : x = y
    · simp [hxy, ih]
    · have hn : ((x.toNat : Int) != (y.toNat : Int)) = true := by
        have : x.toNat ≠ y.toNat := fun h => hxy (UInt8.toNat_inj.mp h)
        simp; omega
      simp [hn, hxy]
theorem sEq_byte (a b : List UInt8) : slices_Equal_byte a b = decide (a = b) := by
  unfold slices_Equal_byte
  by_cases hl : a.length = b.length
  · have h := sEqL_byte a b [] hl
    simp only [List.nil_append, List.length_nil] at h
    simp only [hl, bne_self_F, cond_false, h]
    split <;> simp_all
  · have hne : a ≠ b := fun h => hl (by rw [h])
    have hn : ((a.length : Int) != (b.length : Int)) = true := by simp; omega
    simp [hn, hne]
theorem cNL : ∀ (a b p : List Str), match spec_CompareNames_L1 ⟨p ++ b⟩ a p.length with
    | some k => k ≠ 0 ∧ a.map (fun z : Str => z.toList) ≠ b.map (fun z : Str => z.toList)
    | none => a.length = b.length → a.map (fun z : Str => z.toList) = b.map (fun z : Str => z.toList)
  | [], b, p => by
    simp only [spec_CompareNames_L1]
    intro h
    cases b with
    | nil => rfl
    | cons => simp at h
  | x :: a, [], p => by simp [spec_CompareNames_L1]
  | x :: a, y :: b, p => by
    have ih := cNL a b (p ++ [y])
    rw [mid_app, mid_len] at ih
    have hlt : decide (((p.length : Nat) : Int) < (((p ++ y :: b).length : Nat) : Int)) = true := by simp; omega
    simp only [spec_CompareNames_L1, hlt, cond_true, mid]
    by_cases hk : spec_l4Cmp x y = 0
    · have e : x.toList = y.toList := (l4_zero _ _).1 hk
      rw [hk]
      simp only [bne_self_F, cond_false]
      revert ih
      cases spec_CompareNames_L1 ⟨p ++ y :: b⟩ a (p.length + 1) with
      | none => intro ih h; simp [e, ih (by simpa using h)]
      | some k => intro ih; exact ⟨ih.1, fun h => ih.2 (by simpa [e] using h)⟩
    · have hn : (spec_l4Cmp x y != 0) = true := by simpa using hk
      simp only [hn, cond_true]
      exact ⟨hk, fun h => hk ((l4_zero _ _).2 (by simp at h; exact h.1))⟩
theorem same_EqualNames (a b : Name) : impl_EqualNames a b = spec_EqualNames a b := by
  unfold impl_EqualNames spec_EqualNames spec_CompareNames
  rw [sEq_string]
  have h : match spec_CompareNames_L1 b a.parts 0 with
    | some k => k ≠ 0 ∧ a.parts.map (fun z : Str => z.toList) ≠ b.parts.map (fun z : Str => z.toList)
    | none => a.parts.length = b.parts.length → a.parts.map (fun z : Str => z.toList) = b.parts.map (fun z : Str => z.toList) := cNL a.parts b.parts []
  revert h
  cases spec_CompareNames_L1 b a.parts 0 with
  | some k => intro ⟨h1, h2⟩; simp [h1, h2]
  | none =>
    intro h
    by_cases hl : a.parts.length = b.parts.length
    · simp [h hl, hl]
    · have ne : a.parts.map (fun z : Str => z.toList) ≠ b.parts.map (fun z : Str => z.toList) := fun h => hl (by simpa using congrArg List.length h)
      rcases Nat.lt_or_gt_of_ne hl with c | c
      · simp [ne, c]
      · have c' : ¬ a.parts.length < b.parts.length := by omega
        simp [ne, c, c']
theorem same_EqualBytes (a b : List UInt8) : slices_Equal_byte a b = spec_EqualBytes a b := by
  rw [sEq_byte]
  unfold spec_EqualBytes bstr
  rw [ByteArray.toList_mk, ByteArray.toList_mk]
  by_cases e : a = b
  · simp [e]
  · have hb : (a == b) = false := by simpa using e
    simp [hb, e]
theorem same_EqualData (a b : DataP) : impl_EqualData a b = spec_EqualData a b := by
  simp only [impl_EqualData, spec_EqualData, same_EqualNames, same_EqualBytes]
theorem same_EqualConsumers' (a b : Consumer) : impl_EqualConsumers a b = spec_EqualConsumers a b := by
  simp only [impl_EqualConsumers, spec_EqualConsumers, same_EqualNames, same_EqualData]
theorem eTL (b : List TableEntry) : ∀ (r : List TableEntry) (i : Nat), slices_EqualFunc_TableEntry_L1 (fun e0_ e1_ => impl_EqualTables_c1 e0_ e1_) b r i = spec_EqualTables_L1 b r i
  | [], i => rfl
  | x :: r, i => by
    have ih := eTL b r (i + 1)
    simp only [slices_EqualFunc_TableEntry_L1, spec_EqualTables_L1]
    cases hb : b[i]? with
    | none => rfl
    | some e2 =>
      have h : impl_EqualTables_c1 x e2 = (bif spec_EqualNames x.name e2.name then (x.value == e2.value) else false) := by rw [← same_EqualNames]; rfl
      simp only [h, bne]
      cases spec_EqualNames x.name e2.name <;> cases (x.value == e2.value) <;> first | rfl | exact ih
theorem same_EqualTables (a b : List TableEntry) : impl_EqualTables a b = spec_EqualTables a b := by
  unfold impl_EqualTables slices_EqualFunc_TableEntry spec_EqualTables
  rw [eTL] <;> (cases spec_EqualTables_L1 b a 0 <;> rfl)
theorem same_inSet (a i : Int) : impl_inSet a i = spec_l19In a i := by
  simp only [impl_inSet, spec_l19In, same_In]
  cases decide (a ≥ 0) <;> cases spec_l1In i 0 30 <;> rfl
theorem same_IsUp' (w : Network) (k : Int) : impl_IsUp w k = spec_IsUp w k := by
  simp only [impl_IsUp, spec_IsUp, same_In, same_inSet]
theorem same_EqualInterests (a b : Interest) : impl_EqualInterests a b = spec_EqualInterests a b := by
  simp only [impl_EqualInterests, spec_EqualInterests, same_EqualNames]
theorem iF_PacketInFlight : ∀ (f : PacketInFlight → Bool) (l : List PacketInFlight) (i : Nat), (slices_IndexFunc_PacketInFlight_L1 f l i = none ∧ l.any f = false) ∨ ∃ j : Nat, slices_IndexFunc_PacketInFlight_L1 f l i = some (j : Int) ∧ l.any f = true
  | f, [], i => .inl ⟨rfl, rfl⟩
  | f, x :: l, i => by
    simp only [slices_IndexFunc_PacketInFlight_L1, List.any_cons]
    cases hx : f x
    · simpa using iF_PacketInFlight f l (i + 1)
    · exact .inr ⟨i, rfl, rfl⟩
theorem cF_PacketInFlight (l : List PacketInFlight) (f : PacketInFlight → Bool) : slices_ContainsFunc_PacketInFlight l f = l.any f := by
  unfold slices_ContainsFunc_PacketInFlight slices_IndexFunc_PacketInFlight
  rcases iF_PacketInFlight f l 0 with ⟨h1, h2⟩ | ⟨j, h1, h2⟩ <;> simp [h1, h2]
theorem hmL (e : EventP) : ∀ l : List PacketInFlight, spec_Harmless_L1 e l = bif l.any (fun p => impl_Harmless_c1 e.forged p) then some true else none
  | [] => rfl
  | x :: l => by
    have ih := hmL e l
    have h : impl_Harmless_c1 e.forged x = (bif x.isInterest then spec_EqualInterests x.interest e.forged.interest else false) := by simp only [impl_Harmless_c1, same_EqualInterests]
    simp only [spec_Harmless_L1, List.any_cons, h, ih]
    cases x.isInterest <;> cases spec_EqualInterests x.interest e.forged.interest <;> rfl
theorem same_Harmless' (w : Network) (e : EventP) : impl_Harmless w e = spec_Harmless w e := by
  unfold impl_Harmless spec_Harmless
  rw [cF_PacketInFlight, hmL]
  cases w.inFlight.any (fun p => impl_Harmless_c1 e.forged p) <;> rfl
end Go.Stp
