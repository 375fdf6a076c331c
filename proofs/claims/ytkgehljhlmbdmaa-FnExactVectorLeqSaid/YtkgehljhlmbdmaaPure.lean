/-
  Plain mathematics of the data: sizes, equality. No program, no condition.
-/
import Derived.Test.YtkgehljhlmbdmaaSizes
namespace Go.Stp
/-- what is left of 'left' -/
def szR (left : Int) (n : Nat) : Int := if left < n then -1 else left - n
theorem szL_take {α : Type} [Sz α] {l : List α} {i : Nat} {e : α} (h : l[i]? = some e) : szL (l.take (i + 1)) = szL (l.take i) + sz e := by
  unfold szL
  rw [List.take_add_one, h]
  simp
theorem szL_mono {α : Type} [Sz α] {l : List α} {i : Nat} {e : α} (h : l[i]? = some e) : szL (l.take i) + sz e ≤ szL l := by
  rw [← szL_take h]
  unfold szL
  have : l.take (i + 1) ++ l.drop (i + 1) = l := List.take_append_drop _ _
  have h2 : (l.map sz).sum = ((l.take (i + 1)).map sz).sum + ((l.drop (i + 1)).map sz).sum := by
    rw [← List.sum_append, ← List.map_append, this]
  omega
theorem szL_all {α : Type} [Sz α] {l : List α} {i : Nat} (h : l.length ≤ i) : szL (l.take i) = szL l := by rw [List.take_of_length_le h]
theorem szR_neg {left : Int} {n : Nat} (h : szR left n < 0) : left < n := by
  unfold szR at h
  split at h <;> omega
theorem szR_pos {left : Int} {n : Nat} (h : ¬ szR left n < 0) : ¬ left < n ∧ szR left n = left - n := by
  unfold szR at h ⊢
  split at h
  · omega
  · rename_i h1; exact ⟨h1, if_neg h1⟩
def inRange (n a b : Int) : Bool := decide (a ≤ n) && decide (n ≤ b)
def nonceOf (a b c : Int) : Int := IntKind.i64.wrap (IntKind.i64.wrap (IntKind.i64.wrap (100000 * a) + IntKind.i64.wrap (1000 * b)) + c)
theorem szR_spec (left : Int) (n : Nat) : (left < n ∧ szR left n = -1) ∨ (¬ left < n ∧ szR left n = left - n) := by
  unfold szR
  by_cases h : left < n
  · exact .inl ⟨h, if_pos h⟩
  · exact .inr ⟨h, if_neg h⟩
/-- equality, as a bool -/
noncomputable def eqv {α : Type} (a b : α) : Bool := @decide (a = b) (Classical.propDecidable _)
theorem eqv_iff {α : Type} {a b : α} : eqv a b = true ↔ a = b := by
  unfold eqv
  exact @decide_eq_true_iff _ (Classical.propDecidable _)
theorem eqv_self {α : Type} (a : α) : eqv a a = true := eqv_iff.2 rfl
theorem eqv_ne {α : Type} {a b : α} (h : a ≠ b) : eqv a b = false := by
  cases hb : eqv a b with
  | false => rfl
  | true => exact absurd (eqv_iff.1 hb) h
theorem eqv_false {α : Type} {a b : α} (h : eqv a b = false) : a ≠ b := fun e => by rw [eqv_iff.2 e] at h; cases h
theorem str_ext {a b : Str} (h : a.toList = b.toList) : a = b := by
  rw [ByteArray.toList_eq, ByteArray.toList_eq] at h
  cases a; cases b
  congr 1
  exact Array.ext' h
theorem take_snoc_eq {α : Type} {a b : List α} {i : Nat} {x : α} (h : a.take i = b.take i) (ha : a[i]? = some x) (hb : b[i]? = some x) : a.take (i + 1) = b.take (i + 1) := by
  rw [List.take_add_one, List.take_add_one, h, ha, hb]
theorem eq_of_take {α : Type} {a b : List α} {i : Nat} (h : a.take i = b.take i) (hl : a.length = b.length) (hi : a.length ≤ i) : a = b := by
  rwa [List.take_of_length_le hi, List.take_of_length_le (by omega)] at h
theorem ne_of_get {α : Type} {a b : List α} {i : Nat} {x y : α} (ha : a[i]? = some x) (hb : b[i]? = some y) (h : x ≠ y) : a ≠ b := fun e => by
  subst e; rw [ha] at hb; simp at hb; exact h hb
def vsum (l : List TableEntry) : Int := l.foldl (fun s e => IntKind.i64.wrap (s + e.value)) 0
theorem vsum_snoc {l : List TableEntry} {i : Nat} {e : TableEntry} (h : l[i]? = some e) : vsum (l.take (i + 1)) = IntKind.i64.wrap (vsum (l.take i) + e.value) := by
  unfold vsum
  rw [List.take_add_one, h]
  simp
/-- the names of the events -/
def evl : List Str := [⟨#[]⟩, ⟨#[116, 105, 99, 107]⟩, ⟨#[100, 101, 108, 105, 118, 101, 114]⟩, ⟨#[100, 114, 111, 112]⟩, ⟨#[100, 117, 112, 108, 105, 99, 97, 116, 101]⟩, ⟨#[102, 97, 105, 108]⟩, ⟨#[114, 101, 112, 97, 105, 114]⟩, ⟨#[99, 114, 97, 115, 104]⟩, ⟨#[114, 101, 115, 116, 97, 114, 116]⟩, ⟨#[105, 110, 106, 101, 99, 116]⟩, ⟨#[114, 101, 114, 111, 117, 116, 101]⟩, ⟨#[114, 101, 113, 117, 101, 115, 116]⟩]
def evName (k : Int) : Str := if 0 ≤ k ∧ k ≤ 11 then (evl[k.toNat]?).getD ⟨#[]⟩ else ⟨#[]⟩
theorem evl_ok : ∀ s ∈ evl, s.size ≤ 9223372036854775807 := by decide
theorem owL_strs {G : GH} : ∀ l : List Str, OwL G (l.map Value.string) l []
  | [] => ⟨rfl, rfl⟩
  | a :: l => ⟨(), (), _, [], rfl, rfl, All.nil, owL_strs l⟩
theorem evName_get {k : Int} {e : Str} (h : evl[k.toNat]? = some e) (h0 : 0 ≤ k ∧ k ≤ 11) : e = evName k := by
  unfold evName; rw [if_pos h0, h]; rfl
theorem evName_out {k : Int} (h : ¬ (0 ≤ k ∧ k ≤ 11)) : (⟨#[]⟩ : Str) = evName k := by
  unfold evName; rw [if_neg h]
theorem evName_get1 {k : Int} {e : Str} (h : evl.tail[(k - 1).toNat]? = some e) (h0 : 1 ≤ k ∧ k ≤ 11) : e = evName k := by
  refine evName_get ?_ ⟨by omega, h0.2⟩
  rw [List.getElem?_tail] at h
  rwa [show (k - 1).toNat + 1 = k.toNat by omega] at h
theorem evName_out1 {k : Int} (h : ¬ (1 ≤ k ∧ k ≤ 11)) : (⟨#[]⟩ : Str) = evName k := by
  unfold evName
  by_cases h0 : 0 ≤ k ∧ k ≤ 11
  · rw [if_pos h0, show k.toNat = 0 by omega]; rfl
  · rw [if_neg h0]
/-! ### order of names -/
theorem bytesLess_self : ∀ l : List UInt8, Op.bytesLess l l = false
  | [] => rfl
  | a :: l => by simp [Op.bytesLess, bytesLess_self l]
def cmpTx (a b : Str) : Int := if Op.bytesLess a.toList b.toList then -1 else if !(Op.bytesLess a.toList b.toList || a.toList == b.toList) then 1 else 0
theorem cmpTx_zero {a b : Str} : cmpTx a b = 0 ↔ a = b := by
  unfold cmpTx
  constructor
  · intro h
    split at h
    · simp at h
    · split at h
      · simp at h
      · rename_i h1 h2
        simp [h1] at h2
        exact str_ext h2
  · rintro rfl
    simp [bytesLess_self]
def cmpL : List Str → List Str → Int
  | [], [] => 0
  | [], _ :: _ => -1
  | _ :: _, [] => 1
  | a :: l, b :: m => if cmpTx a b = 0 then cmpL l m else cmpTx a b
theorem cmpL_zero : ∀ {a b : List Str}, cmpL a b = 0 ↔ a = b
  | [], [] => by simp [cmpL]
  | [], _ :: _ => by simp [cmpL]
  | _ :: _, [] => by simp [cmpL]
  | a :: l, b :: m => by
    simp only [cmpL]
    split
    · rename_i h; rw [cmpL_zero, cmpTx_zero.1 h]; simp
    · rename_i h
      constructor
      · intro e; exact absurd e h
      · intro e; simp at e; exact absurd (cmpTx_zero.2 e.1) h
theorem drop_get {α : Type} {l : List α} {i : Nat} {e : α} (h : l[i]? = some e) : l.drop i = e :: l.drop (i + 1) := by
  obtain ⟨hi, rfl⟩ := List.getElem?_eq_some_iff.1 h
  exact List.drop_eq_getElem_cons hi
def cmpN (a b : Name) : Int := cmpL a.parts b.parts
theorem eqv_cmp (a b : Name) : (cmpN a b == 0) = eqv a b := by
  have : (cmpN a b = 0) ↔ a = b := by unfold cmpN; rw [cmpL_zero]; cases a; cases b; simp
  by_cases h : a = b
  · rw [eqv_iff.2 h]; simpa using this.2 h
  · rw [eqv_ne h]; simpa using fun e => h (this.1 e)
/-! ### first index -/
def findFrom {α : Type} (p : α → Bool) : List α → Nat → Int
  | [], _ => -1
  | a :: l, k => if p a then (k : Int) else findFrom p l (k + 1)
def findIx {α : Type} (p : α → Bool) (l : List α) : Int := findFrom p l 0
theorem findFrom_hit {α : Type} {p : α → Bool} {l : List α} {i k : Nat} {e : α} (h : l[i]? = some e) (hp : p e = true) : findFrom p (l.drop i) k = (k : Int) := by
  rw [drop_get h]; simp [findFrom, hp]
theorem findFrom_miss {α : Type} {p : α → Bool} {l : List α} {i k : Nat} {e : α} (h : l[i]? = some e) (hp : p e = false) : findFrom p (l.drop i) k = findFrom p (l.drop (i + 1)) (k + 1) := by
  rw [drop_get h]; simp [findFrom, hp]
theorem findFrom_end {α : Type} {p : α → Bool} {l : List α} {i k : Nat} (h : l.length ≤ i) : findFrom p (l.drop i) k = -1 := by
  rw [List.drop_eq_nil_of_le h]; rfl
theorem findFrom_lt {α : Type} {p : α → Bool} : ∀ (l : List α) (k : Nat), findFrom p l k = -1 ∨ ((k : Int) ≤ findFrom p l k ∧ findFrom p l k < (k : Int) + (l.length : Int))
  | [], k => .inl rfl
  | a :: l, k => by
    simp only [findFrom]
    split
    · right; simp; omega
    · have := findFrom_lt (p := p) l (k + 1)
      simp only [List.length_cons]
      omega
theorem findIx_lt {α : Type} (p : α → Bool) (l : List α) : findIx p l = -1 ∨ (0 ≤ findIx p l ∧ findIx p l < (l.length : Int)) := by
  have := findFrom_lt (p := p) l 0
  unfold findIx; omega
noncomputable def isN (n : Name) (e : TableEntry) : Bool := eqv e.name n
noncomputable def lookV (l : List TableEntry) (n : Name) : Int := if findIx (isN n) l < 0 then 0 else ((l[(findIx (isN n) l).toNat]?).map TableEntry.value).getD 0
noncomputable def lookB (l : List TableEntry) (n : Name) : Bool := decide (¬ findIx (isN n) l < 0)
/-! ### any -/
theorem any_hit {α : Type} {p : α → Bool} {l : List α} {i : Nat} {e : α} (h : l[i]? = some e) (hp : p e = true) : (l.drop i).any p = true := by
  rw [drop_get h]; simp [hp]
theorem any_miss {α : Type} {p : α → Bool} {l : List α} {i : Nat} {e : α} (h : l[i]? = some e) (hp : p e = false) : (l.drop i).any p = (l.drop (i + 1)).any p := by
  rw [drop_get h]; simp [hp]
theorem any_end {α : Type} {p : α → Bool} {l : List α} {i : Nat} (h : l.length ≤ i) : (l.drop i).any p = false := by
  rw [List.drop_eq_nil_of_le h]; rfl
theorem findFrom_any {α : Type} {p : α → Bool} : ∀ (l : List α) (k : Nat), findFrom p l k ≥ 0 ↔ l.any p = true
  | [], k => by simp [findFrom]
  | a :: l, k => by
    have ih := findFrom_any (p := p) l (k + 1)
    by_cases h : p a = true
    · have e : findFrom p (a :: l) k = (k : Int) := by simp [findFrom, h]
      rw [e]; simp [h]
    · have e : findFrom p (a :: l) k = findFrom p l (k + 1) := by simp [findFrom, h]
      rw [e, ih]; simp [h]
theorem findIx_any {α : Type} (p : α → Bool) (l : List α) : decide (findIx p l ≥ 0) = l.any p := by
  rw [Bool.eq_iff_iff, decide_eq_true_iff]; exact findFrom_any l 0
noncomputable def vgt (a b : StateVector) (e : TableEntry) : Bool := decide (lookV a.entries e.name > lookV b.entries e.name)
noncomputable def vleq (a b : StateVector) : Bool := !(a.entries.any (vgt a b))
end Go.Stp
