/-
  NewNetwork: the law returns true at all arguments; conditions: those of the statement, no others. Written by a program (pack.py, mklaw2.py).
-/
import Derived.Test.YtpmejlbgjkiobaaGreatKNewNetwork8
open Go.IntKind (i64)
set_option linter.unusedVariables false
set_option linter.unusedSimpArgs false
namespace Go.Stp
theorem agw (a b c : Int) : a0u a b c = a0j a b c := rfl
theorem amy : ∀ (a b p : List Str), a.length = b.length → ae6 (p ++ b) a p.length = (if a.map (fun z : Str => z.toList) = b.map (fun z : Str => z.toList) then none else some false)
 | [], [], p, _ => by simp [ae6]
 | x :: a, y :: b, p, h => by
  have ih := amy a b (p ++ [y]) (by simpa using h)
  rw [aea, ae9] at ih
  simp only [ae6, mid]
  by_cases hxy : x.toList = y.toList
  ·simp [hxy, ih]
  ·have hb : (x.toList == y.toList) = false := by simpa using hxy
   simp [hb, hxy]
theorem ath (a b : List Str) : af2 a b = decide (a.map (fun z : Str => z.toList) = b.map (fun z : Str => z.toList)) := by
 unfold af2
 by_cases hl : a.length = b.length
 ·have h := amy a b [] hl
  simp only [List.nil_append, List.length_nil] at h
  simp only [hl, ad2, cond_false, h]
  split <;> simp_all
 ·have hne : a.map (fun z : Str => z.toList) ≠ b.map (fun z : Str => z.toList) := fun h => hl (by simpa using congrArg List.length h)
  have hn : ((a.length : Int) != (b.length : Int)) = true := by simp; omega
  simp [hn, hne]
theorem cNL : ∀ (a b p : List Str), match a1e ⟨p ++ b⟩ a p.length with
  | some k => k ≠ 0 ∧ a.map (fun z : Str => z.toList) ≠ b.map (fun z : Str => z.toList)
  | none => a.length = b.length → a.map (fun z : Str => z.toList) = b.map (fun z : Str => z.toList)
 | [], b, p => by
  simp only [a1e]
  intro h
  cases b with
  | nil => rfl
  | cons => simp at h
 | x :: a, [], p => by simp [a1e]
 | x :: a, y :: b, p => by
  have ih := cNL a b (p ++ [y])
  rw [aea, ae9] at ih
  have hlt : decide (((p.length : Nat) : Int) < (((p ++ y :: b).length : Nat) : Int)) = true := by simp; omega
  simp only [a1e, hlt, cond_true, mid]
  by_cases hk : a2a x y = 0
  ·have e : x.toList = y.toList := (avg _ _).1 hk
   rw [hk]
   simp only [ad2, cond_false]
   revert ih
   cases a1e ⟨p ++ y :: b⟩ a (p.length + 1) with
   | none => intro ih h; simp [e, ih (by simpa using h)]
   | some k => intro ih; exact ⟨ih.1, fun h => ih.2 (by simpa [e] using h)⟩
  ·have hn : (a2a x y != 0) = true := by simpa using hk
   simp only [hn, cond_true]
   exact ⟨hk, fun h => hk ((avg _ _).2 (by simp at h; exact h.1))⟩
theorem ah8 (a b : Name) : aat a b = a3a a b := by
 unfold aat a3a a20
 rw [ath]
 have h : match a1e b a.parts 0 with
  | some k => k ≠ 0 ∧ a.parts.map (fun z : Str => z.toList) ≠ b.parts.map (fun z : Str => z.toList)
  | none => a.parts.length = b.parts.length → a.parts.map (fun z : Str => z.toList) = b.parts.map (fun z : Str => z.toList) := cNL a.parts b.parts []
 revert h
 cases a1e b a.parts 0 with
 | some k => intro ⟨h1, h2⟩; simp [h1, h2]
 | none =>
  intro h
  by_cases hl : a.parts.length = b.parts.length
  ·simp [h hl, hl]
  ·have ne : a.parts.map (fun z : Str => z.toList) ≠ b.parts.map (fun z : Str => z.toList) := fun h => hl (by simpa using congrArg List.length h)
   rcases Nat.lt_or_gt_of_ne hl with c | c
   ·simp [ne, c]
   ·have c' : ¬ a.parts.length < b.parts.length := by omega
    simp [ne, c, c']
theorem vPL : ∀ l : List UInt8, a1f l = a3b l ∧ (a3b l = none ∨ a3b l = some false)
 | [] => ⟨rfl, .inl rfl⟩
 | c :: l => by
  obtain ⟨h1, h2⟩ := vPL l
  simp only [a1f, a3b, h1, a0j, ge_iff_le]
  cases decide ((97 : Int) ≤ (c.toNat : Int)) <;> cases decide ((c.toNat : Int) ≤ 122) <;> cases decide ((48 : Int) ≤ (c.toNat : Int)) <;> cases decide ((c.toNat : Int) ≤ 57) <;> cases hc : ((c.toNat : Int) == 45) <;> simp [bne, hc, h2]
theorem ak1 (s : Str) : a6g s = a59 s := by
 unfold a6g a59
 obtain ⟨h1, h2⟩ := vPL s.data.toList
 rw [h1, agw]
 rcases h2 with h | h <;> rw [h] <;> cases a0j (((s).size : Nat) : Int) 1 8 <;> rfl
theorem aqm : ∀ (f : Str → Bool) (l : List Str) (i : Nat), (adl f l i = none ∧ l.any f = false) ∨ ∃ j : Nat, adl f l i = some (j : Int) ∧ l.any f = true
 | f, [], i => .inl ⟨rfl, rfl⟩
 | f, x :: l, i => by
  simp only [adl, List.any_cons]
  cases hx : f x
  ·simpa using aqm f l (i + 1)
  ·exact .inr ⟨i, rfl, rfl⟩
theorem aul (l : List Str) (f : Str → Bool) : aev l f = l.any f := by
 unfold aev ae7
 rcases aqm f l 0 with ⟨h1, h2⟩ | ⟨j, h1, h2⟩ <;> simp [h1, h2]
theorem vNL : ∀ l : List Str, a7o l = bif l.any (fun e => !(a59 e)) then some false else none
 | [] => rfl
 | x :: l => by
  simp only [a7o, List.any_cons]
  cases (!(a59 x)) <;> simp [vNL l]
theorem agz (a : Name) : a5a a = a5b a := by
 unfold a5a a5b acm
 rw [aul, vNL]
 simp only [ak1]
 cases a.parts.any (fun e => !(a59 e)) <;> cases decide ((((a.parts).length : Nat) : Int) ≤ 6) <;> rfl
theorem aoj (a : DataP) : a6h a = a3r a := by
 simp only [a6h, a3r, agz, agw]
theorem axy (x y : Str) : adj x y = a2a x y := by
 simp [adj, afi, a2a]
theorem cCL : ∀ (a b p : List Str), (adm (p ++ b) a p.length = a1e ⟨p ++ b⟩ a p.length ∧ (a1e ⟨p ++ b⟩ a p.length = none → a.length ≤ b.length)) ∨ (adm (p ++ b) a p.length = some 1 ∧ a1e ⟨p ++ b⟩ a p.length = none ∧ b.length < a.length)
 | [], b, p => .inl ⟨rfl, fun _ => Nat.zero_le _⟩
 | x :: a, [], p => .inr (by simp [adm, a1e])
 | x :: a, y :: b, p => by
  have ih := cCL a b (p ++ [y])
  rw [aea, ae9] at ih
  have hlt : decide (((p.length : Nat) : Int) < (((p ++ y :: b).length : Nat) : Int)) = true := by simp; omega
  have hge : decide (((p.length : Nat) : Int) ≥ (((p ++ y :: b).length : Nat) : Int)) = false := by simp; omega
  simp only [a1e, adm, hlt, hge, cond_true, cond_false, mid, axy, List.length_cons]
  cases (a2a x y != 0)
  ·simp only [cond_false]
   rcases ih with ⟨h1, h2⟩ | ⟨h1, h2, h3⟩
   ·exact .inl ⟨h1, fun h => by have := h2 h; omega⟩
   ·exact .inr ⟨h1, h2, by omega⟩
  ·exact .inl ⟨rfl, fun h => by cases h⟩
theorem am0 (a b : Name) : abs a b = a20 a b := by
 unfold abs ady a20
 have h : (adm b.parts a.parts 0 = a1e b a.parts 0 ∧ (a1e b a.parts 0 = none → a.parts.length ≤ b.parts.length)) ∨ (adm b.parts a.parts 0 = some 1 ∧ a1e b a.parts 0 = none ∧ b.parts.length < a.parts.length) := cCL a.parts b.parts []
 rcases h with ⟨h1, h2⟩ | ⟨h1, h2, h3⟩
 ·rw [h1]
  cases hs : a1e b a.parts 0 with
  | some k => rfl
  | none =>
   have := h2 hs
   have c : decide ((((a.parts).length : Nat) : Int) > (((b.parts).length : Nat) : Int)) = false := by simp; omega
   simp only [c, cond_false]
 ·rw [h1, h2]
  have c : decide ((((a.parts).length : Nat) : Int) > (((b.parts).length : Nat) : Int)) = true := by simp; omega
  have d : decide ((((a.parts).length : Nat) : Int) < (((b.parts).length : Nat) : Int)) = false := by simp; omega
  simp only [c, d, cond_false, cond_true]
theorem vTL (l : List TableEntry) : ∀ (r : List TableEntry) (i : Nat), a4q l r i = a4r l r i
 | [], _ => rfl
 | x :: r, i => by simp only [a4q, a4r, agz, am0, vTL l r]
theorem an3 (l : List TableEntry) : aau l = a93 l := by
 unfold aau a93
 rw [vTL]
theorem al5 : ∀ (f : TableEntry → Bool) (l : List TableEntry) (i : Nat), (adb f l i = none ∧ l.any f = false) ∨ ∃ j : Nat, adb f l i = some (j : Int) ∧ l.any f = true
 | f, [], i => .inl ⟨rfl, rfl⟩
 | f, x :: l, i => by
  simp only [adb, List.any_cons]
  cases hx : f x
  ·simpa using al5 f l (i + 1)
  ·exact .inr ⟨i, rfl, rfl⟩
theorem apw (l : List TableEntry) (f : TableEntry → Bool) : aen l f = l.any f := by
 unfold aen adw
 rcases al5 f l 0 with ⟨h1, h2⟩ | ⟨j, h1, h2⟩ <;> simp [h1, h2]
theorem ape (a i : Int) : a82 a i = a83 a i := by
 simp only [a82, a83, agw]
 cases decide (a ≥ 0) <;> cases a0j i 0 30 <;> rfl
theorem atw (w : Network) (k : Int) : abd w k = ac8 w k := by
 simp only [abd, ac8, agw, ape]
theorem ixiL (v : Int) : ∀ (l : List Int) (i : Nat), (ae2 v l i = none ∧ a6p v l = none) ∨ (∃ j : Nat, ae2 v l i = some (j : Int)) ∧ a6p v l = some true
 | [], i => .inl ⟨rfl, rfl⟩
 | x :: l, i => by
  simp only [ae2, a6p]
  have e : (v == x) = (x == v) := BEq.comm
  rw [e]
  cases x == v
  ·exact ixiL v l (i + 1)
  ·exact .inr ⟨⟨i, rfl⟩, rfl⟩
theorem at4 (l : List Int) (v : Int) : af0 l v = a9n l v := by
 unfold af0 aet a9n
 rcases ixiL v l 0 with ⟨h1, h2⟩ | ⟨⟨j, h1⟩, h2⟩
 ·rw [h1, h2]; rfl
 ·rw [h1, h2]
  exact decide_eq_true (show ((j : Nat) : Int) ≥ 0 by omega)
theorem rfL (f : List Int) (d : Int) : ∀ (l : List Link) (i : Nat) (o : List Link), a3v f d l i o = a3w f d l i o
 | [], i, o => rfl
 | x :: l, i, o => by
  simp only [a3v, a3w, at4, ape, rfL f d l]
theorem alp (n_ : Topology) (f : List Int) (d : Int) : abe n_ f d = abf n_ f d := by
 simp only [abe, abf, rfL]
theorem akn (w_ : Network) : a25 w_ = a3g w_ := alp _ _ _
end Go.Stp
namespace Go.Stp
theorem ar1 {α : Type} (L : (α → Bool) → List α → Nat → Option Int) (h0 : ∀ f i, L f [] i = none) (h1 : ∀ f x l i, L f (x :: l) i = bif f x then some ((i : Nat) : Int) else L f l (i + 1)) (f : α → Bool) : ∀ (l : List α) (i : Nat), (L f l i = none ∧ l.any f = false) ∨ ∃ j : Nat, L f l i = some (j : Int) ∧ l.any f = true
 | [], i => .inl ⟨h0 f i, rfl⟩
 | x :: l, i => by
  rw [h1, List.any_cons]
  cases hx : f x
  ·simpa using ar1 L h0 h1 f l (i + 1)
  ·exact .inr ⟨i, rfl, rfl⟩
theorem aip (s : Str) : a7q s = a94 s := by
 simp only [a7q, a94, a0j]
theorem aux {n : Nat} (h : n ≤ 9223372036854775807) : i64.wrap ((n : Int) - 1) = (n : Int) - 1 := by
 simp [IntKind.wrap, IntKind.bits, IntKind.signed]
 omega
theorem vpL (p_ : Pattern) (hp : p_.parts.length ≤ 9223372036854775807) : ∀ (l : List Str) (i : Nat), i + l.length = p_.parts.length → a2t p_ l i = a2u p_ l i
 | [], i, _ => rfl
 | x :: l, i, h => by
  rw [List.length_cons] at h
  have ih := vpL p_ hp l (i + 1) (by omega)
  have e : (((i : Nat) : Int) != i64.wrap (((p_.parts.length : Nat) : Int) - 1)) = decide (((i : Nat) : Int) < i64.wrap (((p_.parts.length : Nat) : Int) - 1)) := by
   rw [aux hp]
   by_cases hc : ((i : Nat) : Int) < ((p_.parts.length : Nat) : Int) - 1
   ·rw [decide_eq_true hc]; simp only [bne, beq_eq_false_iff_ne.2 (show ((i : Nat) : Int) ≠ ((p_.parts.length : Nat) : Int) - 1 by omega), Bool.not_false]
   ·rw [decide_eq_false hc, show ((i : Nat) : Int) = ((p_.parts.length : Nat) : Int) - 1 by omega, bne_self_eq_false]
  simp only [a2t, a2u, ak1, aip, ih, e]
theorem ai7 (p_ : Pattern) (hp : p_.parts.length ≤ 9223372036854775807) : a95 p_ = a96 p_ := by
 simp only [a95, a96, vpL p_ hp p_.parts 0 (Nat.zero_add _)]
theorem ixsL (v : Str) : ∀ (l : List Str) (i : Nat), (ae5 v l i = none ∧ a6i v l = none) ∨ (∃ j : Nat, ae5 v l i = some (j : Int)) ∧ a6i v l = some true
 | [], i => .inl ⟨rfl, rfl⟩
 | x :: l, i => by
  simp only [ae5, a6i]
  have e : (v.toList == x.toList) = (x.toList == v.toList) := BEq.comm
  rw [e]
  cases x.toList == v.toList
  ·exact ixsL v l (i + 1)
  ·exact .inr ⟨⟨i, rfl⟩, rfl⟩
theorem asn (p_ : Pattern) (v : Str) : af9 p_.parts v = abw p_ v := by
 unfold af9 af1 abw
 rcases ixsL v p_.parts 0 with ⟨h1, h2⟩ | ⟨⟨j, h1⟩, h2⟩
 ·rw [h1, h2]; rfl
 ·rw [h1, h2]
  exact decide_eq_true (show ((j : Nat) : Int) ≥ 0 by omega)
theorem vrL (r : Rule) : ∀ (l : List Str), a5d r l = a5e r l
 | [] => rfl
 | x :: l => by
  simp only [a5d, a5e, aip, asn, vrL r l]
theorem aom (r : Rule) (h : GoT.ok 10 r) : a97 r = a4u r := by
 have h1 : r.dataPattern.parts.length ≤ 9223372036854775807 := (okl (ad9 (adx h).1)).1
 have h2 : r.keyPattern.parts.length ≤ 9223372036854775807 := (okl (ad9 (adx h).2)).1
 simp only [a97, a4u, ai7 _ h1, ai7 _ h2, vrL]
def ofB (b : Bool) : Option Bool := bif b then some false else none
theorem aje {α : Type} {f g : α → Bool} : ∀ {l : List α}, (∀ a ∈ l, f a = g a) → l.any f = l.any g
 | [], _ => rfl
 | x :: l, h => by rw [List.any_cons, List.any_cons, h x List.mem_cons_self, aje fun a ha => h a (List.mem_cons_of_mem _ ha)]
theorem auo {α : Type} (f g : α → Bool) : ∀ (l : List α), (l.any fun x => f x || g x) = (l.any f || l.any g)
 | [] => rfl
 | x :: l => by
  simp only [List.any_cons, auo f g l]
  cases f x <;> cases g x <;> cases l.any f <;> cases l.any g <;> rfl
theorem axx (x : Int) : decide (x < 0) = !(decide (x ≥ 0)) := by
 by_cases h : x < 0
 ·rw [decide_eq_true h, decide_eq_false (show ¬ x ≥ 0 by omega)]; rfl
 ·rw [decide_eq_false h, decide_eq_true (show x ≥ 0 by omega)]; rfl
theorem awh (x y : Int) : decide (x > y) = !(decide (x ≤ y)) := by
 by_cases h : x > y
 ·rw [decide_eq_true h, decide_eq_false (show ¬ x ≤ y by omega)]; rfl
 ·rw [decide_eq_false h, decide_eq_true (show x ≤ y by omega)]; rfl
end Go.Stp
namespace Go.Stp
theorem axs (l : List Key) (f : Key → Bool) : af7 l f = l.any f := by
 unfold af7 ael
 rcases ar1 (fun f l i => adh f l i) (fun _ _ => rfl) (fun _ _ _ _ => rfl) f l 0 with ⟨h1, h2⟩ | ⟨j, h1, h2⟩ <;> simp [h1, h2]
theorem axj (l : List Rule) (f : Rule → Bool) : af5 l f = l.any f := by
 unfold af5 aeh
 rcases ar1 (fun f l i => adt f l i) (fun _ _ => rfl) (fun _ _ _ _ => rfl) f l 0 with ⟨h1, h2⟩ | ⟨j, h1, h2⟩ <;> simp [h1, h2]
theorem awy (l : List DataP) (f : DataP → Bool) : af3 l f = l.any f := by
 unfold af3 aeg
 rcases ar1 (fun f l i => adu f l i) (fun _ _ => rfl) (fun _ _ _ _ => rfl) f l 0 with ⟨h1, h2⟩ | ⟨j, h1, h2⟩ <;> simp [h1, h2]
theorem vrsL : ∀ (l : List Rule), a7r l = ofB (l.any fun r => !(a4u r))
 | [] => rfl
 | x :: l => by
  simp only [a7r, List.any_cons, vrsL l]
  cases a4u x <;> rfl
theorem ank (l : List Rule) (h : ∀ r ∈ l, GoT.ok 10 r) : abx l = aax l := by
 unfold abx aax
 rw [axj, vrsL, aje (g := fun r => !(a4u r)) fun r hr => by simp only [aco, aom r (h r hr)]]
 cases l.any (fun r => !(a4u r)) <;> cases decide ((((l).length : Nat) : Int) ≤ 8) <;> rfl
theorem vk2I (e1 : Key) : ∀ (t : List Key), a6j e1 t = ofB (t.any fun e2 => a3a e2.name e1.name || e2.secret == e1.secret)
 | [] => rfl
 | x :: t => by
  simp only [a6j, List.any_cons, vk2I e1 t, ah8]
  cases a3a x.name e1.name <;> cases (x.secret == e1.secret) <;> rfl
theorem vk2S (l : List Key) (e1 : Key) : ∀ (m j : Nat), j + m ≤ l.length → a6l l e1 m j = ofB (((l.drop j).take m).any fun e2 => e2.secret == e1.secret)
 | 0, j, _ => by simp [a6l, ofB]
 | m + 1, j, h => by
  obtain ⟨x, hx⟩ : ∃ x, l[j]? = some x := ⟨_, List.getElem?_eq_getElem (by omega)⟩
  simp only [a6l, hx, acx hx, List.take_succ_cons, List.any_cons, vk2S l e1 m (j + 1) (by omega)]
  cases (x.secret == e1.secret) <;> rfl
theorem l9A (t : List Key) (n_ : Name) : decide (a7s t n_ ≥ 0) = t.any fun e => a3a e.name n_ := by
 unfold a7s
 rcases ar1 (fun f l i => adh f l i) (fun _ _ => rfl) (fun _ _ _ _ => rfl) (fun e => a3a e.name n_) t 0 with ⟨h1, h2⟩ | ⟨j, h1, h2⟩
 ·have e : ∀ (l : List Key) (i : Nat), a5f n_ l i = adh (fun e => a3a e.name n_) l i := fun l => by
   induction l with
   | nil => intro i; rfl
   | cons x l ih => intro i; simp only [a5f, adh, ih]
  rw [e, h1, h2]; rfl
 ·have e : ∀ (l : List Key) (i : Nat), a5f n_ l i = adh (fun e => a3a e.name n_) l i := fun l => by
   induction l with
   | nil => intro i; rfl
   | cons x l ih => intro i; simp only [a5f, adh, ih]
  rw [e, h1, h2]
  exact decide_eq_true (show ((j : Nat) : Int) ≥ 0 by omega)
theorem vkL (l : List Key) : ∀ (r : List Key) (i : Nat), i + r.length = l.length → a47 l r i = a48 l r i
 | [], i, _ => rfl
 | x :: r, i, h => by
  rw [List.length_cons] at h
  have ih := vkL l r (i + 1) (by omega)
  simp only [a47, a48, agz, acv, acw, agw, vk2I, vk2S l x i 0 (by omega), l9A, List.drop_zero, auo, ih]
  cases (List.take i l).any (fun e => a3a e.name x.name) <;> cases (List.take i l).any (fun e2 => e2.secret == x.secret) <;> rfl
theorem aok (l : List Key) : a6k l = a5g l := by
 simp only [a6k, a5g, vkL l l 0 (Nat.zero_add _)]
theorem vt1 (t : TrustPolicy) : ∀ (l : List Name), a7t t l = a5h t l
 | [] => rfl
 | x :: l => by
  simp only [a7t, a5h, vt1 t l, axs, axx, l9A, acp, ah8]
theorem vt1N (t : TrustPolicy) : ∀ (l : List Name), NT (a5h t l)
 | [] => .no
 | x :: l => by
  simp only [a5h]
  exact ntc .sf (vt1N t l)
theorem vt2 : ∀ (l : List DataP), a7u l = ofB (l.any fun x => !(a3r x))
 | [] => rfl
 | x :: l => by
  simp only [a7u, List.any_cons, vt2 l]
  cases a3r x <;> rfl
theorem an2 (t : TrustPolicy) (h : GoT.ok 10 t) : a6m t = a4v t := by
 have hr : ∀ r ∈ t.rules, GoT.ok 10 r := (okl (acz h).2.1).2
 unfold a6m a4v
 rw [vt1, vt2, aok, ank _ hr, awy, aje (g := fun x => !(a3r x)) fun x _ => by simp only [acq, aoj], awh, awh]
 rcases vt1N t t.anchors with h1 | h1 <;> rw [h1] <;> cases a5g t.keys <;> cases aax t.rules <;> cases decide ((((t.anchors).length : Nat) : Int) ≤ 8) <;> cases decide ((((t.certificates).length : Nat) : Int) ≤ 8) <;> cases t.certificates.any (fun x => !(a3r x)) <;> rfl
theorem inR' {n a b : Int} (h : a0j n a b = true) : a ≤ n ∧ n ≤ b := by
 unfold a0j at h
 cases hd : decide (n ≥ a)
 ·rw [hd] at h; cases h
 ·rw [hd] at h
  exact ⟨of_decide_eq_true hd, of_decide_eq_true h⟩
theorem axr {x y : Int} (h : x < y) : ad4 x y = -1 := by
 have n : ∀ z : Int, af6 z = false := fun z => by simp [af6]
 simp only [ad4, n, cond_false, decide_eq_true h, cond_true]
theorem axz {x y : Int} (h : x > y) : ad4 x y = 1 := by
 have n : ∀ z : Int, af6 z = false := fun z => by simp [af6]
 simp only [ad4, n, cond_false, decide_eq_true h, decide_eq_false (show ¬ x < y by omega), cond_true]
theorem axt {x y : Int} (h : x = y) : ad4 x y = 0 := by
 have n : ∀ z : Int, af6 z = false := fun z => by simp [af6]
 simp only [ad4, n, cond_false, decide_eq_false (show ¬ x > y by omega), decide_eq_false (show ¬ x < y by omega)]
theorem aur (a b : Link) : decide (abt a b ≥ 0) = !(aav a b) := by
 unfold abt aav
 rcases Int.lt_trichotomy a.a b.a with h | h | h
 ·rw [axr h, decide_eq_true h]; rfl
 ·rw [axt h, decide_eq_false (show ¬ a.a < b.a by omega), beq_iff_eq.2 h]
  rcases Int.lt_trichotomy a.b b.b with k | k | k
  ·rw [axr k, decide_eq_true k]; rfl
  ·rw [axt k, decide_eq_false (show ¬ a.b < b.b by omega)]; rfl
  ·rw [axz k, decide_eq_false (show ¬ a.b < b.b by omega)]; rfl
 ·rw [axz h, decide_eq_false (show ¬ a.a < b.a by omega), beq_eq_false_iff_ne.2 (show a.a ≠ b.a by omega)]; rfl
theorem vtL (n_ : Topology) (hs : 1 ≤ n_.size ∧ n_.size ≤ 6) : ∀ (l : List Link) (i : Nat), a2h n_ l i = a2s n_ l i
 | [], i => rfl
 | x :: l, i => by
  have ih := vtL n_ hs l (i + 1)
  have w1 : i64.wrap (n_.size - 1) = n_.size - 1 := by simp [IntKind.wrap, IntKind.bits, IntKind.signed]; omega
  simp only [a2h, a2s, agw, aur, ih, w1]
  cases ha : a0j x.a 0 (n_.size - 1)
  ·rfl
  ·have ha' : 0 ≤ x.a ∧ x.a ≤ n_.size - 1 := inR' ha
   have w2 : i64.wrap (x.a + 1) = x.a + 1 := by simp [IntKind.wrap, IntKind.bits, IntKind.signed]; omega
   rw [w2]
   have e : a0j x.b (x.a + 1) (n_.size - 1) = (a0j x.b 0 (n_.size - 1) && !(decide (x.a ≥ x.b))) := by
    unfold a0j
    by_cases h1 : x.b ≥ x.a + 1
    ·rw [decide_eq_true h1, decide_eq_true (show x.b ≥ 0 by omega), decide_eq_false (show ¬ x.a ≥ x.b by omega)]
     cases decide (x.b ≤ n_.size - 1) <;> rfl
    ·rw [decide_eq_false h1, decide_eq_true (show x.a ≥ x.b by omega)]
     cases decide (x.b ≥ 0) <;> cases decide (x.b ≤ n_.size - 1) <;> rfl
   rw [e]
   cases a0j x.b 0 (n_.size - 1) <;> cases decide (x.a ≥ x.b) <;> rfl
theorem vtI (n_ : Topology) : ∀ (l : List Link) (i : Nat), NT (a2h n_ l i)
 | [], i => .no
 | x :: l, i => by
  have ih := vtI n_ l (i + 1)
  simp only [a2h]
  refine ntc .sf (ntc .sf (ntc ?_ ih))
  cases (n_.links)[(((i : Nat) : Int) - 1).toNat]? with
  | none => exact .no
  | some e2 => exact ntc .sf ih
theorem ahp (n_ : Topology) : a3s n_ = a3c n_ := by
 unfold a3s a3c
 cases hs : a0j n_.size 1 6
 ·rw [agw, hs]
  rcases vtI n_ n_.links 0 with h1 | h1 <;> rcases vtN n_ n_.links 0 with h2 | h2 <;> rw [h1, h2]
 ·have hs' : 1 ≤ n_.size ∧ n_.size ≤ 6 := inR' hs
  rw [vtL n_ hs', agw, hs]
theorem lr (size : Int) : ∀ (l : List TableEntry), a7p size l = ofB (l.any fun e => !(a0j e.value 0 (i64.wrap (size - 1))))
 | [] => rfl
 | x :: l => by
  simp only [a7p, List.any_cons, lr size l]
  cases a0j x.value 0 (i64.wrap (size - 1)) <;> rfl
theorem am3 (l : List TableEntry) (size : Int) : abu l size = aaw l size := by
 unfold abu aaw
 rw [lr, apw, an3, aje (g := fun e => !(a0j e.value 0 (i64.wrap (size - 1)))) fun x _ => by simp only [acn, agw]]
 cases l.any (fun e => !(a0j e.value 0 (i64.wrap (size - 1)))) <;> cases a93 l <;> rfl
theorem liL (a b : Int) : ∀ (l : List Link) (i : Nat), adr (fun e0_ => (a4s a b e0_)) l i = a2b a b l i
 | [], i => rfl
 | x :: l, i => by
  have ih := liL a b l (i + 1)
  simp only [adr, a2b]
  rw [ih]
  simp only [a4s]
  cases (x.a == a) <;> cases (x.b == b) <;> cases (x.a == b) <;> cases (x.b == a) <;> rfl
theorem aot (n_ : Topology) (a b : Int) : abv n_ a b = a46 n_ a b := by
 unfold abv ae8 a46
 rw [liL] <;> (cases a2b a b n_.links 0 <;> rfl)
theorem nbL (n_ : Topology) (a : Int) : ∀ (m i : Nat) (o : List Int), i ≤ 6 → a5c n_ a (min m (6 - i)) i o = a3d n_ a m i o
 | 0, i, o, _ => by rw [Nat.zero_min]; rfl
 | m + 1, i, o, h => by
  by_cases hi : i < 6
  ·rw [show min (m + 1) (6 - i) = min m (6 - (i + 1)) + 1 by omega]
   have d : decide (((i : Nat) : Int) < 6) = true := decide_eq_true (by omega)
   simp only [a5c, a3d, aot, d, cond_true, nbL n_ a m (i + 1) _ (by omega)]
  ·rw [show min (m + 1) (6 - i) = 0 by omega]
   have d : decide (((i : Nat) : Int) < 6) = false := decide_eq_false (by omega)
   simp only [a5c, a3d, d, cond_false]
theorem aik (n_ : Topology) (a : Int) : a4t n_ a = a19 n_ a := by
 have h := nbL n_ a n_.size.toNat 0 [] (by omega)
 rw [show min n_.size.toNat (6 - 0) = (max 0 (min n_.size 6)).toNat by omega] at h
 simp only [a4t, a19, h]
theorem rtL (n_ : Name) (s : Int) : ∀ (l : List Route) (i : Nat), adi (fun e0_ => (a7v s n_ e0_)) l i = a3t n_ s l i
 | [], i => rfl
 | x :: l, i => by
  have ih := rtL n_ s l (i + 1)
  simp only [adi, a3t]
  rw [ih]
  simp only [a7v, ah8]
  cases (x.face == s) <;> cases a3a x.pfx n_ <;> rfl
theorem ajc (l : List Route) (n_ : Name) (s : Int) : a0r l n_ s = a0p l n_ s := by
 unfold a0r ae1 a0p
 rw [rtL] <;> (cases a3t n_ s l 0 <;> rfl)
theorem roL (l : List Route) : ∀ (r : List Route) (i : Nat), a3e l r i = a3f l r i
 | [], i => rfl
 | x :: r, i => by
  simp only [a3e, a3f, agz, agw, ajc, roL l r]
theorem ami (l : List Route) : a2v l = a3u l := by
 simp only [a2v, a3u, roL]
theorem cpL {α : Type} (L : List α → List α → List α) (h0 : ∀ o, L [] o = o) (h1 : ∀ e l o, L (e :: l) o = L l (o ++ [e])) : ∀ (l o : List α), L l o = o ++ l
 | [], o => by rw [h0, List.append_nil]
 | e :: l, o => by rw [h1, cpL L h0 h1 l, List.append_assoc]; rfl
theorem asz (l : List DataP) : a7w l = l := cpL aay (fun _ => rfl) (fun _ _ _ => rfl) l []
theorem ax6 (l : List Key) : ab0 l = l := cpL aaz (fun _ => rfl) (fun _ _ _ => rfl) l []
theorem avx (l : List Name) : ab2 l = l := cpL ab1 (fun _ => rfl) (fun _ _ _ => rfl) l []
theorem axi (l : List SeenNonce) : abz l = l := cpL ab3 (fun _ => rfl) (fun _ _ _ => rfl) l []
theorem ax4 (l : List Measurement) : ac0 l = l := cpL ab4 (fun _ => rfl) (fun _ _ _ => rfl) l []
theorem awp (l : List PendingInterest) : ac1 l = l := cpL ab5 (fun _ => rfl) (fun _ _ _ => rfl) l []
theorem avl (c : ContentStore) : ac3 c = c := by
 show ContentStore.mk c.capacity (a6o _ c.entries []) = c
 rw [cpL (a6o fun e0_ => ac2 e0_) (fun _ => rfl) (fun _ _ _ => rfl)]; rfl
theorem awr (x : NodeP) : a9c x = x := by
 show NodeP.mk _ _ _ _ _ _ _ = x
 rw [asz, avl, awp, axi, aj6, ax4]
theorem at0 (l : List TableEntry) : a2w l = l := cpL (a4w fun e0_ => a98 e0_) (fun _ => rfl) (fun _ _ _ => rfl) l []
theorem at8 (t : TrustPolicy) : a1b t = t := by
 show TrustPolicy.mk _ (a9e t.rules []) _ _ = t
 rw [ax6, avx, asz, cpL a9e (fun _ => rfl) (fun _ _ _ => rfl)]; rfl
theorem atr (w : Network) : a9j w = w := by
 show Network.mk _ _ _ (a7z w.nodes []) _ _ (a9i w.inFlight []) (a9h w.consumers []) _ _ = w
 rw [at8, at0, cpL a7z (fun _ => rfl) (fun e l o => by simp only [a7z, awr]), cpL a9i (fun _ => rfl) (fun _ _ _ => rfl), cpL a9h (fun _ => rfl) (fun _ _ _ => rfl)]; rfl
theorem axp (l : List Key) : a99 l = l := cpL ab6 (fun _ => rfl) (fun _ _ _ => rfl) l []
theorem arf (l : List DataP) : a9a l = l := cpL ab7 (fun _ => rfl) (fun _ _ _ => rfl) l []
theorem axk (l : List PendingInterest) : ac4 l = l := cpL ab8 (fun _ => rfl) (fun _ _ _ => rfl) l []
theorem awq (l : List SeenNonce) : ac5 l = l := cpL ab9 (fun _ => rfl) (fun _ _ _ => rfl) l []
theorem awv (l : List Measurement) : ac6 l = l := cpL aba (fun _ => rfl) (fun _ _ _ => rfl) l []
theorem avp (c : ContentStore) : ac7 c = c := by
 show ContentStore.mk c.capacity (a9b c.entries []) = c
 rw [cpL a9b (fun _ => rfl) (fun _ _ _ => rfl)]; rfl
theorem axf (x : NodeP) : a9d x = x := by
 show NodeP.mk _ _ _ _ _ _ _ = x
 rw [arf, avp, axk, awq, akb, awv]
theorem avs (t : TrustPolicy) : a2c t = t := by
 show TrustPolicy.mk _ (a9g t.rules []) (a9f t.anchors []) _ = t
 rw [axp, arf, cpL a9g (fun _ => rfl) (fun _ _ _ => rfl), cpL a9f (fun _ => rfl) (fun _ _ _ => rfl)]; rfl
theorem awd (l : List TableEntry) : a4x l = l := cpL a6n (fun _ => rfl) (fun _ _ _ => rfl) l []
theorem aow (w : Network) : a0c w = w := by
 show Network.mk _ _ _ (a4a w.nodes []) _ _ (a9m w.inFlight []) (a9l w.consumers []) _ _ = w
 rw [avs, awd, cpL a4a (fun _ => rfl) (fun e l o => by simp only [a4a, axf]), cpL a9m (fun _ => rfl) (fun _ _ _ => rfl), cpL a9l (fun _ => rfl) (fun _ _ _ => rfl)]; rfl
theorem aj1 (l : List Advertisement) (f : Int) : a0t l f = a0e l f := by
 have e : ∀ (l : List Advertisement) (i : Nat), ad1 (fun e0_ => (a9o f e0_)) l i = a5i f l i := fun l => by
  induction l with
  | nil => intro i; rfl
  | cons x l ih => intro i; simp only [ad1, a5i]; rw [ih]; simp only [a9o]
 unfold a0t adk a0e
 rw [e]
theorem amn (l : List Advertisement) (f : Int) (h : 0 ≤ a0e l f) : ∃ e, l[(a0e l f).toNat]? = some e := ⟨_, List.getElem?_eq_getElem (by have := aqo l f; omega)⟩
theorem arp (l : List Advertisement) (a b : Int) : a21 l a b = a1m l a b := by
 unfold a21 a1m a9p
 rw [aj1, aj1]
 by_cases h1 : 0 ≤ a0e l a
 ·obtain ⟨e1, he1⟩ := amn l a h1
  rw [show decide (a0e l a ≥ 0) = true from decide_eq_true h1, he1]
  by_cases h2 : 0 ≤ a0e l b
  ·obtain ⟨e2, he2⟩ := amn l b h2
   rw [show decide (a0e l b ≥ 0) = true from decide_eq_true h2, he2]
   simp only [cond_true, at4]
  ·rw [show decide (a0e l b ≥ 0) = false from decide_eq_false h2]
   simp only [cond_true, cond_false]
   cases a9n e1.neighbors b <;> rfl
 ·rw [show decide (a0e l a ≥ 0) = false from decide_eq_false h1]; rfl
theorem ajz (l : List Advertisement) (a : Int) : a1g l a = a1n l a := by
 by_cases h : (0 ≤ a ∧ a ≤ 5) ∧ 0 ≤ a0e l a
 ·have h1 := anz l h.1 (by rw [aj1]; exact h.2)
  have h2 := akv l h.1 h.2
  rw [show a21 l = a1m l from funext fun a => funext fun b => arp l a b] at h1
  exact h1.1.eq h2.1 (by omega) (by omega) h1.2 h2.2
 ·rw [ams l h, ash l (by rw [aj1]; exact h)]
theorem akz (l : List Advertisement) (a b : Int) : a1s l a b = a1c l a b := by
 unfold a1s a1c; rw [agw, ajz]
theorem au0 (l : List Advertisement) (a : Int) : a17 l a = a2e l a := by
 unfold a17 a2e; rw [ajz, rchL]
theorem clL (l : List Advertisement) (a b : Int) (h : 0 < a1c l a b) : ∀ (m i : Nat) (o : List Int), a3h l a b m i o = a3y l a b m i o
 | 0, i, o => by simp only [a3h, a3y]
 | m + 1, i, o => by
  simp only [a3h, a3y, akz, arp, clL l a b h m, decide_eq_true h, decide_eq_true (show a1c l a b ≥ 0 by omega), cond_true]
theorem asi (l : List Advertisement) (a b : Int) (h : 0 < a1c l a b) : a3i l a b = a2d l a b := by
 simp only [a3i, a2d, clL l a b h]
theorem av8 {l : List Advertisement} {a b : Int} (h : b ∈ a2e l a) (hn : b ≠ a) : 0 < a1c l a b := by
 have h' : b ∈ a2j (a1n l a) 0 [] := by rw [rchL]; exact h
 rcases rchM _ 0 [] b h' with h | ⟨j, e, rfl, h2, h3⟩
 ·cases h
 ·rw [Nat.zero_add] at hn ⊢
  have hj := (List.getElem?_eq_some_iff.1 h2).1
  rw [akk] at hj
  have hin : a0j (j : Int) 0 5 = true := by unfold a0j; rw [decide_eq_true (show (j : Int) ≥ 0 by omega), decide_eq_true (show (j : Int) ≤ 5 by omega)]; rfl
  unfold a1c
  rw [hin, Int.toNat_natCast, h2]
  show 0 < e
  by_cases hf : (0 ≤ a ∧ a ≤ 5) ∧ 0 ≤ a0e l a
  ·have hg := (akv l hf.1 hf.2).1
   by_cases he : e = 0
   ·subst he; exact absurd (hg.zero j h2) hn
   ·omega
  ·rw [ams l hf] at h2
   have := List.mem_of_getElem? h2
   simp at this; omega
theorem auf (n_ : Topology) (a : Int) : ∀ (m i : Nat) (o : List Int), (a3d n_ a m i o).length ≤ o.length + (6 - i)
 | 0, i, o => by simp only [a3d]; omega
 | m + 1, i, o => by
  simp only [a3d]
  cases h : decide (((i : Nat) : Int) < 6)
  ·rw [cond_false]; omega
  ·have hi : i < 6 := by have := of_decide_eq_true h; omega
   rw [cond_true]
   cases decide (a46 n_ a ((i : Nat) : Int) ≥ 0)
   ·rw [cond_false]; have := auf n_ a m (i + 1) o; omega
   ·rw [cond_true]; have := auf n_ a m (i + 1) (o ++ [((i : Nat) : Int)]); rw [List.length_append] at this; simp only [List.length_cons, List.length_nil] at this; omega
theorem ax9 (n_ : Topology) (a : Int) : (a19 n_ a).length ≤ 6 := auf n_ a n_.size.toNat 0 []
theorem ftL (b : Int) : ∀ (l : List Int) (i : Nat), i + l.length ≤ 9223372036854775806 → (match ae2 b l i with | some r => i64.wrap (r + 1) | none => 0) = (match a6r b l i with | some r => r | none => 0) ∧ 0 ≤ (match a6r b l i with | some r => r | none => 0)
 | [], i, _ => ⟨rfl, Int.le_refl _⟩
 | x :: l, i, h => by
  simp only [List.length_cons] at h
  simp only [ae2, a6r]
  rw [show (b == x) = (x == b) from Bool.beq_comm]
  cases hx : (x == b)
  ·exact ftL b l (i + 1) (by omega)
  ·refine ⟨?_, ?_⟩
   ·show i64.wrap (((i : Nat) : Int) + 1) = ((i : Nat) : Int) + 1
    simp [IntKind.wrap, IntKind.bits, IntKind.signed]; omega
   ·show 0 ≤ ((i : Nat) : Int) + 1
    omega
theorem asq (n_ : Topology) (a b : Int) : a22 n_ a b = a15 n_ a b ∧ 0 ≤ a15 n_ a b := by
 have h := ftL b (a19 n_ a) 0 (by have := ax9 n_ a; omega)
 unfold a22 a15 aet
 rw [aik]
 refine ⟨?_, h.2⟩
 refine Eq.trans ?_ h.1
 cases ae2 b (a19 n_ a) 0 <;> rfl
theorem aq8 (l : List Route) (r : Route) : a1o l r = a1t l r := by
 unfold a1o a1t
 rw [ajc, aj6, akb]
 simp only [ami]
 rfl
theorem crC (n_ : Topology) (l : List Advertisement) (a b : Int) (p : Name) (e2 : Advertisement) (i2 : Nat) (hp : e2.prefixes[i2]? = some p) : ∀ (c : List Int) (o : List Route), a2f n_ l a b p c o = a3j n_ l a b e2 i2 c o
 | [], o => by simp only [a2f, a3j]
 | x :: c, o => by
  have hf := asq n_ a x
  have hd : (a15 n_ a x != 0) = decide (a15 n_ a x > 0) := by
   by_cases h0 : a15 n_ a x = 0
   ·rw [h0]; rfl
   ·rw [decide_eq_true (show a15 n_ a x > 0 by omega)]; simpa using h0
  simp only [a2f, a3j, hp, hf.1, hd, ajc, akz, aq8, crC n_ l a b p e2 i2 hp c]
theorem crP (n_ : Topology) (l : List Advertisement) (a b : Int) (e2 : Advertisement) (hl : l[(a0e l b).toNat]? = some e2) (hb : b ≠ a) (hpos : 0 < a1c l a b) : ∀ (k i : Nat) (o : List Route), k = e2.prefixes.length - i → i ≤ e2.prefixes.length → (a5k n_ l a b i o).2 = a4y n_ l a b (e2.prefixes.drop i) o
 | k, i, o, hk, hi => by
  rw [a5k, if_pos (by rw [avf hl]; exact hi), hl]
  dsimp only
  by_cases h : i < e2.prefixes.length
  ·obtain ⟨p, hp⟩ : ∃ p, e2.prefixes[i]? = some p := ⟨_, List.getElem?_eq_getElem h⟩
   rw [if_pos (by omega), if_pos (by simpa using hb), acx hp]
   simp only [a4y, crC n_ l a b p e2 i hp, asi l a b hpos]
   exact crP n_ l a b e2 hl hb hpos (e2.prefixes.length - (i + 1)) (i + 1) _ rfl (by omega)
  ·rw [if_neg (by omega), List.drop_eq_nil_of_le (by omega)]
   simp only [a4y]
 termination_by k => k
 decreasing_by omega
theorem crA (n_ : Topology) (l : List Advertisement) (a : Int) (hf : 0 ≤ a0e l a) (o : List Route) : (a5k n_ l a a 0 o).2 = o := by
 obtain ⟨e, he⟩ := amn l a hf
 rw [a5k, if_pos (Nat.zero_le _), he]
 dsimp only
 split
 ·rw [if_neg (by simp)]
 ·rfl
theorem crL (n_ : Topology) (l : List Advertisement) (a : Int) : ∀ (r : List Int) (o : List Route), (∀ x ∈ r, x ∈ a2e l a) → a2y n_ l a r o = a6s n_ l a r o
 | [], o, _ => by simp only [a2y, a6s]
 | x :: r, o, h => by
  have hx := h x List.mem_cons_self
  have hf := (am8 hx).2
  have ih := fun o' => crL n_ l a r o' (fun y hy => h y (List.mem_cons_of_mem _ hy))
  simp only [a2y, a6s, ih, aj1]
  cases h0 : (x == a)
  ·have hne : x ≠ a := by simpa using h0
   obtain ⟨e, he⟩ := amn l x hf
   rw [cond_false, he]
   dsimp only
   rw [crP n_ l a x e he hne (av8 hx hne) _ 0 o rfl (Nat.zero_le _), List.drop_zero]
  ·have he : x = a := by simpa using h0
   subst he
   rw [cond_true, crA n_ l x hf]
theorem alm (n_ : Topology) (l : List Advertisement) (a : Int) : a2k n_ l a = a3z n_ l a := by
 unfold a2k a3z
 rw [au0]
 simp only [crL n_ l a _ _ fun x hx => hx]
theorem adF (i : Nat) : ∀ (l : List TableEntry) (x : List Name), 4 ≤ x.length → a27 i l x = x
 | [], x, _ => by simp only [a27]
 | e :: l, x, h => by
  have d : decide (((x.length : Nat) : Int) < 4) = false := decide_eq_false (by omega)
  simp only [a27, d, cond_false, adF i l x h]
  cases (e.value == ((i : Nat) : Int)) <;> rfl
theorem adL2 (i : Nat) : ∀ (l : List TableEntry) (x : List Name), a27 i l x = a4c i l x
 | [], x => by simp only [a27, a4c]
 | e :: l, x => by
  cases h : decide (((x.length : Nat) : Int) < 4)
  ·rw [adF i (e :: l) x (by have := of_decide_eq_false h; omega)]
   simp only [a4c, h, cond_false]
  ·simp only [a27, a4c, h, cond_true, adL2 i l]
   rfl
theorem adL1 (n_ : Topology) (p : List TableEntry) (v : Int) : ∀ (m i : Nat) (o : List Advertisement), a4z n_ p v m i o = a6t n_ p v m i o
 | 0, i, o => by simp only [a4z, a6t]
 | m + 1, i, o => by simp only [a4z, a6t, adL2, aik, adL1 n_ p v m]
theorem aw3 (n_ : Topology) (p : List TableEntry) (v : Int) : a1h n_ p v = a28 n_ p v := by
 unfold a1h a28
 rw [ahp, agw, adL1]
theorem rrL (w : Network) : ∀ (k i : Nat) (o : List NodeP), k = w.nodes.length - i → i ≤ w.nodes.length → o.length = w.nodes.length → (a6u w i o).2 = a2l w (w.nodes.drop i) i o
 | k, i, o, hk, hi, ho => by
  rw [a6u, if_pos hi]
  by_cases h : i < w.nodes.length
  ·obtain ⟨e, he⟩ : ∃ e, w.nodes[i]? = some e := ⟨_, List.getElem?_eq_getElem h⟩
   obtain ⟨f, hf⟩ : ∃ f, o[i]? = some f := ⟨_, List.getElem?_eq_getElem (by omega)⟩
   rw [if_pos (by omega), acx he]
   simp only [a2l, atw, alm, aw3, akn, hf]
   split
   ·rename_i hu
    rw [hu, cond_true]
    exact rrL w (w.nodes.length - (i + 1)) (i + 1) _ rfl (by omega) (by simpa using ho)
   ·rename_i hu
    rw [Bool.eq_false_iff.2 hu, cond_false]
    exact rrL w (w.nodes.length - (i + 1)) (i + 1) o rfl (by omega) ho
  ·rw [if_neg (by omega), List.drop_eq_nil_of_le (by omega)]
   simp only [a2l]
 termination_by k => k
 decreasing_by all_goals omega
theorem amb (w : Network) : a5l w = a4d w := by
 have h := rrL w w.nodes.length 0 w.nodes rfl (Nat.zero_le _) rfl
 rw [List.drop_zero] at h
 unfold a5l a4d
 rw [← h]
theorem ar5 (c : Int) : a81 c = a49 c := by
 unfold a81 a49 a9k a80; rw [agw]
theorem nnL (c : Int) : ∀ (m : Nat) (o : List NodeP), a84 c m o = a3k c m o
 | 0, o => by simp only [a84, a3k]
 | m + 1, o => by simp only [a84, a3k, ar5, nnL c m]
theorem amh (g : Topology) (t : TrustPolicy) (h_ : List TableEntry) (c : Int) (ht : GoT.ok 10 t) : a09 g t h_ c = a1u g t h_ c := by
 unfold a09 a1u
 rw [ahp, an2 t ht, am3, aow, nnL]
 simp only [a0b, atr, amb, at8, at0, a2i]
theorem an9 {α : Type} [GoT α] [Sz α] (a : α) (l : List α) : szL (a :: l) = sz a + szL l := by simp [szL]
theorem aw1 {α : Type} [GoT α] [Sz α] (l : List α) (a : α) : szL (l ++ [a]) = szL l + sz a := by simp [szL]
theorem auc {α : Type} [GoT α] [Sz α] : ∀ {l : List α} {i : Nat} {e : α} (f : α), l[i]? = some e → szL (l.set i f) + sz e = szL l + sz f
 | [], i, e, f, h => by simp at h
 | x :: l, 0, e, f, h => by simp at h; subst h; simp only [List.set_cons_zero, an9]; omega
 | x :: l, i + 1, e, f, h => by
  have := auc (l := l) (i := i) f (by simpa using h)
  simp only [List.set_cons_succ, an9]; omega
theorem auq {α : Type} [GoT α] [Sz α] {Z : Nat} : ∀ (l : List α), (∀ x ∈ l, sz x ≤ Z) → szL l ≤ l.length * Z
 | [], _ => by simp [szL]
 | x :: l, h => by
  have h1 := h x List.mem_cons_self
  have h2 := auq l (fun y hy => h y (List.mem_cons_of_mem _ hy))
  rw [an9, List.length_cons, Nat.add_mul, Nat.one_mul]; omega
def RB (Z : Nat) (o : List Route) : Prop := (∀ r ∈ o, sz r ≤ Z) ∧ o.length ≤ 24
theorem addB {Z : Nat} {o : List Route} {r : Route} (h : RB Z o) (hr : sz r.pfx ≤ Z) : RB Z (a1o o r).1 := by
 unfold a1o
 rw [aj6]
 cases decide (a0r o r.pfx r.face ≥ 0)
 ·rw [cond_false]
  cases hv : a2v (o ++ [(Route.mk (a0f r.pfx) r.face r.cost)])
  ·exact h
  ·refine ⟨fun x hx => ?_, aun hv⟩
   rcases List.mem_append.1 hx with hx | hx
   ·exact h.1 x hx
   ·simp only [List.mem_singleton] at hx; subst hx; rw [alb]; exact hr
 ·rw [cond_true]
  split
  ·exact ⟨(fun _ h => by cases h), Nat.zero_le _⟩
  ·rename_i e he
   cases hv : a2v (o.set (a0r o r.pfx r.face).toNat (Route.mk e.pfx e.face r.cost))
   ·exact h
   ·refine ⟨fun x hx => ?_, by show (o.set _ _).length ≤ 24; rw [List.length_set]; exact h.2⟩
    rcases List.mem_or_eq_of_mem_set hx with hx | hx
    ·exact h.1 x hx
    ·subst hx; rw [alb]; have := h.1 e (List.mem_of_getElem? he); rw [alb] at this; exact this
theorem cB3 {Z : Nat} (n_ : Topology) (l : List Advertisement) (a b : Int) (p : Name) (hp : sz p ≤ Z) : ∀ (c : List Int) (o : List Route), RB Z o → RB Z (a2f n_ l a b p c o)
 | [], o, h => by simpa only [a2f] using h
 | x :: c, o, h => by
  simp only [a2f]
  have h1 := cB3 n_ l a b p hp c _ (addB (r := Route.mk p (a22 n_ a x) (a1s l a b)) h hp)
  have h2 := cB3 n_ l a b p hp c o h
  cases (a22 n_ a x != 0)
  ·exact h2
  ·cases decide (a0r o p (a22 n_ a x) < 0)
   ·simp only [cond_true, cond_false]
    split
    ·exact ⟨(fun _ h => by cases h), Nat.zero_le _⟩
    ·rename_i e he
     cases decide (e.cost > a1s l a b)
     ·exact h2
     ·exact h1
   ·exact h1
theorem cB2 {Z : Nat} (n_ : Topology) (l : List Advertisement) (a b : Int) : ∀ (q : List Name) (o : List Route), (∀ x ∈ q, sz x ≤ Z) → RB Z o → RB Z (a4y n_ l a b q o)
 | [], o, _, h => by simpa only [a4y] using h
 | p :: q, o, hq, h => by
  simp only [a4y]
  exact cB2 n_ l a b q _ (fun x hx => hq x (List.mem_cons_of_mem _ hx)) (cB3 n_ l a b p (hq p List.mem_cons_self) _ o h)
theorem cB1 {Z : Nat} (n_ : Topology) (l : List Advertisement) (a : Int) (hl : ∀ e ∈ l, ∀ x ∈ e.prefixes, sz x ≤ Z) : ∀ (q : List Int) (o : List Route), RB Z o → RB Z (a2y n_ l a q o)
 | [], o, h => by simpa only [a2y] using h
 | b :: q, o, h => by
  simp only [a2y]
  cases (b == a)
  ·rw [cond_false]
   split
   ·exact ⟨(fun _ h => by cases h), Nat.zero_le _⟩
   ·rename_i e he
    exact cB1 n_ l a hl q _ (cB2 n_ l a b e.prefixes o (hl e (List.mem_of_getElem? he)) h)
  ·exact cB1 n_ l a hl q o h
theorem cB {Z : Nat} (n_ : Topology) (l : List Advertisement) (a : Int) (hl : ∀ e ∈ l, ∀ x ∈ e.prefixes, sz x ≤ Z) : sz (a2k n_ l a) ≤ 24 + 24 * Z := by
 have h := cB1 (Z := Z) n_ l a hl (a17 l a) [] ⟨(fun _ h => by cases h), Nat.zero_le _⟩
 have h1 := auq _ h.1
 have h2 : (a2y n_ l a (a17 l a) []).length * Z ≤ 24 * Z := Nat.mul_le_mul_right _ h.2
 have h3 := h.2
 show sz (a2y n_ l a (a17 l a) []) ≤ _
 rw [aem]; omega
theorem aB2 {Z : Nat} (i : Nat) : ∀ (p : List TableEntry) (x : List Name), (∀ e ∈ p, sz e.name ≤ Z) → (∀ y ∈ x, sz y ≤ Z) → ∀ y ∈ a27 i p x, sz y ≤ Z
 | [], x, _, h => by simpa only [a27] using h
 | e :: p, x, hp, h => by
  have hp' : ∀ e ∈ p, sz e.name ≤ Z := fun y hy => hp y (List.mem_cons_of_mem _ hy)
  simp only [a27]
  cases (e.value == ((i : Nat) : Int))
  ·exact aB2 i p x hp' h
  ·cases decide (((x.length : Nat) : Int) < 4)
   ·exact aB2 i p x hp' h
   ·refine aB2 i p _ hp' (fun y hy => ?_)
    rcases List.mem_append.1 hy with hy | hy
    ·exact h y hy
    ·rw [List.mem_singleton.1 hy]; exact hp e List.mem_cons_self
theorem aB1 {Z : Nat} (n_ : Topology) (p : List TableEntry) (v : Int) (hp : ∀ e ∈ p, sz e.name ≤ Z) : ∀ (m i : Nat) (o : List Advertisement), (∀ e ∈ o, ∀ x ∈ e.prefixes, sz x ≤ Z) → ∀ e ∈ a4z n_ p v m i o, ∀ x ∈ e.prefixes, sz x ≤ Z
 | 0, i, o, h => by simpa only [a4z] using h
 | m + 1, i, o, h => by
  simp only [a4z]
  refine aB1 n_ p v hp m (i + 1) _ (fun e he => ?_)
  rcases List.mem_append.1 he with he | he
  ·exact h e he
  ·rw [List.mem_singleton.1 he]; exact aB2 i p [] hp (fun _ h => by cases h)
theorem aB {Z : Nat} (n_ : Topology) (p : List TableEntry) (v : Int) (hp : ∀ e ∈ p, sz e.name ≤ Z) : ∀ e ∈ a1h n_ p v, ∀ x ∈ e.prefixes, sz x ≤ Z := by
 unfold a1h
 cases a3s n_
 ·intro e he; cases he
 ·cases a0u v 1 1000
  ·intro e he; cases he
  ·exact aB1 n_ p v hp _ 0 [] (fun _ h => by cases h)
theorem rB {B : Nat} (w : Network) (hB : ∀ a, sz (a2k w.topology (a1h (a25 w) w.producers 1) a) ≤ B) : ∀ (l : List NodeP) (i : Nat) (o : List NodeP), i + l.length = o.length → szL (a2l w l i o) ≤ szL o + l.length * B ∧ (a2l w l i o).length = o.length
 | [], i, o, _ => by simp only [a2l]; exact ⟨by simp, by first | rfl | trivial⟩
 | x :: l, i, o, h => by
  rw [List.length_cons] at h
  simp only [a2l, List.length_cons, Nat.add_mul, Nat.one_mul]
  cases abd (Network.mk w.topology w.trust w.producers o w.downNodes w.failedLinks w.inFlight w.consumers w.now w.dropped) ((i : Nat) : Int)
  ·have := rB w hB l (i + 1) o (by omega)
   exact ⟨by simp only [cond_false]; omega, this.2⟩
  ·obtain ⟨e, he⟩ : ∃ e, o[i]? = some e := ⟨_, List.getElem?_eq_getElem (by omega)⟩
   simp only [cond_true, he]
   have h1 := rB w hB l (i + 1) (o.set i (NodeP.mk e.locl e.cache e.pending e.seen (a2k w.topology (a1h (a25 w) w.producers 1) ((i : Nat) : Int)) e.measurements e.dropped)) (by rw [List.length_set]; omega)
   have h2 := auc (NodeP.mk e.locl e.cache e.pending e.seen (a2k w.topology (a1h (a25 w) w.producers 1) ((i : Nat) : Int)) e.measurements e.dropped) he
   have h3 := hB ((i : Nat) : Int)
   rw [List.length_set] at h1
   rw [amt, amt] at h2
   dsimp only at h2
   exact ⟨by omega, h1.2⟩
theorem as9 (w : Network) (hz : sz w ≤ 2097152) : sz (a5l w) ≤ 1125899906842624 := by
 rw [ai8] at hz
 have hp : ∀ e ∈ w.producers, sz e.name ≤ 2097152 := fun e he => by
  have h1 := ao7 he
  rw [aie] at h1
  have h2 := aem w.producers
  omega
 have hB := fun a => cB w.topology (a1h (a25 w) w.producers 1) a (aB (a25 w) w.producers 1 hp)
 have hr := rB w hB w.nodes 0 w.nodes (Nat.zero_add _)
 have hl := aem w.nodes
 have hm : w.nodes.length * (24 + 24 * 2097152) ≤ 2097152 * (24 + 24 * 2097152) := Nat.mul_le_mul_right _ (by omega)
 rw [ai8]
 show sz w.topology + sz w.trust + sz w.producers + sz (a2l w w.nodes 0 w.nodes) + sz w.failedLinks + sz w.inFlight + sz w.consumers ≤ _
 rw [aem (a2l w w.nodes 0 w.nodes), hr.2]
 omega
theorem nnB (c : Int) : ∀ (m : Nat) (o : List NodeP), szL (a3k c m o) = szL o ∧ (a3k c m o).length = o.length + m
 | 0, o => by simp only [a3k]; exact ⟨by first | rfl | trivial, by first | rfl | trivial⟩
 | m + 1, o => by
  simp only [a3k]
  have h := nnB c m (o ++ [a49 c])
  have hn : sz (a49 c) = 0 := by
   unfold a49 a80
   cases a0j c 0 8 <;> rfl
  rw [aw1, hn, List.length_append] at h
  exact ⟨h.1, by rw [h.2]; simp only [List.length_cons, List.length_nil]; omega⟩
theorem aoo (g : Topology) (t : TrustPolicy) (h_ : List TableEntry) (c : Int) (hz : sz g + sz t + sz h_ ≤ 1048576) : sz (a1u g t h_ c) ≤ 1125899906842624 := by
 have z0 : sz (Network.mk (Topology.mk 0 ([])) (TrustPolicy.mk ([]) ([]) ([]) ([])) ([]) ([]) 0 ([]) ([]) ([]) 0 0) ≤ 1125899906842624 := by
  show 0 ≤ _; omega
 unfold a1u
 rw [aow]
 cases hv : a3c g
 ·exact z0
 ·cases a4v t
  ·exact z0
  ·cases aaw h_ g.size
   ·exact z0
   ·simp only [Bool.not_true, cond_false]
    rw [← amb]
    have hs := apx hv
    have hn := nnB c g.size.toNat []
    refine as9 _ ?_
    rw [ai8]
    show sz g + sz t + sz h_ + sz (a3k c g.size.toNat []) + 0 + 0 + 0 ≤ _
    rw [aem (a3k c g.size.toNat []), hn.1, hn.2]
    show sz g + sz t + sz h_ + (0 + g.size.toNat + 0) + 0 + 0 + 0 ≤ _
    omega
end Go.Stp
namespace Go.Proofs.YtpmejlbgjkiobaaGreat.Facts
set_option maxRecDepth 100000
theorem laid : laidOutB Tryz.prog = true := by kernel_rfl
theorem rowed : mapsRowed Tryz.prog = true := by kernel_rfl
end Go.Proofs.YtpmejlbgjkiobaaGreat.Facts
namespace Go.Stp
theorem anl (aG : Topology) (aT : TrustPolicy) (aH : (List TableEntry)) (aCapacity : Int) (haG : GoT.ok 10 aG) (haT : GoT.ok 10 aT) (haH : GoT.ok 10 aH): a09 aG aT aH aCapacity = a1u aG aT aH aCapacity := amh aG aT aH aCapacity haT
theorem amf (aG : Topology) (aT : TrustPolicy) (aH : (List TableEntry)) (aCapacity : Int) (hz : sz aG + sz aT + sz aH ≤ 1048576): sz (a1u aG aT aH aCapacity) ≤ 1125899906842624 := aoo aG aT aH aCapacity hz
theorem aod (aG : Topology) (aT : TrustPolicy) (aH : (List TableEntry)) (aCapacity : Int) (haG : GoT.ok 10 aG) (haT : GoT.ok 10 aT) (haH : GoT.ok 10 aH) : a40 aG aT aH aCapacity = true := by
 unfold a40
 by_cases s0 : a0w aG 1048576 < 0
 ·simp only [dT s0, cond_true]
 have d0 := dF (show 0 ≤ a0w aG 1048576 by omega)
 obtain ⟨t0, z0⟩ := (aii aG 1048576 haG (by omega) (by omega)).pos (by omega)
 by_cases s1 : a0x aT (a0w aG 1048576) < 0
 ·simp only [dT s1, cond_true, d0, cond_false]
 have d1 := dF (show 0 ≤ a0x aT (a0w aG 1048576) by omega)
 obtain ⟨t1, z1⟩ := (ah3 aT (a0w aG 1048576) haT (by omega) (by omega)).pos (by omega)
 by_cases s2 : a23 aH (a0x aT (a0w aG 1048576)) < 0
 ·simp only [dT s2, cond_true, d0, cond_false, d1, cond_false]
 have d2 := dF (show 0 ≤ a23 aH (a0x aT (a0w aG 1048576)) by omega)
 obtain ⟨t2, z2⟩ := (ah2 aH (a0x aT (a0w aG 1048576)) haH (by omega) (by omega)).pos (by omega)
 obtain ⟨mp0, mq0, me0⟩ := ao4 aG (1) (by omega) (by omega)
 obtain ⟨mp1, mq1, me1⟩ := ajw aT ((a08 aG (1)).1) (by omega) (by omega)
 obtain ⟨mp2, mq2, me2⟩ := ak0 aH ((a0a aT ((a08 aG (1)).1)).1) (by omega) (by omega)
 have dk := dF (show 0 ≤ (a0h aH ((a0a aT ((a08 aG (1)).1)).1)).1 by omega)
 have hb := amf aG aT aH aCapacity (by omega)
 have hb0 := hb
 obtain ⟨gp0, gq0, ge0⟩ := atv (a1u aG aT aH aCapacity) (1) (by omega) (by omega)
 have dg0 := dF (show 0 ≤ (a01 (a1u aG aT aH aCapacity) (1)).1 by omega)
 simp only [d0, cond_false, d1, d2, asc, aoh, aov, anl aG aT aH aCapacity haG haT haH, anr, ajt, ak3, au6, dk, ge0, dg0, Bool.not_true, ad2, ade, beq_self_eq_true]
end Go.Stp
namespace Go.Proofs.YtpmejlbgjkiobaaGreat
open Go.Stp
open Go.RowKit (Below)
open Go.ChangeShapes Go.WideShapes Go.ChangeAt
namespace LawNewNetwork
theorem own : ownKnob Tryz.prog.godebug = none := by kernel_rfl
theorem laid : laidOutB Tryz.prog = true := Facts.laid
set_option maxRecDepth 100000 in
theorem op239 : Opens Tryz.prog 239 Link := afl (fun e : Link => (e.a, e.b)) (fun b => ⟨b.1, b.2⟩) (fun _ => rfl) Tryz.underlying239 (show Tryz.prog.cellsOf 239 = 2 by kernel_rfl) (afc rfl (ahb Tryz.underlying3 (by kernel_rfl)) (ag4 rfl (ahb Tryz.underlying3 (by kernel_rfl))))
set_option maxRecDepth 100000 in
theorem op59 : Opens Tryz.prog 59 Topology := afl (fun e : Topology => (e.size, e.links)) (fun b => ⟨b.1, b.2⟩) (fun _ => rfl) Tryz.underlying59 (show Tryz.prog.cellsOf 59 = 2 by kernel_rfl) (afc rfl (ahb Tryz.underlying3 (by kernel_rfl)) (ag4 rfl (afr Tryz.underlying57 (by kernel_rfl) op239)))
set_option maxRecDepth 100000 in
theorem op141 : Opens Tryz.prog 141 Name := afl (fun e : Name => e.parts) (fun b => ⟨b⟩) (fun _ => rfl) Tryz.underlying141 (show Tryz.prog.cellsOf 141 = 1 by kernel_rfl) (ag4 rfl (afr Tryz.underlying47 (by kernel_rfl) (aqr Tryz.underlying9 (by kernel_rfl))))
set_option maxRecDepth 100000 in
theorem op222 : Opens Tryz.prog 222 Key := afl (fun e : Key => (e.name, e.secret)) (fun b => ⟨b.1, b.2⟩) (fun _ => rfl) Tryz.underlying222 (show Tryz.prog.cellsOf 222 = 2 by kernel_rfl) (afc rfl op141 (ag4 rfl (ahb Tryz.underlying3 (by kernel_rfl))))
set_option maxRecDepth 100000 in
theorem op224 : Opens Tryz.prog 224 Pattern := afl (fun e : Pattern => e.parts) (fun b => ⟨b⟩) (fun _ => rfl) Tryz.underlying224 (show Tryz.prog.cellsOf 224 = 1 by kernel_rfl) (ag4 rfl (afr Tryz.underlying47 (by kernel_rfl) (aqr Tryz.underlying9 (by kernel_rfl))))
set_option maxRecDepth 100000 in
theorem op226 : Opens Tryz.prog 226 Rule := afl (fun e : Rule => (e.dataPattern, e.keyPattern)) (fun b => ⟨b.1, b.2⟩) (fun _ => rfl) Tryz.underlying226 (show Tryz.prog.cellsOf 226 = 2 by kernel_rfl) (afc rfl op224 (ag4 rfl op224))
set_option maxRecDepth 100000 in
theorem op230 : Opens Tryz.prog 230 DataP := afl (fun e : DataP => (e.name, e.content, e.keyName, e.freshUntil, e.signature)) (fun b => ⟨b.1, b.2.1, b.2.2.1, b.2.2.2.1, b.2.2.2.2⟩) (fun _ => rfl) Tryz.underlying230 (show Tryz.prog.cellsOf 230 = 5 by kernel_rfl) (afc rfl op141 (afc rfl (afr Tryz.underlying22 (by kernel_rfl) (aty Tryz.underlying5 (by kernel_rfl))) (afc rfl op141 (afc rfl (ahb Tryz.underlying3 (by kernel_rfl)) (ag4 rfl (ahb Tryz.underlying3 (by kernel_rfl)))))))
set_option maxRecDepth 100000 in
theorem op65 : Opens Tryz.prog 65 TrustPolicy := afl (fun e : TrustPolicy => (e.keys, e.rules, e.anchors, e.certificates)) (fun b => ⟨b.1, b.2.1, b.2.2.1, b.2.2.2⟩) (fun _ => rfl) Tryz.underlying65 (show Tryz.prog.cellsOf 65 = 4 by kernel_rfl) (afc rfl (afr Tryz.underlying60 (by kernel_rfl) op222) (afc rfl (afr Tryz.underlying61 (by kernel_rfl) op226) (afc rfl (afr Tryz.underlying62 (by kernel_rfl) op141) (ag4 rfl (afr Tryz.underlying63 (by kernel_rfl) op230)))))
set_option maxRecDepth 100000 in
theorem op143 : Opens Tryz.prog 143 TableEntry := afl (fun e : TableEntry => (e.name, e.value)) (fun b => ⟨b.1, b.2⟩) (fun _ => rfl) Tryz.underlying143 (show Tryz.prog.cellsOf 143 = 2 by kernel_rfl) (afc rfl op141 (ag4 rfl (ahb Tryz.underlying3 (by kernel_rfl))))
set_option maxRecDepth 100000 in
theorem lifted (os : Os) (started : os.Started) (H : Type) (enc : TypeId × Value → H) :
  ReturnsInHanded {} Tryz.checked os 4 .any (Rows.fnExactNewNetworkSpec.pre6 enc Tryz.prog Tryz.f4 Rows.fnExactNewNetworkRow.domain false) (Rows.fnExactNewNetworkSpec.post enc Tryz.prog Tryz.f4 false true false false) := by
 refine returnsInHanded_of_change (C := Tryz.checked) own started (by kernel_rfl) Tryz.func4
  (ChangeSpec.witness6 (enc := enc) (C := Tryz.checked) false ⟨#[], #[.agg #[.int .i64 (0), .slice none 0 0], .agg #[.slice none 0 0, .slice none 0 0, .slice none 0 0, .slice none 0 0], .slice none 0 0, .int .i64 (0)], []⟩ 8 (by kernel_rfl) (by kernel_rfl) (by kernel_rfl) (by kernel_rfl)) ?_
 intro W base args ds gs before hval0 hW _ _
 have hval : ∀ (j : Nat) t v, Tryz.f4.params[j]? = some t → args[j]? = some v → Value.okWide Tryz.prog W .any base t v := hval0
 have hW' := hW
 obtain ⟨p, q, hA0, _⟩ := hW
 have hA : DataW.TrodAll enc Tryz.prog W 0 (fun _ => true) true Tryz.f4.params.toList args.toList ds p := hA0
 rw [Tryz.params4] at hA hval
 obtain ⟨v0, vs0, d0, ds0, p0, q0, hargs, rfl, rfl, h0, r0⟩ := ChangeShapes.trodAll_cons hA
 obtain ⟨v1, vs1, d1, ds1, p1, q1, rfl, rfl, rfl, h1, r1⟩ := ChangeShapes.trodAll_cons r0
 obtain ⟨v2, vs2, d2, ds2, p2, q2, rfl, rfl, rfl, h2, r2⟩ := ChangeShapes.trodAll_cons r1
 obtain ⟨v3, vs3, d3, ds3, p3, q3, rfl, rfl, rfl, h3, r3⟩ := ChangeShapes.trodAll_cons r2
 obtain ⟨rfl, rfl, rfl⟩ := trodAll_nil r3
 obtain rfl : args = #[v0, v1, v2, v3] := by cases args; simp_all
 obtain ⟨a0, x0, rfl, k0, g0⟩ := (apl Tryz.underlying59 op59) (hval 0 59 _ rfl rfl) h0
 obtain ⟨a1, x1, rfl, k1, g1⟩ := (apl Tryz.underlying65 op65) (hval 1 65 _ rfl rfl) h1
 obtain ⟨a2, x2, rfl, k2, g2⟩ := (auw Tryz.underlying66 (afr Tryz.underlying66 (by kernel_rfl) op143)) (hval 2 66 _ rfl rfl) h2
 obtain ⟨a3, x3, rfl, k3, g3⟩ := (ax2 Tryz.underlying3) (hval 3 3 _ rfl rfl) h3
 have ht := aod a0 a1 a2 a3 k0 k1 k2
 refine (f4 0 (by decide) a0 (g0 (MF.rs .der x0.2.1 x0.2.2 a0.links) (List.mem_cons_self)) a1 (g1 (MF.rs .der x1.1.1 x1.1.2 a1.keys) (List.mem_cons_self)) (g1 (MF.rs .der x1.2.1.1 x1.2.1.2 a1.rules) (by simp [GoT.fa])) (g1 (MF.rs .der x1.2.2.1.1 x1.2.2.1.2 a1.anchors) (by simp [GoT.fa])) (g1 (MF.rs .der x1.2.2.2.1 x1.2.2.2.2 a1.certificates) (by simp [GoT.fa])) (aH := a2) (g2 (MF.rs .der x2.1 x2.2 a2) (List.mem_cons_self)) (aCapacity := a3) k0 k1 k2 k3).2.mono fun e W1 ⟨v, he, hb, hv⟩ => ?_
 rw [ht] at hv
 obtain ⟨rfl, _⟩ := hv
 subst he
 exact ⟨_, rfl, aw6 laid (by kernel_rfl) rfl rfl Tryz.underlying4 (fun ds h => by match ds, h with | [_, _, _, _], _ => rfl) hW' hb.below⟩
set_option maxRecDepth 100000 in
theorem c_inPlace : (Rows.fnExactNewNetworkRow.inPlace == Tryz.prog.inPlace 4) = true := by kernel_rfl
set_option maxRecDepth 100000 in
theorem c_unfollowed : (Rows.fnExactNewNetworkRow.unfollowed == Tryz.prog.unfollowed 4) = true := by kernel_rfl
set_option maxRecDepth 100000 in
theorem c_recurses : (Rows.fnExactNewNetworkRow.recurses == Tryz.prog.recurses 4) = true := by kernel_rfl
set_option maxRecDepth 100000 in
theorem c_named : (Rows.fnExactNewNetworkRow.named == Tryz.prog.varsNamed 4) = true := by kernel_rfl
set_option maxRecDepth 100000 in
theorem c_read : Tryz.f4.params.all (Tryz.pinned.checked.prog.readableRec ·) = true := by kernel_rfl
set_option maxRecDepth 100000 in
theorem c_maps : (Rows.fnExactNewNetworkRow.maps == (Tryz.f4.params.toList ++ Rows.fnExactNewNetworkSpec.plain.varTypes Tryz.pinned.checked.prog).any (Tryz.pinned.checked.prog.mapsRec ·)) = true := by kernel_rfl
set_option maxRecDepth 100000 in
theorem c_ifaces : (Rows.fnExactNewNetworkRow.ifaces == (Tryz.f4.params.toList ++ Rows.fnExactNewNetworkSpec.plain.varTypes Tryz.pinned.checked.prog).any (Tryz.pinned.checked.prog.ifacesRec ·)) = true := by kernel_rfl
set_option maxRecDepth 100000 in
theorem c_loops : (Rows.fnExactNewNetworkRow.loops == (Tryz.f4.params.toList ++ Rows.fnExactNewNetworkSpec.plain.varTypes Tryz.pinned.checked.prog).any (Tryz.pinned.checked.prog.loopsFrom ·)) = true := by kernel_rfl
set_option maxRecDepth 100000 in
theorem c_wide : (Rows.fnExactNewNetworkRow.wideKeys == (Tryz.f4.params.toList ++ Rows.fnExactNewNetworkSpec.plain.varTypes Tryz.pinned.checked.prog ++ Tryz.f4.resultTypes.toList).any (Tryz.pinned.checked.prog.wideKeysFrom ·)) = true := by kernel_rfl
set_option maxRecDepth 100000 in
theorem c_rread : Tryz.f4.resultTypes.all (fun t => Tryz.pinned.checked.prog.readableRec t && decide (t < Tryz.pinned.checked.prog.types.size)) = true := by kernel_rfl
set_option maxRecDepth 100000 in
theorem c_veiled : (Rows.fnExactNewNetworkRow.veiled == (Tryz.f4.params.toList ++ Rows.fnExactNewNetworkSpec.plain.varTypes Tryz.pinned.checked.prog ++ Tryz.f4.resultTypes.toList).any (Tryz.pinned.checked.prog.veiledRec ·)) = true := by kernel_rfl
set_option maxRecDepth 100000 in
theorem c_vfits : Rows.fnExactNewNetworkRow.veiledFits Tryz.pinned.checked.prog Tryz.f4.params.toList (Tryz.f4.params.toList ++ Rows.fnExactNewNetworkSpec.plain.varTypes Tryz.pinned.checked.prog ++ Tryz.f4.resultTypes.toList) = true := by kernel_rfl
set_option maxRecDepth 100000 in
theorem c_enter : Tryz.pinned.checked.prog.mayEnter = true := by kernel_rfl
set_option maxRecDepth 100000 in
theorem c_heard : Tryz.pinned.checked.prog.stopsHeard = true := by kernel_rfl
set_option maxRecDepth 100000 in
theorem c_lifted : (Rows.fnExactNewNetworkRow.lifted == Tryz.pinned.checked.prog.liftsFinal) = true := by kernel_rfl
set_option maxRecDepth 100000 in
theorem c_plainKeys : (Rows.fnExactNewNetworkRow.plainKeys == Tryz.pinned.checked.prog.plainKeys) = true := by kernel_rfl
set_option maxRecDepth 100000 in
theorem c_make : (Tryz.pinned.checked.prog.make == some Rows.fnExactNewNetworkRow.make) = true := by kernel_rfl
set_option maxRecDepth 100000 in
theorem closed : joinedFacts Tryz.pinned.checked.prog 4 Tryz.f4 Rows.fnExactNewNetworkSpec Rows.fnExactNewNetworkRow = true := by
 unfold joinedFacts
 rw [show laidOutB Tryz.pinned.checked.prog = true from laid, show mapsRowed Tryz.pinned.checked.prog = true from Facts.rowed, show (Rows.fnExactNewNetworkRow.inPlace == Tryz.pinned.checked.prog.inPlace 4) = true from c_inPlace, show (Rows.fnExactNewNetworkRow.unfollowed == Tryz.pinned.checked.prog.unfollowed 4) = true from c_unfollowed, show (Rows.fnExactNewNetworkRow.recurses == Tryz.pinned.checked.prog.recurses 4) = true from c_recurses, show (Rows.fnExactNewNetworkRow.named == Tryz.pinned.checked.prog.varsNamed 4) = true from c_named, c_read, c_maps, c_ifaces, c_loops, c_wide, c_rread, c_veiled, c_vfits, c_enter, c_heard, c_lifted, c_plainKeys, c_make]
 kernel_rfl
theorem over : Rows.fnExactNewNetworkRow.holds Tryz.pinned (OpenSpec.ofChange Rows.fnExactNewNetworkSpec) :=
 OpenClaim.holds_of_wide 4 Tryz.f4 rfl rfl rfl rfl rfl rfl rfl ⟨rfl, rfl, rfl, rfl, rfl⟩ rfl rfl rfl rfl rfl (by kernel_rfl) Tryz.func4 closed
  (of_decide_eq_true (by kernel_rfl)) (by unfold Func.isWrapper; first | (rw [if_pos (by decide +kernel)]; kernel_rfl) | (rw [if_neg (by decide +kernel)]; exact ⟨rfl, rfl⟩))
  (fun os started H enc _ => lifted os started H enc)
theorem proved : Rows.FnExactNewNetworkSaid := over
#print axioms proved
end LawNewNetwork
end Go.Proofs.YtpmejlbgjkiobaaGreat
