/-
  What the proof of one law needs: rules of the program logic, functions as Lean functions, contracts. No condition but what each says. Written by a program (pack.py) out of my own texts.
-/
import Derived.Test.YtdimfabadjfkiaaGreatKValidNetwork7
namespace Go.Proofs.YtdimfabadjfkiaaGreat
open Go.Stp
set_option linter.unusedVariables false
set_option linter.unusedSimpArgs false
theorem f396 (w : World) (n : Nat) (hn : n + 0 ≤ 9) (s : (List CacheEntry)) (ps : Option Addr) (cs : Nat) (N0 : RdSl (hp w) ps cs s) (fg : FuncId) (fc : List Value) (fq : CacheEntry → Bool) (ff : ∀ w1, Kp emp w w1 → ∀ (e0 : CacheEntry) (x0 : GoT.X CacheEntry), GoT.ok n e0 → All (hp w1) (GoT.fa .der e0 x0) → Does Tryz.prog fg ([Value.agg ⟨GoT.sh e0 x0⟩] ++ fc).toArray w1 emp (fun rv _ => rv = .bool (fq e0) ∧ True)) (hoks : GoT.ok n s) :
  Does Tryz.prog 396 #[.slice ps ((s).length) cs, .func (.func fg) #[] fc.toArray] w emp (fun (rv : Value) (_ : World) => rv = .int .i64 ((slices_IndexFunc_CacheEntry s fq)) ∧ GoT.ok n ((slices_IndexFunc_CacheEntry s fq) : Int)) := by
 have hbP := bd_pos n
 have hbB := bd_big (n := n) (by omega)
 refine WX.enter (tt := tt) (Γ := [(0, MF.rs .stb ps cs s)]) Tryz.func396 rfl (by kernel_rfl) rfl (allS_cons rfl N0 allS_nil) ?_
 refine R0 ?_
 have r1 : (s).length ≤ bd n := (okl hoks).1
 refine WX.loop (ι := Nat) ⟨fun i => (i ≤ (s).length) ∧ (slices_IndexFunc_CacheEntry_L1 fq s 0 = slices_IndexFunc_CacheEntry_L1 fq ((s).drop i) i), fun i => (s).length - i, fun i => [(8, .v (.int .i64 (((i : Nat) : Int)))), (7, .v (.int .i64 ((((s).length : Nat) : Int)))), (0, .v (.slice ps ((s).length) cs)), (1, .v (.func (.func fg) #[] fc.toArray))], fun i => [], fun i => [], fun i => [(0, MF.rs .stb ps cs s)]⟩ 0 ⟨(Nat.zero_le _), rfl⟩
  (.cons rfl (.cons rfl (.cons rfl (.cons rfl (.nil))))) .nil .nil [0] rfl ?_
 rintro i hpre
 have hpre_ : (i ≤ (s).length) ∧ (slices_IndexFunc_CacheEntry_L1 fq s 0 = slices_IndexFunc_CacheEntry_L1 fq ((s).drop i) i) := hpre
 clear hpre
 obtain ⟨v1, v2⟩ := hpre_
 refine R0 ?_
 refine WX.cases 9 rfl (fun h1 => ?_) (fun h1 => ?_)
 ·skip
  have h1d := B.dt h1
  have e1i : i < (s).length := (by omega)
  obtain ⟨e1, e1h⟩ : ∃ e1, (s)[i]? = some e1 := ⟨_, List.getElem?_eq_getElem e1i⟩
  have ok1 : GoT.ok n e1 := (okl hoks).2 _ (List.mem_of_getElem? e1h)
  refine R0 ?_
  refine WX.idx 0 i ttOk rfl rfl rfl rfl rfl rfl rfl rfl rfl rfl e1i ?_
  rintro ad1 rfl
  refine WX.ldE 0 1 e1 ttOk rfl rfl rfl rfl rfl rfl rfl rfl e1h (fun _ => rfl) (fun _ => rfl) ?_
  rintro ⟨⟨⟨p1, c1⟩, ⟨p2, c2⟩, ⟨p3, c3⟩, ⟨⟩, ⟨⟩⟩, ⟨⟩⟩
  refine WX.callV rfl rfl rfl rfl rfl (fun _ => rfl) rfl (fun w G bs hI hΓ => ff w hI.keep e1 (((p1, c1), (p2, c2), (p3, c3), (), ()), ()) ok1 (All.cons (hΓ.get 1 rfl : RdSl _ _ _ _) (All.cons (hΓ.get 2 rfl : RdSl _ _ _ _) (All.cons (hΓ.get 3 rfl : RdSl _ _ _ _) All.nil)))) ?_
  intro hq1
  refine R0 ?_
  refine WX.cases 16 rfl (fun h2 => ?_) (fun h2 => ?_)
  ·skip
   refine R0 ?_
   have hP1 : slices_IndexFunc_CacheEntry_L1 fq s 0 = (some ((i : Nat) : Int)) := by rw [v2, drop_get e1h]; simp only [slices_IndexFunc_CacheEntry_L1, h2, ct, cf]
   have hP2 : slices_IndexFunc_CacheEntry s fq = ((i : Nat) : Int) := by simp only [slices_IndexFunc_CacheEntry, hP1, ct, cf]
   refine R1 ?_
   intro w1 G bs hI hΓ
   rw [hP2]
   exact ⟨rfl, (show I64 ((i : Nat) : Int) from (by unfold I64; omega))⟩
  ·skip
   refine R0 ?_
   refine WX.see rfl rfl rfl (fun _ hΓ => looks_arith rfl rfl rfl rfl (by unfold I64; first | omega | (simp only [List.length_take] at *; omega))) ?_
   refine R0 ?_
   exact WX.iter (i + 1) ⟨(by omega), (by rw [v2, drop_get e1h]; simp only [slices_IndexFunc_CacheEntry_L1, h2, ct, cf])⟩ (by first | (dsimp only; omega) | omega) (.cons rfl (.cons rfl (.cons rfl (.cons rfl (.nil))))) .nil .nil [0] rfl
 ·skip
  have h1d := B.df h1
  refine R0 ?_
  have hX1 : slices_IndexFunc_CacheEntry_L1 fq s 0 = none := by rw [v2, List.drop_eq_nil_of_le (show (s).length ≤ i by omega)]; simp only [slices_IndexFunc_CacheEntry_L1, ct, cf]
  have hP3 : slices_IndexFunc_CacheEntry s fq = (-1) := by simp only [slices_IndexFunc_CacheEntry, hX1, ct, cf]
  refine R1 ?_
  intro w1 G bs hI hΓ
  rw [hP3]
  exact ⟨rfl, (show I64 (-1) from (by unfold I64; omega))⟩
theorem ltL_slices_IndexFunc_CacheEntry : ∀ (f : CacheEntry → Bool) (l : List CacheEntry) (i : Nat) (j : Int), slices_IndexFunc_CacheEntry_L1 f l i = some j → j < ((i + l.length : Nat) : Int)
  | f, [], i, j, h => by cases h
  | f, x :: l, i, j, h => by
    simp only [slices_IndexFunc_CacheEntry_L1] at h
    cases hx : f x
    · rw [hx, cond_false] at h
      have := ltL_slices_IndexFunc_CacheEntry f l (i + 1) j h
      simp only [List.length_cons]; omega
    · rw [hx, cond_true] at h
      cases h
      simp only [List.length_cons]; omega
theorem ltI_slices_IndexFunc_CacheEntry (l : List CacheEntry) (f : CacheEntry → Bool) : slices_IndexFunc_CacheEntry l f < ((l.length : Nat) : Int) := by
  unfold slices_IndexFunc_CacheEntry
  cases h : slices_IndexFunc_CacheEntry_L1 f l 0 with
  | none => show (-1 : Int) < _; omega
  | some j => have := ltL_slices_IndexFunc_CacheEntry f l 0 j h; show j < _; omega
theorem f349 (w : World) (n : Nat) (hn : n + 0 ≤ 9) (s : (List CacheEntry)) (ps : Option Addr) (cs : Nat) (N0 : RdSl (hp w) ps cs s) (fg : FuncId) (fc : List Value) (fq : CacheEntry → Bool) (ff : ∀ w1, Kp emp w w1 → ∀ (e0 : CacheEntry) (x0 : GoT.X CacheEntry), GoT.ok n e0 → All (hp w1) (GoT.fa .der e0 x0) → Does Tryz.prog fg ([Value.agg ⟨GoT.sh e0 x0⟩] ++ fc).toArray w1 emp (fun rv _ => rv = .bool (fq e0) ∧ True)) (hoks : GoT.ok n s) :
  Does Tryz.prog 349 #[.slice ps ((s).length) cs, .func (.func fg) #[] fc.toArray] w emp (fun (rv : Value) (_ : World) => rv = .bool (slices_ContainsFunc_CacheEntry s fq) ∧ True) := by
 have hbP := bd_pos n
 have hbB := bd_big (n := n) (by omega)
 refine WX.enter (tt := tt) (Γ := [(0, MF.rs .stb ps cs s)]) Tryz.func349 rfl (by kernel_rfl) rfl (allS_cons rfl N0 allS_nil) ?_
 refine R0 ?_
 refine WX.callV rfl rfl rfl rfl rfl (fun _ => rfl) rfl (fun w G bs hI hΓ => f396 w n (by omega) s ps cs (hΓ.get 0 rfl) fg fc fq (fun w1_ hb_ => ff w1_ (hI.keep.trans hb_)) hoks) ?_
 intro hq1
 have q1 := ltI_slices_IndexFunc_CacheEntry s fq
 refine R0 ?_
 have hP1 : slices_ContainsFunc_CacheEntry s fq = (decide ((slices_IndexFunc_CacheEntry s fq) ≥ 0)) := by simp only [slices_ContainsFunc_CacheEntry, ct, cf]
 exact R3 hP1
theorem f397 (w : World) (n : Nat) (hn : n + 0 ≤ 9) (s : (List PendingInterest)) (ps : Option Addr) (cs : Nat) (N0 : RdSl (hp w) ps cs s) (fg : FuncId) (fc : List Value) (fq : PendingInterest → Bool) (ff : ∀ w1, Kp emp w w1 → ∀ (e0 : PendingInterest) (x0 : GoT.X PendingInterest), GoT.ok n e0 → All (hp w1) (GoT.fa .der e0 x0) → Does Tryz.prog fg ([Value.agg ⟨GoT.sh e0 x0⟩] ++ fc).toArray w1 emp (fun rv _ => rv = .bool (fq e0) ∧ True)) (hoks : GoT.ok n s) :
  Does Tryz.prog 397 #[.slice ps ((s).length) cs, .func (.func fg) #[] fc.toArray] w emp (fun (rv : Value) (_ : World) => rv = .int .i64 ((slices_IndexFunc_PendingInterest s fq)) ∧ GoT.ok n ((slices_IndexFunc_PendingInterest s fq) : Int)) := by
 have hbP := bd_pos n
 have hbB := bd_big (n := n) (by omega)
 refine WX.enter (tt := tt) (Γ := [(0, MF.rs .stb ps cs s)]) Tryz.func397 rfl (by kernel_rfl) rfl (allS_cons rfl N0 allS_nil) ?_
 refine R0 ?_
 have r1 : (s).length ≤ bd n := (okl hoks).1
 refine WX.loop (ι := Nat) ⟨fun i => (i ≤ (s).length) ∧ (slices_IndexFunc_PendingInterest_L1 fq s 0 = slices_IndexFunc_PendingInterest_L1 fq ((s).drop i) i), fun i => (s).length - i, fun i => [(8, .v (.int .i64 (((i : Nat) : Int)))), (7, .v (.int .i64 ((((s).length : Nat) : Int)))), (0, .v (.slice ps ((s).length) cs)), (1, .v (.func (.func fg) #[] fc.toArray))], fun i => [], fun i => [], fun i => [(0, MF.rs .stb ps cs s)]⟩ 0 ⟨(Nat.zero_le _), rfl⟩
  (.cons rfl (.cons rfl (.cons rfl (.cons rfl (.nil))))) .nil .nil [0] rfl ?_
 rintro i hpre
 have hpre_ : (i ≤ (s).length) ∧ (slices_IndexFunc_PendingInterest_L1 fq s 0 = slices_IndexFunc_PendingInterest_L1 fq ((s).drop i) i) := hpre
 clear hpre
 obtain ⟨v1, v2⟩ := hpre_
 refine R0 ?_
 refine WX.cases 9 rfl (fun h1 => ?_) (fun h1 => ?_)
 ·skip
  have h1d := B.dt h1
  have e1i : i < (s).length := (by omega)
  obtain ⟨e1, e1h⟩ : ∃ e1, (s)[i]? = some e1 := ⟨_, List.getElem?_eq_getElem e1i⟩
  have ok1 : GoT.ok n e1 := (okl hoks).2 _ (List.mem_of_getElem? e1h)
  refine R0 ?_
  refine WX.idx 0 i ttOk rfl rfl rfl rfl rfl rfl rfl rfl rfl rfl e1i ?_
  rintro ad1 rfl
  refine WX.ldE 0 1 e1 ttOk rfl rfl rfl rfl rfl rfl rfl rfl e1h (fun _ => rfl) (fun _ => rfl) ?_
  rintro ⟨⟨p1, c1⟩, ⟨p2, c2⟩, ⟨⟩⟩
  refine WX.callV rfl rfl rfl rfl rfl (fun _ => rfl) rfl (fun w G bs hI hΓ => ff w hI.keep e1 ((p1, c1), (p2, c2), ()) ok1 (All.cons (hΓ.get 1 rfl : RdSl _ _ _ _) (All.cons (hΓ.get 2 rfl : RdSl _ _ _ _) All.nil))) ?_
  intro hq1
  refine R0 ?_
  refine WX.cases 16 rfl (fun h2 => ?_) (fun h2 => ?_)
  ·skip
   refine R0 ?_
   have hP1 : slices_IndexFunc_PendingInterest_L1 fq s 0 = (some ((i : Nat) : Int)) := by rw [v2, drop_get e1h]; simp only [slices_IndexFunc_PendingInterest_L1, h2, ct, cf]
   have hP2 : slices_IndexFunc_PendingInterest s fq = ((i : Nat) : Int) := by simp only [slices_IndexFunc_PendingInterest, hP1, ct, cf]
   refine R1 ?_
   intro w1 G bs hI hΓ
   rw [hP2]
   exact ⟨rfl, (show I64 ((i : Nat) : Int) from (by unfold I64; omega))⟩
  ·skip
   refine R0 ?_
   refine WX.see rfl rfl rfl (fun _ hΓ => looks_arith rfl rfl rfl rfl (by unfold I64; first | omega | (simp only [List.length_take] at *; omega))) ?_
   refine R0 ?_
   exact WX.iter (i + 1) ⟨(by omega), (by rw [v2, drop_get e1h]; simp only [slices_IndexFunc_PendingInterest_L1, h2, ct, cf])⟩ (by first | (dsimp only; omega) | omega) (.cons rfl (.cons rfl (.cons rfl (.cons rfl (.nil))))) .nil .nil [0] rfl
 ·skip
  have h1d := B.df h1
  refine R0 ?_
  have hX1 : slices_IndexFunc_PendingInterest_L1 fq s 0 = none := by rw [v2, List.drop_eq_nil_of_le (show (s).length ≤ i by omega)]; simp only [slices_IndexFunc_PendingInterest_L1, ct, cf]
  have hP3 : slices_IndexFunc_PendingInterest s fq = (-1) := by simp only [slices_IndexFunc_PendingInterest, hX1, ct, cf]
  refine R1 ?_
  intro w1 G bs hI hΓ
  rw [hP3]
  exact ⟨rfl, (show I64 (-1) from (by unfold I64; omega))⟩
theorem ltL_slices_IndexFunc_PendingInterest : ∀ (f : PendingInterest → Bool) (l : List PendingInterest) (i : Nat) (j : Int), slices_IndexFunc_PendingInterest_L1 f l i = some j → j < ((i + l.length : Nat) : Int)
  | f, [], i, j, h => by cases h
  | f, x :: l, i, j, h => by
    simp only [slices_IndexFunc_PendingInterest_L1] at h
    cases hx : f x
    · rw [hx, cond_false] at h
      have := ltL_slices_IndexFunc_PendingInterest f l (i + 1) j h
      simp only [List.length_cons]; omega
    · rw [hx, cond_true] at h
      cases h
      simp only [List.length_cons]; omega
theorem ltI_slices_IndexFunc_PendingInterest (l : List PendingInterest) (f : PendingInterest → Bool) : slices_IndexFunc_PendingInterest l f < ((l.length : Nat) : Int) := by
  unfold slices_IndexFunc_PendingInterest
  cases h : slices_IndexFunc_PendingInterest_L1 f l 0 with
  | none => show (-1 : Int) < _; omega
  | some j => have := ltL_slices_IndexFunc_PendingInterest f l 0 j h; show j < _; omega
theorem f399 (w : World) (n : Nat) (hn : n + 0 ≤ 9) (s : (List Route)) (ps : Option Addr) (cs : Nat) (N0 : RdSl (hp w) ps cs s) (fg : FuncId) (fc : List Value) (fq : Route → Bool) (ff : ∀ w1, Kp emp w w1 → ∀ (e0 : Route) (x0 : GoT.X Route), GoT.ok n e0 → All (hp w1) (GoT.fa .der e0 x0) → Does Tryz.prog fg ([Value.agg ⟨GoT.sh e0 x0⟩] ++ fc).toArray w1 emp (fun rv _ => rv = .bool (fq e0) ∧ True)) (hoks : GoT.ok n s) :
  Does Tryz.prog 399 #[.slice ps ((s).length) cs, .func (.func fg) #[] fc.toArray] w emp (fun (rv : Value) (_ : World) => rv = .int .i64 ((slices_IndexFunc_Route s fq)) ∧ GoT.ok n ((slices_IndexFunc_Route s fq) : Int)) := by
 have hbP := bd_pos n
 have hbB := bd_big (n := n) (by omega)
 refine WX.enter (tt := tt) (Γ := [(0, MF.rs .stb ps cs s)]) Tryz.func399 rfl (by kernel_rfl) rfl (allS_cons rfl N0 allS_nil) ?_
 refine R0 ?_
 have r1 : (s).length ≤ bd n := (okl hoks).1
 refine WX.loop (ι := Nat) ⟨fun i => (i ≤ (s).length) ∧ (slices_IndexFunc_Route_L1 fq s 0 = slices_IndexFunc_Route_L1 fq ((s).drop i) i), fun i => (s).length - i, fun i => [(8, .v (.int .i64 (((i : Nat) : Int)))), (7, .v (.int .i64 ((((s).length : Nat) : Int)))), (0, .v (.slice ps ((s).length) cs)), (1, .v (.func (.func fg) #[] fc.toArray))], fun i => [], fun i => [], fun i => [(0, MF.rs .stb ps cs s)]⟩ 0 ⟨(Nat.zero_le _), rfl⟩
  (.cons rfl (.cons rfl (.cons rfl (.cons rfl (.nil))))) .nil .nil [0] rfl ?_
 rintro i hpre
 have hpre_ : (i ≤ (s).length) ∧ (slices_IndexFunc_Route_L1 fq s 0 = slices_IndexFunc_Route_L1 fq ((s).drop i) i) := hpre
 clear hpre
 obtain ⟨v1, v2⟩ := hpre_
 refine R0 ?_
 refine WX.cases 9 rfl (fun h1 => ?_) (fun h1 => ?_)
 ·skip
  have h1d := B.dt h1
  have e1i : i < (s).length := (by omega)
  obtain ⟨e1, e1h⟩ : ∃ e1, (s)[i]? = some e1 := ⟨_, List.getElem?_eq_getElem e1i⟩
  have ok1 : GoT.ok n e1 := (okl hoks).2 _ (List.mem_of_getElem? e1h)
  refine R0 ?_
  refine WX.idx 0 i ttOk rfl rfl rfl rfl rfl rfl rfl rfl rfl rfl e1i ?_
  rintro ad1 rfl
  refine WX.ldE 0 1 e1 ttOk rfl rfl rfl rfl rfl rfl rfl rfl e1h (fun _ => rfl) (fun _ => rfl) ?_
  rintro ⟨⟨p1, c1⟩, ⟨⟩, ⟨⟩⟩
  refine WX.callV rfl rfl rfl rfl rfl (fun _ => rfl) rfl (fun w G bs hI hΓ => ff w hI.keep e1 ((p1, c1), (), ()) ok1 (All.cons (hΓ.get 1 rfl : RdSl _ _ _ _) All.nil)) ?_
  intro hq1
  refine R0 ?_
  refine WX.cases 16 rfl (fun h2 => ?_) (fun h2 => ?_)
  ·skip
   refine R0 ?_
   have hP1 : slices_IndexFunc_Route_L1 fq s 0 = (some ((i : Nat) : Int)) := by rw [v2, drop_get e1h]; simp only [slices_IndexFunc_Route_L1, h2, ct, cf]
   have hP2 : slices_IndexFunc_Route s fq = ((i : Nat) : Int) := by simp only [slices_IndexFunc_Route, hP1, ct, cf]
   refine R1 ?_
   intro w1 G bs hI hΓ
   rw [hP2]
   exact ⟨rfl, (show I64 ((i : Nat) : Int) from (by unfold I64; omega))⟩
  ·skip
   refine R0 ?_
   refine WX.see rfl rfl rfl (fun _ hΓ => looks_arith rfl rfl rfl rfl (by unfold I64; first | omega | (simp only [List.length_take] at *; omega))) ?_
   refine R0 ?_
   exact WX.iter (i + 1) ⟨(by omega), (by rw [v2, drop_get e1h]; simp only [slices_IndexFunc_Route_L1, h2, ct, cf])⟩ (by first | (dsimp only; omega) | omega) (.cons rfl (.cons rfl (.cons rfl (.cons rfl (.nil))))) .nil .nil [0] rfl
 ·skip
  have h1d := B.df h1
  refine R0 ?_
  have hX1 : slices_IndexFunc_Route_L1 fq s 0 = none := by rw [v2, List.drop_eq_nil_of_le (show (s).length ≤ i by omega)]; simp only [slices_IndexFunc_Route_L1, ct, cf]
  have hP3 : slices_IndexFunc_Route s fq = (-1) := by simp only [slices_IndexFunc_Route, hX1, ct, cf]
  refine R1 ?_
  intro w1 G bs hI hΓ
  rw [hP3]
  exact ⟨rfl, (show I64 (-1) from (by unfold I64; omega))⟩
theorem ltL_slices_IndexFunc_Route : ∀ (f : Route → Bool) (l : List Route) (i : Nat) (j : Int), slices_IndexFunc_Route_L1 f l i = some j → j < ((i + l.length : Nat) : Int)
  | f, [], i, j, h => by cases h
  | f, x :: l, i, j, h => by
    simp only [slices_IndexFunc_Route_L1] at h
    cases hx : f x
    · rw [hx, cond_false] at h
      have := ltL_slices_IndexFunc_Route f l (i + 1) j h
      simp only [List.length_cons]; omega
    · rw [hx, cond_true] at h
      cases h
      simp only [List.length_cons]; omega
theorem ltI_slices_IndexFunc_Route (l : List Route) (f : Route → Bool) : slices_IndexFunc_Route l f < ((l.length : Nat) : Int) := by
  unfold slices_IndexFunc_Route
  cases h : slices_IndexFunc_Route_L1 f l 0 with
  | none => show (-1 : Int) < _; omega
  | some j => have := ltL_slices_IndexFunc_Route f l 0 j h; show j < _; omega
theorem f401 (w : World) (n : Nat) (hn : n + 0 ≤ 9) (s : (List Measurement)) (ps : Option Addr) (cs : Nat) (N0 : RdSl (hp w) ps cs s) (fg : FuncId) (fc : List Value) (fq : Measurement → Bool) (ff : ∀ w1, Kp emp w w1 → ∀ (e0 : Measurement) (x0 : GoT.X Measurement), GoT.ok n e0 → All (hp w1) (GoT.fa .der e0 x0) → Does Tryz.prog fg ([Value.agg ⟨GoT.sh e0 x0⟩] ++ fc).toArray w1 emp (fun rv _ => rv = .bool (fq e0) ∧ True)) (hoks : GoT.ok n s) :
  Does Tryz.prog 401 #[.slice ps ((s).length) cs, .func (.func fg) #[] fc.toArray] w emp (fun (rv : Value) (_ : World) => rv = .int .i64 ((slices_IndexFunc_Measurement s fq)) ∧ GoT.ok n ((slices_IndexFunc_Measurement s fq) : Int)) := by
 have hbP := bd_pos n
 have hbB := bd_big (n := n) (by omega)
 refine WX.enter (tt := tt) (Γ := [(0, MF.rs .stb ps cs s)]) Tryz.func401 rfl (by kernel_rfl) rfl (allS_cons rfl N0 allS_nil) ?_
 refine R0 ?_
 have r1 : (s).length ≤ bd n := (okl hoks).1
 refine WX.loop (ι := Nat) ⟨fun i => (i ≤ (s).length) ∧ (slices_IndexFunc_Measurement_L1 fq s 0 = slices_IndexFunc_Measurement_L1 fq ((s).drop i) i), fun i => (s).length - i, fun i => [(8, .v (.int .i64 (((i : Nat) : Int)))), (7, .v (.int .i64 ((((s).length : Nat) : Int)))), (0, .v (.slice ps ((s).length) cs)), (1, .v (.func (.func fg) #[] fc.toArray))], fun i => [], fun i => [], fun i => [(0, MF.rs .stb ps cs s)]⟩ 0 ⟨(Nat.zero_le _), rfl⟩
  (.cons rfl (.cons rfl (.cons rfl (.cons rfl (.nil))))) .nil .nil [0] rfl ?_
 rintro i hpre
 have hpre_ : (i ≤ (s).length) ∧ (slices_IndexFunc_Measurement_L1 fq s 0 = slices_IndexFunc_Measurement_L1 fq ((s).drop i) i) := hpre
 clear hpre
 obtain ⟨v1, v2⟩ := hpre_
 refine R0 ?_
 refine WX.cases 9 rfl (fun h1 => ?_) (fun h1 => ?_)
 ·skip
  have h1d := B.dt h1
  have e1i : i < (s).length := (by omega)
  obtain ⟨e1, e1h⟩ : ∃ e1, (s)[i]? = some e1 := ⟨_, List.getElem?_eq_getElem e1i⟩
  have ok1 : GoT.ok n e1 := (okl hoks).2 _ (List.mem_of_getElem? e1h)
  refine R0 ?_
  refine WX.idx 0 i ttOk rfl rfl rfl rfl rfl rfl rfl rfl rfl rfl e1i ?_
  rintro ad1 rfl
  refine WX.ldE 0 1 e1 ttOk rfl rfl rfl rfl rfl rfl rfl rfl e1h (fun _ => rfl) (fun _ => rfl) ?_
  rintro ⟨⟨p1, c1⟩, ⟨⟩, ⟨⟩⟩
  refine WX.callV rfl rfl rfl rfl rfl (fun _ => rfl) rfl (fun w G bs hI hΓ => ff w hI.keep e1 ((p1, c1), (), ()) ok1 (All.cons (hΓ.get 1 rfl : RdSl _ _ _ _) All.nil)) ?_
  intro hq1
  refine R0 ?_
  refine WX.cases 16 rfl (fun h2 => ?_) (fun h2 => ?_)
  ·skip
   refine R0 ?_
   have hP1 : slices_IndexFunc_Measurement_L1 fq s 0 = (some ((i : Nat) : Int)) := by rw [v2, drop_get e1h]; simp only [slices_IndexFunc_Measurement_L1, h2, ct, cf]
   have hP2 : slices_IndexFunc_Measurement s fq = ((i : Nat) : Int) := by simp only [slices_IndexFunc_Measurement, hP1, ct, cf]
   refine R1 ?_
   intro w1 G bs hI hΓ
   rw [hP2]
   exact ⟨rfl, (show I64 ((i : Nat) : Int) from (by unfold I64; omega))⟩
  ·skip
   refine R0 ?_
   refine WX.see rfl rfl rfl (fun _ hΓ => looks_arith rfl rfl rfl rfl (by unfold I64; first | omega | (simp only [List.length_take] at *; omega))) ?_
   refine R0 ?_
   exact WX.iter (i + 1) ⟨(by omega), (by rw [v2, drop_get e1h]; simp only [slices_IndexFunc_Measurement_L1, h2, ct, cf])⟩ (by first | (dsimp only; omega) | omega) (.cons rfl (.cons rfl (.cons rfl (.cons rfl (.nil))))) .nil .nil [0] rfl
 ·skip
  have h1d := B.df h1
  refine R0 ?_
  have hX1 : slices_IndexFunc_Measurement_L1 fq s 0 = none := by rw [v2, List.drop_eq_nil_of_le (show (s).length ≤ i by omega)]; simp only [slices_IndexFunc_Measurement_L1, ct, cf]
  have hP3 : slices_IndexFunc_Measurement s fq = (-1) := by simp only [slices_IndexFunc_Measurement, hX1, ct, cf]
  refine R1 ?_
  intro w1 G bs hI hΓ
  rw [hP3]
  exact ⟨rfl, (show I64 (-1) from (by unfold I64; omega))⟩
theorem ltL_slices_IndexFunc_Measurement : ∀ (f : Measurement → Bool) (l : List Measurement) (i : Nat) (j : Int), slices_IndexFunc_Measurement_L1 f l i = some j → j < ((i + l.length : Nat) : Int)
  | f, [], i, j, h => by cases h
  | f, x :: l, i, j, h => by
    simp only [slices_IndexFunc_Measurement_L1] at h
    cases hx : f x
    · rw [hx, cond_false] at h
      have := ltL_slices_IndexFunc_Measurement f l (i + 1) j h
      simp only [List.length_cons]; omega
    · rw [hx, cond_true] at h
      cases h
      simp only [List.length_cons]; omega
theorem ltI_slices_IndexFunc_Measurement (l : List Measurement) (f : Measurement → Bool) : slices_IndexFunc_Measurement l f < ((l.length : Nat) : Int) := by
  unfold slices_IndexFunc_Measurement
  cases h : slices_IndexFunc_Measurement_L1 f l 0 with
  | none => show (-1 : Int) < _; omega
  | some j => have := ltL_slices_IndexFunc_Measurement f l 0 j h; show j < _; omega
theorem f287 (w : World) (n : Nat) (hn : n + 0 ≤ 9) (s : (List NodeP)) (ps : Option Addr) (cs : Nat) (N0 : RdSl (hp w) ps cs s) (fg : FuncId) (fc : List Value) (fq : NodeP → Bool) (ff : ∀ w1, Kp emp w w1 → ∀ (e0 : NodeP) (x0 : GoT.X NodeP), GoT.ok n e0 → All (hp w1) (GoT.fa .der e0 x0) → Does Tryz.prog fg ([Value.agg ⟨GoT.sh e0 x0⟩] ++ fc).toArray w1 emp (fun rv _ => rv = .bool (fq e0) ∧ True)) (hoks : GoT.ok n s) :
  Does Tryz.prog 287 #[.slice ps ((s).length) cs, .func (.func fg) #[] fc.toArray] w emp (fun (rv : Value) (_ : World) => rv = .int .i64 ((slices_IndexFunc_Node s fq)) ∧ GoT.ok n ((slices_IndexFunc_Node s fq) : Int)) := by
 have hbP := bd_pos n
 have hbB := bd_big (n := n) (by omega)
 refine WX.enter (tt := tt) (Γ := [(0, MF.rs .stb ps cs s)]) Tryz.func287 rfl (by kernel_rfl) rfl (allS_cons rfl N0 allS_nil) ?_
 refine R0 ?_
 have r1 : (s).length ≤ bd n := (okl hoks).1
 refine WX.loop (ι := Nat) ⟨fun i => (i ≤ (s).length) ∧ (slices_IndexFunc_Node_L1 fq s 0 = slices_IndexFunc_Node_L1 fq ((s).drop i) i), fun i => (s).length - i, fun i => [(8, .v (.int .i64 (((i : Nat) : Int)))), (7, .v (.int .i64 ((((s).length : Nat) : Int)))), (0, .v (.slice ps ((s).length) cs)), (1, .v (.func (.func fg) #[] fc.toArray))], fun i => [], fun i => [], fun i => [(0, MF.rs .stb ps cs s)]⟩ 0 ⟨(Nat.zero_le _), rfl⟩
  (.cons rfl (.cons rfl (.cons rfl (.cons rfl (.nil))))) .nil .nil [0] rfl ?_
 rintro i hpre
 have hpre_ : (i ≤ (s).length) ∧ (slices_IndexFunc_Node_L1 fq s 0 = slices_IndexFunc_Node_L1 fq ((s).drop i) i) := hpre
 clear hpre
 obtain ⟨v1, v2⟩ := hpre_
 refine R0 ?_
 refine WX.cases 9 rfl (fun h1 => ?_) (fun h1 => ?_)
 ·skip
  have h1d := B.dt h1
  have e1i : i < (s).length := (by omega)
  obtain ⟨e1, e1h⟩ : ∃ e1, (s)[i]? = some e1 := ⟨_, List.getElem?_eq_getElem e1i⟩
  have ok1 : GoT.ok n e1 := (okl hoks).2 _ (List.mem_of_getElem? e1h)
  refine R0 ?_
  refine WX.idx 0 i ttOk rfl rfl rfl rfl rfl rfl rfl rfl rfl rfl e1i ?_
  rintro ad1 rfl
  refine WX.ldE 0 1 e1 ttOk rfl rfl rfl rfl rfl rfl rfl rfl e1h (fun _ => rfl) (fun _ => rfl) ?_
  rintro ⟨⟨p1, c1⟩, ⟨⟨⟩, ⟨p2, c2⟩⟩, ⟨p3, c3⟩, ⟨p4, c4⟩, ⟨p5, c5⟩, ⟨p6, c6⟩, ⟨⟩⟩
  refine WX.callV rfl rfl rfl rfl rfl (fun _ => rfl) rfl (fun w G bs hI hΓ => ff w hI.keep e1 ((p1, c1), ((), (p2, c2)), (p3, c3), (p4, c4), (p5, c5), (p6, c6), ()) ok1 (All.cons (hΓ.get 1 rfl : RdSl _ _ _ _) (All.cons (hΓ.get 2 rfl : RdSl _ _ _ _) (All.cons (hΓ.get 3 rfl : RdSl _ _ _ _) (All.cons (hΓ.get 4 rfl : RdSl _ _ _ _) (All.cons (hΓ.get 5 rfl : RdSl _ _ _ _) (All.cons (hΓ.get 6 rfl : RdSl _ _ _ _) All.nil))))))) ?_
  intro hq1
  refine R0 ?_
  refine WX.cases 16 rfl (fun h2 => ?_) (fun h2 => ?_)
  ·skip
   refine R0 ?_
   have hP1 : slices_IndexFunc_Node_L1 fq s 0 = (some ((i : Nat) : Int)) := by rw [v2, drop_get e1h]; simp only [slices_IndexFunc_Node_L1, h2, ct, cf]
   have hP2 : slices_IndexFunc_Node s fq = ((i : Nat) : Int) := by simp only [slices_IndexFunc_Node, hP1, ct, cf]
   refine R1 ?_
   intro w1 G bs hI hΓ
   rw [hP2]
   exact ⟨rfl, (show I64 ((i : Nat) : Int) from (by unfold I64; omega))⟩
  ·skip
   refine R0 ?_
   refine WX.see rfl rfl rfl (fun _ hΓ => looks_arith rfl rfl rfl rfl (by unfold I64; first | omega | (simp only [List.length_take] at *; omega))) ?_
   refine R0 ?_
   exact WX.iter (i + 1) ⟨(by omega), (by rw [v2, drop_get e1h]; simp only [slices_IndexFunc_Node_L1, h2, ct, cf])⟩ (by first | (dsimp only; omega) | omega) (.cons rfl (.cons rfl (.cons rfl (.cons rfl (.nil))))) .nil .nil [0] rfl
 ·skip
  have h1d := B.df h1
  refine R0 ?_
  have hX1 : slices_IndexFunc_Node_L1 fq s 0 = none := by rw [v2, List.drop_eq_nil_of_le (show (s).length ≤ i by omega)]; simp only [slices_IndexFunc_Node_L1, ct, cf]
  have hP3 : slices_IndexFunc_Node s fq = (-1) := by simp only [slices_IndexFunc_Node, hX1, ct, cf]
  refine R1 ?_
  intro w1 G bs hI hΓ
  rw [hP3]
  exact ⟨rfl, (show I64 (-1) from (by unfold I64; omega))⟩
theorem ltL_slices_IndexFunc_Node : ∀ (f : NodeP → Bool) (l : List NodeP) (i : Nat) (j : Int), slices_IndexFunc_Node_L1 f l i = some j → j < ((i + l.length : Nat) : Int)
  | f, [], i, j, h => by cases h
  | f, x :: l, i, j, h => by
    simp only [slices_IndexFunc_Node_L1] at h
    cases hx : f x
    · rw [hx, cond_false] at h
      have := ltL_slices_IndexFunc_Node f l (i + 1) j h
      simp only [List.length_cons]; omega
    · rw [hx, cond_true] at h
      cases h
      simp only [List.length_cons]; omega
theorem ltI_slices_IndexFunc_Node (l : List NodeP) (f : NodeP → Bool) : slices_IndexFunc_Node l f < ((l.length : Nat) : Int) := by
  unfold slices_IndexFunc_Node
  cases h : slices_IndexFunc_Node_L1 f l 0 with
  | none => show (-1 : Int) < _; omega
  | some j => have := ltL_slices_IndexFunc_Node f l 0 j h; show j < _; omega
theorem f200 (w : World) (n : Nat) (hn : n + 0 ≤ 9) (s : (List NodeP)) (ps : Option Addr) (cs : Nat) (N0 : RdSl (hp w) ps cs s) (fg : FuncId) (fc : List Value) (fq : NodeP → Bool) (ff : ∀ w1, Kp emp w w1 → ∀ (e0 : NodeP) (x0 : GoT.X NodeP), GoT.ok n e0 → All (hp w1) (GoT.fa .der e0 x0) → Does Tryz.prog fg ([Value.agg ⟨GoT.sh e0 x0⟩] ++ fc).toArray w1 emp (fun rv _ => rv = .bool (fq e0) ∧ True)) (hoks : GoT.ok n s) :
  Does Tryz.prog 200 #[.slice ps ((s).length) cs, .func (.func fg) #[] fc.toArray] w emp (fun (rv : Value) (_ : World) => rv = .bool (slices_ContainsFunc_Node s fq) ∧ True) := by
 have hbP := bd_pos n
 have hbB := bd_big (n := n) (by omega)
 refine WX.enter (tt := tt) (Γ := [(0, MF.rs .stb ps cs s)]) Tryz.func200 rfl (by kernel_rfl) rfl (allS_cons rfl N0 allS_nil) ?_
 refine R0 ?_
 refine WX.callV rfl rfl rfl rfl rfl (fun _ => rfl) rfl (fun w G bs hI hΓ => f287 w n (by omega) s ps cs (hΓ.get 0 rfl) fg fc fq (fun w1_ hb_ => ff w1_ (hI.keep.trans hb_)) hoks) ?_
 intro hq1
 have q1 := ltI_slices_IndexFunc_Node s fq
 refine R0 ?_
 have hP1 : slices_ContainsFunc_Node s fq = (decide ((slices_IndexFunc_Node s fq) ≥ 0)) := by simp only [slices_ContainsFunc_Node, ct, cf]
 exact R3 hP1
theorem f348 (w : World) (n : Nat) (hn : n + 0 ≤ 9) (x_ : DataP) (K0 : Option Addr) (M0 : Nat) (N0 : RdSl (hp w) K0 M0 x_.name.parts) (K1 : Option Addr) (M1 : Nat) (N1 : RdSl (hp w) K1 M1 x_.content) (K2 : Option Addr) (M2 : Nat) (N2 : RdSl (hp w) K2 M2 x_.keyName.parts) (n_ : Name) (bn_ : Addr) (hn_ : RdSl (hp w) (some bn_) 1 [n_]) (hokx_ : GoT.ok n x_) (hokn_ : GoT.ok n n_) :
  Does Tryz.prog 348 #[.agg #[.slice K0 ((x_.name.parts).length) M0, .slice K1 ((x_.content).length) M1, .slice K2 ((x_.keyName.parts).length) M2, .int .i64 (x_.freshUntil), .int .i64 (x_.signature)], .pointer (some bn_)] w emp (fun (rv : Value) (_ : World) => rv = .bool (impl_localAt_c1 n_ x_) ∧ True) := by
 have hbP := bd_pos n
 have hbB := bd_big (n := n) (by omega)
 refine WX.enter (tt := tt) (Γ := [(0, MF.rs .stb K0 M0 x_.name.parts), (1, MF.rs .stb K1 M1 x_.content), (2, MF.rs .stb K2 M2 x_.keyName.parts), (3, MF.rs .stb (some bn_) 1 ([n_]))]) Tryz.func348 rfl (by kernel_rfl) rfl (allS_cons rfl N0 (allS_cons rfl N1 (allS_cons rfl N2 (allS_cons rfl hn_ allS_nil)))) ?_
 have n_h : ([n_] : List Name)[0]? = some n_ := rfl
 refine WX.slot 1 (y := .e (some bn_) 0 1 0) rfl (fun _ => cap_eq) ?_
 refine R0 ?_
 refine WX.ldE 3 4 n_ ttOk rfl rfl rfl rfl rfl rfl rfl rfl n_h (fun _ => rfl) (fun _ => rfl) ?_
 rintro ⟨p1, c1⟩
 refine WX.callV rfl rfl rfl rfl rfl (fun _ => rfl) rfl (fun w G bs hI hΓ => f100 w n (by omega) x_.name K0 M0 (hΓ.get 0 rfl) n_ p1 c1 (hΓ.get 4 rfl) ((ok_DataP hokx_).1) hokn_) ?_
 intro hq1
 refine R0 ?_
 have hP1 : impl_localAt_c1 n_ x_ = (impl_EqualNames x_.name n_) := by simp only [impl_localAt_c1, ct, cf]
 exact R3 hP1
theorem f288 (w : World) (n : Nat) (hn : n + 0 ≤ 9) (l : (List DataP)) (pl : Option Addr) (cl : Nat) (N0 : RdSl (hp w) pl cl l) (n_ : Name) (K1 : Option Addr) (M1 : Nat) (N1 : RdSl (hp w) K1 M1 n_.parts) (hokl : GoT.ok n l) (hokn_ : GoT.ok n n_) :
  Does Tryz.prog 288 #[.slice pl ((l).length) cl, .agg #[.slice K1 ((n_.parts).length) M1]] w emp (fun (rv : Value) (_ : World) => rv = .int .i64 ((impl_localAt l n_)) ∧ GoT.ok n ((impl_localAt l n_) : Int)) := by
 have hbP := bd_pos n
 have hbB := bd_big (n := n) (by omega)
 refine WX.enter (tt := tt) (Γ := [(0, MF.rs .stb pl cl l), (1, MF.rs .stb K1 M1 n_.parts)]) Tryz.func288 rfl (by kernel_rfl) rfl (allS_cons rfl N0 (allS_cons rfl N1 allS_nil)) ?_
 refine R0 ?_
 refine WX.callV rfl rfl rfl rfl rfl (fun _ => rfl) rfl (fun w G bs hI hΓ => f212 w n (by omega) l pl cl (hΓ.get 0 rfl) 348 [Value.pointer (some ⟨bs 3, 0, none⟩)] (fun e0_ => (impl_localAt_c1 n_ e0_)) (fun w1_ hb_ e0_ x0_ hk0_ hx0_ => f348 w1_ n (by omega) e0_ x0_.1.1 x0_.1.2 (hx0_ _ List.mem_cons_self) x0_.2.1.1 x0_.2.1.2 (hx0_ (MF.rs .der x0_.2.1.1 x0_.2.1.2 e0_.content) (by simp [GoT.fa])) x0_.2.2.1.1 x0_.2.2.1.2 (hx0_ (MF.rs .der x0_.2.2.1.1 x0_.2.2.1.2 e0_.keyName.parts) (by simp [GoT.fa])) n_ ⟨bs 3, 0, none⟩ ((rd_box (α := Name) (a := n_) (x := (K1, M1)) (hI.loc 3 _ rfl).1 (All.cons (hΓ.get 1 rfl : RdSl _ _ _ _) All.nil)).mono (kp_le hb_)) hk0_ hokn_) hokl) ?_
 intro hq1
 refine R0 ?_
 have hP1 : impl_localAt l n_ = (slices_IndexFunc_Data l (fun e0_ => (impl_localAt_c1 n_ e0_))) := by simp only [impl_localAt, ct, cf]
 refine R1 ?_
 intro w1 G bs hI hΓ
 rw [hP1]
 exact ⟨rfl, hq1⟩
theorem f350 (w : World) (n : Nat) (hn : n + 0 ≤ 9) (o : CacheEntry) (K0 : Option Addr) (M0 : Nat) (N0 : RdSl (hp w) K0 M0 o.data.name.parts) (K1 : Option Addr) (M1 : Nat) (N1 : RdSl (hp w) K1 M1 o.data.content) (K2 : Option Addr) (M2 : Nat) (N2 : RdSl (hp w) K2 M2 o.data.keyName.parts) (e : CacheEntry) (be : Addr) (he : RdSl (hp w) (some be) 1 [e]) (hoko : GoT.ok n o) (hoke : GoT.ok n e) :
  Does Tryz.prog 350 #[.agg #[.slice K0 ((o.data.name.parts).length) M0, .slice K1 ((o.data.content).length) M1, .slice K2 ((o.data.keyName.parts).length) M2, .int .i64 (o.data.freshUntil), .int .i64 (o.data.signature), .int .i64 (o.lastUsed)], .pointer (some be)] w emp (fun (rv : Value) (_ : World) => rv = .bool (impl_ValidContentStore_c1 e o) ∧ True) := by
 have hbP := bd_pos n
 have hbB := bd_big (n := n) (by omega)
 refine WX.enter (tt := tt) (Γ := [(0, MF.rs .stb K0 M0 o.data.name.parts), (1, MF.rs .stb K1 M1 o.data.content), (2, MF.rs .stb K2 M2 o.data.keyName.parts), (3, MF.rs .stb (some be) 1 ([e]))]) Tryz.func350 rfl (by kernel_rfl) rfl (allS_cons rfl N0 (allS_cons rfl N1 (allS_cons rfl N2 (allS_cons rfl he allS_nil)))) ?_
 have eh : ([e] : List CacheEntry)[0]? = some e := rfl
 refine WX.slot 1 (y := .e (some be) 0 6 0) rfl (fun _ => cap_eq) ?_
 refine R0 ?_
 refine WX.ldE 3 4 e ttOk rfl rfl rfl rfl rfl rfl rfl rfl eh (fun _ => rfl) (fun _ => rfl) ?_
 rintro ⟨⟨⟨p1, c1⟩, ⟨p2, c2⟩, ⟨p3, c3⟩, ⟨⟩, ⟨⟩⟩, ⟨⟩⟩
 refine WX.callV rfl rfl rfl rfl rfl (fun _ => rfl) rfl (fun w G bs hI hΓ => f100 w n (by omega) o.data.name K0 M0 (hΓ.get 0 rfl) e.data.name p1 c1 (hΓ.get 4 rfl) ((ok_DataP (ok_CacheEntry hoko).1).1) ((ok_DataP (ok_CacheEntry hoke).1).1)) ?_
 intro hq1
 refine R0 ?_
 have hP1 : impl_ValidContentStore_c1 e o = (impl_EqualNames o.data.name e.data.name) := by simp only [impl_ValidContentStore_c1, ct, cf]
 exact R3 hP1
theorem f289 (w : World) (n : Nat) (hn : n + 0 ≤ 9) (c_ : ContentStore) (K0 : Option Addr) (M0 : Nat) (N0 : RdSl (hp w) K0 M0 c_.entries) (hokc_ : GoT.ok n c_) :
  Does Tryz.prog 289 #[.agg #[.int .i64 (c_.capacity), .slice K0 ((c_.entries).length) M0]] w emp (fun (rv : Value) (_ : World) => rv = .bool (impl_ValidContentStore c_) ∧ True) := by
 have hbP := bd_pos n
 have hbB := bd_big (n := n) (by omega)
 refine WX.enter (tt := tt) (Γ := [(0, MF.rs .stb K0 M0 c_.entries)]) Tryz.func289 rfl (by kernel_rfl) rfl (allS_cons rfl N0 allS_nil) ?_
 refine R0 ?_
 refine WX.callV rfl rfl rfl rfl rfl (fun _ => rfl) rfl (fun w G bs hI hΓ => f138 w n (by omega) c_.capacity 0 8 ((ok_ContentStore hokc_).1) (show I64 0 from (by unfold I64; omega)) (show I64 8 from (by unfold I64; omega))) ?_
 intro hq1
 refine R0 ?_
 refine WX.cases 9 rfl (fun h1 => ?_) (fun h1 => ?_)
 ·skip
  have h1d := (B.nt h1)
  refine R0 ?_
  have hP1 : impl_ValidContentStore c_ = false := by simp only [impl_ValidContentStore, h1, ct, cf]
  exact R3 hP1
 ·skip
  have h1d := (B.nf h1)
  have h1r := inR_impl (B.nf h1)
  refine R0 ?_
  refine WX.cases 16 rfl (fun h2 => ?_) (fun h2 => ?_)
  ·skip
   have h2d := B.dt h2
   refine R0 ?_
   have hP2 : impl_ValidContentStore c_ = false := by simp only [impl_ValidContentStore, h1, h2, ct, cf]
   exact R3 hP2
  ·skip
   have h2d := B.df h2
   refine R0 ?_
   have r1 : (c_.entries).length ≤ bd n := (okl (ok_ContentStore hokc_).2).1
   refine WX.loop (ι := Nat) ⟨fun i => (i ≤ (c_.entries).length) ∧ (impl_ValidContentStore_L1 c_ c_.entries 0 = impl_ValidContentStore_L1 c_ ((c_.entries).drop i) i), fun i => (c_.entries).length - i, fun i => [(20, .v (.int .i64 (((i : Nat) : Int)))), (19, .v (.int .i64 ((((c_.entries).length : Nat) : Int)))), (18, .v (.slice K0 ((c_.entries).length) M0)), (1, .p 1 0)], fun i => [(1, ⟨215, [.int .i64 (c_.capacity), .slice K0 ((c_.entries).length) M0]⟩)], fun i => [], fun i => [(0, MF.rs .stb K0 M0 c_.entries)]⟩ 0 ⟨(Nat.zero_le _), rfl⟩
    (.cons rfl (.cons rfl (.cons rfl (.cons rfl (.nil))))) (.cons rfl (.nil)) .nil [0] rfl ?_
   rintro i hpre
   have hpre_ : (i ≤ (c_.entries).length) ∧ (impl_ValidContentStore_L1 c_ c_.entries 0 = impl_ValidContentStore_L1 c_ ((c_.entries).drop i) i) := hpre
   clear hpre
   obtain ⟨v1, v2⟩ := hpre_
   refine R0 ?_
   refine WX.cases 21 rfl (fun h3 => ?_) (fun h3 => ?_)
   ·skip
    have h3d := B.dt h3
    have e1i : i < (c_.entries).length := (by omega)
    obtain ⟨e1, e1h⟩ : ∃ e1, (c_.entries)[i]? = some e1 := ⟨_, List.getElem?_eq_getElem e1i⟩
    have ok1 : GoT.ok n e1 := (okl (ok_ContentStore hokc_).2).2 _ (List.mem_of_getElem? e1h)
    refine R0 ?_
    refine WX.idx 0 i ttOk rfl rfl rfl rfl rfl rfl rfl rfl rfl rfl e1i ?_
    rintro ad1 rfl
    refine WX.ldE 0 1 e1 ttOk rfl rfl rfl rfl rfl rfl rfl rfl e1h (fun _ => rfl) (fun _ => rfl) ?_
    rintro ⟨⟨⟨p1, c1⟩, ⟨p2, c2⟩, ⟨p3, c3⟩, ⟨⟩, ⟨⟩⟩, ⟨⟩⟩
    refine R0 ?_
    refine WX.callV rfl rfl rfl rfl rfl (fun _ => rfl) rfl (fun w G bs hI hΓ => f102 w n (by omega) e1.data p1 c1 (hΓ.get 1 rfl) p2 c2 (hΓ.get 2 rfl) p3 c3 (hΓ.get 3 rfl) ((ok_CacheEntry ok1).1)) ?_
    intro hq2
    refine R0 ?_
    refine WX.cases 29 rfl (fun h4 => ?_) (fun h4 => ?_)
    ·skip
     have h4d := (B.nt h4)
     refine R0 ?_
     have hP3 : impl_ValidContentStore_L1 c_ c_.entries 0 = (some false) := by rw [v2, drop_get e1h]; simp only [impl_ValidContentStore_L1, h4, ct, cf]
     have hP4 : impl_ValidContentStore c_ = false := by simp only [impl_ValidContentStore, h1, h2, hP3, ct, cf]
     exact R3 hP4
    ·skip
     have h4d := (B.nf h4)
     refine R0 ?_
     refine WX.see rfl rfl rfl (fun _ hΓ => looks_slH i ttOk rfl rfl rfl rfl (by simp) (Nat.le_trans (show i ≤ (c_.entries).length from (by omega)) (hΓ.get 0 rfl : RdSl _ _ _ _).1)) ?_
     refine WX.slot 33 (y := .v (.slice (some ad1) (((List.take i c_.entries)).length) M0)) rfl (fun _ => by rw [show ((List.take i c_.entries)).length = i from (by simp only [List.length_take]; have z_ := (show i ≤ (c_.entries).length from (by omega)); omega)]) ?_
     refine WX.stb 4 (MF.rs .stb (some ad1) M0 (List.take i c_.entries)) rfl 0 rfl rfl (fun _ h => RdSl.pre h i) ?_
     refine R0 ?_
     refine WX.callV rfl rfl rfl rfl rfl (fun _ => rfl) rfl (fun w G bs hI hΓ => f349 w n (by omega) (List.take i c_.entries) (some ad1) M0 (hΓ.get 4 rfl) 350 [Value.pointer (some ⟨bs 4, 0, none⟩)] (fun e0_ => (impl_ValidContentStore_c1 e1 e0_)) (fun w1_ hb_ e0_ x0_ hk0_ hx0_ => f350 w1_ n (by omega) e0_ x0_.1.1.1 x0_.1.1.2 (hx0_ _ List.mem_cons_self) x0_.1.2.1.1 x0_.1.2.1.2 (hx0_ (MF.rs .der x0_.1.2.1.1 x0_.1.2.1.2 e0_.data.content) (by simp [GoT.fa])) x0_.1.2.2.1.1 x0_.1.2.2.1.2 (hx0_ (MF.rs .der x0_.1.2.2.1.1 x0_.1.2.2.1.2 e0_.data.keyName.parts) (by simp [GoT.fa])) e1 ⟨bs 4, 0, none⟩ ((rd_box (α := CacheEntry) (a := e1) (x := (((p1, c1), (p2, c2), (p3, c3), (), ()), ())) (hI.loc 4 _ rfl).1 (All.cons (hΓ.get 1 rfl : RdSl _ _ _ _) (All.cons (hΓ.get 2 rfl : RdSl _ _ _ _) (All.cons (hΓ.get 3 rfl : RdSl _ _ _ _) All.nil)))).mono (kp_le hb_)) hk0_ ok1) (okl_mk (by first | assumption | omega | (simp; omega)) (fun a ha => (okl (ok_ContentStore hokc_).2).2 a (List.mem_of_mem_take ha)) : GoT.ok n ((List.take i c_.entries) : List CacheEntry))) ?_
     intro hq3
     refine R0 ?_
     refine WX.cases 36 rfl (fun h5 => ?_) (fun h5 => ?_)
     ·skip
      refine R0 ?_
      have hP5 : impl_ValidContentStore_L1 c_ c_.entries 0 = (some false) := by rw [v2, drop_get e1h]; simp only [impl_ValidContentStore_L1, h4, h5, ct, cf]
      have hP6 : impl_ValidContentStore c_ = false := by simp only [impl_ValidContentStore, h1, h2, hP5, ct, cf]
      exact R3 hP6
     ·skip
      refine R0 ?_
      refine WX.see rfl rfl rfl (fun _ hΓ => looks_arith rfl rfl rfl rfl (by unfold I64; first | omega | (simp only [List.length_take] at *; omega))) ?_
      refine R0 ?_
      exact WX.iter (i + 1) ⟨(by omega), (by rw [v2, drop_get e1h]; simp only [impl_ValidContentStore_L1, h4, h5, ct, cf])⟩ (by first | (dsimp only; omega) | omega) (.cons rfl (.cons rfl (.cons rfl (.cons rfl (.nil))))) (.cons rfl (.nil)) .nil [0] rfl
   ·skip
    have h3d := B.df h3
    refine R0 ?_
    have hX1 : impl_ValidContentStore_L1 c_ c_.entries 0 = none := by rw [v2, List.drop_eq_nil_of_le (show (c_.entries).length ≤ i by omega)]; simp only [impl_ValidContentStore_L1, ct, cf]
    have hP7 : impl_ValidContentStore c_ = true := by simp only [impl_ValidContentStore, h1, h2, hX1, ct, cf]
    exact R3 hP7
theorem f327 (w : World) (n : Nat) (hn : n + 0 ≤ 9) (l : (List CacheEntry)) (pl : Option Addr) (cl : Nat) (N0 : RdSl (hp w) pl cl l) (n_ : Name) (K1 : Option Addr) (M1 : Nat) (N1 : RdSl (hp w) K1 M1 n_.parts) (hokl : GoT.ok n l) (hokn_ : GoT.ok n n_) :
  Does Tryz.prog 327 #[.slice pl ((l).length) cl, .agg #[.slice K1 ((n_.parts).length) M1]] w emp (fun (rv : Value) (_ : World) => rv = .int .i64 ((spec_l12Find l n_)) ∧ GoT.ok n ((spec_l12Find l n_) : Int)) := by
 have hbP := bd_pos n
 have hbB := bd_big (n := n) (by omega)
 refine WX.enter (tt := tt) (Γ := [(0, MF.rs .stb pl cl l), (1, MF.rs .stb K1 M1 n_.parts)]) Tryz.func327 rfl (by kernel_rfl) rfl (allS_cons rfl N0 (allS_cons rfl N1 allS_nil)) ?_
 refine R0 ?_
 have r1 : (l).length ≤ bd n := (okl hokl).1
 refine WX.loop (ι := Nat) ⟨fun i => (i ≤ (l).length) ∧ (spec_l12Find_L1 n_ l 0 = spec_l12Find_L1 n_ ((l).drop i) i), fun i => (l).length - i, fun i => [(5, .v (.int .i64 (((i : Nat) : Int)))), (3, .p 3 0), (0, .v (.slice pl ((l).length) cl))], fun i => [(3, ⟨30, [.slice K1 ((n_.parts).length) M1]⟩)], fun i => [], fun i => [(0, MF.rs .stb pl cl l), (1, MF.rs .stb K1 M1 n_.parts)]⟩ 0 ⟨(Nat.zero_le _), rfl⟩
  (.cons rfl (.cons rfl (.cons rfl (.nil)))) (.cons rfl (.nil)) .nil [0, 1] rfl ?_
 rintro i hpre
 have hpre_ : (i ≤ (l).length) ∧ (spec_l12Find_L1 n_ l 0 = spec_l12Find_L1 n_ ((l).drop i) i) := hpre
 clear hpre
 obtain ⟨v1, v2⟩ := hpre_
 refine R0 ?_
 refine WX.cases 9 rfl (fun h1 => ?_) (fun h1 => ?_)
 ·skip
  have h1d := B.dt h1
  have e1i : i < (l).length := (by omega)
  obtain ⟨e1, e1h⟩ : ∃ e1, (l)[i]? = some e1 := ⟨_, List.getElem?_eq_getElem e1i⟩
  have ok1 : GoT.ok n e1 := (okl hokl).2 _ (List.mem_of_getElem? e1h)
  refine R0 ?_
  refine WX.draw [] mixed ?_
  intro bs G0 hΓ0
  refine DX.takes (fuel := 6) ttOk [(0, true), (1, true)] (by kernel_rfl) rfl ?_
  refine DX.idx 2 0 i ttOk hΓ0 (by kernel_rfl) rfl rfl rfl rfl rfl rfl rfl rfl rfl rfl rfl e1i ?_
  rintro ad1 rfl
  refine DX.takes (fuel := 3) ttOk [(3, true), (4, true)] (by kernel_rfl) rfl ?_
  refine DX.ldE 5 0 2 e1 ttOk hΓ0 (by kernel_rfl) rfl rfl rfl rfl rfl rfl rfl rfl e1h (fun _ => rfl) (fun _ => rfl) ?_
  rintro ⟨⟨⟨p1, c1⟩, ⟨p2, c2⟩, ⟨p3, c3⟩, ⟨⟩, ⟨⟩⟩, ⟨⟩⟩
  refine DX.takes (fuel := 1) ttOk [(6, false)] (by kernel_rfl) rfl ?_
  refine DX.callV 7 rfl (by kernel_rfl) rfl rfl rfl rfl rfl rfl (fun _ => rfl) rfl (fun w G bs hI hΓ => f152 w n (by omega) e1.data.name p1 c1 (hΓ.get 2 rfl) n_ K1 M1 (hΓ.get 1 rfl) ((ok_DataP (ok_CacheEntry ok1).1).1) hokn_) ?_
  intro hq1
  refine DX.tail2 [] rfl rfl (by kernel_rfl) ?_
  refine R0 ?_
  refine WX.cases 19 rfl (fun h2 => ?_) (fun h2 => ?_)
  ·skip
   refine R0 ?_
   have hP1 : spec_l12Find_L1 n_ l 0 = (some ((i : Nat) : Int)) := by rw [v2, drop_get e1h]; simp only [spec_l12Find_L1, h2, ct, cf]
   have hP2 : spec_l12Find l n_ = ((i : Nat) : Int) := by simp only [spec_l12Find, hP1, ct, cf]
   refine R1 ?_
   intro w1 G bs hI hΓ
   rw [hP2]
   exact ⟨rfl, (show I64 ((i : Nat) : Int) from (by unfold I64; omega))⟩
  ·skip
   refine R0 ?_
   refine WX.see rfl rfl rfl (fun _ hΓ => looks_arith rfl rfl rfl rfl (by unfold I64; first | omega | (simp only [List.length_take] at *; omega))) ?_
   refine R0 ?_
   exact WX.iter (i + 1) ⟨(by omega), (by rw [v2, drop_get e1h]; simp only [spec_l12Find_L1, h2, ct, cf])⟩ (by first | (dsimp only; omega) | omega) (.cons rfl (.cons rfl (.cons rfl (.nil)))) (.cons rfl (.nil)) .nil [0, 1] rfl
 ·skip
  have h1d := B.df h1
  refine R0 ?_
  have hX1 : spec_l12Find_L1 n_ l 0 = none := by rw [v2, List.drop_eq_nil_of_le (show (l).length ≤ i by omega)]; simp only [spec_l12Find_L1, ct, cf]
  have hP3 : spec_l12Find l n_ = (-1) := by simp only [spec_l12Find, hX1, ct, cf]
  refine R1 ?_
  intro w1 G bs hI hΓ
  rw [hP3]
  exact ⟨rfl, (show I64 (-1) from (by unfold I64; omega))⟩
theorem f269 (w : World) (n : Nat) (hn : n + 0 ≤ 9) (c_ : ContentStore) (K0 : Option Addr) (M0 : Nat) (N0 : RdSl (hp w) K0 M0 c_.entries) (hokc_ : GoT.ok n c_) :
  Does Tryz.prog 269 #[.agg #[.int .i64 (c_.capacity), .slice K0 ((c_.entries).length) M0]] w emp (fun (rv : Value) (_ : World) => rv = .bool (spec_ValidContentStore c_) ∧ True) := by
 have hbP := bd_pos n
 have hbB := bd_big (n := n) (by omega)
 refine WX.enter (tt := tt) (Γ := [(0, MF.rs .stb K0 M0 c_.entries)]) Tryz.func269 rfl (by kernel_rfl) rfl (allS_cons rfl N0 allS_nil) ?_
 refine R0 ?_
 have r1 : (c_.entries).length ≤ bd n := (okl (ok_ContentStore hokc_).2).1
 refine WX.loop (ι := Nat) ⟨fun i => (i ≤ (c_.entries).length) ∧ (spec_ValidContentStore_L1 c_ c_.entries 0 = spec_ValidContentStore_L1 c_ ((c_.entries).drop i) i), fun i => (c_.entries).length - i, fun i => [(3, .v (.int .i64 (((i : Nat) : Int)))), (1, .p 1 0)], fun i => [(1, ⟨215, [.int .i64 (c_.capacity), .slice K0 ((c_.entries).length) M0]⟩)], fun i => [], fun i => [(0, MF.rs .stb K0 M0 c_.entries)]⟩ 0 ⟨(Nat.zero_le _), rfl⟩
  (.cons rfl (.cons rfl (.nil))) (.cons rfl (.nil)) .nil [0] rfl ?_
 rintro i hpre
 have hpre_ : (i ≤ (c_.entries).length) ∧ (spec_ValidContentStore_L1 c_ c_.entries 0 = spec_ValidContentStore_L1 c_ ((c_.entries).drop i) i) := hpre
 clear hpre
 obtain ⟨v1, v2⟩ := hpre_
 refine R0 ?_
 refine WX.cases 8 rfl (fun h1 => ?_) (fun h1 => ?_)
 ·skip
  have h1d := B.dt h1
  have e1i : i < (c_.entries).length := (by omega)
  obtain ⟨e1, e1h⟩ : ∃ e1, (c_.entries)[i]? = some e1 := ⟨_, List.getElem?_eq_getElem e1i⟩
  have ok1 : GoT.ok n e1 := (okl (ok_ContentStore hokc_).2).2 _ (List.mem_of_getElem? e1h)
  refine R0 ?_
  refine WX.draw [] mixed ?_
  intro bs G0 hΓ0
  refine DX.takes (fuel := 20) ttOk [(0, true), (1, false), (2, true)] (by kernel_rfl) rfl ?_
  refine DX.idx 3 0 i ttOk hΓ0 (by kernel_rfl) rfl rfl rfl rfl rfl rfl rfl rfl rfl rfl rfl e1i ?_
  rintro ad1 rfl
  refine DX.takes (fuel := 18) ttOk [(4, true)] (by kernel_rfl) rfl ?_
  refine DX.ldE 5 0 1 e1 ttOk hΓ0 (by kernel_rfl) rfl rfl rfl rfl rfl rfl rfl rfl e1h (fun _ => rfl) (fun _ => rfl) ?_
  rintro ⟨⟨⟨p1, c1⟩, ⟨p2, c2⟩, ⟨p3, c3⟩, ⟨⟩, ⟨⟩⟩, ⟨⟩⟩
  refine DX.callV 6 rfl (by kernel_rfl) rfl rfl rfl rfl rfl rfl (fun _ => rfl) rfl (fun w G bs hI hΓ => f105 w n (by omega) e1.data p1 c1 (hΓ.get 1 rfl) p2 c2 (hΓ.get 2 rfl) p3 c3 (hΓ.get 3 rfl) ((ok_CacheEntry ok1).1)) ?_
  intro hq1
  refine DX.takes (fuel := 14) ttOk [(7, true), (8, true)] (by kernel_rfl) rfl ?_
  refine DX.cases 19 rfl (fun h2 => ?_) (fun h2 => ?_)
  ·skip
   have h2d := (B.nt h2)
   refine DX.takes (fuel := 0) ttOk [(9, true), (10, true), (11, true), (12, true), (13, true), (14, true), (15, true), (16, true), (17, true), (18, true), (19, true), (20, true), (21, true), (22, true)] (by kernel_rfl) rfl ?_
   refine DX.tail2 [] rfl rfl (by kernel_rfl) ?_
   refine R0 ?_
   have hP1 : spec_ValidContentStore_L1 c_ c_.entries 0 = (some false) := by rw [v2, drop_get e1h]; simp only [spec_ValidContentStore_L1, h2, ct, cf]
   have hP2 : spec_ValidContentStore c_ = false := by simp only [spec_ValidContentStore, hP1, ct, cf]
   exact R3 hP2
  ·skip
   have h2d := (B.nf h2)
   refine DX.takes (fuel := 11) ttOk [(9, true), (10, false), (11, true)] (by kernel_rfl) rfl ?_
   refine DX.seeP 12 (by kernel_rfl) rfl rfl rfl rfl (looksP_slH i ttOk rfl rfl rfl rfl (by simp) (Nat.le_trans (show i ≤ (c_.entries).length from (by omega)) (hΓ0.get 0 rfl : RdSl _ _ _ _).1)) ?_
   refine DX.slot 23 (y := .v (.slice (some ad1) (((List.take i c_.entries)).length) M0)) rfl (fun _ => by rw [show ((List.take i c_.entries)).length = i from (by simp only [List.length_take]; have z_ := (show i ≤ (c_.entries).length from (by omega)); omega)]) ?_
   refine DX.der 4 (MF.rs .der (some ad1) M0 (List.take i c_.entries)) rfl (fun _ hΓ => RdSl.pre (hΓ.get 0 rfl : RdSl _ _ _ _) i) ?_
   refine DX.takes (fuel := 7) ttOk [(13, true), (14, false), (15, true)] (by kernel_rfl) rfl ?_
   refine DX.idx 16 0 i ttOk hΓ0 (by kernel_rfl) rfl rfl rfl rfl rfl rfl rfl rfl rfl rfl rfl e1i ?_
   rintro ad2 ⟨⟩
   refine DX.takes (fuel := 4) ttOk [(17, true), (18, true)] (by kernel_rfl) rfl ?_
   refine DX.ldE 19 0 5 e1 ttOk hΓ0 (by kernel_rfl) rfl rfl rfl rfl rfl rfl rfl rfl e1h (fun _ => rfl) (fun _ => rfl) ?_
   rintro ⟨⟨⟨p4, c4⟩, ⟨p5, c5⟩, ⟨p6, c6⟩, ⟨⟩, ⟨⟩⟩, ⟨⟩⟩
   refine DX.callV 20 rfl (by kernel_rfl) rfl rfl rfl rfl rfl rfl (fun _ => rfl) rfl (fun w G bs hI hΓ => f327 w n (by omega) (List.take i c_.entries) (some ad1) M0 (hΓ.get 4 rfl) e1.data.name p4 c4 (hΓ.get 5 rfl) (okl_mk (by first | assumption | omega | (simp; omega)) (fun a ha => (okl (ok_ContentStore hokc_).2).2 a (List.mem_of_mem_take ha)) : GoT.ok n ((List.take i c_.entries) : List CacheEntry)) ((ok_DataP (ok_CacheEntry ok1).1).1)) ?_
   intro hq2
   refine DX.takes (fuel := 0) ttOk [(21, true), (22, true)] (by kernel_rfl) rfl ?_
   refine DX.tail2 [] rfl rfl (by kernel_rfl) ?_
   refine R0 ?_
   refine WX.cases 33 rfl (fun h3 => ?_) (fun h3 => ?_)
   ·skip
    have h3d := B.dt h3
    refine R0 ?_
    have hP3 : spec_ValidContentStore_L1 c_ c_.entries 0 = (some false) := by rw [v2, drop_get e1h]; simp only [spec_ValidContentStore_L1, h2, h3, ct, cf]
    have hP4 : spec_ValidContentStore c_ = false := by simp only [spec_ValidContentStore, hP3, ct, cf]
    exact R3 hP4
   ·skip
    have h3d := B.df h3
    refine R0 ?_
    refine WX.see rfl rfl rfl (fun _ hΓ => looks_arith rfl rfl rfl rfl (by unfold I64; first | omega | (simp only [List.length_take] at *; omega))) ?_
    refine R0 ?_
    exact WX.iter (i + 1) ⟨(by omega), (by rw [v2, drop_get e1h]; simp only [spec_ValidContentStore_L1, h2, h3, ct, cf])⟩ (by first | (dsimp only; omega) | omega) (.cons rfl (.cons rfl (.nil))) (.cons rfl (.nil)) .nil [0] rfl
 ·skip
  have h1d := B.df h1
  refine R0 ?_
  have hX1 : spec_ValidContentStore_L1 c_ c_.entries 0 = none := by rw [v2, List.drop_eq_nil_of_le (show (c_.entries).length ≤ i by omega)]; simp only [spec_ValidContentStore_L1, ct, cf]
  refine WX.callV rfl rfl rfl rfl rfl (fun _ => rfl) rfl (fun w G bs hI hΓ => f142 w n (by omega) c_.capacity 0 8 ((ok_ContentStore hokc_).1) (show I64 0 from (by unfold I64; omega)) (show I64 8 from (by unfold I64; omega))) ?_
  intro hq3
  refine R0 ?_
  refine WX.cases 37 rfl (fun h4 => ?_) (fun h4 => ?_)
  ·skip
   have h4r := inR_spec h4
   refine R0 ?_
   have hP5 : spec_ValidContentStore c_ = (decide ((((c_.entries).length : Nat) : Int) ≤ c_.capacity)) := by simp only [spec_ValidContentStore, hX1, h4, ct, cf]
   exact R3 hP5
  ·skip
   refine R0 ?_
   have hP6 : spec_ValidContentStore c_ = false := by simp only [spec_ValidContentStore, hX1, h4, ct, cf]
   exact R3 hP6
theorem f398 (w : World) (n : Nat) (hn : n + 0 ≤ 9) (p_ : PendingInterest) (K0 : Option Addr) (M0 : Nat) (N0 : RdSl (hp w) K0 M0 p_.name.parts) (K1 : Option Addr) (M1 : Nat) (N1 : RdSl (hp w) K1 M1 p_.requesters) (n_ : Name) (bn_ : Addr) (hn_ : RdSl (hp w) (some bn_) 1 [n_]) (hokp_ : GoT.ok n p_) (hokn_ : GoT.ok n n_) :
  Does Tryz.prog 398 #[.agg #[.slice K0 ((p_.name.parts).length) M0, .slice K1 ((p_.requesters).length) M1, .int .i64 (p_.lastSent)], .pointer (some bn_)] w emp (fun (rv : Value) (_ : World) => rv = .bool (impl_pendingAt_c1 n_ p_) ∧ True) := by
 have hbP := bd_pos n
 have hbB := bd_big (n := n) (by omega)
 refine WX.enter (tt := tt) (Γ := [(0, MF.rs .stb K0 M0 p_.name.parts), (1, MF.rs .stb K1 M1 p_.requesters), (2, MF.rs .stb (some bn_) 1 ([n_]))]) Tryz.func398 rfl (by kernel_rfl) rfl (allS_cons rfl N0 (allS_cons rfl N1 (allS_cons rfl hn_ allS_nil))) ?_
 have n_h : ([n_] : List Name)[0]? = some n_ := rfl
 refine WX.slot 1 (y := .e (some bn_) 0 1 0) rfl (fun _ => cap_eq) ?_
 refine R0 ?_
 refine WX.ldE 2 3 n_ ttOk rfl rfl rfl rfl rfl rfl rfl rfl n_h (fun _ => rfl) (fun _ => rfl) ?_
 rintro ⟨p1, c1⟩
 refine WX.callV rfl rfl rfl rfl rfl (fun _ => rfl) rfl (fun w G bs hI hΓ => f100 w n (by omega) p_.name K0 M0 (hΓ.get 0 rfl) n_ p1 c1 (hΓ.get 3 rfl) ((ok_PendingInterest hokp_).1) hokn_) ?_
 intro hq1
 refine R0 ?_
 have hP1 : impl_pendingAt_c1 n_ p_ = (impl_EqualNames p_.name n_) := by simp only [impl_pendingAt_c1, ct, cf]
 exact R3 hP1
theorem f351 (w : World) (n : Nat) (hn : n + 0 ≤ 9) (l : (List PendingInterest)) (pl : Option Addr) (cl : Nat) (N0 : RdSl (hp w) pl cl l) (n_ : Name) (K1 : Option Addr) (M1 : Nat) (N1 : RdSl (hp w) K1 M1 n_.parts) (hokl : GoT.ok n l) (hokn_ : GoT.ok n n_) :
  Does Tryz.prog 351 #[.slice pl ((l).length) cl, .agg #[.slice K1 ((n_.parts).length) M1]] w emp (fun (rv : Value) (_ : World) => rv = .int .i64 ((impl_pendingAt l n_)) ∧ GoT.ok n ((impl_pendingAt l n_) : Int)) := by
 have hbP := bd_pos n
 have hbB := bd_big (n := n) (by omega)
 refine WX.enter (tt := tt) (Γ := [(0, MF.rs .stb pl cl l), (1, MF.rs .stb K1 M1 n_.parts)]) Tryz.func351 rfl (by kernel_rfl) rfl (allS_cons rfl N0 (allS_cons rfl N1 allS_nil)) ?_
 refine R0 ?_
 refine WX.callV rfl rfl rfl rfl rfl (fun _ => rfl) rfl (fun w G bs hI hΓ => f397 w n (by omega) l pl cl (hΓ.get 0 rfl) 398 [Value.pointer (some ⟨bs 3, 0, none⟩)] (fun e0_ => (impl_pendingAt_c1 n_ e0_)) (fun w1_ hb_ e0_ x0_ hk0_ hx0_ => f398 w1_ n (by omega) e0_ x0_.1.1 x0_.1.2 (hx0_ _ List.mem_cons_self) x0_.2.1.1 x0_.2.1.2 (hx0_ (MF.rs .der x0_.2.1.1 x0_.2.1.2 e0_.requesters) (by simp [GoT.fa])) n_ ⟨bs 3, 0, none⟩ ((rd_box (α := Name) (a := n_) (x := (K1, M1)) (hI.loc 3 _ rfl).1 (All.cons (hΓ.get 1 rfl : RdSl _ _ _ _) All.nil)).mono (kp_le hb_)) hk0_ hokn_) hokl) ?_
 intro hq1
 have q1 := ltI_slices_IndexFunc_PendingInterest l (fun e0_ => (impl_pendingAt_c1 n_ e0_))
 refine R0 ?_
 have hP1 : impl_pendingAt l n_ = (slices_IndexFunc_PendingInterest l (fun e0_ => (impl_pendingAt_c1 n_ e0_))) := by simp only [impl_pendingAt, ct, cf]
 refine R1 ?_
 intro w1 G bs hI hΓ
 rw [hP1]
 exact ⟨rfl, hq1⟩
theorem f290 (w : World) (n : Nat) (hn : n + 0 ≤ 9) (l : (List PendingInterest)) (pl : Option Addr) (cl : Nat) (N0 : RdSl (hp w) pl cl l) (hokl : GoT.ok n l) :
  Does Tryz.prog 290 #[.slice pl ((l).length) cl] w emp (fun (rv : Value) (_ : World) => rv = .bool (impl_ValidPending l) ∧ True) := by
 have hbP := bd_pos n
 have hbB := bd_big (n := n) (by omega)
 refine WX.enter (tt := tt) (Γ := [(0, MF.rs .stb pl cl l)]) Tryz.func290 rfl (by kernel_rfl) rfl (allS_cons rfl N0 allS_nil) ?_
 refine R0 ?_
 have r1 : (l).length ≤ bd n := (okl hokl).1
 refine WX.loop (ι := Nat) ⟨fun i => (i ≤ (l).length) ∧ (impl_ValidPending_L1 l l 0 = impl_ValidPending_L1 l ((l).drop i) i), fun i => (l).length - i, fun i => [(9, .v (.int .i64 (((i : Nat) : Int)))), (8, .v (.int .i64 ((((l).length : Nat) : Int)))), (7, .v (.slice pl ((l).length) cl)), (0, .v (.slice pl ((l).length) cl))], fun i => [], fun i => [], fun i => [(0, MF.rs .stb pl cl l)]⟩ 0 ⟨(Nat.zero_le _), rfl⟩
  (.cons rfl (.cons rfl (.cons rfl (.cons rfl (.nil))))) .nil .nil [0] rfl ?_
 rintro i hpre
 have hpre_ : (i ≤ (l).length) ∧ (impl_ValidPending_L1 l l 0 = impl_ValidPending_L1 l ((l).drop i) i) := hpre
 clear hpre
 obtain ⟨v1, v2⟩ := hpre_
 refine R0 ?_
 refine WX.cases 10 rfl (fun h1 => ?_) (fun h1 => ?_)
 ·skip
  have h1d := B.dt h1
  have e1i : i < (l).length := (by omega)
  obtain ⟨e1, e1h⟩ : ∃ e1, (l)[i]? = some e1 := ⟨_, List.getElem?_eq_getElem e1i⟩
  have ok1 : GoT.ok n e1 := (okl hokl).2 _ (List.mem_of_getElem? e1h)
  refine R0 ?_
  refine WX.idx 0 i ttOk rfl rfl rfl rfl rfl rfl rfl rfl rfl rfl e1i ?_
  rintro ad1 rfl
  refine WX.ldE 0 1 e1 ttOk rfl rfl rfl rfl rfl rfl rfl rfl e1h (fun _ => rfl) (fun _ => rfl) ?_
  rintro ⟨⟨p1, c1⟩, ⟨p2, c2⟩, ⟨⟩⟩
  refine R0 ?_
  refine WX.draw [] mixed ?_
  intro bs G0 hΓ0
  refine DX.takes (fuel := 30) ttOk [(0, true), (1, false)] (by kernel_rfl) rfl ?_
  refine DX.callV 2 rfl (by kernel_rfl) rfl rfl rfl rfl rfl rfl (fun _ => rfl) rfl (fun w G bs hI hΓ => f103 w n (by omega) e1.name p1 c1 (hΓ.get 1 rfl) ((ok_PendingInterest ok1).1)) ?_
  intro hq1
  refine DX.takes (fuel := 27) ttOk [(3, true), (4, true)] (by kernel_rfl) rfl ?_
  refine DX.cases 18 rfl (fun h2 => ?_) (fun h2 => ?_)
  ·skip
   have h2d := (B.nt h2)
   refine DX.takes (fuel := 0) ttOk [(5, true), (6, true), (7, true), (8, true), (9, true), (10, true), (11, true), (12, true), (13, true), (14, true), (15, true), (16, true), (17, true), (18, true), (19, true), (20, true), (21, true), (22, true), (23, true), (24, true), (25, true), (26, true), (27, true), (28, true), (29, true), (30, true), (31, true)] (by kernel_rfl) rfl ?_
   refine DX.tail2 [] rfl rfl (by kernel_rfl) ?_
   refine R0 ?_
   have hP1 : impl_ValidPending_L1 l l 0 = (some false) := by rw [v2, drop_get e1h]; simp only [impl_ValidPending_L1, h2, ct, cf]
   have hP2 : impl_ValidPending l = false := by simp only [impl_ValidPending, hP1, ct, cf]
   exact R3 hP2
  ·skip
   have h2d := (B.nf h2)
   refine DX.takes (fuel := 20) ttOk [(5, true), (6, true), (7, false), (8, true), (9, true), (10, true), (11, true)] (by kernel_rfl) rfl ?_
   refine DX.cases 25 rfl (fun h3 => ?_) (fun h3 => ?_)
   ·skip
    have h3d := B.et h3
    refine DX.takes (fuel := 0) ttOk [(12, true), (13, true), (14, true), (15, true), (16, true), (17, true), (18, true), (19, true), (20, true), (21, true), (22, true), (23, true), (24, true), (25, true), (26, true), (27, true), (28, true), (29, true), (30, true), (31, true)] (by kernel_rfl) rfl ?_
    refine DX.tail2 [] rfl rfl (by kernel_rfl) ?_
    refine R0 ?_
    have hP3 : impl_ValidPending_L1 l l 0 = (some false) := by rw [v2, drop_get e1h]; simp only [impl_ValidPending_L1, h2, h3, ct, cf]
    have hP4 : impl_ValidPending l = false := by simp only [impl_ValidPending, hP3, ct, cf]
    exact R3 hP4
   ·skip
    have h3d := B.ef h3
    refine DX.takes (fuel := 14) ttOk [(12, true), (13, false), (14, true), (15, true), (16, true), (17, true)] (by kernel_rfl) rfl ?_
    refine DX.cases 31 rfl (fun h4 => ?_) (fun h4 => ?_)
    ·skip
     have h4d := B.et h4
     refine DX.takes (fuel := 0) ttOk [(18, true), (19, true), (20, true), (21, true), (22, true), (23, true), (24, true), (25, true), (26, true), (27, true), (28, true), (29, true), (30, true), (31, true)] (by kernel_rfl) rfl ?_
     refine DX.tail2 [] rfl rfl (by kernel_rfl) ?_
     refine R0 ?_
     have hP5 : impl_ValidPending_L1 l l 0 = (some false) := by rw [v2, drop_get e1h]; simp only [impl_ValidPending_L1, h2, h3, h4, ct, cf]
     have hP6 : impl_ValidPending l = false := by simp only [impl_ValidPending, hP5, ct, cf]
     exact R3 hP6
    ·skip
     have h4d := B.ef h4
     refine DX.takes (fuel := 12) ttOk [(18, true), (19, false)] (by kernel_rfl) rfl ?_
     refine DX.callV 20 rfl (by kernel_rfl) rfl rfl rfl rfl rfl rfl (fun _ => rfl) rfl (fun w G bs hI hΓ => f138 w n (by omega) e1.lastSent 0 100000 ((ok_PendingInterest ok1).2.2) (show I64 0 from (by unfold I64; omega)) (show I64 100000 from (by unfold I64; omega))) ?_
     intro hq2
     refine DX.takes (fuel := 8) ttOk [(21, true), (22, true), (23, true)] (by kernel_rfl) rfl ?_
     refine DX.cases 37 rfl (fun h5 => ?_) (fun h5 => ?_)
     ·skip
      have h5d := (B.nt h5)
      refine DX.takes (fuel := 0) ttOk [(24, true), (25, true), (26, true), (27, true), (28, true), (29, true), (30, true), (31, true)] (by kernel_rfl) rfl ?_
      refine DX.tail2 [] rfl rfl (by kernel_rfl) ?_
      refine R0 ?_
      have hP7 : impl_ValidPending_L1 l l 0 = (some false) := by rw [v2, drop_get e1h]; simp only [impl_ValidPending_L1, h2, h3, h4, h5, ct, cf]
      have hP8 : impl_ValidPending l = false := by simp only [impl_ValidPending, hP7, ct, cf]
      exact R3 hP8
     ·skip
      have h5d := (B.nf h5)
      have h5r := inR_impl (B.nf h5)
      refine DX.takes (fuel := 6) ttOk [(24, true), (25, true)] (by kernel_rfl) rfl ?_
      refine DX.seeP 26 (by kernel_rfl) rfl rfl rfl rfl (looksP_slH i ttOk rfl rfl rfl rfl (by simp) (Nat.le_trans (show i ≤ (l).length from (by omega)) (hΓ0.get 0 rfl : RdSl _ _ _ _).1)) ?_
      refine DX.slot 40 (y := .v (.slice (some ad1) (((List.take i l)).length) cl)) rfl (fun _ => by rw [show ((List.take i l)).length = i from (by simp only [List.length_take]; have z_ := (show i ≤ (l).length from (by omega)); omega)]) ?_
      refine DX.der 3 (MF.rs .der (some ad1) cl (List.take i l)) rfl (fun _ hΓ => RdSl.pre (hΓ.get 0 rfl : RdSl _ _ _ _) i) ?_
      refine DX.takes (fuel := 3) ttOk [(27, true), (28, false)] (by kernel_rfl) rfl ?_
      refine DX.callV 29 rfl (by kernel_rfl) rfl rfl rfl rfl rfl rfl (fun _ => rfl) rfl (fun w G bs hI hΓ => f351 w n (by omega) (List.take i l) (some ad1) cl (hΓ.get 3 rfl) e1.name p1 c1 (hΓ.get 1 rfl) (okl_mk (by first | assumption | omega | (simp; omega)) (fun a ha => (okl hokl).2 a (List.mem_of_mem_take ha)) : GoT.ok n ((List.take i l) : List PendingInterest)) ((ok_PendingInterest ok1).1)) ?_
      intro hq3
      refine DX.takes (fuel := 0) ttOk [(30, true), (31, true)] (by kernel_rfl) rfl ?_
      refine DX.tail2 [] rfl rfl (by kernel_rfl) ?_
      refine R0 ?_
      refine WX.cases 45 rfl (fun h6 => ?_) (fun h6 => ?_)
      ·skip
       have h6d := B.dt h6
       refine R0 ?_
       have hP9 : impl_ValidPending_L1 l l 0 = (some false) := by rw [v2, drop_get e1h]; simp only [impl_ValidPending_L1, h2, h3, h4, h5, h6, ct, cf]
       have hP10 : impl_ValidPending l = false := by simp only [impl_ValidPending, hP9, ct, cf]
       exact R3 hP10
      ·skip
       have h6d := B.df h6
       refine R0 ?_
       have r2 : (e1.requesters).length ≤ bd n := (okl (ok_PendingInterest ok1).2.1).1
       refine WX.loop (ι := Nat) ⟨fun i2 => (i2 ≤ (e1.requesters).length) ∧ (impl_ValidPending_L2 e1 e1.requesters 0 = impl_ValidPending_L2 e1 ((e1.requesters).drop i2) i2), fun i2 => (e1.requesters).length - i2, fun i2 => [(49, .v (.int .i64 (((i2 : Nat) : Int)))), (48, .v (.int .i64 ((((e1.requesters).length : Nat) : Int)))), (47, .v (.slice p2 ((e1.requesters).length) c2)), (44, .v (.bool (decide ((impl_pendingAt (List.take i l) e1.name) ≥ 0)))), (43, .v (.int .i64 ((impl_pendingAt (List.take i l) e1.name)))), (42, .v (.agg #[.slice p1 ((e1.name.parts).length) c1])), (41, .p 4 0), (40, .v (.slice (some ad1) (((List.take i l)).length) cl)), (39, .v (.int .i64 (((i : Nat) : Int)))), (38, .v (.slice (some ad1) ((l).length) cl)), (35, .v (.bool (!(impl_InRange e1.lastSent 0 100000)))), (34, .v (.bool (impl_InRange e1.lastSent 0 100000))), (33, .v (.int .i64 (e1.lastSent))), (32, .p 4 2), (29, .v (.bool ((((e1.requesters).length : Nat) : Int) == 0))), (28, .v (.int .i64 ((((e1.requesters).length : Nat) : Int)))), (27, .v (.slice p2 ((e1.requesters).length) c2)), (26, .p 4 1), (23, .v (.bool ((((e1.name.parts).length : Nat) : Int) == 0))), (22, .v (.int .i64 ((((e1.name.parts).length : Nat) : Int)))), (21, .v (.slice p1 ((e1.name.parts).length) c1)), (20, .p 4 0), (19, .p 4 0), (4, .p 4 0), (9, .v (.int .i64 (((i : Nat) : Int)))), (8, .v (.int .i64 ((((l).length : Nat) : Int)))), (7, .v (.slice (some ad1) ((l).length) cl)), (0, .v (.slice (some ad1) ((l).length) cl))], fun i2 => [(4, ⟨354, [.slice p1 ((e1.name.parts).length) c1, .slice p2 ((e1.requesters).length) c2, .int .i64 (e1.lastSent)]⟩)], fun i2 => [], fun i2 => [(0, MF.rs .stb (some ad1) cl l), (1, MF.rs .stb p1 c1 e1.name.parts), (2, MF.rs .stb p2 c2 e1.requesters)]⟩ 0 ⟨(Nat.zero_le _), rfl⟩
        (.cons rfl (.cons rfl (.cons rfl (.cons rfl (.cons rfl (.cons rfl (.cons rfl (.cons rfl (.cons rfl (.cons rfl (.cons rfl (.cons rfl (.cons rfl (.cons rfl (.cons rfl (.cons rfl (.cons rfl (.cons rfl (.cons rfl (.cons rfl (.cons rfl (.cons rfl (.cons rfl (.cons rfl (.cons rfl (.cons rfl (.cons rfl (.cons rfl (.nil))))))))))))))))))))))))))))) (.cons rfl (.nil)) .nil [0, 1, 2] rfl ?_
       rintro i2 hpre
       have hpre_ : (i2 ≤ (e1.requesters).length) ∧ (impl_ValidPending_L2 e1 e1.requesters 0 = impl_ValidPending_L2 e1 ((e1.requesters).drop i2) i2) := hpre
       clear hpre
       obtain ⟨v3, v4⟩ := hpre_
       refine R0 ?_
       refine WX.cases 50 rfl (fun h7 => ?_) (fun h7 => ?_)
       ·skip
        have h7d := B.dt h7
        have e2i : i2 < (e1.requesters).length := (by omega)
        obtain ⟨e2, e2h⟩ : ∃ e2, (e1.requesters)[i2]? = some e2 := ⟨_, List.getElem?_eq_getElem e2i⟩
        have ok2 : GoT.ok n e2 := (okl (ok_PendingInterest ok1).2.1).2 _ (List.mem_of_getElem? e2h)
        refine R0 ?_
        refine WX.idx 2 i2 ttOk rfl rfl rfl rfl rfl rfl rfl rfl rfl rfl e2i ?_
        rintro ad2 rfl
        refine WX.ldE 2 4 e2 ttOk rfl rfl rfl rfl rfl rfl rfl rfl e2h (fun _ => rfl) (fun _ => rfl) ?_
        rintro ⟨⟨⟩, ⟨⟩, ⟨⟩⟩
        refine R0 ?_
        refine WX.draw [] mixed ?_
        intro bs G0 hΓ0
        refine DX.takes (fuel := 24) ttOk [(0, true), (1, false)] (by kernel_rfl) rfl ?_
        refine DX.callV 2 rfl (by kernel_rfl) rfl rfl rfl rfl rfl rfl (fun _ => rfl) rfl (fun w G bs hI hΓ => f138 w n (by omega) e2.face 0 6 ((ok_Requester ok2).1) (show I64 0 from (by unfold I64; omega)) (show I64 6 from (by unfold I64; omega))) ?_
        intro hq4
        refine DX.takes (fuel := 21) ttOk [(3, true), (4, true)] (by kernel_rfl) rfl ?_
        refine DX.cases 58 rfl (fun h8 => ?_) (fun h8 => ?_)
        ·skip
         have h8d := (B.nt h8)
         refine DX.takes (fuel := 0) ttOk [(5, true), (6, true), (7, true), (8, true), (9, true), (10, true), (11, true), (12, true), (13, true), (14, true), (15, true), (16, true), (17, true), (18, true), (19, true), (20, true), (21, true), (22, true), (23, true), (24, true), (25, true)] (by kernel_rfl) rfl ?_
         refine DX.tail2 [] rfl rfl (by kernel_rfl) ?_
         refine R0 ?_
         have hP11 : impl_ValidPending_L2 e1 e1.requesters 0 = (some false) := by rw [v4, drop_get e2h]; simp only [impl_ValidPending_L2, h8, ct, cf]
         have hP12 : impl_ValidPending_L1 l l 0 = (some false) := by rw [v2, drop_get e1h]; simp only [impl_ValidPending_L1, h2, h3, h4, h5, h6, hP11, ct, cf]
         have hP13 : impl_ValidPending l = false := by simp only [impl_ValidPending, hP12, ct, cf]
         exact R3 hP13
        ·skip
         have h8d := (B.nf h8)
         have h8r := inR_impl (B.nf h8)
         refine DX.takes (fuel := 19) ttOk [(5, true), (6, false)] (by kernel_rfl) rfl ?_
         refine DX.callV 7 rfl (by kernel_rfl) rfl rfl rfl rfl rfl rfl (fun _ => rfl) rfl (fun w G bs hI hΓ => f138 w n (by omega) e2.nonce 0 1000000 ((ok_Requester ok2).2.1) (show I64 0 from (by unfold I64; omega)) (show I64 1000000 from (by unfold I64; omega))) ?_
         intro hq5
         refine DX.takes (fuel := 15) ttOk [(8, true), (9, true), (10, true)] (by kernel_rfl) rfl ?_
         refine DX.cases 64 rfl (fun h9 => ?_) (fun h9 => ?_)
         ·skip
          have h9d := (B.nt h9)
          refine DX.takes (fuel := 0) ttOk [(11, true), (12, true), (13, true), (14, true), (15, true), (16, true), (17, true), (18, true), (19, true), (20, true), (21, true), (22, true), (23, true), (24, true), (25, true)] (by kernel_rfl) rfl ?_
          refine DX.tail2 [] rfl rfl (by kernel_rfl) ?_
          refine R0 ?_
          have hP14 : impl_ValidPending_L2 e1 e1.requesters 0 = (some false) := by rw [v4, drop_get e2h]; simp only [impl_ValidPending_L2, h8, h9, ct, cf]
          have hP15 : impl_ValidPending_L1 l l 0 = (some false) := by rw [v2, drop_get e1h]; simp only [impl_ValidPending_L1, h2, h3, h4, h5, h6, hP14, ct, cf]
          have hP16 : impl_ValidPending l = false := by simp only [impl_ValidPending, hP15, ct, cf]
          exact R3 hP16
         ·skip
          have h9d := (B.nf h9)
          have h9r := inR_impl (B.nf h9)
          refine DX.takes (fuel := 12) ttOk [(11, true), (12, true), (13, true)] (by kernel_rfl) rfl ?_
          refine DX.cases 67 rfl (fun h10 => ?_) (fun h10 => ?_)
          ·skip
           have h10d := B.dt h10
           refine DX.takes (fuel := 9) ttOk [(14, true), (15, false), (16, true)] (by kernel_rfl) rfl ?_
           refine DX.seeP 17 (by kernel_rfl) rfl rfl rfl rfl (looksP_arith rfl rfl rfl rfl (by unfold I64; first | omega | (simp only [List.length_take] at *; omega))) ?_
           refine DX.slot 71 (y := .v (.int .i64 (((((i2 : Nat) : Int) - 1).toNat : Nat) : Int))) rfl (fun _ => congrArg (Value.int .i64) (show ((i2 : Nat) : Int) - 1 = (((((i2 : Nat) : Int) - 1).toNat : Nat) : Int) from by omega)) ?_
           have e3i : (((i2 : Nat) : Int) - 1).toNat < (e1.requesters).length := (by first | assumption | omega)
           obtain ⟨e3, e3h⟩ : ∃ e3, (e1.requesters)[(((i2 : Nat) : Int) - 1).toNat]? = some e3 := ⟨_, List.getElem?_eq_getElem e3i⟩
           have ok3 : GoT.ok n e3 := (okl (ok_PendingInterest ok1).2.1).2 _ (List.mem_of_getElem? e3h)
           refine DX.idx 18 2 ((((i2 : Nat) : Int) - 1).toNat) ttOk hΓ0 (by kernel_rfl) rfl rfl rfl rfl rfl rfl rfl rfl rfl rfl rfl e3i ?_
           rintro ad3 ⟨⟩
           refine DX.takes (fuel := 6) ttOk [(19, true)] (by kernel_rfl) rfl ?_
           refine DX.ldE 20 2 4 e3 ttOk hΓ0 (by kernel_rfl) rfl rfl rfl rfl rfl rfl rfl rfl e3h (fun _ => rfl) (fun _ => rfl) ?_
           rintro ⟨⟨⟩, ⟨⟩, ⟨⟩⟩
           refine DX.takes (fuel := 0) ttOk [(21, true), (22, false), (23, true), (24, true), (25, true)] (by kernel_rfl) rfl ?_
           refine DX.tail2 [] rfl rfl (by kernel_rfl) ?_
           refine R0 ?_
           refine WX.cases 79 rfl (fun h11 => ?_) (fun h11 => ?_)
           ·skip
            have h11d := B.dt h11
            refine R0 ?_
            have hP17 : impl_ValidPending_L2 e1 e1.requesters 0 = (some false) := by rw [v4, drop_get e2h]; simp only [impl_ValidPending_L2, h8, h9, h10, e3h, h11, ct, cf]
            have hP18 : impl_ValidPending_L1 l l 0 = (some false) := by rw [v2, drop_get e1h]; simp only [impl_ValidPending_L1, h2, h3, h4, h5, h6, hP17, ct, cf]
            have hP19 : impl_ValidPending l = false := by simp only [impl_ValidPending, hP18, ct, cf]
            exact R3 hP19
           ·skip
            have h11d := B.df h11
            refine R0 ?_
            refine WX.see rfl rfl rfl (fun _ hΓ => looks_arith rfl rfl rfl rfl (by unfold I64; first | omega | (simp only [List.length_take] at *; omega))) ?_
            refine R0 ?_
            exact WX.iter (i2 + 1) ⟨(by omega), (by rw [v4, drop_get e2h]; simp only [impl_ValidPending_L2, h8, h9, h10, e3h, h11, ct, cf])⟩ (by first | (dsimp only; omega) | omega) (.cons rfl (.cons rfl (.cons rfl (.cons rfl (.cons rfl (.cons rfl (.cons rfl (.cons rfl (.cons rfl (.cons rfl (.cons rfl (.cons rfl (.cons rfl (.cons rfl (.cons rfl (.cons rfl (.cons rfl (.cons rfl (.cons rfl (.cons rfl (.cons rfl (.cons rfl (.cons rfl (.cons rfl (.cons rfl (.cons rfl (.cons rfl (.cons rfl (.nil))))))))))))))))))))))))))))) (.cons rfl (.nil)) .nil [0, 1, 2] rfl
          ·skip
           have h10d := B.df h10
           refine DX.takes (fuel := 0) ttOk [(14, true), (15, true), (16, true), (17, true), (18, true), (19, true), (20, true), (21, true), (22, true), (23, true), (24, true), (25, true)] (by kernel_rfl) rfl ?_
           refine DX.tail2 [] rfl rfl (by kernel_rfl) ?_
           refine R0 ?_
           refine WX.see rfl rfl rfl (fun _ hΓ => looks_arith rfl rfl rfl rfl (by unfold I64; first | omega | (simp only [List.length_take] at *; omega))) ?_
           refine R0 ?_
           exact WX.iter (i2 + 1) ⟨(by omega), (by rw [v4, drop_get e2h]; simp only [impl_ValidPending_L2, h8, h9, h10, ct, cf])⟩ (by first | (dsimp only; omega) | omega) (.cons rfl (.cons rfl (.cons rfl (.cons rfl (.cons rfl (.cons rfl (.cons rfl (.cons rfl (.cons rfl (.cons rfl (.cons rfl (.cons rfl (.cons rfl (.cons rfl (.cons rfl (.cons rfl (.cons rfl (.cons rfl (.cons rfl (.cons rfl (.cons rfl (.cons rfl (.cons rfl (.cons rfl (.cons rfl (.cons rfl (.cons rfl (.cons rfl (.nil))))))))))))))))))))))))))))) (.cons rfl (.nil)) .nil [0, 1, 2] rfl
       ·skip
        have h7d := B.df h7
        refine R0 ?_
        have hX1 : impl_ValidPending_L2 e1 e1.requesters 0 = none := by rw [v4, List.drop_eq_nil_of_le (show (e1.requesters).length ≤ i2 by omega)]; simp only [impl_ValidPending_L2, ct, cf]
        refine WX.see rfl rfl rfl (fun _ hΓ => looks_arith rfl rfl rfl rfl (by unfold I64; first | omega | (simp only [List.length_take] at *; omega))) ?_
        refine R0 ?_
        exact WX.iter (i + 1) ⟨(by omega), (by rw [v2, drop_get e1h]; simp only [impl_ValidPending_L1, h2, h3, h4, h5, h6, hX1, ct, cf])⟩ (by first | (dsimp only; omega) | omega) (.cons rfl (.cons rfl (.cons rfl (.cons rfl (.nil))))) .nil .nil [0] rfl
 ·skip
  have h1d := B.df h1
  refine R0 ?_
  have hX2 : impl_ValidPending_L1 l l 0 = none := by rw [v2, List.drop_eq_nil_of_le (show (l).length ≤ i by omega)]; simp only [impl_ValidPending_L1, ct, cf]
  have hP20 : impl_ValidPending l = (decide ((((l).length : Nat) : Int) ≤ 12)) := by simp only [impl_ValidPending, hX2, ct, cf]
  exact R3 hP20
theorem f328 (w : World) (n : Nat) (hn : n + 0 ≤ 9) (l : (List Requester)) (pl : Option Addr) (cl : Nat) (N0 : RdSl (hp w) pl cl l) (hokl : GoT.ok n l) :
  Does Tryz.prog 328 #[.slice pl ((l).length) cl] w emp (fun (rv : Value) (_ : World) => rv = .bool (spec_l13Askers l) ∧ True) := by
 have hbP := bd_pos n
 have hbB := bd_big (n := n) (by omega)
 refine WX.enter (tt := tt) (Γ := [(0, MF.rs .stb pl cl l)]) Tryz.func328 rfl (by kernel_rfl) rfl (allS_cons rfl N0 allS_nil) ?_
 refine R0 ?_
 have r1 : (l).length ≤ bd n := (okl hokl).1
 refine WX.loop (ι := Nat) ⟨fun i => (i ≤ (l).length) ∧ (spec_l13Askers_L1 l l 0 = spec_l13Askers_L1 l ((l).drop i) i), fun i => (l).length - i, fun i => [(3, .v (.int .i64 (((i : Nat) : Int)))), (0, .v (.slice pl ((l).length) cl))], fun i => [], fun i => [], fun i => [(0, MF.rs .stb pl cl l)]⟩ 0 ⟨(Nat.zero_le _), rfl⟩
  (.cons rfl (.cons rfl (.nil))) .nil .nil [0] rfl ?_
 rintro i hpre
 have hpre_ : (i ≤ (l).length) ∧ (spec_l13Askers_L1 l l 0 = spec_l13Askers_L1 l ((l).drop i) i) := hpre
 clear hpre
 obtain ⟨v1, v2⟩ := hpre_
 refine R0 ?_
 refine WX.cases 7 rfl (fun h1 => ?_) (fun h1 => ?_)
 ·skip
  have h1d := B.dt h1
  have e1i : i < (l).length := (by omega)
  obtain ⟨e1, e1h⟩ : ∃ e1, (l)[i]? = some e1 := ⟨_, List.getElem?_eq_getElem e1i⟩
  have ok1 : GoT.ok n e1 := (okl hokl).2 _ (List.mem_of_getElem? e1h)
  refine R0 ?_
  refine WX.draw [] mixed ?_
  intro bs G0 hΓ0
  refine DX.takes (fuel := 32) ttOk [(0, true), (1, true)] (by kernel_rfl) rfl ?_
  refine DX.idx 2 0 i ttOk hΓ0 (by kernel_rfl) rfl rfl rfl rfl rfl rfl rfl rfl rfl rfl rfl e1i ?_
  rintro ad1 rfl
  refine DX.takes (fuel := 30) ttOk [(3, true)] (by kernel_rfl) rfl ?_
  refine DX.ldE 4 0 1 e1 ttOk hΓ0 (by kernel_rfl) rfl rfl rfl rfl rfl rfl rfl rfl e1h (fun _ => rfl) (fun _ => rfl) ?_
  rintro ⟨⟨⟩, ⟨⟩, ⟨⟩⟩
  refine DX.callV 5 rfl (by kernel_rfl) rfl rfl rfl rfl rfl rfl (fun _ => rfl) rfl (fun w G bs hI hΓ => f142 w n (by omega) e1.face 0 6 ((ok_Requester ok1).1) (show I64 0 from (by unfold I64; omega)) (show I64 6 from (by unfold I64; omega))) ?_
  intro hq1
  refine DX.takes (fuel := 26) ttOk [(6, true), (7, true)] (by kernel_rfl) rfl ?_
  refine DX.cases 17 rfl (fun h2 => ?_) (fun h2 => ?_)
  ·skip
   have h2d := (B.nt h2)
   refine DX.takes (fuel := 0) ttOk [(8, true), (9, true), (10, true), (11, true), (12, true), (13, true), (14, true), (15, true), (16, true), (17, true), (18, true), (19, true), (20, true), (21, true), (22, true), (23, true), (24, true), (25, true), (26, true), (27, true), (28, true), (29, true), (30, true), (31, true), (32, true), (33, true)] (by kernel_rfl) rfl ?_
   refine DX.tail2 [] rfl rfl (by kernel_rfl) ?_
   refine R0 ?_
   have hP1 : spec_l13Askers_L1 l l 0 = (some false) := by rw [v2, drop_get e1h]; simp only [spec_l13Askers_L1, h2, ct, cf]
   have hP2 : spec_l13Askers l = false := by simp only [spec_l13Askers, hP1, ct, cf]
   exact R3 hP2
  ·skip
   have h2d := (B.nf h2)
   have h2r := inR_spec (B.nf h2)
   refine DX.takes (fuel := 24) ttOk [(8, true), (9, true)] (by kernel_rfl) rfl ?_
   refine DX.idx 10 0 i ttOk hΓ0 (by kernel_rfl) rfl rfl rfl rfl rfl rfl rfl rfl rfl rfl rfl e1i ?_
   rintro ad2 ⟨⟩
   refine DX.takes (fuel := 22) ttOk [(11, true)] (by kernel_rfl) rfl ?_
   refine DX.ldE 12 0 1 e1 ttOk hΓ0 (by kernel_rfl) rfl rfl rfl rfl rfl rfl rfl rfl e1h (fun _ => rfl) (fun _ => rfl) ?_
   rintro ⟨⟨⟩, ⟨⟩, ⟨⟩⟩
   refine DX.callV 13 rfl (by kernel_rfl) rfl rfl rfl rfl rfl rfl (fun _ => rfl) rfl (fun w G bs hI hΓ => f142 w n (by omega) e1.nonce 0 1000000 ((ok_Requester ok1).2.1) (show I64 0 from (by unfold I64; omega)) (show I64 1000000 from (by unfold I64; omega))) ?_
   intro hq2
   refine DX.takes (fuel := 17) ttOk [(14, true), (15, true), (16, true)] (by kernel_rfl) rfl ?_
   refine DX.cases 26 rfl (fun h3 => ?_) (fun h3 => ?_)
   ·skip
    have h3d := (B.nt h3)
    refine DX.takes (fuel := 0) ttOk [(17, true), (18, true), (19, true), (20, true), (21, true), (22, true), (23, true), (24, true), (25, true), (26, true), (27, true), (28, true), (29, true), (30, true), (31, true), (32, true), (33, true)] (by kernel_rfl) rfl ?_
    refine DX.tail2 [] rfl rfl (by kernel_rfl) ?_
    refine R0 ?_
    have hP3 : spec_l13Askers_L1 l l 0 = (some false) := by rw [v2, drop_get e1h]; simp only [spec_l13Askers_L1, h2, h3, ct, cf]
    have hP4 : spec_l13Askers l = false := by simp only [spec_l13Askers, hP3, ct, cf]
    exact R3 hP4
   ·skip
    have h3d := (B.nf h3)
    have h3r := inR_spec (B.nf h3)
    refine DX.takes (fuel := 14) ttOk [(17, true), (18, true), (19, true)] (by kernel_rfl) rfl ?_
    refine DX.cases 29 rfl (fun h4 => ?_) (fun h4 => ?_)
    ·skip
     have h4d := B.dt h4
     refine DX.takes (fuel := 12) ttOk [(20, true), (21, true)] (by kernel_rfl) rfl ?_
     refine DX.seeP 22 (by kernel_rfl) rfl rfl rfl rfl (looksP_arith rfl rfl rfl rfl (by unfold I64; first | omega | (simp only [List.length_take] at *; omega))) ?_
     refine DX.slot 32 (y := .v (.int .i64 (((((i : Nat) : Int) - 1).toNat : Nat) : Int))) rfl (fun _ => congrArg (Value.int .i64) (show ((i : Nat) : Int) - 1 = (((((i : Nat) : Int) - 1).toNat : Nat) : Int) from by omega)) ?_
     have e2i : (((i : Nat) : Int) - 1).toNat < (l).length := (by first | assumption | omega)
     obtain ⟨e2, e2h⟩ : ∃ e2, (l)[(((i : Nat) : Int) - 1).toNat]? = some e2 := ⟨_, List.getElem?_eq_getElem e2i⟩
     have ok2 : GoT.ok n e2 := (okl hokl).2 _ (List.mem_of_getElem? e2h)
     refine DX.idx 23 0 ((((i : Nat) : Int) - 1).toNat) ttOk hΓ0 (by kernel_rfl) rfl rfl rfl rfl rfl rfl rfl rfl rfl rfl rfl e2i ?_
     rintro ad3 ⟨⟩
     refine DX.takes (fuel := 9) ttOk [(24, true)] (by kernel_rfl) rfl ?_
     refine DX.ldE 25 0 1 e2 ttOk hΓ0 (by kernel_rfl) rfl rfl rfl rfl rfl rfl rfl rfl e2h (fun _ => rfl) (fun _ => rfl) ?_
     rintro ⟨⟨⟩, ⟨⟩, ⟨⟩⟩
     refine DX.takes (fuel := 6) ttOk [(26, true), (27, true)] (by kernel_rfl) rfl ?_
     refine DX.idx 28 0 i ttOk hΓ0 (by kernel_rfl) rfl rfl rfl rfl rfl rfl rfl rfl rfl rfl rfl e1i ?_
     rintro ad4 ⟨⟩
     refine DX.takes (fuel := 4) ttOk [(29, true)] (by kernel_rfl) rfl ?_
     refine DX.ldE 30 0 1 e1 ttOk hΓ0 (by kernel_rfl) rfl rfl rfl rfl rfl rfl rfl rfl e1h (fun _ => rfl) (fun _ => rfl) ?_
     rintro ⟨⟨⟩, ⟨⟩, ⟨⟩⟩
     refine DX.takes (fuel := 0) ttOk [(31, true), (32, true), (33, true)] (by kernel_rfl) rfl ?_
     refine DX.tail2 [] rfl rfl (by kernel_rfl) ?_
     refine R0 ?_
     refine WX.cases 43 rfl (fun h5 => ?_) (fun h5 => ?_)
     ·skip
      have h5d := B.dt h5
      refine R0 ?_
      have hP5 : spec_l13Askers_L1 l l 0 = (some false) := by rw [v2, drop_get e1h]; simp only [spec_l13Askers_L1, h2, h3, h4, e2h, h5, ct, cf]
      have hP6 : spec_l13Askers l = false := by simp only [spec_l13Askers, hP5, ct, cf]
      exact R3 hP6
     ·skip
      have h5d := B.df h5
      refine R0 ?_
      refine WX.see rfl rfl rfl (fun _ hΓ => looks_arith rfl rfl rfl rfl (by unfold I64; first | omega | (simp only [List.length_take] at *; omega))) ?_
      refine R0 ?_
      exact WX.iter (i + 1) ⟨(by omega), (by rw [v2, drop_get e1h]; simp only [spec_l13Askers_L1, h2, h3, h4, e2h, h5, ct, cf])⟩ (by first | (dsimp only; omega) | omega) (.cons rfl (.cons rfl (.nil))) .nil .nil [0] rfl
    ·skip
     have h4d := B.df h4
     refine DX.takes (fuel := 0) ttOk [(20, true), (21, true), (22, true), (23, true), (24, true), (25, true), (26, true), (27, true), (28, true), (29, true), (30, true), (31, true), (32, true), (33, true)] (by kernel_rfl) rfl ?_
     refine DX.tail2 [] rfl rfl (by kernel_rfl) ?_
     refine R0 ?_
     refine WX.see rfl rfl rfl (fun _ hΓ => looks_arith rfl rfl rfl rfl (by unfold I64; first | omega | (simp only [List.length_take] at *; omega))) ?_
     refine R0 ?_
     exact WX.iter (i + 1) ⟨(by omega), (by rw [v2, drop_get e1h]; simp only [spec_l13Askers_L1, h2, h3, h4, ct, cf])⟩ (by first | (dsimp only; omega) | omega) (.cons rfl (.cons rfl (.nil))) .nil .nil [0] rfl
 ·skip
  have h1d := B.df h1
  refine R0 ?_
  have hX1 : spec_l13Askers_L1 l l 0 = none := by rw [v2, List.drop_eq_nil_of_le (show (l).length ≤ i by omega)]; simp only [spec_l13Askers_L1, ct, cf]
  have hP7 : spec_l13Askers l = (decide ((((l).length : Nat) : Int) > 0)) := by simp only [spec_l13Askers, hX1, ct, cf]
  exact R3 hP7
theorem f329 (w : World) (n : Nat) (hn : n + 0 ≤ 9) (l : (List PendingInterest)) (pl : Option Addr) (cl : Nat) (N0 : RdSl (hp w) pl cl l) (n_ : Name) (K1 : Option Addr) (M1 : Nat) (N1 : RdSl (hp w) K1 M1 n_.parts) (hokl : GoT.ok n l) (hokn_ : GoT.ok n n_) :
  Does Tryz.prog 329 #[.slice pl ((l).length) cl, .agg #[.slice K1 ((n_.parts).length) M1]] w emp (fun (rv : Value) (_ : World) => rv = .int .i64 ((spec_l13Find l n_)) ∧ GoT.ok n ((spec_l13Find l n_) : Int)) := by
 have hbP := bd_pos n
 have hbB := bd_big (n := n) (by omega)
 refine WX.enter (tt := tt) (Γ := [(0, MF.rs .stb pl cl l), (1, MF.rs .stb K1 M1 n_.parts)]) Tryz.func329 rfl (by kernel_rfl) rfl (allS_cons rfl N0 (allS_cons rfl N1 allS_nil)) ?_
 refine R0 ?_
 have r1 : (l).length ≤ bd n := (okl hokl).1
 refine WX.loop (ι := Nat) ⟨fun i => (i ≤ (l).length) ∧ (spec_l13Find_L1 n_ l 0 = spec_l13Find_L1 n_ ((l).drop i) i), fun i => (l).length - i, fun i => [(5, .v (.int .i64 (((i : Nat) : Int)))), (3, .p 3 0), (0, .v (.slice pl ((l).length) cl))], fun i => [(3, ⟨30, [.slice K1 ((n_.parts).length) M1]⟩)], fun i => [], fun i => [(0, MF.rs .stb pl cl l), (1, MF.rs .stb K1 M1 n_.parts)]⟩ 0 ⟨(Nat.zero_le _), rfl⟩
  (.cons rfl (.cons rfl (.cons rfl (.nil)))) (.cons rfl (.nil)) .nil [0, 1] rfl ?_
 rintro i hpre
 have hpre_ : (i ≤ (l).length) ∧ (spec_l13Find_L1 n_ l 0 = spec_l13Find_L1 n_ ((l).drop i) i) := hpre
 clear hpre
 obtain ⟨v1, v2⟩ := hpre_
 refine R0 ?_
 refine WX.cases 9 rfl (fun h1 => ?_) (fun h1 => ?_)
 ·skip
  have h1d := B.dt h1
  have e1i : i < (l).length := (by omega)
  obtain ⟨e1, e1h⟩ : ∃ e1, (l)[i]? = some e1 := ⟨_, List.getElem?_eq_getElem e1i⟩
  have ok1 : GoT.ok n e1 := (okl hokl).2 _ (List.mem_of_getElem? e1h)
  refine R0 ?_
  refine WX.draw [] mixed ?_
  intro bs G0 hΓ0
  refine DX.takes (fuel := 5) ttOk [(0, true), (1, true)] (by kernel_rfl) rfl ?_
  refine DX.idx 2 0 i ttOk hΓ0 (by kernel_rfl) rfl rfl rfl rfl rfl rfl rfl rfl rfl rfl rfl e1i ?_
  rintro ad1 rfl
  refine DX.takes (fuel := 3) ttOk [(3, true)] (by kernel_rfl) rfl ?_
  refine DX.ldE 4 0 2 e1 ttOk hΓ0 (by kernel_rfl) rfl rfl rfl rfl rfl rfl rfl rfl e1h (fun _ => rfl) (fun _ => rfl) ?_
  rintro ⟨⟨p1, c1⟩, ⟨p2, c2⟩, ⟨⟩⟩
  refine DX.takes (fuel := 1) ttOk [(5, false)] (by kernel_rfl) rfl ?_
  refine DX.callV 6 rfl (by kernel_rfl) rfl rfl rfl rfl rfl rfl (fun _ => rfl) rfl (fun w G bs hI hΓ => f152 w n (by omega) e1.name p1 c1 (hΓ.get 2 rfl) n_ K1 M1 (hΓ.get 1 rfl) ((ok_PendingInterest ok1).1) hokn_) ?_
  intro hq1
  refine DX.tail2 [] rfl rfl (by kernel_rfl) ?_
  refine R0 ?_
  refine WX.cases 18 rfl (fun h2 => ?_) (fun h2 => ?_)
  ·skip
   refine R0 ?_
   have hP1 : spec_l13Find_L1 n_ l 0 = (some ((i : Nat) : Int)) := by rw [v2, drop_get e1h]; simp only [spec_l13Find_L1, h2, ct, cf]
   have hP2 : spec_l13Find l n_ = ((i : Nat) : Int) := by simp only [spec_l13Find, hP1, ct, cf]
   refine R1 ?_
   intro w1 G bs hI hΓ
   rw [hP2]
   exact ⟨rfl, (show I64 ((i : Nat) : Int) from (by unfold I64; omega))⟩
  ·skip
   refine R0 ?_
   refine WX.see rfl rfl rfl (fun _ hΓ => looks_arith rfl rfl rfl rfl (by unfold I64; first | omega | (simp only [List.length_take] at *; omega))) ?_
   refine R0 ?_
   exact WX.iter (i + 1) ⟨(by omega), (by rw [v2, drop_get e1h]; simp only [spec_l13Find_L1, h2, ct, cf])⟩ (by first | (dsimp only; omega) | omega) (.cons rfl (.cons rfl (.cons rfl (.nil)))) (.cons rfl (.nil)) .nil [0, 1] rfl
 ·skip
  have h1d := B.df h1
  refine R0 ?_
  have hX1 : spec_l13Find_L1 n_ l 0 = none := by rw [v2, List.drop_eq_nil_of_le (show (l).length ≤ i by omega)]; simp only [spec_l13Find_L1, ct, cf]
  have hP3 : spec_l13Find l n_ = (-1) := by simp only [spec_l13Find, hX1, ct, cf]
  refine R1 ?_
  intro w1 G bs hI hΓ
  rw [hP3]
  exact ⟨rfl, (show I64 (-1) from (by unfold I64; omega))⟩
theorem f270 (w : World) (n : Nat) (hn : n + 0 ≤ 9) (l : (List PendingInterest)) (pl : Option Addr) (cl : Nat) (N0 : RdSl (hp w) pl cl l) (hokl : GoT.ok n l) :
  Does Tryz.prog 270 #[.slice pl ((l).length) cl] w emp (fun (rv : Value) (_ : World) => rv = .bool (spec_ValidPending l) ∧ True) := by
 have hbP := bd_pos n
 have hbB := bd_big (n := n) (by omega)
 refine WX.enter (tt := tt) (Γ := [(0, MF.rs .stb pl cl l)]) Tryz.func270 rfl (by kernel_rfl) rfl (allS_cons rfl N0 allS_nil) ?_
 refine R0 ?_
 have r1 : (l).length ≤ bd n := (okl hokl).1
 refine WX.loop (ι := Nat) ⟨fun i => (i ≤ (l).length) ∧ (spec_ValidPending_L1 l l 0 = spec_ValidPending_L1 l ((l).drop i) i), fun i => (l).length - i, fun i => [(3, .v (.int .i64 (((i : Nat) : Int)))), (0, .v (.slice pl ((l).length) cl))], fun i => [], fun i => [], fun i => [(0, MF.rs .stb pl cl l)]⟩ 0 ⟨(Nat.zero_le _), rfl⟩
  (.cons rfl (.cons rfl (.nil))) .nil .nil [0] rfl ?_
 rintro i hpre
 have hpre_ : (i ≤ (l).length) ∧ (spec_ValidPending_L1 l l 0 = spec_ValidPending_L1 l ((l).drop i) i) := hpre
 clear hpre
 obtain ⟨v1, v2⟩ := hpre_
 refine R0 ?_
 refine WX.cases 7 rfl (fun h1 => ?_) (fun h1 => ?_)
 ·skip
  have h1d := B.dt h1
  have e1i : i < (l).length := (by omega)
  obtain ⟨e1, e1h⟩ : ∃ e1, (l)[i]? = some e1 := ⟨_, List.getElem?_eq_getElem e1i⟩
  have ok1 : GoT.ok n e1 := (okl hokl).2 _ (List.mem_of_getElem? e1h)
  refine R0 ?_
  refine WX.draw [] mixed ?_
  intro bs G0 hΓ0
  refine DX.takes (fuel := 45) ttOk [(0, true), (1, true)] (by kernel_rfl) rfl ?_
  refine DX.idx 2 0 i ttOk hΓ0 (by kernel_rfl) rfl rfl rfl rfl rfl rfl rfl rfl rfl rfl rfl e1i ?_
  rintro ad1 rfl
  refine DX.takes (fuel := 43) ttOk [(3, true)] (by kernel_rfl) rfl ?_
  refine DX.ldE 4 0 1 e1 ttOk hΓ0 (by kernel_rfl) rfl rfl rfl rfl rfl rfl rfl rfl e1h (fun _ => rfl) (fun _ => rfl) ?_
  rintro ⟨⟨p1, c1⟩, ⟨p2, c2⟩, ⟨⟩⟩
  refine DX.callV 5 rfl (by kernel_rfl) rfl rfl rfl rfl rfl rfl (fun _ => rfl) rfl (fun w G bs hI hΓ => f106 w n (by omega) e1.name p1 c1 (hΓ.get 1 rfl) ((ok_PendingInterest ok1).1)) ?_
  intro hq1
  refine DX.takes (fuel := 39) ttOk [(6, true), (7, true)] (by kernel_rfl) rfl ?_
  refine DX.cases 17 rfl (fun h2 => ?_) (fun h2 => ?_)
  ·skip
   have h2d := (B.nt h2)
   refine DX.takes (fuel := 0) ttOk [(8, true), (9, true), (10, true), (11, true), (12, true), (13, true), (14, true), (15, true), (16, true), (17, true), (18, true), (19, true), (20, true), (21, true), (22, true), (23, true), (24, true), (25, true), (26, true), (27, true), (28, true), (29, true), (30, true), (31, true), (32, true), (33, true), (34, true), (35, true), (36, true), (37, true), (38, true), (39, true), (40, true), (41, true), (42, true), (43, true), (44, true), (45, true), (46, true)] (by kernel_rfl) rfl ?_
   refine DX.tail2 [] rfl rfl (by kernel_rfl) ?_
   refine R0 ?_
   have hP1 : spec_ValidPending_L1 l l 0 = (some false) := by rw [v2, drop_get e1h]; simp only [spec_ValidPending_L1, h2, ct, cf]
   have hP2 : spec_ValidPending l = false := by simp only [spec_ValidPending, hP1, ct, cf]
   exact R3 hP2
  ·skip
   have h2d := (B.nf h2)
   refine DX.takes (fuel := 37) ttOk [(8, true), (9, true)] (by kernel_rfl) rfl ?_
   refine DX.idx 10 0 i ttOk hΓ0 (by kernel_rfl) rfl rfl rfl rfl rfl rfl rfl rfl rfl rfl rfl e1i ?_
   rintro ad2 ⟨⟩
   refine DX.takes (fuel := 34) ttOk [(11, true), (12, true)] (by kernel_rfl) rfl ?_
   refine DX.ldE 13 0 3 e1 ttOk hΓ0 (by kernel_rfl) rfl rfl rfl rfl rfl rfl rfl rfl e1h (fun _ => rfl) (fun _ => rfl) ?_
   rintro ⟨⟨p3, c3⟩, ⟨p4, c4⟩, ⟨⟩⟩
   refine DX.takes (fuel := 29) ttOk [(14, true), (15, true), (16, true), (17, true)] (by kernel_rfl) rfl ?_
   refine DX.cases 27 rfl (fun h3 => ?_) (fun h3 => ?_)
   ·skip
    have h3d := B.et h3
    refine DX.takes (fuel := 0) ttOk [(18, true), (19, true), (20, true), (21, true), (22, true), (23, true), (24, true), (25, true), (26, true), (27, true), (28, true), (29, true), (30, true), (31, true), (32, true), (33, true), (34, true), (35, true), (36, true), (37, true), (38, true), (39, true), (40, true), (41, true), (42, true), (43, true), (44, true), (45, true), (46, true)] (by kernel_rfl) rfl ?_
    refine DX.tail2 [] rfl rfl (by kernel_rfl) ?_
    refine R0 ?_
    have hP3 : spec_ValidPending_L1 l l 0 = (some false) := by rw [v2, drop_get e1h]; simp only [spec_ValidPending_L1, h2, h3, ct, cf]
    have hP4 : spec_ValidPending l = false := by simp only [spec_ValidPending, hP3, ct, cf]
    exact R3 hP4
   ·skip
    have h3d := B.ef h3
    refine DX.takes (fuel := 27) ttOk [(18, true), (19, true)] (by kernel_rfl) rfl ?_
    refine DX.idx 20 0 i ttOk hΓ0 (by kernel_rfl) rfl rfl rfl rfl rfl rfl rfl rfl rfl rfl rfl e1i ?_
    rintro ad3 ⟨⟩
    refine DX.takes (fuel := 25) ttOk [(21, true)] (by kernel_rfl) rfl ?_
    refine DX.ldE 22 0 5 e1 ttOk hΓ0 (by kernel_rfl) rfl rfl rfl rfl rfl rfl rfl rfl e1h (fun _ => rfl) (fun _ => rfl) ?_
    rintro ⟨⟨p5, c5⟩, ⟨p6, c6⟩, ⟨⟩⟩
    refine DX.callV 23 rfl (by kernel_rfl) rfl rfl rfl rfl rfl rfl (fun _ => rfl) rfl (fun w G bs hI hΓ => f328 w n (by omega) e1.requesters p6 c6 (hΓ.get 6 rfl) ((ok_PendingInterest ok1).2.1)) ?_
    intro hq2
    refine DX.takes (fuel := 20) ttOk [(24, true), (25, true), (26, true)] (by kernel_rfl) rfl ?_
    refine DX.cases 36 rfl (fun h4 => ?_) (fun h4 => ?_)
    ·skip
     have h4d := (B.nt h4)
     refine DX.takes (fuel := 0) ttOk [(27, true), (28, true), (29, true), (30, true), (31, true), (32, true), (33, true), (34, true), (35, true), (36, true), (37, true), (38, true), (39, true), (40, true), (41, true), (42, true), (43, true), (44, true), (45, true), (46, true)] (by kernel_rfl) rfl ?_
     refine DX.tail2 [] rfl rfl (by kernel_rfl) ?_
     refine R0 ?_
     have hP5 : spec_ValidPending_L1 l l 0 = (some false) := by rw [v2, drop_get e1h]; simp only [spec_ValidPending_L1, h2, h3, h4, ct, cf]
     have hP6 : spec_ValidPending l = false := by simp only [spec_ValidPending, hP5, ct, cf]
     exact R3 hP6
    ·skip
     have h4d := (B.nf h4)
     refine DX.takes (fuel := 18) ttOk [(27, true), (28, true)] (by kernel_rfl) rfl ?_
     refine DX.idx 29 0 i ttOk hΓ0 (by kernel_rfl) rfl rfl rfl rfl rfl rfl rfl rfl rfl rfl rfl e1i ?_
     rintro ad4 ⟨⟩
     refine DX.takes (fuel := 16) ttOk [(30, true)] (by kernel_rfl) rfl ?_
     refine DX.ldE 31 0 7 e1 ttOk hΓ0 (by kernel_rfl) rfl rfl rfl rfl rfl rfl rfl rfl e1h (fun _ => rfl) (fun _ => rfl) ?_
     rintro ⟨⟨p7, c7⟩, ⟨p8, c8⟩, ⟨⟩⟩
     refine DX.callV 32 rfl (by kernel_rfl) rfl rfl rfl rfl rfl rfl (fun _ => rfl) rfl (fun w G bs hI hΓ => f142 w n (by omega) e1.lastSent 0 100000 ((ok_PendingInterest ok1).2.2) (show I64 0 from (by unfold I64; omega)) (show I64 100000 from (by unfold I64; omega))) ?_
     intro hq3
     refine DX.takes (fuel := 11) ttOk [(33, true), (34, true), (35, true)] (by kernel_rfl) rfl ?_
     refine DX.cases 45 rfl (fun h5 => ?_) (fun h5 => ?_)
     ·skip
      have h5d := (B.nt h5)
      refine DX.takes (fuel := 0) ttOk [(36, true), (37, true), (38, true), (39, true), (40, true), (41, true), (42, true), (43, true), (44, true), (45, true), (46, true)] (by kernel_rfl) rfl ?_
      refine DX.tail2 [] rfl rfl (by kernel_rfl) ?_
      refine R0 ?_
      have hP7 : spec_ValidPending_L1 l l 0 = (some false) := by rw [v2, drop_get e1h]; simp only [spec_ValidPending_L1, h2, h3, h4, h5, ct, cf]
      have hP8 : spec_ValidPending l = false := by simp only [spec_ValidPending, hP7, ct, cf]
      exact R3 hP8
     ·skip
      have h5d := (B.nf h5)
      have h5r := inR_spec (B.nf h5)
      refine DX.takes (fuel := 9) ttOk [(36, true), (37, true)] (by kernel_rfl) rfl ?_
      refine DX.seeP 38 (by kernel_rfl) rfl rfl rfl rfl (looksP_slH i ttOk rfl rfl rfl rfl (by simp) (Nat.le_trans (show i ≤ (l).length from (by omega)) (hΓ0.get 0 rfl : RdSl _ _ _ _).1)) ?_
      refine DX.slot 48 (y := .v (.slice (some ad1) (((List.take i l)).length) cl)) rfl (fun _ => by rw [show ((List.take i l)).length = i from (by simp only [List.length_take]; have z_ := (show i ≤ (l).length from (by omega)); omega)]) ?_
      refine DX.der 9 (MF.rs .der (some ad1) cl (List.take i l)) rfl (fun _ hΓ => RdSl.pre (hΓ.get 0 rfl : RdSl _ _ _ _) i) ?_
      refine DX.takes (fuel := 6) ttOk [(39, true), (40, true)] (by kernel_rfl) rfl ?_
      refine DX.idx 41 0 i ttOk hΓ0 (by kernel_rfl) rfl rfl rfl rfl rfl rfl rfl rfl rfl rfl rfl e1i ?_
      rintro ad5 ⟨⟩
      refine DX.takes (fuel := 4) ttOk [(42, true)] (by kernel_rfl) rfl ?_
      refine DX.ldE 43 0 10 e1 ttOk hΓ0 (by kernel_rfl) rfl rfl rfl rfl rfl rfl rfl rfl e1h (fun _ => rfl) (fun _ => rfl) ?_
      rintro ⟨⟨p9, c9⟩, ⟨p10, c10⟩, ⟨⟩⟩
      refine DX.callV 44 rfl (by kernel_rfl) rfl rfl rfl rfl rfl rfl (fun _ => rfl) rfl (fun w G bs hI hΓ => f329 w n (by omega) (List.take i l) (some ad1) cl (hΓ.get 9 rfl) e1.name p9 c9 (hΓ.get 10 rfl) (okl_mk (by first | assumption | omega | (simp; omega)) (fun a ha => (okl hokl).2 a (List.mem_of_mem_take ha)) : GoT.ok n ((List.take i l) : List PendingInterest)) ((ok_PendingInterest ok1).1)) ?_
      intro hq4
      refine DX.takes (fuel := 0) ttOk [(45, true), (46, true)] (by kernel_rfl) rfl ?_
      refine DX.tail2 [] rfl rfl (by kernel_rfl) ?_
      refine R0 ?_
      refine WX.cases 56 rfl (fun h6 => ?_) (fun h6 => ?_)
      ·skip
       have h6d := B.dt h6
       refine R0 ?_
       have hP9 : spec_ValidPending_L1 l l 0 = (some false) := by rw [v2, drop_get e1h]; simp only [spec_ValidPending_L1, h2, h3, h4, h5, h6, ct, cf]
       have hP10 : spec_ValidPending l = false := by simp only [spec_ValidPending, hP9, ct, cf]
       exact R3 hP10
      ·skip
       have h6d := B.df h6
       refine R0 ?_
       refine WX.see rfl rfl rfl (fun _ hΓ => looks_arith rfl rfl rfl rfl (by unfold I64; first | omega | (simp only [List.length_take] at *; omega))) ?_
       refine R0 ?_
       exact WX.iter (i + 1) ⟨(by omega), (by rw [v2, drop_get e1h]; simp only [spec_ValidPending_L1, h2, h3, h4, h5, h6, ct, cf])⟩ (by first | (dsimp only; omega) | omega) (.cons rfl (.cons rfl (.nil))) .nil .nil [0] rfl
 ·skip
  have h1d := B.df h1
  refine R0 ?_
  have hX1 : spec_ValidPending_L1 l l 0 = none := by rw [v2, List.drop_eq_nil_of_le (show (l).length ≤ i by omega)]; simp only [spec_ValidPending_L1, ct, cf]
  have hP11 : spec_ValidPending l = (decide ((((l).length : Nat) : Int) ≤ 12)) := by simp only [spec_ValidPending, hX1, ct, cf]
  exact R3 hP11
theorem f400 (w : World) (n : Nat) (hn : n + 0 ≤ 9) (r : Route) (K0 : Option Addr) (M0 : Nat) (N0 : RdSl (hp w) K0 M0 r.pfx.parts) (face : Int) (bface : Addr) (hface : RdSl (hp w) (some bface) 1 [face]) (prefix_ : Name) (bprefix_ : Addr) (hprefix_ : RdSl (hp w) (some bprefix_) 1 [prefix_]) (hokr : GoT.ok n r) (hokface : GoT.ok n face) (hokprefix_ : GoT.ok n prefix_) :
  Does Tryz.prog 400 #[.agg #[.slice K0 ((r.pfx.parts).length) M0, .int .i64 (r.face), .int .i64 (r.cost)], .pointer (some bface), .pointer (some bprefix_)] w emp (fun (rv : Value) (_ : World) => rv = .bool (impl_routeAt_c1 face prefix_ r) ∧ True) := by
 have hbP := bd_pos n
 have hbB := bd_big (n := n) (by omega)
 refine WX.enter (tt := tt) (Γ := [(0, MF.rs .stb K0 M0 r.pfx.parts), (1, MF.rs .stb (some bface) 1 ([face])), (2, MF.rs .stb (some bprefix_) 1 ([prefix_]))]) Tryz.func400 rfl (by kernel_rfl) rfl (allS_cons rfl N0 (allS_cons rfl hface (allS_cons rfl hprefix_ allS_nil))) ?_
 have faceh : ([face] : List Int)[0]? = some face := rfl
 refine WX.slot 1 (y := .e (some bface) 0 1 0) rfl (fun _ => cap_eq) ?_
 have prefix_h : ([prefix_] : List Name)[0]? = some prefix_ := rfl
 refine WX.slot 2 (y := .e (some bprefix_) 0 1 0) rfl (fun _ => cap_eq) ?_
 refine R0 ?_
 refine WX.ldE 1 3 face ttOk rfl rfl rfl rfl rfl rfl rfl rfl faceh (fun _ => rfl) (fun _ => rfl) ?_
 rintro ⟨⟩
 refine R0 ?_
 refine WX.cases 9 rfl (fun h1 => ?_) (fun h1 => ?_)
 ·skip
  have h1d := B.et h1
  refine R0 ?_
  refine WX.ldE 2 3 prefix_ ttOk rfl rfl rfl rfl rfl rfl rfl rfl prefix_h (fun _ => rfl) (fun _ => rfl) ?_
  rintro ⟨p1, c1⟩
  refine WX.callV rfl rfl rfl rfl rfl (fun _ => rfl) rfl (fun w G bs hI hΓ => f100 w n (by omega) r.pfx K0 M0 (hΓ.get 0 rfl) prefix_ p1 c1 (hΓ.get 3 rfl) ((ok_Route hokr).1) hokprefix_) ?_
  intro hq1
  refine R0 ?_
  have hP1 : impl_routeAt_c1 face prefix_ r = (impl_EqualNames r.pfx prefix_) := by simp only [impl_routeAt_c1, h1, ct, cf]
  exact R3 hP1
 ·skip
  have h1d := B.ef h1
  refine R0 ?_
  have hP2 : impl_routeAt_c1 face prefix_ r = false := by simp only [impl_routeAt_c1, h1, ct, cf]
  exact R3 hP2
theorem f352 (w : World) (n : Nat) (hn : n + 0 ≤ 9) (l : (List Route)) (pl : Option Addr) (cl : Nat) (N0 : RdSl (hp w) pl cl l) (prefix_ : Name) (K1 : Option Addr) (M1 : Nat) (N1 : RdSl (hp w) K1 M1 prefix_.parts) (face : Int) (hokl : GoT.ok n l) (hokprefix_ : GoT.ok n prefix_) (hokface : GoT.ok n face) :
  Does Tryz.prog 352 #[.slice pl ((l).length) cl, .agg #[.slice K1 ((prefix_.parts).length) M1], .int .i64 (face)] w emp (fun (rv : Value) (_ : World) => rv = .int .i64 ((impl_routeAt l prefix_ face)) ∧ GoT.ok n ((impl_routeAt l prefix_ face) : Int)) := by
 have hbP := bd_pos n
 have hbB := bd_big (n := n) (by omega)
 refine WX.enter (tt := tt) (Γ := [(0, MF.rs .stb pl cl l), (1, MF.rs .stb K1 M1 prefix_.parts)]) Tryz.func352 rfl (by kernel_rfl) rfl (allS_cons rfl N0 (allS_cons rfl N1 allS_nil)) ?_
 refine R0 ?_
 refine WX.callV rfl rfl rfl rfl rfl (fun _ => rfl) rfl (fun w G bs hI hΓ => f399 w n (by omega) l pl cl (hΓ.get 0 rfl) 400 [Value.pointer (some ⟨bs 5, 0, none⟩), Value.pointer (some ⟨bs 4, 0, none⟩)] (fun e0_ => (impl_routeAt_c1 face prefix_ e0_)) (fun w1_ hb_ e0_ x0_ hk0_ hx0_ => f400 w1_ n (by omega) e0_ x0_.1.1 x0_.1.2 (hx0_ _ List.mem_cons_self) face ⟨bs 5, 0, none⟩ ((rd_box (α := Int) (a := face) (x := ()) (hI.loc 5 _ rfl).1 All.nil).mono (kp_le hb_)) prefix_ ⟨bs 4, 0, none⟩ ((rd_box (α := Name) (a := prefix_) (x := (K1, M1)) (hI.loc 4 _ rfl).1 (All.cons (hΓ.get 1 rfl : RdSl _ _ _ _) All.nil)).mono (kp_le hb_)) hk0_ hokface hokprefix_) hokl) ?_
 intro hq1
 have q1 := ltI_slices_IndexFunc_Route l (fun e0_ => (impl_routeAt_c1 face prefix_ e0_))
 refine R0 ?_
 have hP1 : impl_routeAt l prefix_ face = (slices_IndexFunc_Route l (fun e0_ => (impl_routeAt_c1 face prefix_ e0_))) := by simp only [impl_routeAt, ct, cf]
 refine R1 ?_
 intro w1 G bs hI hΓ
 rw [hP1]
 exact ⟨rfl, hq1⟩
theorem f291 (w : World) (n : Nat) (hn : n + 0 ≤ 9) (l : (List Route)) (pl : Option Addr) (cl : Nat) (N0 : RdSl (hp w) pl cl l) (hokl : GoT.ok n l) :
  Does Tryz.prog 291 #[.slice pl ((l).length) cl] w emp (fun (rv : Value) (_ : World) => rv = .bool (impl_ValidRoutes l) ∧ True) := by
 have hbP := bd_pos n
 have hbB := bd_big (n := n) (by omega)
 refine WX.enter (tt := tt) (Γ := [(0, MF.rs .stb pl cl l)]) Tryz.func291 rfl (by kernel_rfl) rfl (allS_cons rfl N0 allS_nil) ?_
 refine R0 ?_
 have r1 : (l).length ≤ bd n := (okl hokl).1
 refine WX.loop (ι := Nat) ⟨fun i => (i ≤ (l).length) ∧ (impl_ValidRoutes_L1 l l 0 = impl_ValidRoutes_L1 l ((l).drop i) i), fun i => (l).length - i, fun i => [(7, .v (.int .i64 (((i : Nat) : Int)))), (6, .v (.int .i64 ((((l).length : Nat) : Int)))), (5, .v (.slice pl ((l).length) cl)), (0, .v (.slice pl ((l).length) cl))], fun i => [], fun i => [], fun i => [(0, MF.rs .stb pl cl l)]⟩ 0 ⟨(Nat.zero_le _), rfl⟩
  (.cons rfl (.cons rfl (.cons rfl (.cons rfl (.nil))))) .nil .nil [0] rfl ?_
 rintro i hpre
 have hpre_ : (i ≤ (l).length) ∧ (impl_ValidRoutes_L1 l l 0 = impl_ValidRoutes_L1 l ((l).drop i) i) := hpre
 clear hpre
 obtain ⟨v1, v2⟩ := hpre_
 refine R0 ?_
 refine WX.cases 8 rfl (fun h1 => ?_) (fun h1 => ?_)
 ·skip
  have h1d := B.dt h1
  have e1i : i < (l).length := (by omega)
  obtain ⟨e1, e1h⟩ : ∃ e1, (l)[i]? = some e1 := ⟨_, List.getElem?_eq_getElem e1i⟩
  have ok1 : GoT.ok n e1 := (okl hokl).2 _ (List.mem_of_getElem? e1h)
  refine R0 ?_
  refine WX.idx 0 i ttOk rfl rfl rfl rfl rfl rfl rfl rfl rfl rfl e1i ?_
  rintro ad1 rfl
  refine WX.ldE 0 1 e1 ttOk rfl rfl rfl rfl rfl rfl rfl rfl e1h (fun _ => rfl) (fun _ => rfl) ?_
  rintro ⟨⟨p1, c1⟩, ⟨⟩, ⟨⟩⟩
  refine R0 ?_
  refine WX.draw [] mixed ?_
  intro bs G0 hΓ0
  refine DX.takes (fuel := 25) ttOk [(0, true), (1, false)] (by kernel_rfl) rfl ?_
  refine DX.callV 2 rfl (by kernel_rfl) rfl rfl rfl rfl rfl rfl (fun _ => rfl) rfl (fun w G bs hI hΓ => f103 w n (by omega) e1.pfx p1 c1 (hΓ.get 1 rfl) ((ok_Route ok1).1)) ?_
  intro hq1
  refine DX.takes (fuel := 22) ttOk [(3, true), (4, true)] (by kernel_rfl) rfl ?_
  refine DX.cases 16 rfl (fun h2 => ?_) (fun h2 => ?_)
  ·skip
   have h2d := (B.nt h2)
   refine DX.takes (fuel := 0) ttOk [(5, true), (6, true), (7, true), (8, true), (9, true), (10, true), (11, true), (12, true), (13, true), (14, true), (15, true), (16, true), (17, true), (18, true), (19, true), (20, true), (21, true), (22, true), (23, true), (24, true), (25, true), (26, true)] (by kernel_rfl) rfl ?_
   refine DX.tail2 [] rfl rfl (by kernel_rfl) ?_
   refine R0 ?_
   have hP1 : impl_ValidRoutes_L1 l l 0 = (some false) := by rw [v2, drop_get e1h]; simp only [impl_ValidRoutes_L1, h2, ct, cf]
   have hP2 : impl_ValidRoutes l = false := by simp only [impl_ValidRoutes, hP1, ct, cf]
   exact R3 hP2
  ·skip
   have h2d := (B.nf h2)
   refine DX.takes (fuel := 20) ttOk [(5, true), (6, false)] (by kernel_rfl) rfl ?_
   refine DX.callV 7 rfl (by kernel_rfl) rfl rfl rfl rfl rfl rfl (fun _ => rfl) rfl (fun w G bs hI hΓ => f138 w n (by omega) e1.face 1 6 ((ok_Route ok1).2.1) (show I64 1 from (by unfold I64; omega)) (show I64 6 from (by unfold I64; omega))) ?_
   intro hq2
   refine DX.takes (fuel := 16) ttOk [(8, true), (9, true), (10, true)] (by kernel_rfl) rfl ?_
   refine DX.cases 22 rfl (fun h3 => ?_) (fun h3 => ?_)
   ·skip
    have h3d := (B.nt h3)
    refine DX.takes (fuel := 0) ttOk [(11, true), (12, true), (13, true), (14, true), (15, true), (16, true), (17, true), (18, true), (19, true), (20, true), (21, true), (22, true), (23, true), (24, true), (25, true), (26, true)] (by kernel_rfl) rfl ?_
    refine DX.tail2 [] rfl rfl (by kernel_rfl) ?_
    refine R0 ?_
    have hP3 : impl_ValidRoutes_L1 l l 0 = (some false) := by rw [v2, drop_get e1h]; simp only [impl_ValidRoutes_L1, h2, h3, ct, cf]
    have hP4 : impl_ValidRoutes l = false := by simp only [impl_ValidRoutes, hP3, ct, cf]
    exact R3 hP4
   ·skip
    have h3d := (B.nf h3)
    have h3r := inR_impl (B.nf h3)
    refine DX.takes (fuel := 14) ttOk [(11, true), (12, false)] (by kernel_rfl) rfl ?_
    refine DX.callV 13 rfl (by kernel_rfl) rfl rfl rfl rfl rfl rfl (fun _ => rfl) rfl (fun w G bs hI hΓ => f138 w n (by omega) e1.cost 0 1000 ((ok_Route ok1).2.2) (show I64 0 from (by unfold I64; omega)) (show I64 1000 from (by unfold I64; omega))) ?_
    intro hq3
    refine DX.takes (fuel := 10) ttOk [(14, true), (15, true), (16, true)] (by kernel_rfl) rfl ?_
    refine DX.cases 28 rfl (fun h4 => ?_) (fun h4 => ?_)
    ·skip
     have h4d := (B.nt h4)
     refine DX.takes (fuel := 0) ttOk [(17, true), (18, true), (19, true), (20, true), (21, true), (22, true), (23, true), (24, true), (25, true), (26, true)] (by kernel_rfl) rfl ?_
     refine DX.tail2 [] rfl rfl (by kernel_rfl) ?_
     refine R0 ?_
     have hP5 : impl_ValidRoutes_L1 l l 0 = (some false) := by rw [v2, drop_get e1h]; simp only [impl_ValidRoutes_L1, h2, h3, h4, ct, cf]
     have hP6 : impl_ValidRoutes l = false := by simp only [impl_ValidRoutes, hP5, ct, cf]
     exact R3 hP6
    ·skip
     have h4d := (B.nf h4)
     have h4r := inR_impl (B.nf h4)
     refine DX.takes (fuel := 8) ttOk [(17, true), (18, true)] (by kernel_rfl) rfl ?_
     refine DX.seeP 19 (by kernel_rfl) rfl rfl rfl rfl (looksP_slH i ttOk rfl rfl rfl rfl (by simp) (Nat.le_trans (show i ≤ (l).length from (by omega)) (hΓ0.get 0 rfl : RdSl _ _ _ _).1)) ?_
     refine DX.slot 31 (y := .v (.slice (some ad1) (((List.take i l)).length) cl)) rfl (fun _ => by rw [show ((List.take i l)).length = i from (by simp only [List.length_take]; have z_ := (show i ≤ (l).length from (by omega)); omega)]) ?_
     refine DX.der 2 (MF.rs .der (some ad1) cl (List.take i l)) rfl (fun _ hΓ => RdSl.pre (hΓ.get 0 rfl : RdSl _ _ _ _) i) ?_
     refine DX.takes (fuel := 3) ttOk [(20, true), (21, false), (22, true), (23, false)] (by kernel_rfl) rfl ?_
     refine DX.callV 24 rfl (by kernel_rfl) rfl rfl rfl rfl rfl rfl (fun _ => rfl) rfl (fun w G bs hI hΓ => f352 w n (by omega) (List.take i l) (some ad1) cl (hΓ.get 2 rfl) e1.pfx p1 c1 (hΓ.get 1 rfl) e1.face (okl_mk (by first | assumption | omega | (simp; omega)) (fun a ha => (okl hokl).2 a (List.mem_of_mem_take ha)) : GoT.ok n ((List.take i l) : List Route)) ((ok_Route ok1).1) ((ok_Route ok1).2.1)) ?_
     intro hq4
     refine DX.takes (fuel := 0) ttOk [(25, true), (26, true)] (by kernel_rfl) rfl ?_
     refine DX.tail2 [] rfl rfl (by kernel_rfl) ?_
     refine R0 ?_
     refine WX.cases 38 rfl (fun h5 => ?_) (fun h5 => ?_)
     ·skip
      have h5d := B.dt h5
      refine R0 ?_
      have hP7 : impl_ValidRoutes_L1 l l 0 = (some false) := by rw [v2, drop_get e1h]; simp only [impl_ValidRoutes_L1, h2, h3, h4, h5, ct, cf]
      have hP8 : impl_ValidRoutes l = false := by simp only [impl_ValidRoutes, hP7, ct, cf]
      exact R3 hP8
     ·skip
      have h5d := B.df h5
      refine R0 ?_
      refine WX.see rfl rfl rfl (fun _ hΓ => looks_arith rfl rfl rfl rfl (by unfold I64; first | omega | (simp only [List.length_take] at *; omega))) ?_
      refine R0 ?_
      exact WX.iter (i + 1) ⟨(by omega), (by rw [v2, drop_get e1h]; simp only [impl_ValidRoutes_L1, h2, h3, h4, h5, ct, cf])⟩ (by first | (dsimp only; omega) | omega) (.cons rfl (.cons rfl (.cons rfl (.cons rfl (.nil))))) .nil .nil [0] rfl
 ·skip
  have h1d := B.df h1
  refine R0 ?_
  have hX1 : impl_ValidRoutes_L1 l l 0 = none := by rw [v2, List.drop_eq_nil_of_le (show (l).length ≤ i by omega)]; simp only [impl_ValidRoutes_L1, ct, cf]
  have hP9 : impl_ValidRoutes l = (decide ((((l).length : Nat) : Int) ≤ 24)) := by simp only [impl_ValidRoutes, hX1, ct, cf]
  exact R3 hP9
theorem f330 (w : World) (n : Nat) (hn : n + 0 ≤ 9) (l : (List Route)) (pl : Option Addr) (cl : Nat) (N0 : RdSl (hp w) pl cl l) (n_ : Name) (K1 : Option Addr) (M1 : Nat) (N1 : RdSl (hp w) K1 M1 n_.parts) (side : Int) (hokl : GoT.ok n l) (hokn_ : GoT.ok n n_) (hokside : GoT.ok n side) :
  Does Tryz.prog 330 #[.slice pl ((l).length) cl, .agg #[.slice K1 ((n_.parts).length) M1], .int .i64 (side)] w emp (fun (rv : Value) (_ : World) => rv = .int .i64 ((spec_l14Find l n_ side)) ∧ GoT.ok n ((spec_l14Find l n_ side) : Int)) := by
 have hbP := bd_pos n
 have hbB := bd_big (n := n) (by omega)
 refine WX.enter (tt := tt) (Γ := [(0, MF.rs .stb pl cl l), (1, MF.rs .stb K1 M1 n_.parts)]) Tryz.func330 rfl (by kernel_rfl) rfl (allS_cons rfl N0 (allS_cons rfl N1 allS_nil)) ?_
 refine R0 ?_
 have r1 : (l).length ≤ bd n := (okl hokl).1
 refine WX.loop (ι := Nat) ⟨fun i => (i ≤ (l).length) ∧ (spec_l14Find_L1 n_ side l 0 = spec_l14Find_L1 n_ side ((l).drop i) i), fun i => (l).length - i, fun i => [(7, .v (.int .i64 (((i : Nat) : Int)))), (4, .p 4 0), (0, .v (.slice pl ((l).length) cl)), (2, .v (.int .i64 (side)))], fun i => [(4, ⟨30, [.slice K1 ((n_.parts).length) M1]⟩)], fun i => [], fun i => [(0, MF.rs .stb pl cl l), (1, MF.rs .stb K1 M1 n_.parts)]⟩ 0 ⟨(Nat.zero_le _), rfl⟩
  (.cons rfl (.cons rfl (.cons rfl (.cons rfl (.nil))))) (.cons rfl (.nil)) .nil [0, 1] rfl ?_
 rintro i hpre
 have hpre_ : (i ≤ (l).length) ∧ (spec_l14Find_L1 n_ side l 0 = spec_l14Find_L1 n_ side ((l).drop i) i) := hpre
 clear hpre
 obtain ⟨v1, v2⟩ := hpre_
 refine R0 ?_
 refine WX.cases 11 rfl (fun h1 => ?_) (fun h1 => ?_)
 ·skip
  have h1d := B.dt h1
  have e1i : i < (l).length := (by omega)
  obtain ⟨e1, e1h⟩ : ∃ e1, (l)[i]? = some e1 := ⟨_, List.getElem?_eq_getElem e1i⟩
  have ok1 : GoT.ok n e1 := (okl hokl).2 _ (List.mem_of_getElem? e1h)
  refine R0 ?_
  refine WX.draw [] mixed ?_
  intro bs G0 hΓ0
  refine DX.takes (fuel := 14) ttOk [(0, true), (1, true)] (by kernel_rfl) rfl ?_
  refine DX.idx 2 0 i ttOk hΓ0 (by kernel_rfl) rfl rfl rfl rfl rfl rfl rfl rfl rfl rfl rfl e1i ?_
  rintro ad1 rfl
  refine DX.takes (fuel := 12) ttOk [(3, true)] (by kernel_rfl) rfl ?_
  refine DX.ldE 4 0 2 e1 ttOk hΓ0 (by kernel_rfl) rfl rfl rfl rfl rfl rfl rfl rfl e1h (fun _ => rfl) (fun _ => rfl) ?_
  rintro ⟨⟨p1, c1⟩, ⟨⟩, ⟨⟩⟩
  refine DX.takes (fuel := 8) ttOk [(5, true), (6, true), (7, true)] (by kernel_rfl) rfl ?_
  refine DX.cases 21 rfl (fun h2 => ?_) (fun h2 => ?_)
  ·skip
   have h2d := B.et h2
   refine DX.takes (fuel := 6) ttOk [(8, true), (9, true)] (by kernel_rfl) rfl ?_
   refine DX.idx 10 0 i ttOk hΓ0 (by kernel_rfl) rfl rfl rfl rfl rfl rfl rfl rfl rfl rfl rfl e1i ?_
   rintro ad2 ⟨⟩
   refine DX.takes (fuel := 4) ttOk [(11, true)] (by kernel_rfl) rfl ?_
   refine DX.ldE 12 0 3 e1 ttOk hΓ0 (by kernel_rfl) rfl rfl rfl rfl rfl rfl rfl rfl e1h (fun _ => rfl) (fun _ => rfl) ?_
   rintro ⟨⟨p2, c2⟩, ⟨⟩, ⟨⟩⟩
   refine DX.takes (fuel := 2) ttOk [(13, false)] (by kernel_rfl) rfl ?_
   refine DX.callV 14 rfl (by kernel_rfl) rfl rfl rfl rfl rfl rfl (fun _ => rfl) rfl (fun w G bs hI hΓ => f152 w n (by omega) e1.pfx p2 c2 (hΓ.get 3 rfl) n_ K1 M1 (hΓ.get 1 rfl) ((ok_Route ok1).1) hokn_) ?_
   intro hq1
   refine DX.takes (fuel := 0) ttOk [(15, true)] (by kernel_rfl) rfl ?_
   refine DX.tail2 [] rfl rfl (by kernel_rfl) ?_
   refine R0 ?_
   refine WX.cases 29 rfl (fun h3 => ?_) (fun h3 => ?_)
   ·skip
    refine R0 ?_
    have hP1 : spec_l14Find_L1 n_ side l 0 = (some ((i : Nat) : Int)) := by rw [v2, drop_get e1h]; simp only [spec_l14Find_L1, h2, h3, ct, cf]
    have hP2 : spec_l14Find l n_ side = ((i : Nat) : Int) := by simp only [spec_l14Find, hP1, ct, cf]
    refine R1 ?_
    intro w1 G bs hI hΓ
    rw [hP2]
    exact ⟨rfl, (show I64 ((i : Nat) : Int) from (by unfold I64; omega))⟩
   ·skip
    refine R0 ?_
    refine WX.see rfl rfl rfl (fun _ hΓ => looks_arith rfl rfl rfl rfl (by unfold I64; first | omega | (simp only [List.length_take] at *; omega))) ?_
    refine R0 ?_
    exact WX.iter (i + 1) ⟨(by omega), (by rw [v2, drop_get e1h]; simp only [spec_l14Find_L1, h2, h3, ct, cf])⟩ (by first | (dsimp only; omega) | omega) (.cons rfl (.cons rfl (.cons rfl (.cons rfl (.nil))))) (.cons rfl (.nil)) .nil [0, 1] rfl
  ·skip
   have h2d := B.ef h2
   refine DX.takes (fuel := 0) ttOk [(8, true), (9, true), (10, true), (11, true), (12, true), (13, true), (14, true), (15, true)] (by kernel_rfl) rfl ?_
   refine DX.tail2 [] rfl rfl (by kernel_rfl) ?_
   refine R0 ?_
   refine WX.see rfl rfl rfl (fun _ hΓ => looks_arith rfl rfl rfl rfl (by unfold I64; first | omega | (simp only [List.length_take] at *; omega))) ?_
   refine R0 ?_
   exact WX.iter (i + 1) ⟨(by omega), (by rw [v2, drop_get e1h]; simp only [spec_l14Find_L1, h2, ct, cf])⟩ (by first | (dsimp only; omega) | omega) (.cons rfl (.cons rfl (.cons rfl (.cons rfl (.nil))))) (.cons rfl (.nil)) .nil [0, 1] rfl
 ·skip
  have h1d := B.df h1
  refine R0 ?_
  have hX1 : spec_l14Find_L1 n_ side l 0 = none := by rw [v2, List.drop_eq_nil_of_le (show (l).length ≤ i by omega)]; simp only [spec_l14Find_L1, ct, cf]
  have hP3 : spec_l14Find l n_ side = (-1) := by simp only [spec_l14Find, hX1, ct, cf]
  refine R1 ?_
  intro w1 G bs hI hΓ
  rw [hP3]
  exact ⟨rfl, (show I64 (-1) from (by unfold I64; omega))⟩
theorem f271 (w : World) (n : Nat) (hn : n + 0 ≤ 9) (l : (List Route)) (pl : Option Addr) (cl : Nat) (N0 : RdSl (hp w) pl cl l) (hokl : GoT.ok n l) :
  Does Tryz.prog 271 #[.slice pl ((l).length) cl] w emp (fun (rv : Value) (_ : World) => rv = .bool (spec_ValidRoutes l) ∧ True) := by
 have hbP := bd_pos n
 have hbB := bd_big (n := n) (by omega)
 refine WX.enter (tt := tt) (Γ := [(0, MF.rs .stb pl cl l)]) Tryz.func271 rfl (by kernel_rfl) rfl (allS_cons rfl N0 allS_nil) ?_
 refine R0 ?_
 have r1 : (l).length ≤ bd n := (okl hokl).1
 refine WX.loop (ι := Nat) ⟨fun i => (i ≤ (l).length) ∧ (spec_ValidRoutes_L1 l l 0 = spec_ValidRoutes_L1 l ((l).drop i) i), fun i => (l).length - i, fun i => [(3, .v (.int .i64 (((i : Nat) : Int)))), (0, .v (.slice pl ((l).length) cl))], fun i => [], fun i => [], fun i => [(0, MF.rs .stb pl cl l)]⟩ 0 ⟨(Nat.zero_le _), rfl⟩
  (.cons rfl (.cons rfl (.nil))) .nil .nil [0] rfl ?_
 rintro i hpre
 have hpre_ : (i ≤ (l).length) ∧ (spec_ValidRoutes_L1 l l 0 = spec_ValidRoutes_L1 l ((l).drop i) i) := hpre
 clear hpre
 obtain ⟨v1, v2⟩ := hpre_
 refine R0 ?_
 refine WX.cases 7 rfl (fun h1 => ?_) (fun h1 => ?_)
 ·skip
  have h1d := B.dt h1
  have e1i : i < (l).length := (by omega)
  obtain ⟨e1, e1h⟩ : ∃ e1, (l)[i]? = some e1 := ⟨_, List.getElem?_eq_getElem e1i⟩
  have ok1 : GoT.ok n e1 := (okl hokl).2 _ (List.mem_of_getElem? e1h)
  refine R0 ?_
  refine WX.draw [] mixed ?_
  intro bs G0 hΓ0
  refine DX.takes (fuel := 40) ttOk [(0, true), (1, true)] (by kernel_rfl) rfl ?_
  refine DX.idx 2 0 i ttOk hΓ0 (by kernel_rfl) rfl rfl rfl rfl rfl rfl rfl rfl rfl rfl rfl e1i ?_
  rintro ad1 rfl
  refine DX.takes (fuel := 38) ttOk [(3, true)] (by kernel_rfl) rfl ?_
  refine DX.ldE 4 0 1 e1 ttOk hΓ0 (by kernel_rfl) rfl rfl rfl rfl rfl rfl rfl rfl e1h (fun _ => rfl) (fun _ => rfl) ?_
  rintro ⟨⟨p1, c1⟩, ⟨⟩, ⟨⟩⟩
  refine DX.callV 5 rfl (by kernel_rfl) rfl rfl rfl rfl rfl rfl (fun _ => rfl) rfl (fun w G bs hI hΓ => f106 w n (by omega) e1.pfx p1 c1 (hΓ.get 1 rfl) ((ok_Route ok1).1)) ?_
  intro hq1
  refine DX.takes (fuel := 34) ttOk [(6, true), (7, true)] (by kernel_rfl) rfl ?_
  refine DX.cases 17 rfl (fun h2 => ?_) (fun h2 => ?_)
  ·skip
   have h2d := (B.nt h2)
   refine DX.takes (fuel := 0) ttOk [(8, true), (9, true), (10, true), (11, true), (12, true), (13, true), (14, true), (15, true), (16, true), (17, true), (18, true), (19, true), (20, true), (21, true), (22, true), (23, true), (24, true), (25, true), (26, true), (27, true), (28, true), (29, true), (30, true), (31, true), (32, true), (33, true), (34, true), (35, true), (36, true), (37, true), (38, true), (39, true), (40, true), (41, true)] (by kernel_rfl) rfl ?_
   refine DX.tail2 [] rfl rfl (by kernel_rfl) ?_
   refine R0 ?_
   have hP1 : spec_ValidRoutes_L1 l l 0 = (some false) := by rw [v2, drop_get e1h]; simp only [spec_ValidRoutes_L1, h2, ct, cf]
   have hP2 : spec_ValidRoutes l = false := by simp only [spec_ValidRoutes, hP1, ct, cf]
   exact R3 hP2
  ·skip
   have h2d := (B.nf h2)
   refine DX.takes (fuel := 32) ttOk [(8, true), (9, true)] (by kernel_rfl) rfl ?_
   refine DX.idx 10 0 i ttOk hΓ0 (by kernel_rfl) rfl rfl rfl rfl rfl rfl rfl rfl rfl rfl rfl e1i ?_
   rintro ad2 ⟨⟩
   refine DX.takes (fuel := 30) ttOk [(11, true)] (by kernel_rfl) rfl ?_
   refine DX.ldE 12 0 2 e1 ttOk hΓ0 (by kernel_rfl) rfl rfl rfl rfl rfl rfl rfl rfl e1h (fun _ => rfl) (fun _ => rfl) ?_
   rintro ⟨⟨p2, c2⟩, ⟨⟩, ⟨⟩⟩
   refine DX.callV 13 rfl (by kernel_rfl) rfl rfl rfl rfl rfl rfl (fun _ => rfl) rfl (fun w G bs hI hΓ => f142 w n (by omega) e1.face 1 6 ((ok_Route ok1).2.1) (show I64 1 from (by unfold I64; omega)) (show I64 6 from (by unfold I64; omega))) ?_
   intro hq2
   refine DX.takes (fuel := 25) ttOk [(14, true), (15, true), (16, true)] (by kernel_rfl) rfl ?_
   refine DX.cases 26 rfl (fun h3 => ?_) (fun h3 => ?_)
   ·skip
    have h3d := (B.nt h3)
    refine DX.takes (fuel := 0) ttOk [(17, true), (18, true), (19, true), (20, true), (21, true), (22, true), (23, true), (24, true), (25, true), (26, true), (27, true), (28, true), (29, true), (30, true), (31, true), (32, true), (33, true), (34, true), (35, true), (36, true), (37, true), (38, true), (39, true), (40, true), (41, true)] (by kernel_rfl) rfl ?_
    refine DX.tail2 [] rfl rfl (by kernel_rfl) ?_
    refine R0 ?_
    have hP3 : spec_ValidRoutes_L1 l l 0 = (some false) := by rw [v2, drop_get e1h]; simp only [spec_ValidRoutes_L1, h2, h3, ct, cf]
    have hP4 : spec_ValidRoutes l = false := by simp only [spec_ValidRoutes, hP3, ct, cf]
    exact R3 hP4
   ·skip
    have h3d := (B.nf h3)
    have h3r := inR_spec (B.nf h3)
    refine DX.takes (fuel := 23) ttOk [(17, true), (18, true)] (by kernel_rfl) rfl ?_
    refine DX.idx 19 0 i ttOk hΓ0 (by kernel_rfl) rfl rfl rfl rfl rfl rfl rfl rfl rfl rfl rfl e1i ?_
    rintro ad3 ⟨⟩
    refine DX.takes (fuel := 21) ttOk [(20, true)] (by kernel_rfl) rfl ?_
    refine DX.ldE 21 0 3 e1 ttOk hΓ0 (by kernel_rfl) rfl rfl rfl rfl rfl rfl rfl rfl e1h (fun _ => rfl) (fun _ => rfl) ?_
    rintro ⟨⟨p3, c3⟩, ⟨⟩, ⟨⟩⟩
    refine DX.callV 22 rfl (by kernel_rfl) rfl rfl rfl rfl rfl rfl (fun _ => rfl) rfl (fun w G bs hI hΓ => f142 w n (by omega) e1.cost 0 1000 ((ok_Route ok1).2.2) (show I64 0 from (by unfold I64; omega)) (show I64 1000 from (by unfold I64; omega))) ?_
    intro hq3
    refine DX.takes (fuel := 16) ttOk [(23, true), (24, true), (25, true)] (by kernel_rfl) rfl ?_
    refine DX.cases 35 rfl (fun h4 => ?_) (fun h4 => ?_)
    ·skip
     have h4d := (B.nt h4)
     refine DX.takes (fuel := 0) ttOk [(26, true), (27, true), (28, true), (29, true), (30, true), (31, true), (32, true), (33, true), (34, true), (35, true), (36, true), (37, true), (38, true), (39, true), (40, true), (41, true)] (by kernel_rfl) rfl ?_
     refine DX.tail2 [] rfl rfl (by kernel_rfl) ?_
     refine R0 ?_
     have hP5 : spec_ValidRoutes_L1 l l 0 = (some false) := by rw [v2, drop_get e1h]; simp only [spec_ValidRoutes_L1, h2, h3, h4, ct, cf]
     have hP6 : spec_ValidRoutes l = false := by simp only [spec_ValidRoutes, hP5, ct, cf]
     exact R3 hP6
    ·skip
     have h4d := (B.nf h4)
     have h4r := inR_spec (B.nf h4)
     refine DX.takes (fuel := 14) ttOk [(26, true), (27, true)] (by kernel_rfl) rfl ?_
     refine DX.seeP 28 (by kernel_rfl) rfl rfl rfl rfl (looksP_slH i ttOk rfl rfl rfl rfl (by simp) (Nat.le_trans (show i ≤ (l).length from (by omega)) (hΓ0.get 0 rfl : RdSl _ _ _ _).1)) ?_
     refine DX.slot 38 (y := .v (.slice (some ad1) (((List.take i l)).length) cl)) rfl (fun _ => by rw [show ((List.take i l)).length = i from (by simp only [List.length_take]; have z_ := (show i ≤ (l).length from (by omega)); omega)]) ?_
     refine DX.der 4 (MF.rs .der (some ad1) cl (List.take i l)) rfl (fun _ hΓ => RdSl.pre (hΓ.get 0 rfl : RdSl _ _ _ _) i) ?_
     refine DX.takes (fuel := 11) ttOk [(29, true), (30, true)] (by kernel_rfl) rfl ?_
     refine DX.idx 31 0 i ttOk hΓ0 (by kernel_rfl) rfl rfl rfl rfl rfl rfl rfl rfl rfl rfl rfl e1i ?_
     rintro ad4 ⟨⟩
     refine DX.takes (fuel := 9) ttOk [(32, true)] (by kernel_rfl) rfl ?_
     refine DX.ldE 33 0 5 e1 ttOk hΓ0 (by kernel_rfl) rfl rfl rfl rfl rfl rfl rfl rfl e1h (fun _ => rfl) (fun _ => rfl) ?_
     rintro ⟨⟨p4, c4⟩, ⟨⟩, ⟨⟩⟩
     refine DX.takes (fuel := 6) ttOk [(34, true), (35, true)] (by kernel_rfl) rfl ?_
     refine DX.idx 36 0 i ttOk hΓ0 (by kernel_rfl) rfl rfl rfl rfl rfl rfl rfl rfl rfl rfl rfl e1i ?_
     rintro ad5 ⟨⟩
     refine DX.takes (fuel := 4) ttOk [(37, true)] (by kernel_rfl) rfl ?_
     refine DX.ldE 38 0 6 e1 ttOk hΓ0 (by kernel_rfl) rfl rfl rfl rfl rfl rfl rfl rfl e1h (fun _ => rfl) (fun _ => rfl) ?_
     rintro ⟨⟨p5, c5⟩, ⟨⟩, ⟨⟩⟩
     refine DX.callV 39 rfl (by kernel_rfl) rfl rfl rfl rfl rfl rfl (fun _ => rfl) rfl (fun w G bs hI hΓ => f330 w n (by omega) (List.take i l) (some ad1) cl (hΓ.get 4 rfl) e1.pfx p4 c4 (hΓ.get 5 rfl) e1.face (okl_mk (by first | assumption | omega | (simp; omega)) (fun a ha => (okl hokl).2 a (List.mem_of_mem_take ha)) : GoT.ok n ((List.take i l) : List Route)) ((ok_Route ok1).1) ((ok_Route ok1).2.1)) ?_
     intro hq4
     refine DX.takes (fuel := 0) ttOk [(40, true), (41, true)] (by kernel_rfl) rfl ?_
     refine DX.tail2 [] rfl rfl (by kernel_rfl) ?_
     refine R0 ?_
     refine WX.cases 51 rfl (fun h5 => ?_) (fun h5 => ?_)
     ·skip
      have h5d := B.dt h5
      refine R0 ?_
      have hP7 : spec_ValidRoutes_L1 l l 0 = (some false) := by rw [v2, drop_get e1h]; simp only [spec_ValidRoutes_L1, h2, h3, h4, h5, ct, cf]
      have hP8 : spec_ValidRoutes l = false := by simp only [spec_ValidRoutes, hP7, ct, cf]
      exact R3 hP8
     ·skip
      have h5d := B.df h5
      refine R0 ?_
      refine WX.see rfl rfl rfl (fun _ hΓ => looks_arith rfl rfl rfl rfl (by unfold I64; first | omega | (simp only [List.length_take] at *; omega))) ?_
      refine R0 ?_
      exact WX.iter (i + 1) ⟨(by omega), (by rw [v2, drop_get e1h]; simp only [spec_ValidRoutes_L1, h2, h3, h4, h5, ct, cf])⟩ (by first | (dsimp only; omega) | omega) (.cons rfl (.cons rfl (.nil))) .nil .nil [0] rfl
 ·skip
  have h1d := B.df h1
  refine R0 ?_
  have hX1 : spec_ValidRoutes_L1 l l 0 = none := by rw [v2, List.drop_eq_nil_of_le (show (l).length ≤ i by omega)]; simp only [spec_ValidRoutes_L1, ct, cf]
  have hP9 : spec_ValidRoutes l = (decide ((((l).length : Nat) : Int) ≤ 24)) := by simp only [spec_ValidRoutes, hX1, ct, cf]
  exact R3 hP9
theorem f402 (w : World) (n : Nat) (hn : n + 0 ≤ 9) (m : Measurement) (K0 : Option Addr) (M0 : Nat) (N0 : RdSl (hp w) K0 M0 m.pfx.parts) (face : Int) (bface : Addr) (hface : RdSl (hp w) (some bface) 1 [face]) (n_ : Name) (bn_ : Addr) (hn_ : RdSl (hp w) (some bn_) 1 [n_]) (hokm : GoT.ok n m) (hokface : GoT.ok n face) (hokn_ : GoT.ok n n_) :
  Does Tryz.prog 402 #[.agg #[.slice K0 ((m.pfx.parts).length) M0, .int .i64 (m.face), .int .i64 (m.failures)], .pointer (some bface), .pointer (some bn_)] w emp (fun (rv : Value) (_ : World) => rv = .bool (impl_measuredAt_c1 face n_ m) ∧ True) := by
 have hbP := bd_pos n
 have hbB := bd_big (n := n) (by omega)
 refine WX.enter (tt := tt) (Γ := [(0, MF.rs .stb K0 M0 m.pfx.parts), (1, MF.rs .stb (some bface) 1 ([face])), (2, MF.rs .stb (some bn_) 1 ([n_]))]) Tryz.func402 rfl (by kernel_rfl) rfl (allS_cons rfl N0 (allS_cons rfl hface (allS_cons rfl hn_ allS_nil))) ?_
 have faceh : ([face] : List Int)[0]? = some face := rfl
 refine WX.slot 1 (y := .e (some bface) 0 1 0) rfl (fun _ => cap_eq) ?_
 have n_h : ([n_] : List Name)[0]? = some n_ := rfl
 refine WX.slot 2 (y := .e (some bn_) 0 1 0) rfl (fun _ => cap_eq) ?_
 refine R0 ?_
 refine WX.ldE 1 3 face ttOk rfl rfl rfl rfl rfl rfl rfl rfl faceh (fun _ => rfl) (fun _ => rfl) ?_
 rintro ⟨⟩
 refine R0 ?_
 refine WX.cases 9 rfl (fun h1 => ?_) (fun h1 => ?_)
 ·skip
  have h1d := B.et h1
  refine R0 ?_
  refine WX.ldE 2 3 n_ ttOk rfl rfl rfl rfl rfl rfl rfl rfl n_h (fun _ => rfl) (fun _ => rfl) ?_
  rintro ⟨p1, c1⟩
  refine WX.callV rfl rfl rfl rfl rfl (fun _ => rfl) rfl (fun w G bs hI hΓ => f100 w n (by omega) m.pfx K0 M0 (hΓ.get 0 rfl) n_ p1 c1 (hΓ.get 3 rfl) ((ok_Measurement hokm).1) hokn_) ?_
  intro hq1
  refine R0 ?_
  have hP1 : impl_measuredAt_c1 face n_ m = (impl_EqualNames m.pfx n_) := by simp only [impl_measuredAt_c1, h1, ct, cf]
  exact R3 hP1
 ·skip
  have h1d := B.ef h1
  refine R0 ?_
  have hP2 : impl_measuredAt_c1 face n_ m = false := by simp only [impl_measuredAt_c1, h1, ct, cf]
  exact R3 hP2
theorem f353 (w : World) (n : Nat) (hn : n + 0 ≤ 9) (l : (List Measurement)) (pl : Option Addr) (cl : Nat) (N0 : RdSl (hp w) pl cl l) (n_ : Name) (K1 : Option Addr) (M1 : Nat) (N1 : RdSl (hp w) K1 M1 n_.parts) (face : Int) (hokl : GoT.ok n l) (hokn_ : GoT.ok n n_) (hokface : GoT.ok n face) :
  Does Tryz.prog 353 #[.slice pl ((l).length) cl, .agg #[.slice K1 ((n_.parts).length) M1], .int .i64 (face)] w emp (fun (rv : Value) (_ : World) => rv = .int .i64 ((impl_measuredAt l n_ face)) ∧ GoT.ok n ((impl_measuredAt l n_ face) : Int)) := by
 have hbP := bd_pos n
 have hbB := bd_big (n := n) (by omega)
 refine WX.enter (tt := tt) (Γ := [(0, MF.rs .stb pl cl l), (1, MF.rs .stb K1 M1 n_.parts)]) Tryz.func353 rfl (by kernel_rfl) rfl (allS_cons rfl N0 (allS_cons rfl N1 allS_nil)) ?_
 refine R0 ?_
 refine WX.callV rfl rfl rfl rfl rfl (fun _ => rfl) rfl (fun w G bs hI hΓ => f401 w n (by omega) l pl cl (hΓ.get 0 rfl) 402 [Value.pointer (some ⟨bs 5, 0, none⟩), Value.pointer (some ⟨bs 4, 0, none⟩)] (fun e0_ => (impl_measuredAt_c1 face n_ e0_)) (fun w1_ hb_ e0_ x0_ hk0_ hx0_ => f402 w1_ n (by omega) e0_ x0_.1.1 x0_.1.2 (hx0_ _ List.mem_cons_self) face ⟨bs 5, 0, none⟩ ((rd_box (α := Int) (a := face) (x := ()) (hI.loc 5 _ rfl).1 All.nil).mono (kp_le hb_)) n_ ⟨bs 4, 0, none⟩ ((rd_box (α := Name) (a := n_) (x := (K1, M1)) (hI.loc 4 _ rfl).1 (All.cons (hΓ.get 1 rfl : RdSl _ _ _ _) All.nil)).mono (kp_le hb_)) hk0_ hokface hokn_) hokl) ?_
 intro hq1
 have q1 := ltI_slices_IndexFunc_Measurement l (fun e0_ => (impl_measuredAt_c1 face n_ e0_))
 refine R0 ?_
 have hP1 : impl_measuredAt l n_ face = (slices_IndexFunc_Measurement l (fun e0_ => (impl_measuredAt_c1 face n_ e0_))) := by simp only [impl_measuredAt, ct, cf]
 refine R1 ?_
 intro w1 G bs hI hΓ
 rw [hP1]
 exact ⟨rfl, hq1⟩
theorem f292 (w : World) (n : Nat) (hn : n + 0 ≤ 9) (l : (List Measurement)) (pl : Option Addr) (cl : Nat) (N0 : RdSl (hp w) pl cl l) (hokl : GoT.ok n l) :
  Does Tryz.prog 292 #[.slice pl ((l).length) cl] w emp (fun (rv : Value) (_ : World) => rv = .bool (impl_ValidMeasurements l) ∧ True) := by
 have hbP := bd_pos n
 have hbB := bd_big (n := n) (by omega)
 refine WX.enter (tt := tt) (Γ := [(0, MF.rs .stb pl cl l)]) Tryz.func292 rfl (by kernel_rfl) rfl (allS_cons rfl N0 allS_nil) ?_
 refine R0 ?_
 have r1 : (l).length ≤ bd n := (okl hokl).1
 refine WX.loop (ι := Nat) ⟨fun i => (i ≤ (l).length) ∧ (impl_ValidMeasurements_L1 l l 0 = impl_ValidMeasurements_L1 l ((l).drop i) i), fun i => (l).length - i, fun i => [(7, .v (.int .i64 (((i : Nat) : Int)))), (6, .v (.int .i64 ((((l).length : Nat) : Int)))), (5, .v (.slice pl ((l).length) cl)), (0, .v (.slice pl ((l).length) cl))], fun i => [], fun i => [], fun i => [(0, MF.rs .stb pl cl l)]⟩ 0 ⟨(Nat.zero_le _), rfl⟩
  (.cons rfl (.cons rfl (.cons rfl (.cons rfl (.nil))))) .nil .nil [0] rfl ?_
 rintro i hpre
 have hpre_ : (i ≤ (l).length) ∧ (impl_ValidMeasurements_L1 l l 0 = impl_ValidMeasurements_L1 l ((l).drop i) i) := hpre
 clear hpre
 obtain ⟨v1, v2⟩ := hpre_
 refine R0 ?_
 refine WX.cases 8 rfl (fun h1 => ?_) (fun h1 => ?_)
 ·skip
  have h1d := B.dt h1
  have e1i : i < (l).length := (by omega)
  obtain ⟨e1, e1h⟩ : ∃ e1, (l)[i]? = some e1 := ⟨_, List.getElem?_eq_getElem e1i⟩
  have ok1 : GoT.ok n e1 := (okl hokl).2 _ (List.mem_of_getElem? e1h)
  refine R0 ?_
  refine WX.idx 0 i ttOk rfl rfl rfl rfl rfl rfl rfl rfl rfl rfl e1i ?_
  rintro ad1 rfl
  refine WX.ldE 0 1 e1 ttOk rfl rfl rfl rfl rfl rfl rfl rfl e1h (fun _ => rfl) (fun _ => rfl) ?_
  rintro ⟨⟨p1, c1⟩, ⟨⟩, ⟨⟩⟩
  refine R0 ?_
  refine WX.draw [] mixed ?_
  intro bs G0 hΓ0
  refine DX.takes (fuel := 25) ttOk [(0, true), (1, false)] (by kernel_rfl) rfl ?_
  refine DX.callV 2 rfl (by kernel_rfl) rfl rfl rfl rfl rfl rfl (fun _ => rfl) rfl (fun w G bs hI hΓ => f103 w n (by omega) e1.pfx p1 c1 (hΓ.get 1 rfl) ((ok_Measurement ok1).1)) ?_
  intro hq1
  refine DX.takes (fuel := 22) ttOk [(3, true), (4, true)] (by kernel_rfl) rfl ?_
  refine DX.cases 16 rfl (fun h2 => ?_) (fun h2 => ?_)
  ·skip
   have h2d := (B.nt h2)
   refine DX.takes (fuel := 0) ttOk [(5, true), (6, true), (7, true), (8, true), (9, true), (10, true), (11, true), (12, true), (13, true), (14, true), (15, true), (16, true), (17, true), (18, true), (19, true), (20, true), (21, true), (22, true), (23, true), (24, true), (25, true), (26, true)] (by kernel_rfl) rfl ?_
   refine DX.tail2 [] rfl rfl (by kernel_rfl) ?_
   refine R0 ?_
   have hP1 : impl_ValidMeasurements_L1 l l 0 = (some false) := by rw [v2, drop_get e1h]; simp only [impl_ValidMeasurements_L1, h2, ct, cf]
   have hP2 : impl_ValidMeasurements l = false := by simp only [impl_ValidMeasurements, hP1, ct, cf]
   exact R3 hP2
  ·skip
   have h2d := (B.nf h2)
   refine DX.takes (fuel := 20) ttOk [(5, true), (6, false)] (by kernel_rfl) rfl ?_
   refine DX.callV 7 rfl (by kernel_rfl) rfl rfl rfl rfl rfl rfl (fun _ => rfl) rfl (fun w G bs hI hΓ => f138 w n (by omega) e1.face 1 6 ((ok_Measurement ok1).2.1) (show I64 1 from (by unfold I64; omega)) (show I64 6 from (by unfold I64; omega))) ?_
   intro hq2
   refine DX.takes (fuel := 16) ttOk [(8, true), (9, true), (10, true)] (by kernel_rfl) rfl ?_
   refine DX.cases 22 rfl (fun h3 => ?_) (fun h3 => ?_)
   ·skip
    have h3d := (B.nt h3)
    refine DX.takes (fuel := 0) ttOk [(11, true), (12, true), (13, true), (14, true), (15, true), (16, true), (17, true), (18, true), (19, true), (20, true), (21, true), (22, true), (23, true), (24, true), (25, true), (26, true)] (by kernel_rfl) rfl ?_
    refine DX.tail2 [] rfl rfl (by kernel_rfl) ?_
    refine R0 ?_
    have hP3 : impl_ValidMeasurements_L1 l l 0 = (some false) := by rw [v2, drop_get e1h]; simp only [impl_ValidMeasurements_L1, h2, h3, ct, cf]
    have hP4 : impl_ValidMeasurements l = false := by simp only [impl_ValidMeasurements, hP3, ct, cf]
    exact R3 hP4
   ·skip
    have h3d := (B.nf h3)
    have h3r := inR_impl (B.nf h3)
    refine DX.takes (fuel := 14) ttOk [(11, true), (12, false)] (by kernel_rfl) rfl ?_
    refine DX.callV 13 rfl (by kernel_rfl) rfl rfl rfl rfl rfl rfl (fun _ => rfl) rfl (fun w G bs hI hΓ => f138 w n (by omega) e1.failures 1 50 ((ok_Measurement ok1).2.2) (show I64 1 from (by unfold I64; omega)) (show I64 50 from (by unfold I64; omega))) ?_
    intro hq3
    refine DX.takes (fuel := 10) ttOk [(14, true), (15, true), (16, true)] (by kernel_rfl) rfl ?_
    refine DX.cases 28 rfl (fun h4 => ?_) (fun h4 => ?_)
    ·skip
     have h4d := (B.nt h4)
     refine DX.takes (fuel := 0) ttOk [(17, true), (18, true), (19, true), (20, true), (21, true), (22, true), (23, true), (24, true), (25, true), (26, true)] (by kernel_rfl) rfl ?_
     refine DX.tail2 [] rfl rfl (by kernel_rfl) ?_
     refine R0 ?_
     have hP5 : impl_ValidMeasurements_L1 l l 0 = (some false) := by rw [v2, drop_get e1h]; simp only [impl_ValidMeasurements_L1, h2, h3, h4, ct, cf]
     have hP6 : impl_ValidMeasurements l = false := by simp only [impl_ValidMeasurements, hP5, ct, cf]
     exact R3 hP6
    ·skip
     have h4d := (B.nf h4)
     have h4r := inR_impl (B.nf h4)
     refine DX.takes (fuel := 8) ttOk [(17, true), (18, true)] (by kernel_rfl) rfl ?_
     refine DX.seeP 19 (by kernel_rfl) rfl rfl rfl rfl (looksP_slH i ttOk rfl rfl rfl rfl (by simp) (Nat.le_trans (show i ≤ (l).length from (by omega)) (hΓ0.get 0 rfl : RdSl _ _ _ _).1)) ?_
     refine DX.slot 31 (y := .v (.slice (some ad1) (((List.take i l)).length) cl)) rfl (fun _ => by rw [show ((List.take i l)).length = i from (by simp only [List.length_take]; have z_ := (show i ≤ (l).length from (by omega)); omega)]) ?_
     refine DX.der 2 (MF.rs .der (some ad1) cl (List.take i l)) rfl (fun _ hΓ => RdSl.pre (hΓ.get 0 rfl : RdSl _ _ _ _) i) ?_
     refine DX.takes (fuel := 3) ttOk [(20, true), (21, false), (22, true), (23, false)] (by kernel_rfl) rfl ?_
     refine DX.callV 24 rfl (by kernel_rfl) rfl rfl rfl rfl rfl rfl (fun _ => rfl) rfl (fun w G bs hI hΓ => f353 w n (by omega) (List.take i l) (some ad1) cl (hΓ.get 2 rfl) e1.pfx p1 c1 (hΓ.get 1 rfl) e1.face (okl_mk (by first | assumption | omega | (simp; omega)) (fun a ha => (okl hokl).2 a (List.mem_of_mem_take ha)) : GoT.ok n ((List.take i l) : List Measurement)) ((ok_Measurement ok1).1) ((ok_Measurement ok1).2.1)) ?_
     intro hq4
     refine DX.takes (fuel := 0) ttOk [(25, true), (26, true)] (by kernel_rfl) rfl ?_
     refine DX.tail2 [] rfl rfl (by kernel_rfl) ?_
     refine R0 ?_
     refine WX.cases 38 rfl (fun h5 => ?_) (fun h5 => ?_)
     ·skip
      have h5d := B.dt h5
      refine R0 ?_
      have hP7 : impl_ValidMeasurements_L1 l l 0 = (some false) := by rw [v2, drop_get e1h]; simp only [impl_ValidMeasurements_L1, h2, h3, h4, h5, ct, cf]
      have hP8 : impl_ValidMeasurements l = false := by simp only [impl_ValidMeasurements, hP7, ct, cf]
      exact R3 hP8
     ·skip
      have h5d := B.df h5
      refine R0 ?_
      refine WX.see rfl rfl rfl (fun _ hΓ => looks_arith rfl rfl rfl rfl (by unfold I64; first | omega | (simp only [List.length_take] at *; omega))) ?_
      refine R0 ?_
      exact WX.iter (i + 1) ⟨(by omega), (by rw [v2, drop_get e1h]; simp only [impl_ValidMeasurements_L1, h2, h3, h4, h5, ct, cf])⟩ (by first | (dsimp only; omega) | omega) (.cons rfl (.cons rfl (.cons rfl (.cons rfl (.nil))))) .nil .nil [0] rfl
 ·skip
  have h1d := B.df h1
  refine R0 ?_
  have hX1 : impl_ValidMeasurements_L1 l l 0 = none := by rw [v2, List.drop_eq_nil_of_le (show (l).length ≤ i by omega)]; simp only [impl_ValidMeasurements_L1, ct, cf]
  have hP9 : impl_ValidMeasurements l = (decide ((((l).length : Nat) : Int) ≤ 24)) := by simp only [impl_ValidMeasurements, hX1, ct, cf]
  exact R3 hP9
theorem f331 (w : World) (n : Nat) (hn : n + 0 ≤ 9) (l : (List Measurement)) (pl : Option Addr) (cl : Nat) (N0 : RdSl (hp w) pl cl l) (n_ : Name) (K1 : Option Addr) (M1 : Nat) (N1 : RdSl (hp w) K1 M1 n_.parts) (side : Int) (hokl : GoT.ok n l) (hokn_ : GoT.ok n n_) (hokside : GoT.ok n side) :
  Does Tryz.prog 331 #[.slice pl ((l).length) cl, .agg #[.slice K1 ((n_.parts).length) M1], .int .i64 (side)] w emp (fun (rv : Value) (_ : World) => rv = .int .i64 ((spec_l15Find l n_ side)) ∧ GoT.ok n ((spec_l15Find l n_ side) : Int)) := by
 have hbP := bd_pos n
 have hbB := bd_big (n := n) (by omega)
 refine WX.enter (tt := tt) (Γ := [(0, MF.rs .stb pl cl l), (1, MF.rs .stb K1 M1 n_.parts)]) Tryz.func331 rfl (by kernel_rfl) rfl (allS_cons rfl N0 (allS_cons rfl N1 allS_nil)) ?_
 refine R0 ?_
 have r1 : (l).length ≤ bd n := (okl hokl).1
 refine WX.loop (ι := Nat) ⟨fun i => (i ≤ (l).length) ∧ (spec_l15Find_L1 n_ side l 0 = spec_l15Find_L1 n_ side ((l).drop i) i), fun i => (l).length - i, fun i => [(7, .v (.int .i64 (((i : Nat) : Int)))), (4, .p 4 0), (0, .v (.slice pl ((l).length) cl)), (2, .v (.int .i64 (side)))], fun i => [(4, ⟨30, [.slice K1 ((n_.parts).length) M1]⟩)], fun i => [], fun i => [(0, MF.rs .stb pl cl l), (1, MF.rs .stb K1 M1 n_.parts)]⟩ 0 ⟨(Nat.zero_le _), rfl⟩
  (.cons rfl (.cons rfl (.cons rfl (.cons rfl (.nil))))) (.cons rfl (.nil)) .nil [0, 1] rfl ?_
 rintro i hpre
 have hpre_ : (i ≤ (l).length) ∧ (spec_l15Find_L1 n_ side l 0 = spec_l15Find_L1 n_ side ((l).drop i) i) := hpre
 clear hpre
 obtain ⟨v1, v2⟩ := hpre_
 refine R0 ?_
 refine WX.cases 11 rfl (fun h1 => ?_) (fun h1 => ?_)
 ·skip
  have h1d := B.dt h1
  have e1i : i < (l).length := (by omega)
  obtain ⟨e1, e1h⟩ : ∃ e1, (l)[i]? = some e1 := ⟨_, List.getElem?_eq_getElem e1i⟩
  have ok1 : GoT.ok n e1 := (okl hokl).2 _ (List.mem_of_getElem? e1h)
  refine R0 ?_
  refine WX.draw [] mixed ?_
  intro bs G0 hΓ0
  refine DX.takes (fuel := 14) ttOk [(0, true), (1, true)] (by kernel_rfl) rfl ?_
  refine DX.idx 2 0 i ttOk hΓ0 (by kernel_rfl) rfl rfl rfl rfl rfl rfl rfl rfl rfl rfl rfl e1i ?_
  rintro ad1 rfl
  refine DX.takes (fuel := 12) ttOk [(3, true)] (by kernel_rfl) rfl ?_
  refine DX.ldE 4 0 2 e1 ttOk hΓ0 (by kernel_rfl) rfl rfl rfl rfl rfl rfl rfl rfl e1h (fun _ => rfl) (fun _ => rfl) ?_
  rintro ⟨⟨p1, c1⟩, ⟨⟩, ⟨⟩⟩
  refine DX.takes (fuel := 8) ttOk [(5, true), (6, true), (7, true)] (by kernel_rfl) rfl ?_
  refine DX.cases 21 rfl (fun h2 => ?_) (fun h2 => ?_)
  ·skip
   have h2d := B.et h2
   refine DX.takes (fuel := 6) ttOk [(8, true), (9, true)] (by kernel_rfl) rfl ?_
   refine DX.idx 10 0 i ttOk hΓ0 (by kernel_rfl) rfl rfl rfl rfl rfl rfl rfl rfl rfl rfl rfl e1i ?_
   rintro ad2 ⟨⟩
   refine DX.takes (fuel := 4) ttOk [(11, true)] (by kernel_rfl) rfl ?_
   refine DX.ldE 12 0 3 e1 ttOk hΓ0 (by kernel_rfl) rfl rfl rfl rfl rfl rfl rfl rfl e1h (fun _ => rfl) (fun _ => rfl) ?_
   rintro ⟨⟨p2, c2⟩, ⟨⟩, ⟨⟩⟩
   refine DX.takes (fuel := 2) ttOk [(13, false)] (by kernel_rfl) rfl ?_
   refine DX.callV 14 rfl (by kernel_rfl) rfl rfl rfl rfl rfl rfl (fun _ => rfl) rfl (fun w G bs hI hΓ => f152 w n (by omega) e1.pfx p2 c2 (hΓ.get 3 rfl) n_ K1 M1 (hΓ.get 1 rfl) ((ok_Measurement ok1).1) hokn_) ?_
   intro hq1
   refine DX.takes (fuel := 0) ttOk [(15, true)] (by kernel_rfl) rfl ?_
   refine DX.tail2 [] rfl rfl (by kernel_rfl) ?_
   refine R0 ?_
   refine WX.cases 29 rfl (fun h3 => ?_) (fun h3 => ?_)
   ·skip
    refine R0 ?_
    have hP1 : spec_l15Find_L1 n_ side l 0 = (some ((i : Nat) : Int)) := by rw [v2, drop_get e1h]; simp only [spec_l15Find_L1, h2, h3, ct, cf]
    have hP2 : spec_l15Find l n_ side = ((i : Nat) : Int) := by simp only [spec_l15Find, hP1, ct, cf]
    refine R1 ?_
    intro w1 G bs hI hΓ
    rw [hP2]
    exact ⟨rfl, (show I64 ((i : Nat) : Int) from (by unfold I64; omega))⟩
   ·skip
    refine R0 ?_
    refine WX.see rfl rfl rfl (fun _ hΓ => looks_arith rfl rfl rfl rfl (by unfold I64; first | omega | (simp only [List.length_take] at *; omega))) ?_
    refine R0 ?_
    exact WX.iter (i + 1) ⟨(by omega), (by rw [v2, drop_get e1h]; simp only [spec_l15Find_L1, h2, h3, ct, cf])⟩ (by first | (dsimp only; omega) | omega) (.cons rfl (.cons rfl (.cons rfl (.cons rfl (.nil))))) (.cons rfl (.nil)) .nil [0, 1] rfl
  ·skip
   have h2d := B.ef h2
   refine DX.takes (fuel := 0) ttOk [(8, true), (9, true), (10, true), (11, true), (12, true), (13, true), (14, true), (15, true)] (by kernel_rfl) rfl ?_
   refine DX.tail2 [] rfl rfl (by kernel_rfl) ?_
   refine R0 ?_
   refine WX.see rfl rfl rfl (fun _ hΓ => looks_arith rfl rfl rfl rfl (by unfold I64; first | omega | (simp only [List.length_take] at *; omega))) ?_
   refine R0 ?_
   exact WX.iter (i + 1) ⟨(by omega), (by rw [v2, drop_get e1h]; simp only [spec_l15Find_L1, h2, ct, cf])⟩ (by first | (dsimp only; omega) | omega) (.cons rfl (.cons rfl (.cons rfl (.cons rfl (.nil))))) (.cons rfl (.nil)) .nil [0, 1] rfl
 ·skip
  have h1d := B.df h1
  refine R0 ?_
  have hX1 : spec_l15Find_L1 n_ side l 0 = none := by rw [v2, List.drop_eq_nil_of_le (show (l).length ≤ i by omega)]; simp only [spec_l15Find_L1, ct, cf]
  have hP3 : spec_l15Find l n_ side = (-1) := by simp only [spec_l15Find, hX1, ct, cf]
  refine R1 ?_
  intro w1 G bs hI hΓ
  rw [hP3]
  exact ⟨rfl, (show I64 (-1) from (by unfold I64; omega))⟩
theorem f272 (w : World) (n : Nat) (hn : n + 0 ≤ 9) (l : (List Measurement)) (pl : Option Addr) (cl : Nat) (N0 : RdSl (hp w) pl cl l) (hokl : GoT.ok n l) :
  Does Tryz.prog 272 #[.slice pl ((l).length) cl] w emp (fun (rv : Value) (_ : World) => rv = .bool (spec_ValidMeasurements l) ∧ True) := by
 have hbP := bd_pos n
 have hbB := bd_big (n := n) (by omega)
 refine WX.enter (tt := tt) (Γ := [(0, MF.rs .stb pl cl l)]) Tryz.func272 rfl (by kernel_rfl) rfl (allS_cons rfl N0 allS_nil) ?_
 refine R0 ?_
 have r1 : (l).length ≤ bd n := (okl hokl).1
 refine WX.loop (ι := Nat) ⟨fun i => (i ≤ (l).length) ∧ (spec_ValidMeasurements_L1 l l 0 = spec_ValidMeasurements_L1 l ((l).drop i) i), fun i => (l).length - i, fun i => [(3, .v (.int .i64 (((i : Nat) : Int)))), (0, .v (.slice pl ((l).length) cl))], fun i => [], fun i => [], fun i => [(0, MF.rs .stb pl cl l)]⟩ 0 ⟨(Nat.zero_le _), rfl⟩
  (.cons rfl (.cons rfl (.nil))) .nil .nil [0] rfl ?_
 rintro i hpre
 have hpre_ : (i ≤ (l).length) ∧ (spec_ValidMeasurements_L1 l l 0 = spec_ValidMeasurements_L1 l ((l).drop i) i) := hpre
 clear hpre
 obtain ⟨v1, v2⟩ := hpre_
 refine R0 ?_
 refine WX.cases 7 rfl (fun h1 => ?_) (fun h1 => ?_)
 ·skip
  have h1d := B.dt h1
  have e1i : i < (l).length := (by omega)
  obtain ⟨e1, e1h⟩ : ∃ e1, (l)[i]? = some e1 := ⟨_, List.getElem?_eq_getElem e1i⟩
  have ok1 : GoT.ok n e1 := (okl hokl).2 _ (List.mem_of_getElem? e1h)
  refine R0 ?_
  refine WX.draw [] mixed ?_
  intro bs G0 hΓ0
  refine DX.takes (fuel := 40) ttOk [(0, true), (1, true)] (by kernel_rfl) rfl ?_
  refine DX.idx 2 0 i ttOk hΓ0 (by kernel_rfl) rfl rfl rfl rfl rfl rfl rfl rfl rfl rfl rfl e1i ?_
  rintro ad1 rfl
  refine DX.takes (fuel := 38) ttOk [(3, true)] (by kernel_rfl) rfl ?_
  refine DX.ldE 4 0 1 e1 ttOk hΓ0 (by kernel_rfl) rfl rfl rfl rfl rfl rfl rfl rfl e1h (fun _ => rfl) (fun _ => rfl) ?_
  rintro ⟨⟨p1, c1⟩, ⟨⟩, ⟨⟩⟩
  refine DX.callV 5 rfl (by kernel_rfl) rfl rfl rfl rfl rfl rfl (fun _ => rfl) rfl (fun w G bs hI hΓ => f106 w n (by omega) e1.pfx p1 c1 (hΓ.get 1 rfl) ((ok_Measurement ok1).1)) ?_
  intro hq1
  refine DX.takes (fuel := 34) ttOk [(6, true), (7, true)] (by kernel_rfl) rfl ?_
  refine DX.cases 17 rfl (fun h2 => ?_) (fun h2 => ?_)
  ·skip
   have h2d := (B.nt h2)
   refine DX.takes (fuel := 0) ttOk [(8, true), (9, true), (10, true), (11, true), (12, true), (13, true), (14, true), (15, true), (16, true), (17, true), (18, true), (19, true), (20, true), (21, true), (22, true), (23, true), (24, true), (25, true), (26, true), (27, true), (28, true), (29, true), (30, true), (31, true), (32, true), (33, true), (34, true), (35, true), (36, true), (37, true), (38, true), (39, true), (40, true), (41, true)] (by kernel_rfl) rfl ?_
   refine DX.tail2 [] rfl rfl (by kernel_rfl) ?_
   refine R0 ?_
   have hP1 : spec_ValidMeasurements_L1 l l 0 = (some false) := by rw [v2, drop_get e1h]; simp only [spec_ValidMeasurements_L1, h2, ct, cf]
   have hP2 : spec_ValidMeasurements l = false := by simp only [spec_ValidMeasurements, hP1, ct, cf]
   exact R3 hP2
  ·skip
   have h2d := (B.nf h2)
   refine DX.takes (fuel := 32) ttOk [(8, true), (9, true)] (by kernel_rfl) rfl ?_
   refine DX.idx 10 0 i ttOk hΓ0 (by kernel_rfl) rfl rfl rfl rfl rfl rfl rfl rfl rfl rfl rfl e1i ?_
   rintro ad2 ⟨⟩
   refine DX.takes (fuel := 30) ttOk [(11, true)] (by kernel_rfl) rfl ?_
   refine DX.ldE 12 0 2 e1 ttOk hΓ0 (by kernel_rfl) rfl rfl rfl rfl rfl rfl rfl rfl e1h (fun _ => rfl) (fun _ => rfl) ?_
   rintro ⟨⟨p2, c2⟩, ⟨⟩, ⟨⟩⟩
   refine DX.callV 13 rfl (by kernel_rfl) rfl rfl rfl rfl rfl rfl (fun _ => rfl) rfl (fun w G bs hI hΓ => f142 w n (by omega) e1.face 1 6 ((ok_Measurement ok1).2.1) (show I64 1 from (by unfold I64; omega)) (show I64 6 from (by unfold I64; omega))) ?_
   intro hq2
   refine DX.takes (fuel := 25) ttOk [(14, true), (15, true), (16, true)] (by kernel_rfl) rfl ?_
   refine DX.cases 26 rfl (fun h3 => ?_) (fun h3 => ?_)
   ·skip
    have h3d := (B.nt h3)
    refine DX.takes (fuel := 0) ttOk [(17, true), (18, true), (19, true), (20, true), (21, true), (22, true), (23, true), (24, true), (25, true), (26, true), (27, true), (28, true), (29, true), (30, true), (31, true), (32, true), (33, true), (34, true), (35, true), (36, true), (37, true), (38, true), (39, true), (40, true), (41, true)] (by kernel_rfl) rfl ?_
    refine DX.tail2 [] rfl rfl (by kernel_rfl) ?_
    refine R0 ?_
    have hP3 : spec_ValidMeasurements_L1 l l 0 = (some false) := by rw [v2, drop_get e1h]; simp only [spec_ValidMeasurements_L1, h2, h3, ct, cf]
    have hP4 : spec_ValidMeasurements l = false := by simp only [spec_ValidMeasurements, hP3, ct, cf]
    exact R3 hP4
   ·skip
    have h3d := (B.nf h3)
    have h3r := inR_spec (B.nf h3)
    refine DX.takes (fuel := 23) ttOk [(17, true), (18, true)] (by kernel_rfl) rfl ?_
    refine DX.idx 19 0 i ttOk hΓ0 (by kernel_rfl) rfl rfl rfl rfl rfl rfl rfl rfl rfl rfl rfl e1i ?_
    rintro ad3 ⟨⟩
    refine DX.takes (fuel := 21) ttOk [(20, true)] (by kernel_rfl) rfl ?_
    refine DX.ldE 21 0 3 e1 ttOk hΓ0 (by kernel_rfl) rfl rfl rfl rfl rfl rfl rfl rfl e1h (fun _ => rfl) (fun _ => rfl) ?_
    rintro ⟨⟨p3, c3⟩, ⟨⟩, ⟨⟩⟩
    refine DX.callV 22 rfl (by kernel_rfl) rfl rfl rfl rfl rfl rfl (fun _ => rfl) rfl (fun w G bs hI hΓ => f142 w n (by omega) e1.failures 1 50 ((ok_Measurement ok1).2.2) (show I64 1 from (by unfold I64; omega)) (show I64 50 from (by unfold I64; omega))) ?_
    intro hq3
    refine DX.takes (fuel := 16) ttOk [(23, true), (24, true), (25, true)] (by kernel_rfl) rfl ?_
    refine DX.cases 35 rfl (fun h4 => ?_) (fun h4 => ?_)
    ·skip
     have h4d := (B.nt h4)
     refine DX.takes (fuel := 0) ttOk [(26, true), (27, true), (28, true), (29, true), (30, true), (31, true), (32, true), (33, true), (34, true), (35, true), (36, true), (37, true), (38, true), (39, true), (40, true), (41, true)] (by kernel_rfl) rfl ?_
     refine DX.tail2 [] rfl rfl (by kernel_rfl) ?_
     refine R0 ?_
     have hP5 : spec_ValidMeasurements_L1 l l 0 = (some false) := by rw [v2, drop_get e1h]; simp only [spec_ValidMeasurements_L1, h2, h3, h4, ct, cf]
     have hP6 : spec_ValidMeasurements l = false := by simp only [spec_ValidMeasurements, hP5, ct, cf]
     exact R3 hP6
    ·skip
     have h4d := (B.nf h4)
     have h4r := inR_spec (B.nf h4)
     refine DX.takes (fuel := 14) ttOk [(26, true), (27, true)] (by kernel_rfl) rfl ?_
     refine DX.seeP 28 (by kernel_rfl) rfl rfl rfl rfl (looksP_slH i ttOk rfl rfl rfl rfl (by simp) (Nat.le_trans (show i ≤ (l).length from (by omega)) (hΓ0.get 0 rfl : RdSl _ _ _ _).1)) ?_
     refine DX.slot 38 (y := .v (.slice (some ad1) (((List.take i l)).length) cl)) rfl (fun _ => by rw [show ((List.take i l)).length = i from (by simp only [List.length_take]; have z_ := (show i ≤ (l).length from (by omega)); omega)]) ?_
     refine DX.der 4 (MF.rs .der (some ad1) cl (List.take i l)) rfl (fun _ hΓ => RdSl.pre (hΓ.get 0 rfl : RdSl _ _ _ _) i) ?_
     refine DX.takes (fuel := 11) ttOk [(29, true), (30, true)] (by kernel_rfl) rfl ?_
     refine DX.idx 31 0 i ttOk hΓ0 (by kernel_rfl) rfl rfl rfl rfl rfl rfl rfl rfl rfl rfl rfl e1i ?_
     rintro ad4 ⟨⟩
     refine DX.takes (fuel := 9) ttOk [(32, true)] (by kernel_rfl) rfl ?_
     refine DX.ldE 33 0 5 e1 ttOk hΓ0 (by kernel_rfl) rfl rfl rfl rfl rfl rfl rfl rfl e1h (fun _ => rfl) (fun _ => rfl) ?_
     rintro ⟨⟨p4, c4⟩, ⟨⟩, ⟨⟩⟩
     refine DX.takes (fuel := 6) ttOk [(34, true), (35, true)] (by kernel_rfl) rfl ?_
     refine DX.idx 36 0 i ttOk hΓ0 (by kernel_rfl) rfl rfl rfl rfl rfl rfl rfl rfl rfl rfl rfl e1i ?_
     rintro ad5 ⟨⟩
     refine DX.takes (fuel := 4) ttOk [(37, true)] (by kernel_rfl) rfl ?_
     refine DX.ldE 38 0 6 e1 ttOk hΓ0 (by kernel_rfl) rfl rfl rfl rfl rfl rfl rfl rfl e1h (fun _ => rfl) (fun _ => rfl) ?_
     rintro ⟨⟨p5, c5⟩, ⟨⟩, ⟨⟩⟩
     refine DX.callV 39 rfl (by kernel_rfl) rfl rfl rfl rfl rfl rfl (fun _ => rfl) rfl (fun w G bs hI hΓ => f331 w n (by omega) (List.take i l) (some ad1) cl (hΓ.get 4 rfl) e1.pfx p4 c4 (hΓ.get 5 rfl) e1.face (okl_mk (by first | assumption | omega | (simp; omega)) (fun a ha => (okl hokl).2 a (List.mem_of_mem_take ha)) : GoT.ok n ((List.take i l) : List Measurement)) ((ok_Measurement ok1).1) ((ok_Measurement ok1).2.1)) ?_
     intro hq4
     refine DX.takes (fuel := 0) ttOk [(40, true), (41, true)] (by kernel_rfl) rfl ?_
     refine DX.tail2 [] rfl rfl (by kernel_rfl) ?_
     refine R0 ?_
     refine WX.cases 51 rfl (fun h5 => ?_) (fun h5 => ?_)
     ·skip
      have h5d := B.dt h5
      refine R0 ?_
      have hP7 : spec_ValidMeasurements_L1 l l 0 = (some false) := by rw [v2, drop_get e1h]; simp only [spec_ValidMeasurements_L1, h2, h3, h4, h5, ct, cf]
      have hP8 : spec_ValidMeasurements l = false := by simp only [spec_ValidMeasurements, hP7, ct, cf]
      exact R3 hP8
     ·skip
      have h5d := B.df h5
      refine R0 ?_
      refine WX.see rfl rfl rfl (fun _ hΓ => looks_arith rfl rfl rfl rfl (by unfold I64; first | omega | (simp only [List.length_take] at *; omega))) ?_
      refine R0 ?_
      exact WX.iter (i + 1) ⟨(by omega), (by rw [v2, drop_get e1h]; simp only [spec_ValidMeasurements_L1, h2, h3, h4, h5, ct, cf])⟩ (by first | (dsimp only; omega) | omega) (.cons rfl (.cons rfl (.nil))) .nil .nil [0] rfl
 ·skip
  have h1d := B.df h1
  refine R0 ?_
  have hX1 : spec_ValidMeasurements_L1 l l 0 = none := by rw [v2, List.drop_eq_nil_of_le (show (l).length ≤ i by omega)]; simp only [spec_ValidMeasurements_L1, ct, cf]
  have hP9 : spec_ValidMeasurements l = (decide ((((l).length : Nat) : Int) ≤ 24)) := by simp only [spec_ValidMeasurements, hX1, ct, cf]
  exact R3 hP9
theorem f202 (w : World) (n : Nat) (hn : n + 0 ≤ 9) (x_ : NodeP) (K0 : Option Addr) (M0 : Nat) (N0 : RdSl (hp w) K0 M0 x_.locl) (K1 : Option Addr) (M1 : Nat) (N1 : RdSl (hp w) K1 M1 x_.cache.entries) (K2 : Option Addr) (M2 : Nat) (N2 : RdSl (hp w) K2 M2 x_.pending) (K3 : Option Addr) (M3 : Nat) (N3 : RdSl (hp w) K3 M3 x_.seen) (K4 : Option Addr) (M4 : Nat) (N4 : RdSl (hp w) K4 M4 x_.routes) (K5 : Option Addr) (M5 : Nat) (N5 : RdSl (hp w) K5 M5 x_.measurements) (hokx_ : GoT.ok n x_) :
  Does Tryz.prog 202 #[.agg #[.slice K0 ((x_.locl).length) M0, .int .i64 (x_.cache.capacity), .slice K1 ((x_.cache.entries).length) M1, .slice K2 ((x_.pending).length) M2, .slice K3 ((x_.seen).length) M3, .slice K4 ((x_.routes).length) M4, .slice K5 ((x_.measurements).length) M5, .int .i64 (x_.dropped)]] w emp (fun (rv : Value) (_ : World) => rv = .bool (impl_ValidNode x_) ∧ True) := by
 have hbP := bd_pos n
 have hbB := bd_big (n := n) (by omega)
 refine WX.enter (tt := tt) (Γ := [(0, MF.rs .stb K0 M0 x_.locl), (1, MF.rs .stb K1 M1 x_.cache.entries), (2, MF.rs .stb K2 M2 x_.pending), (3, MF.rs .stb K3 M3 x_.seen), (4, MF.rs .stb K4 M4 x_.routes), (5, MF.rs .stb K5 M5 x_.measurements)]) Tryz.func202 rfl (by kernel_rfl) rfl (allS_cons rfl N0 (allS_cons rfl N1 (allS_cons rfl N2 (allS_cons rfl N3 (allS_cons rfl N4 (allS_cons rfl N5 allS_nil)))))) ?_
 refine R0 ?_
 have r1 : (x_.locl).length ≤ bd n := (okl (ok_NodeP hokx_).1).1
 refine WX.loop (ι := Nat) ⟨fun i => (i ≤ (x_.locl).length) ∧ (impl_ValidNode_L1 x_ x_.locl 0 = impl_ValidNode_L1 x_ ((x_.locl).drop i) i), fun i => (x_.locl).length - i, fun i => [(8, .v (.int .i64 (((i : Nat) : Int)))), (7, .v (.int .i64 ((((x_.locl).length : Nat) : Int)))), (6, .v (.slice K0 ((x_.locl).length) M0)), (1, .p 1 0)], fun i => [(1, ⟨221, [.slice K0 ((x_.locl).length) M0, .int .i64 (x_.cache.capacity), .slice K1 ((x_.cache.entries).length) M1, .slice K2 ((x_.pending).length) M2, .slice K3 ((x_.seen).length) M3, .slice K4 ((x_.routes).length) M4, .slice K5 ((x_.measurements).length) M5, .int .i64 (x_.dropped)]⟩)], fun i => [], fun i => [(0, MF.rs .stb K0 M0 x_.locl), (1, MF.rs .stb K1 M1 x_.cache.entries), (2, MF.rs .stb K2 M2 x_.pending), (3, MF.rs .stb K3 M3 x_.seen), (4, MF.rs .stb K4 M4 x_.routes), (5, MF.rs .stb K5 M5 x_.measurements)]⟩ 0 ⟨(Nat.zero_le _), rfl⟩
  (.cons rfl (.cons rfl (.cons rfl (.cons rfl (.nil))))) (.cons rfl (.nil)) .nil [0, 1, 2, 3, 4, 5] rfl ?_
 rintro i hpre
 have hpre_ : (i ≤ (x_.locl).length) ∧ (impl_ValidNode_L1 x_ x_.locl 0 = impl_ValidNode_L1 x_ ((x_.locl).drop i) i) := hpre
 clear hpre
 obtain ⟨v1, v2⟩ := hpre_
 refine R0 ?_
 refine WX.cases 9 rfl (fun h1 => ?_) (fun h1 => ?_)
 ·skip
  have h1d := B.dt h1
  have e1i : i < (x_.locl).length := (by omega)
  obtain ⟨e1, e1h⟩ : ∃ e1, (x_.locl)[i]? = some e1 := ⟨_, List.getElem?_eq_getElem e1i⟩
  have ok1 : GoT.ok n e1 := (okl (ok_NodeP hokx_).1).2 _ (List.mem_of_getElem? e1h)
  refine R0 ?_
  refine WX.idx 0 i ttOk rfl rfl rfl rfl rfl rfl rfl rfl rfl rfl e1i ?_
  rintro ad1 rfl
  refine WX.ldE 0 6 e1 ttOk rfl rfl rfl rfl rfl rfl rfl rfl e1h (fun _ => rfl) (fun _ => rfl) ?_
  rintro ⟨⟨p1, c1⟩, ⟨p2, c2⟩, ⟨p3, c3⟩, ⟨⟩, ⟨⟩⟩
  refine R0 ?_
  refine WX.draw [] mixed ?_
  intro bs G0 hΓ0
  refine DX.takes (fuel := 12) ttOk [(0, false)] (by kernel_rfl) rfl ?_
  refine DX.callV 1 rfl (by kernel_rfl) rfl rfl rfl rfl rfl rfl (fun _ => rfl) rfl (fun w G bs hI hΓ => f102 w n (by omega) e1 p1 c1 (hΓ.get 6 rfl) p2 c2 (hΓ.get 7 rfl) p3 c3 (hΓ.get 8 rfl) ok1) ?_
  intro hq1
  refine DX.takes (fuel := 9) ttOk [(2, true), (3, true)] (by kernel_rfl) rfl ?_
  refine DX.cases 16 rfl (fun h2 => ?_) (fun h2 => ?_)
  ·skip
   have h2d := (B.nt h2)
   refine DX.takes (fuel := 0) ttOk [(4, true), (5, true), (6, true), (7, true), (8, true), (9, true), (10, true), (11, true), (12, true)] (by kernel_rfl) rfl ?_
   refine DX.tail2 [] rfl rfl (by kernel_rfl) ?_
   refine R0 ?_
   have hP1 : impl_ValidNode_L1 x_ x_.locl 0 = (some false) := by rw [v2, drop_get e1h]; simp only [impl_ValidNode_L1, h2, ct, cf]
   have hP2 : impl_ValidNode x_ = false := by simp only [impl_ValidNode, hP1, ct, cf]
   exact R3 hP2
  ·skip
   have h2d := (B.nf h2)
   refine DX.takes (fuel := 6) ttOk [(4, true), (5, false), (6, true)] (by kernel_rfl) rfl ?_
   refine DX.seeP 7 (by kernel_rfl) rfl rfl rfl rfl (looksP_slH i ttOk rfl rfl rfl rfl (by simp) (Nat.le_trans (show i ≤ (x_.locl).length from (by omega)) (hΓ0.get 0 rfl : RdSl _ _ _ _).1)) ?_
   refine DX.slot 20 (y := .v (.slice (some ad1) (((List.take i x_.locl)).length) M0)) rfl (fun _ => by rw [show ((List.take i x_.locl)).length = i from (by simp only [List.length_take]; have z_ := (show i ≤ (x_.locl).length from (by omega)); omega)]) ?_
   refine DX.der 9 (MF.rs .der (some ad1) M0 (List.take i x_.locl)) rfl (fun _ hΓ => RdSl.pre (hΓ.get 0 rfl : RdSl _ _ _ _) i) ?_
   refine DX.takes (fuel := 3) ttOk [(8, true), (9, false)] (by kernel_rfl) rfl ?_
   refine DX.callV 10 rfl (by kernel_rfl) rfl rfl rfl rfl rfl rfl (fun _ => rfl) rfl (fun w G bs hI hΓ => f288 w n (by omega) (List.take i x_.locl) (some ad1) M0 (hΓ.get 9 rfl) e1.name p1 c1 (hΓ.get 6 rfl) (okl_mk (by first | assumption | omega | (simp; omega)) (fun a ha => (okl (ok_NodeP hokx_).1).2 a (List.mem_of_mem_take ha)) : GoT.ok n ((List.take i x_.locl) : List DataP)) ((ok_DataP ok1).1)) ?_
   intro hq2
   refine DX.takes (fuel := 0) ttOk [(11, true), (12, true)] (by kernel_rfl) rfl ?_
   refine DX.tail2 [] rfl rfl (by kernel_rfl) ?_
   refine R0 ?_
   refine WX.cases 25 rfl (fun h3 => ?_) (fun h3 => ?_)
   ·skip
    have h3d := B.dt h3
    refine R0 ?_
    have hP3 : impl_ValidNode_L1 x_ x_.locl 0 = (some false) := by rw [v2, drop_get e1h]; simp only [impl_ValidNode_L1, h2, h3, ct, cf]
    have hP4 : impl_ValidNode x_ = false := by simp only [impl_ValidNode, hP3, ct, cf]
    exact R3 hP4
   ·skip
    have h3d := B.df h3
    refine R0 ?_
    refine WX.see rfl rfl rfl (fun _ hΓ => looks_arith rfl rfl rfl rfl (by unfold I64; first | omega | (simp only [List.length_take] at *; omega))) ?_
    refine R0 ?_
    exact WX.iter (i + 1) ⟨(by omega), (by rw [v2, drop_get e1h]; simp only [impl_ValidNode_L1, h2, h3, ct, cf])⟩ (by first | (dsimp only; omega) | omega) (.cons rfl (.cons rfl (.cons rfl (.cons rfl (.nil))))) (.cons rfl (.nil)) .nil [0, 1, 2, 3, 4, 5] rfl
 ·skip
  have h1d := B.df h1
  refine R0 ?_
  have hX1 : impl_ValidNode_L1 x_ x_.locl 0 = none := by rw [v2, List.drop_eq_nil_of_le (show (x_.locl).length ≤ i by omega)]; simp only [impl_ValidNode_L1, ct, cf]
  refine WX.cases 31 rfl (fun h4 => ?_) (fun h4 => ?_)
  ·skip
   have h4d := B.dt h4
   refine R0 ?_
   refine WX.callV rfl rfl rfl rfl rfl (fun _ => rfl) rfl (fun w G bs hI hΓ => f289 w n (by omega) x_.cache K1 M1 (hΓ.get 1 rfl) ((ok_NodeP hokx_).2.1)) ?_
   intro hq3
   refine R0 ?_
   refine WX.cases 36 rfl (fun h5 => ?_) (fun h5 => ?_)
   ·skip
    refine R0 ?_
    refine WX.callV rfl rfl rfl rfl rfl (fun _ => rfl) rfl (fun w G bs hI hΓ => f290 w n (by omega) x_.pending K2 M2 (hΓ.get 2 rfl) ((ok_NodeP hokx_).2.2.1)) ?_
    intro hq4
    refine R0 ?_
    refine WX.cases 41 rfl (fun h6 => ?_) (fun h6 => ?_)
    ·skip
     refine R0 ?_
     refine WX.callV rfl rfl rfl rfl rfl (fun _ => rfl) rfl (fun w G bs hI hΓ => f291 w n (by omega) x_.routes K4 M4 (hΓ.get 4 rfl) ((ok_NodeP hokx_).2.2.2.2.1)) ?_
     intro hq5
     refine R0 ?_
     refine WX.cases 46 rfl (fun h7 => ?_) (fun h7 => ?_)
     ·skip
      refine R0 ?_
      refine WX.callV rfl rfl rfl rfl rfl (fun _ => rfl) rfl (fun w G bs hI hΓ => f292 w n (by omega) x_.measurements K5 M5 (hΓ.get 5 rfl) ((ok_NodeP hokx_).2.2.2.2.2.1)) ?_
      intro hq6
      refine R0 ?_
      refine WX.cases 51 rfl (fun h8 => ?_) (fun h8 => ?_)
      ·skip
       refine R0 ?_
       refine WX.cases 57 rfl (fun h9 => ?_) (fun h9 => ?_)
       ·skip
        have h9d := B.dt h9
        refine R0 ?_
        have hP5 : impl_ValidNode x_ = (decide (x_.dropped ≥ 0)) := by simp only [impl_ValidNode, hX1, h4, h5, h6, h7, h8, h9, ct, cf]
        exact R3 hP5
       ·skip
        have h9d := B.df h9
        refine R0 ?_
        have hP6 : impl_ValidNode x_ = false := by simp only [impl_ValidNode, hX1, h4, h5, h6, h7, h8, h9, ct, cf]
        exact R3 hP6
      ·skip
       refine R0 ?_
       have hP7 : impl_ValidNode x_ = false := by simp only [impl_ValidNode, hX1, h4, h5, h6, h7, h8, ct, cf]
       exact R3 hP7
     ·skip
      refine R0 ?_
      have hP8 : impl_ValidNode x_ = false := by simp only [impl_ValidNode, hX1, h4, h5, h6, h7, ct, cf]
      exact R3 hP8
    ·skip
     refine R0 ?_
     have hP9 : impl_ValidNode x_ = false := by simp only [impl_ValidNode, hX1, h4, h5, h6, ct, cf]
     exact R3 hP9
   ·skip
    refine R0 ?_
    have hP10 : impl_ValidNode x_ = false := by simp only [impl_ValidNode, hX1, h4, h5, ct, cf]
    exact R3 hP10
  ·skip
   have h4d := B.df h4
   refine R0 ?_
   have hP11 : impl_ValidNode x_ = false := by simp only [impl_ValidNode, hX1, h4, ct, cf]
   exact R3 hP11
theorem f186 (w : World) (n : Nat) (hn : n + 0 ≤ 9) (x_ : NodeP) (K0 : Option Addr) (M0 : Nat) (N0 : RdSl (hp w) K0 M0 x_.locl) (K1 : Option Addr) (M1 : Nat) (N1 : RdSl (hp w) K1 M1 x_.cache.entries) (K2 : Option Addr) (M2 : Nat) (N2 : RdSl (hp w) K2 M2 x_.pending) (K3 : Option Addr) (M3 : Nat) (N3 : RdSl (hp w) K3 M3 x_.seen) (K4 : Option Addr) (M4 : Nat) (N4 : RdSl (hp w) K4 M4 x_.routes) (K5 : Option Addr) (M5 : Nat) (N5 : RdSl (hp w) K5 M5 x_.measurements) (hokx_ : GoT.ok n x_) :
  Does Tryz.prog 186 #[.agg #[.slice K0 ((x_.locl).length) M0, .int .i64 (x_.cache.capacity), .slice K1 ((x_.cache.entries).length) M1, .slice K2 ((x_.pending).length) M2, .slice K3 ((x_.seen).length) M3, .slice K4 ((x_.routes).length) M4, .slice K5 ((x_.measurements).length) M5, .int .i64 (x_.dropped)]] w emp (fun (rv : Value) (_ : World) => rv = .bool (spec_ValidNode x_) ∧ True) := by
 have hbP := bd_pos n
 have hbB := bd_big (n := n) (by omega)
 refine WX.enter (tt := tt) (Γ := [(0, MF.rs .stb K0 M0 x_.locl), (1, MF.rs .stb K1 M1 x_.cache.entries), (2, MF.rs .stb K2 M2 x_.pending), (3, MF.rs .stb K3 M3 x_.seen), (4, MF.rs .stb K4 M4 x_.routes), (5, MF.rs .stb K5 M5 x_.measurements)]) Tryz.func186 rfl (by kernel_rfl) rfl (allS_cons rfl N0 (allS_cons rfl N1 (allS_cons rfl N2 (allS_cons rfl N3 (allS_cons rfl N4 (allS_cons rfl N5 allS_nil)))))) ?_
 refine R0 ?_
 have r1 : (x_.locl).length ≤ bd n := (okl (ok_NodeP hokx_).1).1
 refine WX.loop (ι := Nat) ⟨fun i => (i ≤ (x_.locl).length) ∧ (spec_ValidNode_L1 x_ x_.locl 0 = spec_ValidNode_L1 x_ ((x_.locl).drop i) i), fun i => (x_.locl).length - i, fun i => [(3, .v (.int .i64 (((i : Nat) : Int)))), (1, .p 1 0)], fun i => [(1, ⟨221, [.slice K0 ((x_.locl).length) M0, .int .i64 (x_.cache.capacity), .slice K1 ((x_.cache.entries).length) M1, .slice K2 ((x_.pending).length) M2, .slice K3 ((x_.seen).length) M3, .slice K4 ((x_.routes).length) M4, .slice K5 ((x_.measurements).length) M5, .int .i64 (x_.dropped)]⟩)], fun i => [], fun i => [(0, MF.rs .stb K0 M0 x_.locl), (1, MF.rs .stb K1 M1 x_.cache.entries), (2, MF.rs .stb K2 M2 x_.pending), (3, MF.rs .stb K3 M3 x_.seen), (4, MF.rs .stb K4 M4 x_.routes), (5, MF.rs .stb K5 M5 x_.measurements)]⟩ 0 ⟨(Nat.zero_le _), rfl⟩
  (.cons rfl (.cons rfl (.nil))) (.cons rfl (.nil)) .nil [0, 1, 2, 3, 4, 5] rfl ?_
 rintro i hpre
 have hpre_ : (i ≤ (x_.locl).length) ∧ (spec_ValidNode_L1 x_ x_.locl 0 = spec_ValidNode_L1 x_ ((x_.locl).drop i) i) := hpre
 clear hpre
 obtain ⟨v1, v2⟩ := hpre_
 refine R0 ?_
 refine WX.cases 8 rfl (fun h1 => ?_) (fun h1 => ?_)
 ·skip
  have h1d := B.dt h1
  have e1i : i < (x_.locl).length := (by omega)
  obtain ⟨e1, e1h⟩ : ∃ e1, (x_.locl)[i]? = some e1 := ⟨_, List.getElem?_eq_getElem e1i⟩
  have ok1 : GoT.ok n e1 := (okl (ok_NodeP hokx_).1).2 _ (List.mem_of_getElem? e1h)
  refine R0 ?_
  refine WX.draw [] mixed ?_
  intro bs G0 hΓ0
  refine DX.takes (fuel := 18) ttOk [(0, true), (1, false), (2, true)] (by kernel_rfl) rfl ?_
  refine DX.idx 3 0 i ttOk hΓ0 (by kernel_rfl) rfl rfl rfl rfl rfl rfl rfl rfl rfl rfl rfl e1i ?_
  rintro ad1 rfl
  refine DX.ldE 4 0 6 e1 ttOk hΓ0 (by kernel_rfl) rfl rfl rfl rfl rfl rfl rfl rfl e1h (fun _ => rfl) (fun _ => rfl) ?_
  rintro ⟨⟨p1, c1⟩, ⟨p2, c2⟩, ⟨p3, c3⟩, ⟨⟩, ⟨⟩⟩
  refine DX.callV 5 rfl (by kernel_rfl) rfl rfl rfl rfl rfl rfl (fun _ => rfl) rfl (fun w G bs hI hΓ => f105 w n (by omega) e1 p1 c1 (hΓ.get 6 rfl) p2 c2 (hΓ.get 7 rfl) p3 c3 (hΓ.get 8 rfl) ok1) ?_
  intro hq1
  refine DX.takes (fuel := 13) ttOk [(6, true), (7, true)] (by kernel_rfl) rfl ?_
  refine DX.cases 18 rfl (fun h2 => ?_) (fun h2 => ?_)
  ·skip
   have h2d := (B.nt h2)
   refine DX.takes (fuel := 0) ttOk [(8, true), (9, true), (10, true), (11, true), (12, true), (13, true), (14, true), (15, true), (16, true), (17, true), (18, true), (19, true), (20, true)] (by kernel_rfl) rfl ?_
   refine DX.tail2 [] rfl rfl (by kernel_rfl) ?_
   refine R0 ?_
   have hP1 : spec_ValidNode_L1 x_ x_.locl 0 = (some false) := by rw [v2, drop_get e1h]; simp only [spec_ValidNode_L1, h2, ct, cf]
   have hP2 : spec_ValidNode x_ = false := by simp only [spec_ValidNode, hP1, ct, cf]
   exact R3 hP2
  ·skip
   have h2d := (B.nf h2)
   refine DX.takes (fuel := 10) ttOk [(8, true), (9, false), (10, true)] (by kernel_rfl) rfl ?_
   refine DX.seeP 11 (by kernel_rfl) rfl rfl rfl rfl (looksP_slH i ttOk rfl rfl rfl rfl (by simp) (Nat.le_trans (show i ≤ (x_.locl).length from (by omega)) (hΓ0.get 0 rfl : RdSl _ _ _ _).1)) ?_
   refine DX.slot 22 (y := .v (.slice (some ad1) (((List.take i x_.locl)).length) M0)) rfl (fun _ => by rw [show ((List.take i x_.locl)).length = i from (by simp only [List.length_take]; have z_ := (show i ≤ (x_.locl).length from (by omega)); omega)]) ?_
   refine DX.der 9 (MF.rs .der (some ad1) M0 (List.take i x_.locl)) rfl (fun _ hΓ => RdSl.pre (hΓ.get 0 rfl : RdSl _ _ _ _) i) ?_
   refine DX.takes (fuel := 6) ttOk [(12, true), (13, false), (14, true)] (by kernel_rfl) rfl ?_
   refine DX.idx 15 0 i ttOk hΓ0 (by kernel_rfl) rfl rfl rfl rfl rfl rfl rfl rfl rfl rfl rfl e1i ?_
   rintro ad2 ⟨⟩
   refine DX.takes (fuel := 4) ttOk [(16, true)] (by kernel_rfl) rfl ?_
   refine DX.ldE 17 0 10 e1 ttOk hΓ0 (by kernel_rfl) rfl rfl rfl rfl rfl rfl rfl rfl e1h (fun _ => rfl) (fun _ => rfl) ?_
   rintro ⟨⟨p4, c4⟩, ⟨p5, c5⟩, ⟨p6, c6⟩, ⟨⟩, ⟨⟩⟩
   refine DX.callV 18 rfl (by kernel_rfl) rfl rfl rfl rfl rfl rfl (fun _ => rfl) rfl (fun w G bs hI hΓ => f101 w n (by omega) (List.take i x_.locl) (some ad1) M0 (hΓ.get 9 rfl) e1.name p4 c4 (hΓ.get 10 rfl) (okl_mk (by first | assumption | omega | (simp; omega)) (fun a ha => (okl (ok_NodeP hokx_).1).2 a (List.mem_of_mem_take ha)) : GoT.ok n ((List.take i x_.locl) : List DataP)) ((ok_DataP ok1).1)) ?_
   intro hq2
   have q1 := lt_l16Find (List.take i x_.locl) e1.name
   refine DX.takes (fuel := 0) ttOk [(19, true), (20, true)] (by kernel_rfl) rfl ?_
   refine DX.tail2 [] rfl rfl (by kernel_rfl) ?_
   refine R0 ?_
   refine WX.cases 31 rfl (fun h3 => ?_) (fun h3 => ?_)
   ·skip
    have h3d := B.dt h3
    refine R0 ?_
    have hP3 : spec_ValidNode_L1 x_ x_.locl 0 = (some false) := by rw [v2, drop_get e1h]; simp only [spec_ValidNode_L1, h2, h3, ct, cf]
    have hP4 : spec_ValidNode x_ = false := by simp only [spec_ValidNode, hP3, ct, cf]
    exact R3 hP4
   ·skip
    have h3d := B.df h3
    refine R0 ?_
    refine WX.see rfl rfl rfl (fun _ hΓ => looks_arith rfl rfl rfl rfl (by unfold I64; first | omega | (simp only [List.length_take] at *; omega))) ?_
    refine R0 ?_
    exact WX.iter (i + 1) ⟨(by omega), (by rw [v2, drop_get e1h]; simp only [spec_ValidNode_L1, h2, h3, ct, cf])⟩ (by first | (dsimp only; omega) | omega) (.cons rfl (.cons rfl (.nil))) (.cons rfl (.nil)) .nil [0, 1, 2, 3, 4, 5] rfl
 ·skip
  have h1d := B.df h1
  refine R0 ?_
  have hX1 : spec_ValidNode_L1 x_ x_.locl 0 = none := by rw [v2, List.drop_eq_nil_of_le (show (x_.locl).length ≤ i by omega)]; simp only [spec_ValidNode_L1, ct, cf]
  refine WX.cases 36 rfl (fun h4 => ?_) (fun h4 => ?_)
  ·skip
   have h4d := B.dt h4
   refine R0 ?_
   refine WX.callV rfl rfl rfl rfl rfl (fun _ => rfl) rfl (fun w G bs hI hΓ => f269 w n (by omega) x_.cache K1 M1 (hΓ.get 1 rfl) ((ok_NodeP hokx_).2.1)) ?_
   intro hq3
   refine R0 ?_
   refine WX.cases 41 rfl (fun h5 => ?_) (fun h5 => ?_)
   ·skip
    refine R0 ?_
    refine WX.callV rfl rfl rfl rfl rfl (fun _ => rfl) rfl (fun w G bs hI hΓ => f270 w n (by omega) x_.pending K2 M2 (hΓ.get 2 rfl) ((ok_NodeP hokx_).2.2.1)) ?_
    intro hq4
    refine R0 ?_
    refine WX.cases 46 rfl (fun h6 => ?_) (fun h6 => ?_)
    ·skip
     refine R0 ?_
     refine WX.callV rfl rfl rfl rfl rfl (fun _ => rfl) rfl (fun w G bs hI hΓ => f271 w n (by omega) x_.routes K4 M4 (hΓ.get 4 rfl) ((ok_NodeP hokx_).2.2.2.2.1)) ?_
     intro hq5
     refine R0 ?_
     refine WX.cases 51 rfl (fun h7 => ?_) (fun h7 => ?_)
     ·skip
      refine R0 ?_
      refine WX.callV rfl rfl rfl rfl rfl (fun _ => rfl) rfl (fun w G bs hI hΓ => f272 w n (by omega) x_.measurements K5 M5 (hΓ.get 5 rfl) ((ok_NodeP hokx_).2.2.2.2.2.1)) ?_
      intro hq6
      refine R0 ?_
      refine WX.cases 56 rfl (fun h8 => ?_) (fun h8 => ?_)
      ·skip
       refine R0 ?_
       refine WX.cases 62 rfl (fun h9 => ?_) (fun h9 => ?_)
       ·skip
        have h9d := B.dt h9
        refine R0 ?_
        have hP5 : spec_ValidNode x_ = (decide (x_.dropped ≥ 0)) := by simp only [spec_ValidNode, hX1, h4, h5, h6, h7, h8, h9, ct, cf]
        exact R3 hP5
       ·skip
        have h9d := B.df h9
        refine R0 ?_
        have hP6 : spec_ValidNode x_ = false := by simp only [spec_ValidNode, hX1, h4, h5, h6, h7, h8, h9, ct, cf]
        exact R3 hP6
      ·skip
       refine R0 ?_
       have hP7 : spec_ValidNode x_ = false := by simp only [spec_ValidNode, hX1, h4, h5, h6, h7, h8, ct, cf]
       exact R3 hP7
     ·skip
      refine R0 ?_
      have hP8 : spec_ValidNode x_ = false := by simp only [spec_ValidNode, hX1, h4, h5, h6, h7, ct, cf]
      exact R3 hP8
    ·skip
     refine R0 ?_
     have hP9 : spec_ValidNode x_ = false := by simp only [spec_ValidNode, hX1, h4, h5, h6, ct, cf]
     exact R3 hP9
   ·skip
    refine R0 ?_
    have hP10 : spec_ValidNode x_ = false := by simp only [spec_ValidNode, hX1, h4, h5, ct, cf]
    exact R3 hP10
  ·skip
   have h4d := B.df h4
   refine R0 ?_
   have hP11 : spec_ValidNode x_ = false := by simp only [spec_ValidNode, hX1, h4, ct, cf]
   exact R3 hP11
end Go.Proofs.YtdimfabadjfkiaaGreat

namespace Go.Stp
set_option linter.unusedVariables false
set_option linter.unusedSimpArgs false
def spec_l32Dead_L1 (w_ : Network) : List Int → Nat → Option (Bool)
  | [], i => none
  | e1 :: rest_, i =>
    bif (!(spec_l1In e1 0 (IntKind.i64.wrap ((((w_.topology.links).length : Nat) : Int) - 1)))) then
      (some false)
    else
      bif decide (((i : Nat) : Int) > 0) then
        match (w_.failedLinks)[(((i : Nat) : Int) - 1).toNat]? with
          | none => default
          | some e2 =>
            bif decide (e2 ≥ e1) then
              (some false)
            else
              spec_l32Dead_L1 w_ rest_ (i + 1)
      else
        spec_l32Dead_L1 w_ rest_ (i + 1)
def spec_l32Dead (w_ : Network) : Bool :=
  match spec_l32Dead_L1 w_ w_.failedLinks 0 with
    | some r_ => r_
    | none =>
      (spec_l1In w_.downNodes 0 (IntKind.i64.wrap ((IntKind.i64.wrap (1 * 2 ^ (min (Int.toNat w_.topology.size) 64))) - 1)))
def impl_ValidNetwork_c1 (x_ : NodeP) : Bool :=
  (!(impl_ValidNode x_))
def impl_ValidNetwork_L3 (w_ : Network) : List Consumer → Nat → Option (Bool)
  | [], i => none
  | e4 :: rest_, i =>
    bif (!(impl_ValidConsumer e4)) then
      (some false)
    else
      bif (e4.index != ((i : Nat) : Int)) then
        (some false)
      else
        bif decide (e4.node ≥ w_.topology.size) then
          (some false)
        else
          impl_ValidNetwork_L3 w_ rest_ (i + 1)
def impl_ValidNetwork_L2 (w_ : Network) : List PacketInFlight → Option (Bool)
  | [] => none
  | e3 :: rest_ =>
    bif (!(impl_InRange e3.to 0 (IntKind.i64.wrap (w_.topology.size - 1)))) then
      (some false)
    else
      bif (!(impl_InRange e3.face 1 ((((impl_NeighborsOf w_.topology e3.to)).length : Nat) : Int))) then
        (some false)
      else
        impl_ValidNetwork_L2 w_ rest_
def impl_ValidNetwork_L1 (w_ : Network) : List Int → Nat → Option (Bool)
  | [], i => none
  | e1 :: rest_, i =>
    bif (!(impl_InRange e1 0 (IntKind.i64.wrap ((((w_.topology.links).length : Nat) : Int) - 1)))) then
      (some false)
    else
      bif decide (((i : Nat) : Int) > 0) then
        match (w_.failedLinks)[(((i : Nat) : Int) - 1).toNat]? with
          | none => default
          | some e2 =>
            bif decide (e2 ≥ e1) then
              (some false)
            else
              impl_ValidNetwork_L1 w_ rest_ (i + 1)
      else
        impl_ValidNetwork_L1 w_ rest_ (i + 1)
def impl_ValidNetwork (w_ : Network) : Bool :=
  bif (!(impl_ValidTopology w_.topology)) then
    false
  else
    bif (!(impl_ValidTrust w_.trust)) then
      false
    else
      bif (!(impl_areProducers w_.producers w_.topology.size)) then
        false
      else
        bif ((((w_.nodes).length : Nat) : Int) != w_.topology.size) then
          false
        else
          bif (!(impl_InRange w_.downNodes 0 (IntKind.i64.wrap ((IntKind.i64.wrap (1 * 2 ^ (min (Int.toNat w_.topology.size) 64))) - 1)))) then
            false
          else
            match impl_ValidNetwork_L1 w_ w_.failedLinks 0 with
              | some r_ => r_
              | none =>
                match impl_ValidNetwork_L2 w_ w_.inFlight with
                  | some r_ => r_
                  | none =>
                    match impl_ValidNetwork_L3 w_ w_.consumers 0 with
                      | some r_ => r_
                      | none =>
                        bif (!(slices_ContainsFunc_Node w_.nodes (fun e0_ => (impl_ValidNetwork_c1 e0_)))) then
                          bif decide ((((w_.inFlight).length : Nat) : Int) ≤ 200) then
                            bif decide ((((w_.consumers).length : Nat) : Int) ≤ 8) then
                              bif (impl_InRange w_.now 0 100000) then
                                (decide (w_.dropped ≥ 0))
                              else
                                false
                            else
                              false
                          else
                            false
                        else
                          false
def spec_ValidNetwork_L3 (w_ : Network) : List Consumer → Nat → Option (Bool)
  | [], i => none
  | e3 :: rest_, i =>
    bif (!(spec_ValidConsumer e3)) then
      (some false)
    else
      bif decide (e3.node ≥ w_.topology.size) then
        (some false)
      else
        bif (e3.index != ((i : Nat) : Int)) then
          (some false)
        else
          spec_ValidNetwork_L3 w_ rest_ (i + 1)
def spec_ValidNetwork_L2 (w_ : Network) : List PacketInFlight → Option (Bool)
  | [] => none
  | e2 :: rest_ =>
    bif (!(spec_l1In e2.to 0 (IntKind.i64.wrap (w_.topology.size - 1)))) then
      (some false)
    else
      bif (!(spec_l1In e2.face 1 ((((spec_NeighborsOf w_.topology e2.to)).length : Nat) : Int))) then
        (some false)
      else
        spec_ValidNetwork_L2 w_ rest_
def spec_ValidNetwork_L1 : List NodeP → Option (Bool)
  | [] => none
  | e1 :: rest_ =>
    bif (!(spec_ValidNode e1)) then
      (some false)
    else
      spec_ValidNetwork_L1 rest_
def spec_ValidNetwork (w_ : Network) : Bool :=
  bif (!(spec_ValidTopology w_.topology)) then
    false
  else
    bif (!(spec_ValidTrust w_.trust)) then
      false
    else
      bif (!(spec_l32Rows w_.producers w_.topology.size)) then
        false
      else
        bif ((((w_.nodes).length : Nat) : Int) != w_.topology.size) then
          false
        else
          bif (!(spec_l32Dead w_)) then
            false
          else
            bif decide ((((w_.inFlight).length : Nat) : Int) > 200) then
              false
            else
              bif decide ((((w_.consumers).length : Nat) : Int) > 8) then
                false
              else
                bif (!(spec_l1In w_.now 0 100000)) then
                  false
                else
                  bif decide (w_.dropped < 0) then
                    false
                  else
                    match spec_ValidNetwork_L1 w_.nodes with
                      | some r_ => r_
                      | none =>
                        match spec_ValidNetwork_L2 w_ w_.inFlight with
                          | some r_ => r_
                          | none =>
                            match spec_ValidNetwork_L3 w_ w_.consumers 0 with
                              | some r_ => r_
                              | none =>
                                true
end Go.Stp

