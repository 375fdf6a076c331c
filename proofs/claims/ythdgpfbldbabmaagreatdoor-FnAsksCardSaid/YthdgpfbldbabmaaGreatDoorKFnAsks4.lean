/-
  What the proof of one law needs: rules of the program logic, functions as Lean functions, contracts. No condition but what each says. Written by a program (pack.py) out of my own texts.
-/
import Derived.Test.YthdgpfbldbabmaaGreatDoorKFnAsks3
namespace Go.Proofs.YthdgpfbldbabmaaGreatDoor
open Go.Stp
set_option linter.unusedVariables false
set_option linter.unusedSimpArgs false
theorem f82 (w : World) (n : Nat) (hn : n + 0 ≤ 9) (s : Str) (hoks : GoT.ok n s) :
 Does Tryz.prog 82 #[.string s] w emp (pB (a2x s)) := by
 have hb := bS0 hn
 refine EN Tryz.func82 Z allS_nil ?_
 refine R0 ?_
 have r1 : (s).size ≤ bd n := hoks
 refine WX.loop (ι := Nat) ⟨fun i => (i ≤ ((s).data.toList).length) ∧ (a0p ((s).data.toList) = a0p (((s).data.toList).drop i)), fun i => ((s).data.toList).length - i, fun i => [(7, .v (.int .i64 (((i : Nat) : Int)))), (6, .v (.int .i64 ((((s).size : Nat) : Int)))), (0, .v (.string s))], fun i => [], fun i => [], fun i => []⟩ 0 ⟨(Nat.zero_le _), Z⟩
  (.cons Z (.cons Z (.cons Z (.nil)))) .nil .nil [] Z ?_
 rintro i ⟨v1, v2⟩
 refine R0 ?_
 refine WX.cases 8 Z ?_ ?_ <;> intro h1
 ·skip
  have h1d := B.dt h1
  have e1i : i < ((s).data.toList).length := (by (have hz_ : ((s).data.toList).length = (s).size := by simp); omega)
  obtain ⟨e1, e1h⟩ : ∃ e1, ((s).data.toList)[i]? = some e1 := ⟨_, List.getElem?_eq_getElem e1i⟩
  refine R0 ?_
  refine WX.see Z Z Z (fun _ hΓ => looks_strIdx ttOk Z Z Z Z Z e1h) ?_
  refine R0 ?_
  refine WX.cases 15 Z ?_ ?_ <;> intro h2
  ·skip
   have h2d := B.dt h2
   refine R0 ?_
   refine WX.cases 19 Z ?_ ?_ <;> intro h3
   ·skip
    have h3d := B.dt h3
    refine R0 ?_
    refine WX.see Z Z Z (fun _ hΓ => looks_arith Z Z Z Z τ2) ?_
    refine R0 ?_
    exact WX.iter (i + 1) ⟨τ1, (by rw [v2, drop_get e1h]; simp only [a0p, h2, h3, cT, cF])⟩ τ4 (.cons Z (.cons Z (.cons Z (.nil)))) .nil .nil [] Z
   have h3d := B.df h3
   refine R0 ?_
   refine WX.cases 22 Z ?_ ?_ <;> intro h4
   ·skip
    have h4d := B.dt h4
    refine R0 ?_
    refine WX.cases 27 Z ?_ ?_ <;> intro h5
    ·skip
     have h5d := B.dt h5
     refine R0 ?_
     refine WX.see Z Z Z (fun _ hΓ => looks_arith Z Z Z Z τ2) ?_
     refine R0 ?_
     exact WX.iter (i + 1) ⟨τ1, (by rw [v2, drop_get e1h]; simp only [a0p, h2, h3, h4, h5, cT, cF])⟩ τ4 (.cons Z (.cons Z (.cons Z (.nil)))) .nil .nil [] Z
    have h5d := B.df h5
    refine R0 ?_
    refine WX.cases 31 Z ?_ ?_ <;> intro h6
    ·skip
     have h6d := B.ef (B.nt h6)
     refine R0 ?_
     have hP1 : a0p ((s).data.toList) = (some false) := by rw [v2, drop_get e1h]; simp only [a0p, h2, h3, h4, h5, h6, cT, cF]
     exact R4 Z (by simp only [a2x, hP1, cT, cF])
    have h6d := B.et (B.nf h6)
    refine R0 ?_
    refine WX.see Z Z Z (fun _ hΓ => looks_arith Z Z Z Z τ2) ?_
    refine R0 ?_
    exact WX.iter (i + 1) ⟨τ1, (by rw [v2, drop_get e1h]; simp only [a0p, h2, h3, h4, h5, h6, cT, cF])⟩ τ4 (.cons Z (.cons Z (.cons Z (.nil)))) .nil .nil [] Z
   have h4d := B.df h4
   refine R0 ?_
   refine WX.cases 31 Z ?_ ?_ <;> intro h7
   ·skip
    have h7d := B.ef (B.nt h7)
    refine R0 ?_
    have hP3 : a0p ((s).data.toList) = (some false) := by rw [v2, drop_get e1h]; simp only [a0p, h2, h3, h4, h7, cT, cF]
    exact R4 Z (by simp only [a2x, hP3, cT, cF])
   have h7d := B.et (B.nf h7)
   refine R0 ?_
   refine WX.see Z Z Z (fun _ hΓ => looks_arith Z Z Z Z τ2) ?_
   refine R0 ?_
   exact WX.iter (i + 1) ⟨τ1, (by rw [v2, drop_get e1h]; simp only [a0p, h2, h3, h4, h7, cT, cF])⟩ τ4 (.cons Z (.cons Z (.cons Z (.nil)))) .nil .nil [] Z
  have h2d := B.df h2
  refine R0 ?_
  refine WX.cases 22 Z ?_ ?_ <;> intro h8
  ·skip
   have h8d := B.dt h8
   refine R0 ?_
   refine WX.cases 27 Z ?_ ?_ <;> intro h9
   ·skip
    have h9d := B.dt h9
    refine R0 ?_
    refine WX.see Z Z Z (fun _ hΓ => looks_arith Z Z Z Z τ2) ?_
    refine R0 ?_
    exact WX.iter (i + 1) ⟨τ1, (by rw [v2, drop_get e1h]; simp only [a0p, h2, h8, h9, cT, cF])⟩ τ4 (.cons Z (.cons Z (.cons Z (.nil)))) .nil .nil [] Z
   have h9d := B.df h9
   refine R0 ?_
   refine WX.cases 31 Z ?_ ?_ <;> intro h10
   ·skip
    have h10d := B.ef (B.nt h10)
    refine R0 ?_
    have hP5 : a0p ((s).data.toList) = (some false) := by rw [v2, drop_get e1h]; simp only [a0p, h2, h8, h9, h10, cT, cF]
    exact R4 Z (by simp only [a2x, hP5, cT, cF])
   have h10d := B.et (B.nf h10)
   refine R0 ?_
   refine WX.see Z Z Z (fun _ hΓ => looks_arith Z Z Z Z τ2) ?_
   refine R0 ?_
   exact WX.iter (i + 1) ⟨τ1, (by rw [v2, drop_get e1h]; simp only [a0p, h2, h8, h9, h10, cT, cF])⟩ τ4 (.cons Z (.cons Z (.cons Z (.nil)))) .nil .nil [] Z
  have h8d := B.df h8
  refine R0 ?_
  refine WX.cases 31 Z ?_ ?_ <;> intro h11
  ·skip
   have h11d := B.ef (B.nt h11)
   refine R0 ?_
   have hP7 : a0p ((s).data.toList) = (some false) := by rw [v2, drop_get e1h]; simp only [a0p, h2, h8, h11, cT, cF]
   exact R4 Z (by simp only [a2x, hP7, cT, cF])
  have h11d := B.et (B.nf h11)
  refine R0 ?_
  refine WX.see Z Z Z (fun _ hΓ => looks_arith Z Z Z Z τ2) ?_
  refine R0 ?_
  exact WX.iter (i + 1) ⟨τ1, (by rw [v2, drop_get e1h]; simp only [a0p, h2, h8, h11, cT, cF])⟩ τ4 (.cons Z (.cons Z (.cons Z (.nil)))) .nil .nil [] Z
 have h1d := B.df h1
 refine R0 ?_
 have hX1 : a0p ((s).data.toList) = none := by rw [v2, List.drop_eq_nil_of_le (show ((s).data.toList).length ≤ i by (have hz_ : ((s).data.toList).length = (s).size := by simp); omega)]; simp only [a0p, cT, cF]
 refine CV Z Z Z Z Z O Z (fun w γ => f52 w n τ1 (((s).size : Nat) : Int) 1 8 (i6 (((s).size : Nat) : Int)) (i6 1) (i6 8)) ?_
 intro hq1
 refine R0 ?_
 exact R4 Z (by simp only [a2x, hX1, cT, cF])
theorem f83 (w : World) (n : Nat) (hn : n + 0 ≤ 9) (s : Str) (hoks : GoT.ok n s) :
 Does Tryz.prog 83 #[.string s] w emp (pB (a1f s)) := by
 have hb := bS0 hn
 refine EN Tryz.func83 Z allS_nil ?_
 refine R0 ?_
 have r1 : (s).size ≤ bd n := hoks
 refine CV Z Z Z Z Z O Z (fun w γ => f55 w n τ1 (((s).size : Nat) : Int) 1 8 (i6 (((s).size : Nat) : Int)) (i6 1) (i6 8)) ?_
 intro hq1
 refine R0 ?_
 refine WX.cases 8 Z ?_ ?_ <;> intro h1
 ·skip
  have h1d := (B.nt h1)
  refine R0 ?_
  exact R4 Z (by simp only [a1f, h1, cT, cF])
 have h1d := (B.nf h1)
 have h1r := inR_spec (B.nf h1)
 refine R0 ?_
 refine WX.loop (ι := Nat) ⟨fun i => (i ≤ ((s).data.toList).length) ∧ (a1u ((s).data.toList) = a1u (((s).data.toList).drop i)), fun i => ((s).data.toList).length - i, fun i => [(3, .v (.int .i64 (((i : Nat) : Int)))), (0, .v (.string s))], fun i => [], fun i => [], fun i => []⟩ 0 ⟨(Nat.zero_le _), Z⟩
  (.cons Z (.cons Z (.nil))) .nil .nil [] Z ?_
 rintro i ⟨v1, v2⟩
 refine R0 ?_
 refine WX.cases 12 Z ?_ ?_ <;> intro h2
 ·skip
  have h2d := B.dt h2
  have e1i : i < ((s).data.toList).length := (by (have hz_ : ((s).data.toList).length = (s).size := by simp); omega)
  obtain ⟨e1, e1h⟩ : ∃ e1, ((s).data.toList)[i]? = some e1 := ⟨_, List.getElem?_eq_getElem e1i⟩
  refine R0 ?_
  refine WX.see Z Z Z (fun _ hΓ => looks_strIdx ttOk Z Z Z Z Z e1h) ?_
  refine WX.see Z Z Z (fun _ hΓ => looks_ofU8 ttOk Z Z Z Z Z Z) ?_
  refine R0 ?_
  have r2 : (e1).toNat < 256 := UInt8.toNat_lt _
  refine CV Z Z Z Z Z O Z (fun w γ => f55 w n τ1 ((e1).toNat : Int) 97 122 (i6 ((e1).toNat : Int)) (i6 97) (i6 122)) ?_
  intro hq2
  refine R0 ?_
  refine WX.cases 22 Z ?_ ?_ <;> intro h3
  ·skip
   have h3d := (B.nt h3)
   refine R0 ?_
   refine CV Z Z Z Z Z O Z (fun w γ => f55 w n τ1 ((e1).toNat : Int) 48 57 (i6 ((e1).toNat : Int)) (i6 48) (i6 57)) ?_
   intro hq3
   refine R0 ?_
   refine WX.cases 27 Z ?_ ?_ <;> intro h4
   ·skip
    have h4d := (B.nt h4)
    refine R0 ?_
    refine WX.cases 30 Z ?_ ?_ <;> intro h5
    ·skip
     have h5d := B.nt' h5
     refine R0 ?_
     have hP2 : a1u ((s).data.toList) = (some false) := by rw [v2, drop_get e1h]; simp only [a1u, h3, h4, h5, cT, cF]
     exact R4 Z (by simp only [a1f, h1, hP2, cT, cF])
    have h5d := B.nf' h5
    refine R0 ?_
    refine WX.see Z Z Z (fun _ hΓ => looks_arith Z Z Z Z τ2) ?_
    refine R0 ?_
    exact WX.iter (i + 1) ⟨τ1, (by rw [v2, drop_get e1h]; simp only [a1u, h3, h4, h5, cT, cF])⟩ τ4 (.cons Z (.cons Z (.nil))) .nil .nil [] Z
   have h4d := (B.nf h4)
   have h4r := inR_spec (B.nf h4)
   refine R0 ?_
   refine WX.see Z Z Z (fun _ hΓ => looks_arith Z Z Z Z τ2) ?_
   refine R0 ?_
   exact WX.iter (i + 1) ⟨τ1, (by rw [v2, drop_get e1h]; simp only [a1u, h3, h4, cT, cF])⟩ τ4 (.cons Z (.cons Z (.nil))) .nil .nil [] Z
  have h3d := (B.nf h3)
  have h3r := inR_spec (B.nf h3)
  refine R0 ?_
  refine WX.see Z Z Z (fun _ hΓ => looks_arith Z Z Z Z τ2) ?_
  refine R0 ?_
  exact WX.iter (i + 1) ⟨τ1, (by rw [v2, drop_get e1h]; simp only [a1u, h3, cT, cF])⟩ τ4 (.cons Z (.cons Z (.nil))) .nil .nil [] Z
 have h2d := B.df h2
 refine R0 ?_
 have hX1 : a1u ((s).data.toList) = none := by rw [v2, List.drop_eq_nil_of_le (show ((s).data.toList).length ≤ i by (have hz_ : ((s).data.toList).length = (s).size := by simp); omega)]; simp only [a1u, cT, cF]
 exact R4 Z (by simp only [a1f, h1, hX1, cT, cF])
theorem f102 (w : World) (n : Nat) (hn : n + 0 ≤ 9) (s : (List Str)) (ps cs) (N0 : RdSl (hp w) ps cs s) (fg : FuncId) (fc : List Value) (fq : Str → Bool) (ff : ∀ w1, Kp emp w w1 → ∀ (e0 : Str) (x0 : GoT.X Str), GoT.ok n e0 → All (hp w1) (GoT.fa .der e0 x0) → Does Tryz.prog fg ([(GoT.sh e0 x0).headD undef] ++ fc).toArray w1 emp (fun rv _ => rv = .bool (fq e0) ∧ True)) (hoks : GoT.ok n s) :
 Does Tryz.prog 102 #[.slice ps ((s).length) cs, .func (.func fg) #[] fc.toArray] w emp (fun (rv : Value) (_ : World) => rv = .int .i64 ((slices_IndexFunc_string s fq)) ∧ GoT.ok n ((slices_IndexFunc_string s fq) : Int)) := by
 have hb := bS0 hn
 refine EN Tryz.func102 Z (aS1 N0) ?_
 refine R0 ?_
 have r1 : (s).length ≤ bd n := (okl hoks).1
 refine WX.loop (ι := Nat) ⟨fun i => (i ≤ (s).length) ∧ (slices_IndexFunc_string_L1 fq s 0 = slices_IndexFunc_string_L1 fq ((s).drop i) i), fun i => (s).length - i, fun i => [(8, .v (.int .i64 (((i : Nat) : Int)))), (7, .v (.int .i64 ((((s).length : Nat) : Int)))), (0, .v (.slice ps ((s).length) cs)), (1, .v (.func (.func fg) #[] fc.toArray))], fun i => [], fun i => [], fun i => [(0, MF.rs .stb ps cs s)]⟩ 0 ⟨(Nat.zero_le _), Z⟩
  (.cons Z (.cons Z (.cons Z (.cons Z (.nil))))) .nil .nil [0] Z ?_
 rintro i ⟨v1, v2⟩
 refine R0 ?_
 refine WX.cases 9 Z ?_ ?_ <;> intro h1
 ·skip
  have h1d := B.dt h1
  have e1i : i < (s).length := τ1
  obtain ⟨e1, e1h⟩ : ∃ e1, (s)[i]? = some e1 := ⟨_, List.getElem?_eq_getElem e1i⟩
  have ok1 : GoT.ok n e1 := (okl hoks).2 _ (List.mem_of_getElem? e1h)
  refine R0 ?_
  refine WX.idx 0 i ttOk Z Z Z Z Z Z Z Z Z Z e1i ?_
  rintro ad1 rfl
  refine WX.ldE 0 1 e1 ttOk Z Z Z Z Z Z Z Z e1h O O ?_
  rintro ⟨⟩
  refine WX.callV Z Z Z Z Z O Z (fun w G bs hI hΓ => ff w hI.keep e1 () ok1 All.nil) ?_
  intro hq1
  refine R0 ?_
  refine WX.cases 16 Z ?_ ?_ <;> intro h2
  ·skip
   refine R0 ?_
   have hP1 : slices_IndexFunc_string_L1 fq s 0 = (some ((i : Nat) : Int)) := by rw [v2, drop_get e1h]; simp only [slices_IndexFunc_string_L1, h2, cT, cF]
   have hP2 : slices_IndexFunc_string s fq = ((i : Nat) : Int) := by simp only [slices_IndexFunc_string, hP1, cT, cF]
   refine R1 ?_
   intro w1 G bs hI hΓ
   rw [hP2]
   exact ⟨Z, (i6 ((i : Nat) : Int))⟩
  refine R0 ?_
  refine WX.see Z Z Z (fun _ hΓ => looks_arith Z Z Z Z τ2) ?_
  refine R0 ?_
  exact WX.iter (i + 1) ⟨τ1, (by rw [v2, drop_get e1h]; simp only [slices_IndexFunc_string_L1, h2, cT, cF])⟩ τ4 (.cons Z (.cons Z (.cons Z (.cons Z (.nil))))) .nil .nil [0] Z
 have h1d := B.df h1
 refine R0 ?_
 have hX1 : slices_IndexFunc_string_L1 fq s 0 = none := by rw [v2, List.drop_eq_nil_of_le (show (s).length ≤ i by omega)]; simp only [slices_IndexFunc_string_L1, cT, cF]
 have hP3 : slices_IndexFunc_string s fq = (-1) := by simp only [slices_IndexFunc_string, hX1, cT, cF]
 refine R1 ?_
 intro w1 G bs hI hΓ
 rw [hP3]
 exact ⟨Z, (i6 (-1))⟩
theorem ltL_slices_IndexFunc_string : ∀ (f : Str → Bool) (l : List Str) (i : Nat) (j : Int), slices_IndexFunc_string_L1 f l i = some j → j < ((i + l.length : Nat) : Int)
 | f, [], i, j, h => by cases h
 | f, x :: l, i, j, h => by
  simp only [slices_IndexFunc_string_L1] at h
  cases hx : f x
  ·rw [hx, cond_false] at h
   have := ltL_slices_IndexFunc_string f l (i + 1) j h
   simp only [List.length_cons]; omega
  ·rw [hx, cond_true] at h
   cases h
   simp only [List.length_cons]; omega
theorem ltI_slices_IndexFunc_string (l : List Str) (f : Str → Bool) : slices_IndexFunc_string l f < ((l.length : Nat) : Int) := by
 unfold slices_IndexFunc_string
 cases h : slices_IndexFunc_string_L1 f l 0 with
 | none => show (-1 : Int) < _; omega
 | some j => have := ltL_slices_IndexFunc_string f l 0 j h; show j < _; omega
theorem f80 (w : World) (n : Nat) (hn : n + 0 ≤ 9) (s : (List Str)) (ps cs) (N0 : RdSl (hp w) ps cs s) (fg : FuncId) (fc : List Value) (fq : Str → Bool) (ff : ∀ w1, Kp emp w w1 → ∀ (e0 : Str) (x0 : GoT.X Str), GoT.ok n e0 → All (hp w1) (GoT.fa .der e0 x0) → Does Tryz.prog fg ([(GoT.sh e0 x0).headD undef] ++ fc).toArray w1 emp (fun rv _ => rv = .bool (fq e0) ∧ True)) (hoks : GoT.ok n s) :
 Does Tryz.prog 80 #[.slice ps ((s).length) cs, .func (.func fg) #[] fc.toArray] w emp (pB (slices_ContainsFunc_string s fq)) := by
 have hb := bS0 hn
 refine EN Tryz.func80 Z (aS1 N0) ?_
 refine R0 ?_
 refine WX.callV Z Z Z Z Z O Z (fun w G bs hI hΓ => f102 w n τ1 s ps cs (hΓ.get 0 Z) fg fc fq (fun w1_ hb_ => ff w1_ (hI.keep.trans hb_)) hoks) ?_
 intro hq1
 have q1 := ltI_slices_IndexFunc_string s fq
 refine R0 ?_
 exact R4 Z (by simp only [slices_ContainsFunc_string, cT, cF])
theorem f81 (w : World) (n : Nat) (hn : n + 0 ≤ 9) (p_ : Str) (hokp_ : GoT.ok n p_) :
 Does Tryz.prog 81 #[.string p_] w emp (pB (a4c p_)) := by
 have hb := bS0 hn
 refine EN Tryz.func81 Z allS_nil ?_
 refine R0 ?_
 refine CV Z Z Z Z Z O Z (fun w γ => f82 w n τ1 p_ hokp_) ?_
 intro hq1
 refine R0 ?_
 exact R4 Z (by simp only [a4c, cT, cF])
theorem f53 (w : World) (n : Nat) (hn : n + 0 ≤ 9) (n_ : Name) (K0 M0) (N0 : RdSl (hp w) K0 M0 n_.parts) (hokn_ : GoT.ok n n_) :
 Does Tryz.prog 53 #[.agg #[.slice K0 ((n_.parts).length) M0]] w emp (pB (a23 n_)) := by
 have hb := bS0 hn
 refine EN Tryz.func53 Z (aS1 N0) ?_
 refine R0 ?_
 refine WX.cases 7 Z ?_ ?_ <;> intro h1
 ·skip
  have h1d := B.dt h1
  refine R0 ?_
  refine CV Z Z Z Z Z O Z (fun w γ => f80 w n τ1 n_.parts K0 M0 (γ.q 0 Z) 81 [] (fun e0_ => (a4c e0_)) (fun w1_ hb_ e0_ x0_ hk0_ hx0_ => f81 w1_ n τ1 e0_ hk0_) (ok_Name hokn_)) ?_
  intro hq1
  refine R0 ?_
  exact R4 Z (by simp only [a23, h1, cT, cF])
 have h1d := B.df h1
 refine R0 ?_
 exact R4 Z (by simp only [a23, h1, cT, cF])
theorem f56 (w : World) (n : Nat) (hn : n + 0 ≤ 9) (n_ : Name) (K0 M0) (N0 : RdSl (hp w) K0 M0 n_.parts) (hokn_ : GoT.ok n n_) :
 Does Tryz.prog 56 #[.agg #[.slice K0 ((n_.parts).length) M0]] w emp (pB (a13 n_)) := by
 have hb := bS0 hn
 refine EN Tryz.func56 Z (aS1 N0) ?_
 refine R0 ?_
 have r1 : (n_.parts).length ≤ bd n := (okl (ok_Name hokn_)).1
 refine WX.loop (ι := Nat) ⟨fun i => (i ≤ (n_.parts).length) ∧ (a1j n_.parts = a1j ((n_.parts).drop i)), fun i => (n_.parts).length - i, fun i => [(3, .v (.int .i64 (((i : Nat) : Int)))), (1, .p 1 0)], fun i => [(1, ⟨26, [.slice K0 ((n_.parts).length) M0]⟩)], fun i => [], fun i => [(0, MF.rs .stb K0 M0 n_.parts)]⟩ 0 ⟨(Nat.zero_le _), Z⟩
  (.cons Z (.cons Z (.nil))) (.cons Z (.nil)) .nil [0] Z ?_
 rintro i ⟨v1, v2⟩
 refine R0 ?_
 refine WX.cases 8 Z ?_ ?_ <;> intro h1
 ·skip
  have h1d := B.dt h1
  have e1i : i < (n_.parts).length := τ1
  obtain ⟨e1, e1h⟩ : ∃ e1, (n_.parts)[i]? = some e1 := ⟨_, List.getElem?_eq_getElem e1i⟩
  have ok1 : GoT.ok n e1 := (okl (ok_Name hokn_)).2 _ (List.mem_of_getElem? e1h)
  refine R0 ?_
  refine WX.idx 0 i ttOk Z Z Z Z Z Z Z Z Z Z e1i ?_
  rintro ad1 rfl
  refine WX.ldE 0 1 e1 ttOk Z Z Z Z Z Z Z Z e1h O O ?_
  rintro ⟨⟩
  refine CV Z Z Z Z Z O Z (fun w γ => f83 w n τ1 e1 ok1) ?_
  intro hq1
  refine R0 ?_
  refine WX.cases 17 Z ?_ ?_ <;> intro h2
  ·skip
   have h2d := (B.nt h2)
   refine R0 ?_
   have hP1 : a1j n_.parts = (some false) := by rw [v2, drop_get e1h]; simp only [a1j, h2, cT, cF]
   exact R4 Z (by simp only [a13, hP1, cT, cF])
  have h2d := (B.nf h2)
  refine R0 ?_
  refine WX.see Z Z Z (fun _ hΓ => looks_arith Z Z Z Z τ2) ?_
  refine R0 ?_
  exact WX.iter (i + 1) ⟨τ1, (by rw [v2, drop_get e1h]; simp only [a1j, h2, cT, cF])⟩ τ4 (.cons Z (.cons Z (.nil))) (.cons Z (.nil)) .nil [0] Z
 have h1d := B.df h1
 refine R0 ?_
 have hX1 : a1j n_.parts = none := by rw [v2, List.drop_eq_nil_of_le (show (n_.parts).length ≤ i by omega)]; simp only [a1j, cT, cF]
 exact R4 Z (by simp only [a13, hX1, cT, cF])
theorem f54 (w : World) (n : Nat) (hn : n + 0 ≤ 9) (x_ : DataP) (K0 M0) (N0 : RdSl (hp w) K0 M0 x_.name.parts) (K1 M1) (N1 : RdSl (hp w) K1 M1 x_.content) (K2 M2) (N2 : RdSl (hp w) K2 M2 x_.keyName.parts) (hokx_ : GoT.ok n x_) :
 Does Tryz.prog 54 #[.agg #[.slice K0 ((x_.name.parts).length) M0, .slice K1 ((x_.content).length) M1, .slice K2 ((x_.keyName.parts).length) M2, .int .i64 (x_.freshUntil), .int .i64 (x_.signature)]] w emp (pB (a3c x_)) := by
 have hb := bS0 hn
 refine EN Tryz.func54 Z (aS3 N0 N1 N2) ?_
 refine R0 ?_
 refine CV Z Z Z Z Z O Z (fun w γ => f53 w n τ1 x_.name K0 M0 (γ.q 0 Z) ((ok_DataP hokx_).1)) ?_
 intro hq1
 refine R0 ?_
 refine WX.cases 6 Z ?_ ?_ <;> intro h1
 ·skip
  refine R0 ?_
  refine WX.cases 13 Z ?_ ?_ <;> intro h2
  ·skip
   have h2d := B.dt h2
   refine R0 ?_
   refine WX.cases 19 Z ?_ ?_ <;> intro h3
   ·skip
    have h3d := B.dt h3
    refine R0 ?_
    refine CV Z Z Z Z Z O Z (fun w γ => f53 w n τ1 x_.keyName K2 M2 (γ.q 2 Z) ((ok_DataP hokx_).2.2.1)) ?_
    intro hq2
    refine R0 ?_
    refine WX.cases 24 Z ?_ ?_ <;> intro h4
    ·skip
     refine R0 ?_
     refine CV Z Z Z Z Z O Z (fun w γ => f52 w n τ1 x_.freshUntil 0 100000 ((ok_DataP hokx_).2.2.2.1) (i6 0) (i6 100000)) ?_
     intro hq3
     refine R0 ?_
     refine WX.cases 29 Z ?_ ?_ <;> intro h5
     ·skip
      have h5r := inR_impl h5
      refine R0 ?_
      refine CV Z Z Z Z Z O Z (fun w γ => f52 w n τ1 x_.signature 0 2147483646 ((ok_DataP hokx_).2.2.2.2) (i6 0) (i6 2147483646)) ?_
      intro hq4
      refine R0 ?_
      exact R4 Z (by simp only [a3c, h1, h2, h3, h4, h5, cT, cF])
     refine R0 ?_
     exact R4 Z (by simp only [a3c, h1, h2, h3, h4, h5, cT, cF])
    refine R0 ?_
    exact R4 Z (by simp only [a3c, h1, h2, h3, h4, cT, cF])
   have h3d := B.df h3
   refine R0 ?_
   exact R4 Z (by simp only [a3c, h1, h2, h3, cT, cF])
  have h2d := B.df h2
  refine R0 ?_
  exact R4 Z (by simp only [a3c, h1, h2, cT, cF])
 refine R0 ?_
 exact R4 Z (by simp only [a3c, h1, cT, cF])
theorem f57 (w : World) (n : Nat) (hn : n + 0 ≤ 9) (x_ : DataP) (K0 M0) (N0 : RdSl (hp w) K0 M0 x_.name.parts) (K1 M1) (N1 : RdSl (hp w) K1 M1 x_.content) (K2 M2) (N2 : RdSl (hp w) K2 M2 x_.keyName.parts) (hokx_ : GoT.ok n x_) :
 Does Tryz.prog 57 #[.agg #[.slice K0 ((x_.name.parts).length) M0, .slice K1 ((x_.content).length) M1, .slice K2 ((x_.keyName.parts).length) M2, .int .i64 (x_.freshUntil), .int .i64 (x_.signature)]] w emp (pB (a24 x_)) := by
 have hb := bS0 hn
 refine EN Tryz.func57 Z (aS3 N0 N1 N2) ?_
 refine R0 ?_
 refine CV Z Z Z Z Z O Z (fun w γ => f56 w n τ1 x_.name K0 M0 (γ.q 0 Z) ((ok_DataP hokx_).1)) ?_
 intro hq1
 refine R0 ?_
 refine WX.cases 6 Z ?_ ?_ <;> intro h1
 ·skip
  refine R0 ?_
  refine WX.cases 13 Z ?_ ?_ <;> intro h2
  ·skip
   have h2d := B.dt h2
   refine R0 ?_
   refine WX.cases 19 Z ?_ ?_ <;> intro h3
   ·skip
    have h3d := B.dt h3
    refine R0 ?_
    refine CV Z Z Z Z Z O Z (fun w γ => f56 w n τ1 x_.keyName K2 M2 (γ.q 2 Z) ((ok_DataP hokx_).2.2.1)) ?_
    intro hq2
    refine R0 ?_
    refine WX.cases 24 Z ?_ ?_ <;> intro h4
    ·skip
     refine R0 ?_
     refine CV Z Z Z Z Z O Z (fun w γ => f55 w n τ1 x_.freshUntil 0 100000 ((ok_DataP hokx_).2.2.2.1) (i6 0) (i6 100000)) ?_
     intro hq3
     refine R0 ?_
     refine WX.cases 29 Z ?_ ?_ <;> intro h5
     ·skip
      have h5r := inR_spec h5
      refine R0 ?_
      refine CV Z Z Z Z Z O Z (fun w γ => f55 w n τ1 x_.signature 0 2147483646 ((ok_DataP hokx_).2.2.2.2) (i6 0) (i6 2147483646)) ?_
      intro hq4
      refine R0 ?_
      exact R4 Z (by simp only [a24, h1, h2, h3, h4, h5, cT, cF])
     refine R0 ?_
     exact R4 Z (by simp only [a24, h1, h2, h3, h4, h5, cT, cF])
    refine R0 ?_
    exact R4 Z (by simp only [a24, h1, h2, h3, h4, cT, cF])
   have h3d := B.df h3
   refine R0 ?_
   exact R4 Z (by simp only [a24, h1, h2, h3, cT, cF])
  have h2d := B.df h2
  refine R0 ?_
  exact R4 Z (by simp only [a24, h1, h2, cT, cF])
 refine R0 ?_
 exact R4 Z (by simp only [a24, h1, cT, cF])
theorem f23 (w : World) (n : Nat) (hn : n + 0 ≤ 9) (a : Consumer) (K0 M0) (N0 : RdSl (hp w) K0 M0 a.name.parts) (K1 M1) (N1 : RdSl (hp w) K1 M1 a.data.name.parts) (K2 M2) (N2 : RdSl (hp w) K2 M2 a.data.content) (K3 M3) (N3 : RdSl (hp w) K3 M3 a.data.keyName.parts) (hoka : GoT.ok n a) :
 Does Tryz.prog 23 #[.agg #[.int .i64 (a.node), .int .i64 (a.index), .slice K0 ((a.name.parts).length) M0, .int .i64 (a.attempts), .int .i64 (a.wait), .bool a.satisfied, .slice K1 ((a.data.name.parts).length) M1, .slice K2 ((a.data.content).length) M2, .slice K3 ((a.data.keyName.parts).length) M3, .int .i64 (a.data.freshUntil), .int .i64 (a.data.signature)]] w emp (pB (a0h a)) := by
 have hb := bS0 hn
 refine EN Tryz.func23 Z (aS4 N0 N1 N2 N3) ?_
 refine R0 ?_
 refine CV Z Z Z Z Z O Z (fun w γ => f52 w n τ1 a.node 0 5 ((ok_Consumer hoka).1) (i6 0) (i6 5)) ?_
 intro hq1
 refine R0 ?_
 refine WX.cases 7 Z ?_ ?_ <;> intro h1
 ·skip
  have h1d := (B.nt h1)
  refine R0 ?_
  exact R4 Z (by simp only [a0h, h1, cT, cF])
 have h1d := (B.nf h1)
 have h1r := inR_impl (B.nf h1)
 refine R0 ?_
 refine CV Z Z Z Z Z O Z (fun w γ => f52 w n τ1 a.index 0 7 ((ok_Consumer hoka).2.1) (i6 0) (i6 7)) ?_
 intro hq2
 refine R0 ?_
 refine WX.cases 13 Z ?_ ?_ <;> intro h2
 ·skip
  have h2d := (B.nt h2)
  refine R0 ?_
  exact R4 Z (by simp only [a0h, h1, h2, cT, cF])
 have h2d := (B.nf h2)
 have h2r := inR_impl (B.nf h2)
 refine R0 ?_
 refine CV Z Z Z Z Z O Z (fun w γ => f53 w n τ1 a.name K0 M0 (γ.q 0 Z) ((ok_Consumer hoka).2.2.1)) ?_
 intro hq3
 refine R0 ?_
 refine WX.cases 19 Z ?_ ?_ <;> intro h3
 ·skip
  have h3d := (B.nt h3)
  refine R0 ?_
  exact R4 Z (by simp only [a0h, h1, h2, h3, cT, cF])
 have h3d := (B.nf h3)
 refine R0 ?_
 refine WX.cases 26 Z ?_ ?_ <;> intro h4
 ·skip
  have h4d := B.et h4
  refine R0 ?_
  exact R4 Z (by simp only [a0h, h1, h2, h3, h4, cT, cF])
 have h4d := B.ef h4
 refine R0 ?_
 refine CV Z Z Z Z Z O Z (fun w γ => f52 w n τ1 a.attempts 0 900 ((ok_Consumer hoka).2.2.2.1) (i6 0) (i6 900)) ?_
 intro hq4
 refine R0 ?_
 refine WX.cases 32 Z ?_ ?_ <;> intro h5
 ·skip
  have h5d := (B.nt h5)
  refine R0 ?_
  exact R4 Z (by simp only [a0h, h1, h2, h3, h4, h5, cT, cF])
 have h5d := (B.nf h5)
 have h5r := inR_impl (B.nf h5)
 refine R0 ?_
 refine CV Z Z Z Z Z O Z (fun w γ => f52 w n τ1 a.wait 0 5 ((ok_Consumer hoka).2.2.2.2.1) (i6 0) (i6 5)) ?_
 intro hq5
 refine R0 ?_
 refine WX.cases 37 Z ?_ ?_ <;> intro h6
 ·skip
  have h6d := (B.nt h6)
  refine R0 ?_
  exact R4 Z (by simp only [a0h, h1, h2, h3, h4, h5, h6, cT, cF])
 have h6d := (B.nf h6)
 have h6r := inR_impl (B.nf h6)
 refine R0 ?_
 refine WX.cases 39 Z ?_ ?_ <;> intro h7
 ·skip
  replace h7 : a.satisfied = true := h7
  refine R0 ?_
  refine CV Z Z Z Z Z O Z (fun w γ => f54 w n τ1 a.data K1 M1 (γ.q 1 Z) K2 M2 (γ.q 2 Z) K3 M3 (γ.q 3 Z) ((ok_Consumer hoka).2.2.2.2.2.2)) ?_
  intro hq6
  refine R0 ?_
  refine WX.cases 43 Z ?_ ?_ <;> intro h8
  ·skip
   refine R0 ?_
   refine CV Z Z Z Z Z O Z (fun w γ => f38 w n τ1 a.data.name K1 M1 (γ.q 1 Z) a.name K0 M0 (γ.q 0 Z) ((ok_DataP (ok_Consumer hoka).2.2.2.2.2.2).1) ((ok_Consumer hoka).2.2.1)) ?_
   intro hq7
   refine R0 ?_
   exact R4 Z (by simp only [a0h, h1, h2, h3, h4, h5, h6, h7, h8, cT, cF])
  refine R0 ?_
  exact R4 Z (by simp only [a0h, h1, h2, h3, h4, h5, h6, h7, h8, cT, cF])
 replace h7 : a.satisfied = false := h7
 refine R0 ?_
 refine CV Z Z Z Z Z O Z (fun w γ => f47 w n τ1 a.data K1 M1 (γ.q 1 Z) K2 M2 (γ.q 2 Z) K3 M3 (γ.q 3 Z) (DataP.mk (Name.mk ([])) ([]) (Name.mk ([])) 0 0) none 0 (rdSl_nil _ _ _) none 0 (rdSl_nil _ _ _) none 0 (rdSl_nil _ _ _) ((ok_Consumer hoka).2.2.2.2.2.2) (And.intro (ok_nil (α := Str)) (And.intro (ok_nil (α := UInt8)) (And.intro (ok_nil (α := Str)) (And.intro (i6 0) (i6 0)))))) ?_
 intro hq8
 refine R0 ?_
 exact R4 Z (by simp only [a0h, h1, h2, h3, h4, h5, h6, h7, cT, cF])
theorem f24 (w : World) (n : Nat) (hn : n + 0 ≤ 9) (a : Consumer) (K0 M0) (N0 : RdSl (hp w) K0 M0 a.name.parts) (K1 M1) (N1 : RdSl (hp w) K1 M1 a.data.name.parts) (K2 M2) (N2 : RdSl (hp w) K2 M2 a.data.content) (K3 M3) (N3 : RdSl (hp w) K3 M3 a.data.keyName.parts) (hoka : GoT.ok n a) :
 Does Tryz.prog 24 #[.agg #[.int .i64 (a.node), .int .i64 (a.index), .slice K0 ((a.name.parts).length) M0, .int .i64 (a.attempts), .int .i64 (a.wait), .bool a.satisfied, .slice K1 ((a.data.name.parts).length) M1, .slice K2 ((a.data.content).length) M2, .slice K3 ((a.data.keyName.parts).length) M3, .int .i64 (a.data.freshUntil), .int .i64 (a.data.signature)]] w emp (pB (a28 a)) := by
 have hb := bS0 hn
 refine EN Tryz.func24 Z (aS4 N0 N1 N2 N3) ?_
 refine R0 ?_
 refine CV Z Z Z Z Z O Z (fun w γ => f55 w n τ1 a.node 0 5 ((ok_Consumer hoka).1) (i6 0) (i6 5)) ?_
 intro hq1
 refine R0 ?_
 refine WX.cases 7 Z ?_ ?_ <;> intro h1
 ·skip
  have h1d := (B.nt h1)
  refine R0 ?_
  exact R4 Z (by simp only [a28, h1, cT, cF])
 have h1d := (B.nf h1)
 have h1r := inR_spec (B.nf h1)
 refine R0 ?_
 refine CV Z Z Z Z Z O Z (fun w γ => f55 w n τ1 a.index 0 7 ((ok_Consumer hoka).2.1) (i6 0) (i6 7)) ?_
 intro hq2
 refine R0 ?_
 refine WX.cases 13 Z ?_ ?_ <;> intro h2
 ·skip
  have h2d := (B.nt h2)
  refine R0 ?_
  exact R4 Z (by simp only [a28, h1, h2, cT, cF])
 have h2d := (B.nf h2)
 have h2r := inR_spec (B.nf h2)
 refine R0 ?_
 refine CV Z Z Z Z Z O Z (fun w γ => f56 w n τ1 a.name K0 M0 (γ.q 0 Z) ((ok_Consumer hoka).2.2.1)) ?_
 intro hq3
 refine R0 ?_
 refine WX.cases 19 Z ?_ ?_ <;> intro h3
 ·skip
  have h3d := (B.nt h3)
  refine R0 ?_
  exact R4 Z (by simp only [a28, h1, h2, h3, cT, cF])
 have h3d := (B.nf h3)
 refine R0 ?_
 refine WX.cases 26 Z ?_ ?_ <;> intro h4
 ·skip
  have h4d := B.et h4
  refine R0 ?_
  exact R4 Z (by simp only [a28, h1, h2, h3, h4, cT, cF])
 have h4d := B.ef h4
 refine R0 ?_
 refine CV Z Z Z Z Z O Z (fun w γ => f55 w n τ1 a.attempts 0 900 ((ok_Consumer hoka).2.2.2.1) (i6 0) (i6 900)) ?_
 intro hq4
 refine R0 ?_
 refine WX.cases 32 Z ?_ ?_ <;> intro h5
 ·skip
  have h5d := (B.nt h5)
  refine R0 ?_
  exact R4 Z (by simp only [a28, h1, h2, h3, h4, h5, cT, cF])
 have h5d := (B.nf h5)
 have h5r := inR_spec (B.nf h5)
 refine R0 ?_
 refine CV Z Z Z Z Z O Z (fun w γ => f55 w n τ1 a.wait 0 5 ((ok_Consumer hoka).2.2.2.2.1) (i6 0) (i6 5)) ?_
 intro hq5
 refine R0 ?_
 refine WX.cases 37 Z ?_ ?_ <;> intro h6
 ·skip
  have h6d := (B.nt h6)
  refine R0 ?_
  exact R4 Z (by simp only [a28, h1, h2, h3, h4, h5, h6, cT, cF])
 have h6d := (B.nf h6)
 have h6r := inR_spec (B.nf h6)
 refine R0 ?_
 refine WX.cases 39 Z ?_ ?_ <;> intro h7
 ·skip
  replace h7 : a.satisfied = true := h7
  refine R0 ?_
  refine CV Z Z Z Z Z O Z (fun w γ => f57 w n τ1 a.data K1 M1 (γ.q 1 Z) K2 M2 (γ.q 2 Z) K3 M3 (γ.q 3 Z) ((ok_Consumer hoka).2.2.2.2.2.2)) ?_
  intro hq6
  refine R0 ?_
  refine WX.cases 43 Z ?_ ?_ <;> intro h8
  ·skip
   refine R0 ?_
   refine CV Z Z Z Z Z O Z (fun w γ => f44 w n τ1 a.data.name K1 M1 (γ.q 1 Z) a.name K0 M0 (γ.q 0 Z) ((ok_DataP (ok_Consumer hoka).2.2.2.2.2.2).1) ((ok_Consumer hoka).2.2.1)) ?_
   intro hq7
   refine R0 ?_
   exact R4 Z (by simp only [a28, h1, h2, h3, h4, h5, h6, h7, h8, cT, cF])
  refine R0 ?_
  exact R4 Z (by simp only [a28, h1, h2, h3, h4, h5, h6, h7, h8, cT, cF])
 replace h7 : a.satisfied = false := h7
 refine R0 ?_
 refine CV Z Z Z Z Z O Z (fun w γ => f58 w n τ1 a.data K1 M1 (γ.q 1 Z) K2 M2 (γ.q 2 Z) K3 M3 (γ.q 3 Z) (DataP.mk (Name.mk ([])) ([]) (Name.mk ([])) 0 0) none 0 (rdSl_nil _ _ _) none 0 (rdSl_nil _ _ _) none 0 (rdSl_nil _ _ _) ((ok_Consumer hoka).2.2.2.2.2.2) (And.intro (ok_nil (α := Str)) (And.intro (ok_nil (α := UInt8)) (And.intro (ok_nil (α := Str)) (And.intro (i6 0) (i6 0)))))) ?_
 intro hq8
 refine R0 ?_
 exact R4 Z (by simp only [a28, h1, h2, h3, h4, h5, h6, h7, cT, cF])
end Go.Proofs.YthdgpfbldbabmaaGreatDoor

namespace Go.Stp
set_option linter.unusedVariables false
set_option linter.unusedSimpArgs false
def a1b (c_b : (List UInt8)) (c_i : Int) (c_h : Int) (n_ : Int) : Bool × Int × Int :=
 match a0a c_b c_i c_h n_ with
  | (u1, u2, u3) =>
   ((u1 == 0), u2, u3)
def a3v (c_b : (List UInt8)) (c_i : Int) (c_h : Int) (list : (List Int)) : Int × Int × Int :=
 match a0a c_b c_i c_h (((list).length : Nat) : Int) with
  | (u1, u2, u3) =>
   match (list)[(u1).toNat]? with
    | none => default
    | some e1 =>
     (e1, u2, u3)
def a0z (c_b : (List UInt8)) (c_i : Int) (c_h : Int) (list : (List Str)) : Str × Int × Int :=
 match a0a c_b c_i c_h (((list).length : Nat) : Int) with
  | (u1, u2, u3) =>
   match (list)[(u1).toNat]? with
    | none => default
    | some e1 =>
     (e1, u2, u3)
def a3m (c_b : (List UInt8)) : Nat → (List UInt8) → Int → Int → (List UInt8) × Int × Int
 | 0, out, u999_i, u999_h => (((out) : List UInt8), u999_i, u999_h)
 | m_ + 1, out, u999_i, u999_h =>
  match a18 c_b u999_i u999_h with
   | (u1, u2, u3) =>
    a3m c_b m_ (((out ++ [(toU8 u1)])) : List UInt8) u2 u3
def a3d (c_b : (List UInt8)) (c_i : Int) (c_h : Int) (n_ : Int) : (List UInt8) × Int × Int :=
 match a3m c_b ((n_).toNat) ([] : List UInt8) c_i c_h with
  | (out, u999_i, u999_h) =>
   (out, u999_i, u999_h)
theorem len_l1BytesL (b : List UInt8) : ∀ (m : Nat) (out : List UInt8) (i h : Int), (a3m b m out i h).1.length = out.length + m
 | 0, out, i, h => rfl
 | m + 1, out, i, h => by
  simp only [a3m]
  rcases a18 b i h with ⟨x, j, k⟩
  dsimp only
  rw [len_l1BytesL b m]
  simp only [List.length_append, List.length_cons, List.length_nil]; omega
theorem len_l1Bytes (b : List UInt8) (i h n : Int) : (a3d b i h n).1.length = n.toNat := by
 unfold a3d
 have := len_l1BytesL b n.toNat [] i h
 rcases e : a3m b n.toNat [] i h with ⟨x, j, k⟩
 rw [e] at this
 dsimp only at this ⊢
 simpa using this
def a25 (s : Str) (by_ : UInt8) (i : Nat) (out : List Str) (from_ : Int) : Nat × (List Str) × Int :=
 if ((i : Nat) : Int) ≤ (((s).size : Nat) : Int) then
  if (((i : Nat) : Int) == (((s).size : Nat) : Int)) = true then
   a25 s by_ (i + 1) (((out ++ [((s).extract (Int.toNat from_) i)])) : List Str) (((i : Nat) : Int) + 1)
  else
   match ((s).data.toList)[i]? with
    | none => default
    | some e1 =>
     if (((e1).toNat : Int) == ((by_).toNat : Int)) = true then
      a25 s by_ (i + 1) (((out ++ [((s).extract (Int.toNat from_) i)])) : List Str) (((i : Nat) : Int) + 1)
     else
      a25 s by_ (i + 1) ((out) : List Str) from_
 else
  (i, ((out) : List Str), from_)
termination_by (s).size + 1 - i
decreasing_by all_goals (simp_wf; omega)
def a0b (s : Str) (by_ : UInt8) : (List Str) :=
 match a25 s by_ 0 ([] : List Str) 0 with
  | (i, out, from_) =>
   out
theorem l4some {s : Str} {i : Nat} (h : i < s.size) : ∃ e, (s.data.toList)[i]? = some e := ⟨_, List.getElem?_eq_getElem (show i < s.data.toList.length from by rw [Array.length_toList]; exact h)⟩
theorem l4mono (s : Str) (b : UInt8) : ∀ (m i : Nat) (out : List Str) (f : Int), s.size + 1 - i = m → out.length ≤ (a25 s b i out f).2.1.length
 | 0, i, out, f, h => by rw [a25, if_neg (by omega)]; exact Nat.le_refl _
 | m + 1, i, out, f, h => by
  rw [a25, if_pos (by omega)]
  by_cases h2 : i = s.size
  ·rw [if_pos (by simp [h2])]
   have := l4mono s b m (i + 1) (out ++ [s.extract (Int.toNat f) i]) (((i : Nat) : Int) + 1) (by omega)
   rw [List.length_append] at this
   omega
  ·obtain ⟨e, he⟩ := l4some (s := s) (i := i) (by omega)
   rw [if_neg (by simp; omega), he]
   dsimp only
   have h3 := l4mono s b m (i + 1) (out ++ [s.extract (Int.toNat f) i]) (((i : Nat) : Int) + 1) (by omega)
   have h4 := l4mono s b m (i + 1) out f (by omega)
   rw [List.length_append] at h3
   split
   ·omega
   ·exact h4
theorem l4one (s : Str) (b : UInt8) : ∀ (m i : Nat) (out : List Str) (f : Int), s.size - i = m → i ≤ s.size → 1 ≤ (a25 s b i out f).2.1.length
 | m, i, out, f, h, hi => by
  rw [a25, if_pos (by omega)]
  have h3 := l4mono s b _ (i + 1) (out ++ [s.extract (Int.toNat f) i]) (((i : Nat) : Int) + 1) rfl
  rw [List.length_append, List.length_cons] at h3
  by_cases h2 : i = s.size
  ·rw [if_pos (by simp [h2])]
   omega
  ·obtain ⟨e, he⟩ := l4some (s := s) (i := i) (by omega)
   rw [if_neg (by simp; omega), he]
   dsimp only
   split
   ·omega
   ·exact l4one s b (m - 1) (i + 1) out f (by omega) (by omega)
termination_by m => m
decreasing_by omega
theorem len_l4Split (s : Str) (b : UInt8) : 1 ≤ (a0b s b).length := l4one s b _ 0 [] 0 rfl (Nat.zero_le _)
def a1q (s : Str) : Name × Bool :=
 bif ((s).toList == ((⟨#[47]⟩ : Str)).toList) then
  ((Name.mk ([])), true)
 else
  bif decide (((((a0b s (47 : UInt8))).length : Nat) : Int) < 2) then
   ((Name.mk ([])), false)
  else
   match ((a0b s (47 : UInt8)))[0]? with
    | none => default
    | some e1 =>
     bif (!((e1).toList == ((⟨#[]⟩ : Str)).toList)) then
      ((Name.mk ([])), false)
     else
      bif (!(a13 (Name.mk (List.drop 1 (a0b s (47 : UInt8)))))) then
       ((Name.mk ([])), false)
      else
       ((Name.mk (List.drop 1 (a0b s (47 : UInt8)))), true)
theorem vp_ok {s : Str} (h : a1f s = true) : s.size ≤ 8 := by
 unfold a1f at h
 cases h1 : a0m (((s).size : Nat) : Int) 1 8
 ·rw [h1] at h; cases h
 ·unfold a0m at h1
  cases hd : decide ((((s).size : Nat) : Int) ≥ 1)
  ·rw [hd] at h1; cases h1
  ·rw [hd] at h1
   have := of_decide_eq_true (show decide ((((s).size : Nat) : Int) ≤ 8) = true from h1)
   omega
theorem vnL_ok : ∀ (l : List Str), a1j l = none → ∀ a ∈ l, a.size ≤ 8
 | [], _, a, ha => by cases ha
 | x :: l, h, a, ha => by
  simp only [a1j] at h
  cases hv : a1f x
  ·rw [hv] at h; cases h
  ·rw [hv] at h
   rcases List.mem_cons.1 ha with rfl | ha
   ·exact vp_ok hv
   ·exact vnL_ok l h a ha
theorem vnL_some : ∀ (l : List Str) (r : Bool), a1j l = some r → r = false
 | [], _, h => by cases h
 | x :: l, r, h => by
  simp only [a1j] at h
  cases hv : a1f x
  ·rw [hv] at h; exact (Option.some.inj h).symm
  ·rw [hv] at h; exact vnL_some l r h
theorem vn_ok {m : Name} (h : a13 m = true) : GoT.ok 0 m := by
 unfold a13 at h
 cases h1 : a1j m.parts with
 | some r => rw [h1] at h; have := vnL_some _ _ h1; subst this; cases h
 | none =>
  rw [h1] at h
  have h2 := of_decide_eq_true h
  exact (okl_mk (by rw [bd_0]; omega) (fun a ha => Nat.le_trans (vnL_ok _ h1 a ha) (by decide)) : GoT.ok 0 m.parts)
theorem l4Of_ok (s : Str) : GoT.ok 0 (a1q s).1 := by
 have h0 : GoT.ok 0 (Name.mk []) := (okl_mk (Nat.zero_le _) (fun a ha => by cases ha) : GoT.ok 0 ([] : List Str))
 unfold a1q
 cases ((s).toList == ((⟨#[47]⟩ : Str)).toList)
 ·simp only [cond_false]
  cases decide (((((a0b s (47 : UInt8))).length : Nat) : Int) < 2)
  ·simp only [cond_false]
   cases ((a0b s (47 : UInt8)))[0]? with
   | none => exact h0
   | some e1 =>
    dsimp only
    cases (!((e1).toList == ((⟨#[]⟩ : Str)).toList))
    ·simp only [cond_false]
     cases hv : a13 (Name.mk (List.drop 1 (a0b s (47 : UInt8))))
     ·exact h0
     ·exact vn_ok hv
    ·exact h0
  ·exact h0
 ·exact h0
def a02 (s : Str) : Name :=
 ((a1q s).1)
theorem aP_okv {k : Nat} {n_ : Name} {s : Str} (h : GoT.ok k n_) : GoT.ok k (bif (!(a13 (Name.mk (n_.parts ++ [s])))) then (n_, false) else ((Name.mk (n_.parts ++ [s])), true)).1 := by
 cases hv : a13 (Name.mk (n_.parts ++ [s]))
 ·exact h
 ·exact GoT.okm (Nat.zero_le _) (vn_ok hv)
def a0c (n_ : Name) (s : Str) : Name × Bool :=
 bif (!(a13 (Name.mk (n_.parts ++ [s])))) then
  ((a0f n_), false)
 else
  ((Name.mk (n_.parts ++ [s])), true)
theorem aP_len (n_ : Name) (s : Str) : (a0c n_ s).1.parts.length ≤ n_.parts.length + 1 := by
 unfold a0c
 cases (!(a13 (Name.mk (n_.parts ++ [s])))) <;> simp [a0f]
def a1r (c_b : (List UInt8)) (i : Int) (n_ : List Str) (u999_i : Int) (u999_h : Int) : Int × (List Str) × Int × Int :=
 if i > 0 then
  match a0z c_b u999_i u999_h ([(⟨#[97]⟩ : Str), (⟨#[98]⟩ : Str), (⟨#[110, 101, 119, 115]⟩ : Str), (⟨#[120, 45, 49]⟩ : Str), (⟨#[49]⟩ : Str), (⟨#[107, 101, 121]⟩ : Str)]) with
   | (u4, u5, u6) =>
    a1r c_b (i - 1) (((a0c (Name.mk n_) u4).1.parts) : List Str) u5 u6
 else
  (i, ((n_) : List Str), u999_i, u999_h)
termination_by i.toNat
decreasing_by all_goals (simp_wf; omega)
def a45 (c_b : (List UInt8)) (c_i : Int) (c_h : Int) : Name × Int × Int :=
 match a0a c_b c_i c_h 4 with
  | (u1, u2, u3) =>
   match a1r c_b u1 (([] : List Str) : List Str) u2 u3 with
    | (i, n_, u999_i, u999_h) =>
     ((Name.mk n_), u999_i, u999_h)
theorem l4NameL (b : List UInt8) : ∀ (m : Nat) (i : Int) (n_ : List Str) (a h : Int), i.toNat = m → n_.length + m ≤ 3 → (a1r b i n_ a h).2.1.length ≤ 3
 | 0, i, n_, a, h, hm, hl => by
  rw [a1r, if_neg (by omega)]
  exact hl
 | m + 1, i, n_, a, h, hm, hl => by
  rw [a1r, if_pos (by omega)]
  rcases a0z b a h ([(⟨#[97]⟩ : Str), (⟨#[98]⟩ : Str), (⟨#[110, 101, 119, 115]⟩ : Str), (⟨#[120, 45, 49]⟩ : Str), (⟨#[49]⟩ : Str), (⟨#[107, 101, 121]⟩ : Str)]) with ⟨x, j, k⟩
  dsimp only
  have := aP_len (Name.mk n_) x
  dsimp only at this
  exact l4NameL b m _ _ _ _ (by omega) (by omega)
theorem l4Name_len (b : List UInt8) (i h : Int) : (a45 b i h).1.parts.length ≤ 3 := by
 unfold a45
 have h1 := l1Below_rng b i h 4
 rcases e : a0a b i h 4 with ⟨x, j, k⟩
 rw [e] at h1
 dsimp only at h1 ⊢
 exact l4NameL b _ x [] j k rfl (by simp; omega)
def a14 (c_b : (List UInt8)) (n_ : List Str) (u999_i : Int) (u999_h : Int) : (List Str) × Int × Int :=
 if (((n_).length : Nat) : Int) < 5 + ((a0a c_b u999_i u999_h 3).1) then
  a14 c_b (((n_ ++ [(⟨#[109]⟩ : Str)])) : List Str) ((a0a c_b u999_i u999_h 3).2.1) ((a0a c_b u999_i u999_h 3).2.2)
 else
  (((n_) : List Str), ((a0a c_b u999_i u999_h 3).2.1), ((a0a c_b u999_i u999_h 3).2.2))
termination_by 7 - n_.length
decreasing_by all_goals (have z_ := l1Below_rng c_b u999_i u999_h 3; (try simp_wf); (try simp only [List.length_append, List.length_cons, List.length_nil]); omega)
def a0t (c_b : (List UInt8)) (c_i : Int) (c_h : Int) : Name × Int × Int :=
 match a45 c_b c_i c_h with
  | (u1, u2, u3) =>
   match a0a c_b u2 u3 8 with
    | (u4, u5, u6) =>
     bif (u4 == 0) then
      match a0z c_b u5 u6 ([(⟨#[]⟩ : Str), (⟨#[65]⟩ : Str), (⟨#[116, 111, 111, 108, 111, 110, 103, 120, 120]⟩ : Str), (⟨#[97, 47, 98]⟩ : Str), (⟨#[32]⟩ : Str), (⟨#[101, 105, 103, 104, 116, 56, 56, 56]⟩ : Str)]) with
       | (u7, u8, u9) =>
        ((Name.mk (u1.parts ++ [u7])), u8, u9)
     else
      bif (u4 == 1) then
       match a14 c_b (u1.parts : List Str) u5 u6 with
        | (n_, u999_i, u999_h) =>
         ((Name.mk n_), u999_i, u999_h)
      else
       (u1, u5, u6)
theorem l4AnyL (b : List UInt8) : ∀ (m : Nat) (n_ : List Str) (a h : Int), 7 - n_.length = m → n_.length ≤ 7 → (a14 b n_ a h).1.length ≤ 7
 | m, n_, a, h, hm, hl => by
  rw [a14]
  have h1 := l1Below_rng b a h 3
  split
  ·exact l4AnyL b (m - 1) _ _ _ (by simp; omega) (by simp; omega)
  ·exact hl
termination_by m => m
decreasing_by omega
theorem l4Any_len (b : List UInt8) (i h : Int) : (a0t b i h).1.parts.length ≤ 7 := by
 unfold a0t
 have h1 := l4Name_len b i h
 rcases e : a45 b i h with ⟨x, j, k⟩
 rw [e] at h1
 dsimp only at h1 ⊢
 rcases a0a b j k 8 with ⟨x2, j2, k2⟩
 dsimp only
 cases (x2 == 0)
 ·simp only [cond_false]
  cases (x2 == 1)
  ·simp only [cond_false]; omega
  ·simp only [cond_true]
   exact l4AnyL b _ x.parts j2 k2 rfl (by omega)
 ·simp only [cond_true, List.length_append, List.length_cons, List.length_nil]
  omega
end Go.Stp

namespace Go.Proofs.YthdgpfbldbabmaaGreatDoor
open Go.Stp
set_option linter.unusedVariables false
set_option linter.unusedSimpArgs false
theorem f35 (w : World) (n : Nat) (hn : n + 0 ≤ 9) (H : GH) (hH : Le H (hp w)) (bc_ : Nat) (c_b : (List UInt8)) (K0 M0) (N0 : RdSl (cut (hp w) H) K0 M0 c_b) (c_i : Int) (c_h : Int) (n_ : Int) (hown : Sep H [MF.bx bc_ 96 [.slice K0 ((c_b).length) M0, .int .i64 (c_i), .int .i64 (c_h)]]) (hokc_b : GoT.ok n c_b) (hokc_i : NN c_i) (hokc_h : GoT.ok n c_h) (hokn_ : GoT.ok n n_) (o0_ : Bool) (o1_ : Int) (o2_ : Int) (hres : a1b c_b c_i c_h n_ = (o0_, o1_, o2_)) :
 Does Tryz.prog 35 #[.pointer (some ⟨bc_, 0, none⟩), .int .i64 (n_)] w H (Post w H (fun _ : Unit => .bool o0_) (fun _ => [MF.bx bc_ 96 [.slice K0 ((c_b).length) M0, .int .i64 (o1_), .int .i64 (o2_)]]) (NN (o1_) ∧ I64 (o2_))) := by
 have hb := bS0 hn
 have hc_bz : (c_b).length ≤ bd n := (okl hokc_b).1
 refine WX.enterP (tt := tt) (Γ := [(0, MF.rs .stb K0 M0 c_b)]) 1 Tryz.func35 Z J Z (allS_cons Z N0 allS_nil) hH hown (fun f hf => by cases hf) Z ?_
 refine R0 ?_
 obtain ⟨⟨u1, u2, u3⟩, hu1⟩ := xE (a0a c_b c_i c_h n_)
 refine CP 999 2 Z Z Z Z Z Z O Z (fun w β H η σ γ => f41 w n τ1 H η (β 999) c_b K0 M0 (γ.q 0 Z) c_i c_h n_ σ hokc_b hokc_i hokc_h hokn_ u1 u2 u3 hu1) ?_
 rintro ⟨⟩ hq1
 have q1 := l1Below_rng c_b c_i c_h n_
 rw [hu1] at q1
 try dsimp only at q1
 refine R0 ?_
 have hP1 : a1b c_b c_i c_h n_ = (u1 == 0, u2, u3) := by simp only [a1b, hu1, cT, cF]
 have hz1 := hP1.symm.trans hres
 obtain ⟨hz1, hz2⟩ := Prod.mk.inj hz1
 obtain ⟨hz2, hz3⟩ := Prod.mk.inj hz2
 subst hz1
 subst hz2
 subst hz3
 refine R1 ?_
 intro w1 G bs hI hΓ
 exact Post.ofL 999 [] () hI hΓ Z Z Z (by rw [hI.pin _ rfl]; first | done | rfl) (⟨hq1.2.1, hq1.2.2⟩)
theorem f74 (w : World) (n : Nat) (hn : n + 0 ≤ 9) (H : GH) (hH : Le H (hp w)) (bc_ : Nat) (c_b : (List UInt8)) (K0 M0) (N0 : RdSl (cut (hp w) H) K0 M0 c_b) (c_i : Int) (c_h : Int) (list : (List Int)) (K1 M1) (N1 : RdSl (cut (hp w) H) K1 M1 list) (hown : Sep H [MF.bx bc_ 96 [.slice K0 ((c_b).length) M0, .int .i64 (c_i), .int .i64 (c_h)]]) (hokc_b : GoT.ok n c_b) (hokc_i : NN c_i) (hokc_h : GoT.ok n c_h) (hq0 : 0 < list.length) (hoklist : GoT.ok n list) (o0_ : Int) (o1_ : Int) (o2_ : Int) (hres : a3v c_b c_i c_h list = (o0_, o1_, o2_)) :
 Does Tryz.prog 74 #[.pointer (some ⟨bc_, 0, none⟩), .slice K1 ((list).length) M1] w H (Post w H (fun _ : Unit => .int .i64 (o0_)) (fun _ => [MF.bx bc_ 96 [.slice K0 ((c_b).length) M0, .int .i64 (o1_), .int .i64 (o2_)]]) (GoT.ok n (o0_ : Int) ∧ NN (o1_) ∧ I64 (o2_))) := by
 have hb := bS0 hn
 have hc_bz : (c_b).length ≤ bd n := (okl hokc_b).1
 refine WX.enterP (tt := tt) (Γ := [(0, MF.rs .stb K0 M0 c_b), (1, MF.rs .stb K1 M1 list)]) 2 Tryz.func74 Z J Z (allS_cons Z N0 (allS_cons Z N1 allS_nil)) hH hown (fun f hf => by cases hf) Z ?_
 refine R0 ?_
 have r1 : (list).length ≤ bd n := (okl hoklist).1
 obtain ⟨⟨u1, u2, u3⟩, hu1⟩ := xE (a0a c_b c_i c_h (((list).length : Nat) : Int))
 refine CP 999 3 Z Z Z Z Z Z O Z (fun w β H η σ γ => f41 w n τ1 H η (β 999) c_b K0 M0 (γ.q 0 Z) c_i c_h (((list).length : Nat) : Int) σ hokc_b hokc_i hokc_h (i6 (((list).length : Nat) : Int)) u1 u2 u3 hu1) ?_
 rintro ⟨⟩ hq1
 have q1 := l1Below_rng c_b c_i c_h (((list).length : Nat) : Int)
 rw [hu1] at q1
 try dsimp only at q1
 have r2 : -9223372036854775808 ≤ u1 ∧ u1 ≤ 9223372036854775807 := hq1.1
 refine WX.slot 9 (y := .v (.int .i64 (((u1).toNat : Nat) : Int))) Z (fun _ => congrArg (Value.int .i64) (show u1 = (((u1).toNat : Nat) : Int) from by omega)) ?_
 have e1i : (u1).toNat < (list).length := τ1
 obtain ⟨e1, e1h⟩ : ∃ e1, (list)[(u1).toNat]? = some e1 := ⟨_, List.getElem?_eq_getElem e1i⟩
 have ok1 : GoT.ok n e1 := (okl hoklist).2 _ (List.mem_of_getElem? e1h)
 refine WX.idx 1 ((u1).toNat) ttOk Z Z Z Z Z Z Z Z Z Z e1i ?_
 rintro ad1 rfl
 refine WX.ldE 1 4 e1 ttOk Z Z Z Z Z Z Z Z e1h O O ?_
 rintro ⟨⟩
 refine R0 ?_
 have hP1 : a3v c_b c_i c_h list = (e1, u2, u3) := by simp only [a3v, hu1, e1h, cT, cF]
 have hz1 := hP1.symm.trans hres
 obtain ⟨hz1, hz2⟩ := Prod.mk.inj hz1
 obtain ⟨hz2, hz3⟩ := Prod.mk.inj hz2
 subst hz1
 subst hz2
 subst hz3
 refine R1 ?_
 intro w1 G bs hI hΓ
 exact Post.ofL 999 [] () hI hΓ Z Z Z (by rw [hI.pin _ rfl]; first | done | rfl) (⟨ok1, ⟨hq1.2.1, hq1.2.2⟩⟩)
theorem f63 (w : World) (n : Nat) (hn : n + 0 ≤ 9) (H : GH) (hH : Le H (hp w)) (bc_ : Nat) (c_b : (List UInt8)) (K0 M0) (N0 : RdSl (cut (hp w) H) K0 M0 c_b) (c_i : Int) (c_h : Int) (list : (List Str)) (K1 M1) (N1 : RdSl (cut (hp w) H) K1 M1 list) (hown : Sep H [MF.bx bc_ 96 [.slice K0 ((c_b).length) M0, .int .i64 (c_i), .int .i64 (c_h)]]) (hokc_b : GoT.ok n c_b) (hokc_i : NN c_i) (hokc_h : GoT.ok n c_h) (hq0 : 0 < list.length) (hoklist : GoT.ok n list) (o0_ : Str) (o1_ : Int) (o2_ : Int) (hres : a0z c_b c_i c_h list = (o0_, o1_, o2_)) :
 Does Tryz.prog 63 #[.pointer (some ⟨bc_, 0, none⟩), .slice K1 ((list).length) M1] w H (Post w H (fun _ : Unit => .string o0_) (fun _ => [MF.bx bc_ 96 [.slice K0 ((c_b).length) M0, .int .i64 (o1_), .int .i64 (o2_)]]) (GoT.ok n (o0_ : Str) ∧ NN (o1_) ∧ I64 (o2_))) := by
 have hb := bS0 hn
 have hc_bz : (c_b).length ≤ bd n := (okl hokc_b).1
 refine WX.enterP (tt := tt) (Γ := [(0, MF.rs .stb K0 M0 c_b), (1, MF.rs .stb K1 M1 list)]) 2 Tryz.func63 Z J Z (allS_cons Z N0 (allS_cons Z N1 allS_nil)) hH hown (fun f hf => by cases hf) Z ?_
 refine R0 ?_
 have r1 : (list).length ≤ bd n := (okl hoklist).1
 obtain ⟨⟨u1, u2, u3⟩, hu1⟩ := xE (a0a c_b c_i c_h (((list).length : Nat) : Int))
 refine CP 999 3 Z Z Z Z Z Z O Z (fun w β H η σ γ => f41 w n τ1 H η (β 999) c_b K0 M0 (γ.q 0 Z) c_i c_h (((list).length : Nat) : Int) σ hokc_b hokc_i hokc_h (i6 (((list).length : Nat) : Int)) u1 u2 u3 hu1) ?_
 rintro ⟨⟩ hq1
 have q1 := l1Below_rng c_b c_i c_h (((list).length : Nat) : Int)
 rw [hu1] at q1
 try dsimp only at q1
 have r2 : -9223372036854775808 ≤ u1 ∧ u1 ≤ 9223372036854775807 := hq1.1
 refine WX.slot 9 (y := .v (.int .i64 (((u1).toNat : Nat) : Int))) Z (fun _ => congrArg (Value.int .i64) (show u1 = (((u1).toNat : Nat) : Int) from by omega)) ?_
 have e1i : (u1).toNat < (list).length := τ1
 obtain ⟨e1, e1h⟩ : ∃ e1, (list)[(u1).toNat]? = some e1 := ⟨_, List.getElem?_eq_getElem e1i⟩
 have ok1 : GoT.ok n e1 := (okl hoklist).2 _ (List.mem_of_getElem? e1h)
 refine WX.idx 1 ((u1).toNat) ttOk Z Z Z Z Z Z Z Z Z Z e1i ?_
 rintro ad1 rfl
 refine WX.ldE 1 4 e1 ttOk Z Z Z Z Z Z Z Z e1h O O ?_
 rintro ⟨⟩
 refine R0 ?_
 have hP1 : a0z c_b c_i c_h list = (e1, u2, u3) := by simp only [a0z, hu1, e1h, cT, cF]
 have hz1 := hP1.symm.trans hres
 obtain ⟨hz1, hz2⟩ := Prod.mk.inj hz1
 obtain ⟨hz2, hz3⟩ := Prod.mk.inj hz2
 subst hz1
 subst hz2
 subst hz3
 refine R1 ?_
 intro w1 G bs hI hΓ
 exact Post.ofL 999 [] () hI hΓ Z Z Z (by rw [hI.pin _ rfl]; first | done | rfl) (⟨ok1, ⟨hq1.2.1, hq1.2.2⟩⟩)
theorem f65 (w : World) (n : Nat) (hn : n + 0 ≤ 9) (H : GH) (hH : Le H (hp w)) (bc_ : Nat) (c_b : (List UInt8)) (K0 M0) (N0 : RdSl (cut (hp w) H) K0 M0 c_b) (c_i : Int) (c_h : Int) (n_ : Int) (hown : Sep H [MF.bx bc_ 96 [.slice K0 ((c_b).length) M0, .int .i64 (c_i), .int .i64 (c_h)]]) (hokc_b : GoT.ok n c_b) (hokc_i : NN c_i) (hokc_h : GoT.ok n c_h) (hq0 : n_ ≤ 1048576) (hokn_ : GoT.ok n n_) (o0_ : (List UInt8)) (o1_ : Int) (o2_ : Int) (hres : a3d c_b c_i c_h n_ = (o0_, o1_, o2_)) :
 Does Tryz.prog 65 #[.pointer (some ⟨bc_, 0, none⟩), .int .i64 (n_)] w H (Post w H (fun x : GoT.X ((List UInt8)) => (GoT.sh (o0_ : (List UInt8)) x).headD undef) (fun x => MF.bx bc_ 96 [.slice K0 ((c_b).length) M0, .int .i64 (o1_), .int .i64 (o2_)] :: GoT.oa (o0_ : (List UInt8)) x) (GoT.ok n (o0_ : (List UInt8)) ∧ NN (o1_) ∧ I64 (o2_))) := by
 have hb := bS0 hn
 have hc_bz : (c_b).length ≤ bd n := (okl hokc_b).1
 refine WX.enterP (tt := tt) (Γ := [(0, MF.rs .stb K0 M0 c_b)]) 1 Tryz.func65 Z J Z (allS_cons Z N0 allS_nil) hH hown (fun f hf => by cases hf) Z ?_
 refine R0 ?_
 refine WX.bld ttOk Z Z Z Z Z Z Z ?_
 intro p1
 refine R0 ?_
 refine WX.free 2 (MF.ol [] ([] : List UInt8)) Z ?_
 have r1 : -9223372036854775808 ≤ n_ ∧ n_ ≤ 9223372036854775807 := hokn_
 refine WX.loop (ι := (Option Addr) × Nat × (List Value) × (List UInt8) × Nat × Int × Int) ⟨fun | (pout, cout, xsout, out, i, u999_i, u999_h) => (i ≤ (n_).toNat) ∧ (∀ z_ ∈ out, GoT.ok n z_) ∧ (NN u999_i) ∧ (-9223372036854775808 ≤ u999_h ∧ u999_h ≤ 9223372036854775807) ∧ (out.length ≤ i) ∧ (a3m c_b ((n_).toNat) ([] : List UInt8) c_i c_h = a3m c_b ((n_).toNat - i) out u999_i u999_h), fun | (pout, cout, xsout, out, i, u999_i, u999_h) => (n_).toNat - i, fun | (pout, cout, xsout, out, i, u999_i, u999_h) => [(5, .v (.slice pout ((out).length) cout)), (6, .v (.int .i64 (((i : Nat) : Int)))), (0, .p 999 0), (1, .v (.int .i64 (n_)))], fun | (pout, cout, xsout, out, i, u999_i, u999_h) => [(999, ⟨96, [.slice K0 ((c_b).length) M0, .int .i64 (u999_i), .int .i64 (u999_h)]⟩)], fun | (pout, cout, xsout, out, i, u999_i, u999_h) => [(7, ⟨1, pout, (out).length, cout, xsout⟩)], fun | (pout, cout, xsout, out, i, u999_i, u999_h) => [(0, MF.rs .stb K0 M0 c_b), (2, MF.ol xsout (out : List UInt8))]⟩ (p1, 0, [], ([] : List UInt8), 0, c_i, c_h) ⟨(Nat.zero_le _), (fun a ha => by cases ha), hokc_i, hokc_h, τ11, Z⟩
  (.cons Z (.cons Z (.cons Z (.cons Z (.nil))))) (.cons Z (.nil)) (.cons Z (.nil)) [0, 2] Z ?_
 rintro ⟨pout, cout, xsout, out, i, u999_i, u999_h⟩ ⟨v1, v2, v3, v4, v5, v6⟩
 refine R0 ?_
 refine WX.cases 10 Z ?_ ?_ <;> intro h1
 ·skip
  have h1d := B.dt h1
  refine R0 ?_
  obtain ⟨⟨u1, u2, u3⟩, hu1⟩ := xE (a18 c_b u999_i u999_h)
  refine CP 999 3 Z Z Z Z Z Z O Z (fun w β H η σ γ => f71 w n τ1 H η (β 999) c_b K0 M0 (γ.q 0 Z) u999_i u999_h σ hokc_b v3 v4 u1 u2 u3 hu1) ?_
  rintro ⟨⟩ hq1
  have q1 := l1Byte_rng c_b u999_i u999_h
  rw [hu1] at q1
  try dsimp only at q1
  refine WX.see Z Z Z (fun _ hΓ => looks_toU8 ttOk Z Z Z Z Z Z) ?_
  refine WX.bld ttOk Z Z Z Z Z Z Z ?_
  intro p2
  refine WX.turn [] 4 Z (fun h hs => ol_one (α := UInt8) (a := (toU8 u1)) (x := ()) hs) (gs := [MF.ol [.int .u8 ((toU8 u1).toNat : Nat)] ([(toU8 u1)] : List UInt8)]) Z ?_
  have r2 : -9223372036854775808 ≤ u1 ∧ u1 ≤ 9223372036854775807 := hq1.1
  refine WX.know (fun G hΓ => (hΓ.get 4 Z : OwL _ _ _).rd.one) ?_
  intro ho1
  refine WX.appR1 7 17 ((out ++ [(toU8 u1)]) : List UInt8).length ttOk Z Z Z Z Z Z Z Z Z Z Z Z Z ho1 τ11 τ3 τ3 (fun _ _ => Z) ?_
  intro p3 c1
  refine WX.turn [2, 4] 5 Z (fun h hs => ol_app hs) (gs := [MF.ol (xsout ++ [.int .u8 ((toU8 u1).toNat : Nat)]) ((out ++ [(toU8 u1)]) : List UInt8)]) Z ?_
  refine R0 ?_
  refine WX.see Z Z Z (fun _ hΓ => looks_arith Z Z Z Z τ2) ?_
  refine R0 ?_
  refine WX.turn [5] 2 Z (fun _ h => h) Z ?_
  exact WX.iter (p3, c1, (xsout ++ [.int .u8 ((toU8 u1).toNat : Nat)]), ((out ++ [(toU8 u1)]) : List UInt8), i + 1, u2, u3) ⟨τ1, (fun _ _ => trivial), hq1.2.1, hq1.2.2, τ5, (by rw [v6, show (n_).toNat - i = ((n_).toNat - (i + 1)) + 1 by omega]; simp only [a3m, hu1, cT, cF])⟩ τ4 (.cons Z (.cons Z (.cons Z (.cons Z (.nil))))) (.cons Z (.nil)) (.cons Z (.nil)) [0, 2] Z
 have h1d := B.df h1
 refine R0 ?_
 have hX1 : a3m c_b ((n_).toNat) ([] : List UInt8) c_i c_h = (((out) : List UInt8), u999_i, u999_h) := by rw [v6, show (n_).toNat - i = 0 by omega]; simp only [a3m, cT, cF]
 refine WX.seal 7 2 6 Z Z Z Z Z ?_
 have hP1 : a3d c_b c_i c_h n_ = (out, u999_i, u999_h) := by simp only [a3d, hX1, cT, cF]
 have hz1 := hP1.symm.trans hres
 obtain ⟨hz1, hz2⟩ := Prod.mk.inj hz1
 obtain ⟨hz2, hz3⟩ := Prod.mk.inj hz2
 subst hz1
 subst hz2
 subst hz3
 refine R1 ?_
 intro w1 G bs hI hΓ
 exact Post.ofL 999 [7] (pout, cout) hI hΓ Z Z Z (by rw [hI.pin _ rfl]; first | done | rfl) (⟨(okl_mk τ1 (fun _ _ => trivial) : GoT.ok n (out : List UInt8)), ⟨v3, v4⟩⟩)
theorem f92 (w : World) (n : Nat) (hn : n + 1 ≤ 9) (s : Str) (by_ : UInt8) (hoks : GoT.ok n s) :
 Does Tryz.prog 92 #[.string s, .int .u8 ((by_).toNat : Nat)] w emp (Post w emp (fun x : GoT.X ((List Str)) => (GoT.sh ((a0b s by_) : (List Str)) x).headD undef) (fun x => GoT.oa ((a0b s by_) : (List Str)) x) (GoT.ok (n + 1) ((a0b s by_) : (List Str)))) := by
 have hb := bS1 hn
 refine EN Tryz.func92 Z allS_nil ?_
 refine R0 ?_
 refine WX.bld ttOk Z Z Z Z Z Z Z ?_
 intro p1
 refine R0 ?_
 refine WX.free 0 (MF.ol [] ([] : List Str)) Z ?_
 have hs0 : s.size ≤ bd n := hoks
 refine WX.loop (ι := (Option Addr) × Nat × (List Value) × (List Str) × Int × Nat) ⟨fun | (pout, cout, xsout, out, from_, i) => (∀ z_ ∈ out, GoT.ok n z_) ∧ (-9223372036854775808 ≤ from_ ∧ from_ ≤ 9223372036854775807) ∧ (0 ≤ from_ ∧ from_ ≤ ((i : Nat) : Int)) ∧ (i ≤ (s).size + 1) ∧ (out.length ≤ i) ∧ (a25 s by_ 0 ([] : List Str) 0 = a25 s by_ i out from_), fun | (pout, cout, xsout, out, from_, i) => (s).size + 1 - i, fun | (pout, cout, xsout, out, from_, i) => [(5, .v (.slice pout ((out).length) cout)), (6, .v (.int .i64 (from_))), (7, .v (.int .i64 (((i : Nat) : Int)))), (0, .v (.string s)), (1, .v (.int .u8 ((by_).toNat : Nat)))], fun | (pout, cout, xsout, out, from_, i) => [], fun | (pout, cout, xsout, out, from_, i) => [(8, ⟨1, pout, (out).length, cout, xsout⟩)], fun | (pout, cout, xsout, out, from_, i) => [(0, MF.ol xsout (out : List Str))]⟩ (p1, 0, [], ([] : List Str), 0, 0) ⟨(fun a ha => by cases ha), τ6, τ1, τ1, τ11, Z⟩
  (.cons Z (.cons Z (.cons Z (.cons Z (.cons Z (.nil)))))) .nil (.cons Z (.nil)) [0] Z ?_
 rintro ⟨pout, cout, xsout, out, from_, i⟩ ⟨v1, v2, v3, v4, v5, v6⟩
 refine R0 ?_
 refine WX.cases 12 Z ?_ ?_ <;> intro h1
 ·skip
  have h1d := B.dt h1
  refine R0 ?_
  refine WX.cases 19 Z ?_ ?_ <;> intro h2
  ·skip
   have h2d := B.et h2
   refine R0 ?_
   have r1 : (s).size ≤ bd n := hoks
   refine WX.see Z Z Z (fun _ hΓ => looks_strB (Int.toNat from_) i ttOk Z Z Z Z Z Z (show from_ = (((Int.toNat from_) : Nat) : Int) from τ1) (show ((i : Nat) : Int) = ((i : Nat) : Int) from Z) (show (Int.toNat from_) ≤ i from τ1) (show i ≤ (s).size from τ1)) ?_
   have r2 : (((s).extract (Int.toNat from_) i)).size = i - (Int.toNat from_) := by rw [ByteArray.size_extract]; have z_ := (show i ≤ (s).size from τ1); omega
   refine WX.bld ttOk Z Z Z Z Z Z Z ?_
   intro p2
   refine WX.turn [] 1 Z (fun h hs => ol_one (α := Str) (a := ((s).extract (Int.toNat from_) i)) (x := ()) hs) (gs := [MF.ol [.string ((s).extract (Int.toNat from_) i)] ([((s).extract (Int.toNat from_) i)] : List Str)]) Z ?_
   refine WX.know (fun G hΓ => (hΓ.get 1 Z : OwL _ _ _).rd.one) ?_
   intro ho1
   refine WX.appR1 8 31 ((out ++ [((s).extract (Int.toNat from_) i)]) : List Str).length ttOk Z Z Z Z Z Z Z Z Z Z Z Z Z ho1 τ11 τ3 τ3 (fun _ _ => Z) ?_
   intro p3 c1
   refine WX.turn [0, 1] 2 Z (fun h hs => ol_app hs) (gs := [MF.ol (xsout ++ [.string ((s).extract (Int.toNat from_) i)]) ((out ++ [((s).extract (Int.toNat from_) i)]) : List Str)]) Z ?_
   refine R0 ?_
   refine WX.see Z Z Z (fun _ hΓ => looks_arith Z Z Z Z τ2) ?_
   refine R0 ?_
   refine WX.see Z Z Z (fun _ hΓ => looks_arith Z Z Z Z τ2) ?_
   refine R0 ?_
   refine WX.turn [2] 0 Z (fun _ h => h) Z ?_
   exact WX.iter (p3, c1, (xsout ++ [.string ((s).extract (Int.toNat from_) i)]), ((out ++ [((s).extract (Int.toNat from_) i)]) : List Str), ((i : Nat) : Int) + 1, i + 1) ⟨(all_app v1 (all_cons (α := Str) (show (((s).extract (Int.toNat from_) i)).size ≤ bd n from τ3) (fun a ha => by cases ha))), τ6, τ1, τ1, τ5, (by rw [v6]; rw [a25]; simp only [h1, h1d, h2, cT, cF, ↓reduceIte, Bool.false_eq_true])⟩ τ4 (.cons Z (.cons Z (.cons Z (.cons Z (.cons Z (.nil)))))) .nil (.cons Z (.nil)) [0] Z
  have h2d := B.ef h2
  refine R0 ?_
  have e1i : i < ((s).data.toList).length := (by rw [show ((s).data.toList).length = (s).size from by simp]; omega)
  obtain ⟨e1, e1h⟩ : ∃ e1, ((s).data.toList)[i]? = some e1 := ⟨_, List.getElem?_eq_getElem e1i⟩
  refine WX.see Z Z Z (fun _ hΓ => looks_strIdx ttOk Z Z Z Z Z e1h) ?_
  refine R0 ?_
  refine WX.cases 25 Z ?_ ?_ <;> intro h3
  ·skip
   have h3d := B.et h3
   refine R0 ?_
   have r3 : (s).size ≤ bd n := hoks
   refine WX.see Z Z Z (fun _ hΓ => looks_strB (Int.toNat from_) i ttOk Z Z Z Z Z Z (show from_ = (((Int.toNat from_) : Nat) : Int) from τ1) (show ((i : Nat) : Int) = ((i : Nat) : Int) from Z) (show (Int.toNat from_) ≤ i from τ1) (show i ≤ (s).size from τ1)) ?_
   have r4 : (((s).extract (Int.toNat from_) i)).size = i - (Int.toNat from_) := by rw [ByteArray.size_extract]; have z_ := (show i ≤ (s).size from τ1); omega
   refine WX.bld ttOk Z Z Z Z Z Z Z ?_
   intro p4
   refine WX.turn [] 3 Z (fun h hs => ol_one (α := Str) (a := ((s).extract (Int.toNat from_) i)) (x := ()) hs) (gs := [MF.ol [.string ((s).extract (Int.toNat from_) i)] ([((s).extract (Int.toNat from_) i)] : List Str)]) Z ?_
   refine WX.know (fun G hΓ => (hΓ.get 3 Z : OwL _ _ _).rd.one) ?_
   intro ho2
   refine WX.appR1 8 31 ((out ++ [((s).extract (Int.toNat from_) i)]) : List Str).length ttOk Z Z Z Z Z Z Z Z Z Z Z Z Z ho2 τ11 τ3 τ3 (fun _ _ => Z) ?_
   intro p5 c2
   refine WX.turn [0, 3] 4 Z (fun h hs => ol_app hs) (gs := [MF.ol (xsout ++ [.string ((s).extract (Int.toNat from_) i)]) ((out ++ [((s).extract (Int.toNat from_) i)]) : List Str)]) Z ?_
   refine R0 ?_
   refine WX.see Z Z Z (fun _ hΓ => looks_arith Z Z Z Z τ2) ?_
   refine R0 ?_
   refine WX.see Z Z Z (fun _ hΓ => looks_arith Z Z Z Z τ2) ?_
   refine R0 ?_
   refine WX.turn [4] 0 Z (fun _ h => h) Z ?_
   exact WX.iter (p5, c2, (xsout ++ [.string ((s).extract (Int.toNat from_) i)]), ((out ++ [((s).extract (Int.toNat from_) i)]) : List Str), ((i : Nat) : Int) + 1, i + 1) ⟨(all_app v1 (all_cons (α := Str) (show (((s).extract (Int.toNat from_) i)).size ≤ bd n from τ3) (fun a ha => by cases ha))), τ6, τ1, τ1, τ5, (by rw [v6]; rw [a25]; simp only [h1, h1d, h2, e1h, h3, cT, cF, ↓reduceIte, Bool.false_eq_true])⟩ τ4 (.cons Z (.cons Z (.cons Z (.cons Z (.cons Z (.nil)))))) .nil (.cons Z (.nil)) [0] Z
  have h3d := B.ef h3
  refine R0 ?_
  refine WX.see Z Z Z (fun _ hΓ => looks_arith Z Z Z Z τ2) ?_
  refine R0 ?_
  exact WX.iter (pout, cout, xsout, (out : List Str), from_, i + 1) ⟨v1, v2, τ1, τ1, τ5, (by rw [v6]; rw [a25]; simp only [h1, h1d, h2, e1h, h3, cT, cF, ↓reduceIte, Bool.false_eq_true])⟩ τ4 (.cons Z (.cons Z (.cons Z (.cons Z (.cons Z (.nil)))))) .nil (.cons Z (.nil)) [0] Z
 have h1d := B.df h1
 refine R0 ?_
 have hX1 : a25 s by_ 0 ([] : List Str) 0 = (i, ((out) : List Str), from_) := by rw [v6]; rw [a25]; simp only [h1, h1d, cT, cF, ↓reduceIte, Bool.false_eq_true]
 refine WX.seal 8 0 5 Z Z Z Z Z ?_
 have hP1 : a0b s by_ = out := by simp only [a0b, hX1, cT, cF]
 refine R1 ?_
 intro w1 G bs hI hΓ
 rw [hP1]
 exact Post.of [6] (pout, cout) hI hΓ Z Z Z (okl_mk τ1 (fun a ha => GoT.okm τ1 (v1 a ha)) : GoT.ok (n + 1) (out : List Str))
theorem f68 (w : World) (n : Nat) (hn : n + 1 ≤ 9) (s : Str) (hoks : GoT.ok n s) :
 Does Tryz.prog 68 #[.string s] w emp (Post w emp (fun x : GoT.X (Name) => .tuple #[.agg ⟨GoT.sh ((a1q s).1 : Name) x⟩, .bool ((a1q s).2)]) (fun x => GoT.oa ((a1q s).1 : Name) x) (GoT.ok (n + 1) ((a1q s).1 : Name))) := by
 have hb := bS1 hn
 refine EN Tryz.func68 Z allS_nil ?_
 refine R0 ?_
 refine WX.cases 7 Z ?_ ?_ <;> intro h1
 ·skip
  have h1d := B.et h1
  refine R0 ?_
  refine WX.free 0 (MF.os none 0 ([] : List Str)) (owSl_nil _ _) ?_
  have hP1 : a1q s = (Name.mk ([]), true) := by simp only [a1q, h1, cT, cF]
  refine R1 ?_
  intro w1 G bs hI hΓ
  rw [hP1]
  exact Post.of [0] (none, 0) hI hΓ Z Z Z (ok_nil (α := Str))
 have h1d := B.ef h1
 refine R0 ?_
 refine CF 1 Z Z Z Z Z O Z (fun w γ => f92 w n τ1 s (47 : UInt8) hoks) ?_
 rintro ⟨p1, c1⟩ hq1
 have q1 := len_l4Split s (47 : UInt8)
 refine R0 ?_
 have r1 : (s).size ≤ bd n := hoks
 have r2 : (a0b s (47 : UInt8)).length ≤ bd (n + 1) := (okl hq1).1
 refine WX.see Z Z Z (fun _ hΓ => looks_slL 1 ttOk Z Z Z Z τ11 (show 1 ≤ ((a0b s (47 : UInt8))).length from τ1)) ?_
 refine WX.slot 12 (y := .v (.slice (offP p1 c1 1 1) (((List.drop 1 (a0b s (47 : UInt8)))).length) (c1 - 1))) Z (fun _ => by rw [show ((List.drop 1 (a0b s (47 : UInt8)))).length = (((a0b s (47 : UInt8))).length) - 1 from (by simp only [List.length_drop])]) ?_
 refine WX.der 3 (MF.rs .der (offP p1 c1 1 1) (c1 - 1) (List.drop 1 (a0b s (47 : UInt8)))) Z (fun _ hΓ => RdSl.suf (hΓ.get 1 Z : RdSl _ _ _ _) 1) ?_
 refine R0 ?_
 refine WX.cases 17 Z ?_ ?_ <;> intro h2
 ·skip
  have h2d := B.dt h2
  refine R0 ?_
  refine WX.free 4 (MF.os none 0 ([] : List Str)) (owSl_nil _ _) ?_
  have hP2 : a1q s = (Name.mk ([]), false) := by simp only [a1q, h1, h2, cT, cF]
  refine R1 ?_
  intro w1 G bs hI hΓ
  rw [hP2]
  exact Post.of [4] (none, 0) hI hΓ Z Z Z (ok_nil (α := Str))
 have h2d := B.df h2
 refine R0 ?_
 have e1i : 0 < ((a0b s (47 : UInt8))).length := τ6
 obtain ⟨e1, e1h⟩ : ∃ e1, ((a0b s (47 : UInt8)))[0]? = some e1 := ⟨_, List.getElem?_eq_getElem e1i⟩
 have ok1 : GoT.ok (n + 1) e1 := (okl hq1).2 _ (List.mem_of_getElem? e1h)
 refine WX.idx 1 0 ttOk Z Z Z Z Z Z Z Z Z Z e1i ?_
 rintro ad1 rfl
 refine WX.ldE 1 5 e1 ttOk Z Z Z Z Z Z Z Z e1h O O ?_
 rintro ⟨⟩
 refine R0 ?_
 refine WX.cases 23 Z ?_ ?_ <;> intro h3
 ·skip
  have h3d := B.ef (B.nt h3)
  refine R0 ?_
  refine WX.free 5 (MF.os none 0 ([] : List Str)) (owSl_nil _ _) ?_
  have hP3 : a1q s = (Name.mk ([]), false) := by simp only [a1q, h1, h2, e1h, h3, cT, cF]
  refine R1 ?_
  intro w1 G bs hI hΓ
  rw [hP3]
  exact Post.of [5] (none, 0) hI hΓ Z Z Z (ok_nil (α := Str))
 have h3d := B.et (B.nf h3)
 refine R0 ?_
 refine CV Z Z Z Z Z O Z (fun w γ => f56 w (n + 1) τ1 (Name.mk (List.drop 1 (a0b s (47 : UInt8)))) (offP (some ad1) c1 1 1) (c1 - 1) (γ.q 3 Z) (okl_mk τ5 (fun a ha => (okl hq1).2 a (List.mem_of_mem_drop ha)) : GoT.ok (n + 1) ((List.drop 1 (a0b s (47 : UInt8))) : List Str))) ?_
 intro hq2
 refine R0 ?_
 refine WX.cases 27 Z ?_ ?_ <;> intro h4
 ·skip
  have h4d := (B.nt h4)
  refine R0 ?_
  refine WX.free 6 (MF.os none 0 ([] : List Str)) (owSl_nil _ _) ?_
  have hP4 : a1q s = (Name.mk ([]), false) := by simp only [a1q, h1, h2, e1h, h3, h4, cT, cF]
  refine R1 ?_
  intro w1 G bs hI hΓ
  rw [hP4]
  exact Post.of [6] (none, 0) hI hΓ Z Z Z (ok_nil (α := Str))
 have h4d := (B.nf h4)
 refine R0 ?_
 refine WX.turn [2] 7 Z (fun h hs => os_suf 1 (show 1 ≤ ((a0b s (47 : UInt8))).length from τ1) hs) (gs := [MF.os (offP (some ad1) c1 1 1) (c1 - 1) ((List.drop 1 (a0b s (47 : UInt8))) : List Str)]) Z ?_
 have hP5 : a1q s = (Name.mk (List.drop 1 (a0b s (47 : UInt8))), true) := by simp only [a1q, h1, h2, e1h, h3, h4, cT, cF]
 refine R1 ?_
 intro w1 G bs hI hΓ
 rw [hP5]
 exact Post.of [7] ((offP (some ad1) c1 1 1), (c1 - 1)) hI hΓ Z Z Z (okl_mk τ5 (fun a ha => (okl hq1).2 a (List.mem_of_mem_drop ha)) : GoT.ok (n + 1) ((List.drop 1 (a0b s (47 : UInt8))) : List Str))
theorem f37 (w : World) (n : Nat) (hn : n + 1 ≤ 9) (s : Str) (hoks : GoT.ok n s) :
 Does Tryz.prog 37 #[.string s] w emp (Post w emp (fun x : GoT.X (Name) => .agg ⟨GoT.sh ((a02 s) : Name) x⟩) (fun x => GoT.oa ((a02 s) : Name) x) (GoT.ok n ((a02 s) : Name))) := by
 have hb := bS1 hn
 refine EN Tryz.func37 Z allS_nil ?_
 refine R0 ?_
 refine CF 0 Z Z Z Z Z O Z (fun w γ => f68 w n τ1 s hoks) ?_
 rintro ⟨p1, c1⟩ hq1
 refine R0 ?_
 have hP1 : a02 s = ((a1q s).1) := by simp only [a02, cT, cF]
 refine R1 ?_
 intro w1 G bs hI hΓ
 rw [hP1]
 exact Post.of [1] (p1, c1) hI hΓ Z Z Z (by have z_ := (show GoT.ok 0 (a02 s) from l4Of_ok s); rw [hP1] at z_; exact GoT.okm τ1 z_)
theorem f64 (w : World) (n : Nat) (hn : n + 1 ≤ 9) (n_ : Name) (K0 M0) (N0 : RdSl (hp w) K0 M0 n_.parts) (s : Str) (hokn_ : GoT.ok n n_) (hoks : GoT.ok n s) :
 Does Tryz.prog 64 #[.agg #[.slice K0 ((n_.parts).length) M0], .string s] w emp (Post w emp (fun x : GoT.X (Name) => .tuple #[.agg ⟨GoT.sh ((a0c n_ s).1 : Name) x⟩, .bool ((a0c n_ s).2)]) (fun x => GoT.oa ((a0c n_ s).1 : Name) x) (GoT.ok n ((a0c n_ s).1 : Name))) := by
 have hb := bS1 hn
 refine EN Tryz.func64 Z (aS1 N0) ?_
 refine R0 ?_
 refine WX.bld ttOk Z Z Z Z Z Z Z ?_
 intro p1
 refine R0 ?_
 refine WX.free 1 (MF.ol [] ([] : List Str)) Z ?_
 have r1 : (n_.parts).length ≤ bd n := (okl (ok_Name hokn_)).1
 refine WX.appG1 7 0 2 (n_.parts : List Str).length ttOk Z Z Z Z Z Z Z Z Z Z Z Z Z τ7 τ1 τ1 (fun _ _ _ => Z) ?_
 intro ys1 p2 c1
 refine WX.know (fun G hΓ => (hΓ.get 2 Z : RdL _ _ _).flat) ?_
 intro hf1
 refine WX.turn [1] 3 Z (fun h hs => ol_flat hs hf1) (gs := [MF.ol ([] ++ ys1) (n_.parts : List Str)]) Z ?_
 refine R0 ?_
 refine WX.bld ttOk Z Z Z Z Z Z Z ?_
 intro p3
 refine WX.turn [] 4 Z (fun h hs => ol_one (α := Str) (a := s) (x := ()) hs) (gs := [MF.ol [.string s] ([s] : List Str)]) Z ?_
 have r2 : (s).size ≤ bd n := hoks
 refine WX.know (fun G hΓ => (hΓ.get 4 Z : OwL _ _ _).rd.one) ?_
 intro ho1
 refine WX.appR1 7 12 ((n_.parts ++ [s]) : List Str).length ttOk Z Z Z Z Z Z Z Z Z Z Z Z Z ho1 τ11 τ3 τ3 (fun _ _ => Z) ?_
 intro p4 c2
 refine WX.turn [3, 4] 5 Z (fun h hs => ol_app hs) (gs := [MF.ol (([] ++ ys1) ++ [.string s]) ((n_.parts ++ [s]) : List Str)]) Z ?_
 refine R0 ?_
 refine WX.seal 7 5 6 Z Z Z Z Z ?_
 refine CV Z Z Z Z Z O Z (fun w γ => f56 w (n + 1) τ1 (Name.mk (n_.parts ++ [s])) p4 c2 (γ.q 6 Z) (okl_mk τ3 (fun a ha => GoT.okm (show n ≤ (n + 1) by omega) ((all_app (okl (ok_Name hokn_)).2 (all_cons (α := Str) hoks (fun a ha => by cases ha))) a ha)) : GoT.ok (n + 1) ((n_.parts ++ [s]) : List Str))) ?_
 intro hq1
 refine R0 ?_
 refine WX.cases 17 Z ?_ ?_ <;> intro h1
 ·skip
  have h1d := (B.nt h1)
  refine R0 ?_
  refine CF 8 Z Z Z Z Z O Z (fun w γ => f33 w n τ1 n_ K0 M0 (γ.q 0 Z) hokn_) ?_
  rintro ⟨p5, c3⟩ hq2
  refine R0 ?_
  have hP1 : a0c n_ s = (a0f n_, false) := by simp only [a0c, h1, cT, cF]
  refine R1 ?_
  intro w1 G bs hI hΓ
  rw [hP1]
  exact Post.of [9] (p5, c3) hI hΓ Z Z Z (by have z_ := (show GoT.ok n (a0c n_ s).1 from aP_okv hokn_); rw [hP1] at z_; exact GoT.okm τ1 z_)
 have h1d := (B.nf h1)
 refine R0 ?_
 have hP2 : a0c n_ s = (Name.mk (n_.parts ++ [s]), true) := by simp only [a0c, h1, cT, cF]
 refine R1 ?_
 intro w1 G bs hI hΓ
 rw [hP2]
 exact Post.of [7] (p4, c2) hI hΓ Z Z Z (by have z_ := (show GoT.ok n (a0c n_ s).1 from aP_okv hokn_); rw [hP2] at z_; exact GoT.okm τ1 z_)
theorem f72 (w : World) (n : Nat) (hn : n + 1 ≤ 9) (H : GH) (hH : Le H (hp w)) (bc_ : Nat) (c_b : (List UInt8)) (K0 M0) (N0 : RdSl (cut (hp w) H) K0 M0 c_b) (c_i : Int) (c_h : Int) (hown : Sep H [MF.bx bc_ 96 [.slice K0 ((c_b).length) M0, .int .i64 (c_i), .int .i64 (c_h)]]) (hokc_b : GoT.ok n c_b) (hokc_i : NN c_i) (hokc_h : GoT.ok n c_h) (o0_ : Name) (o1_ : Int) (o2_ : Int) (hres : a45 c_b c_i c_h = (o0_, o1_, o2_)) :
 Does Tryz.prog 72 #[.pointer (some ⟨bc_, 0, none⟩)] w H (Post w H (fun x : GoT.X (Name) => .agg ⟨GoT.sh (o0_ : Name) x⟩) (fun x => MF.bx bc_ 96 [.slice K0 ((c_b).length) M0, .int .i64 (o1_), .int .i64 (o2_)] :: GoT.oa (o0_ : Name) x) (GoT.ok n (o0_ : Name) ∧ NN (o1_) ∧ I64 (o2_))) := by
 have hb := bS1 hn
 have hc_bz : (c_b).length ≤ bd n := (okl hokc_b).1
 refine WX.enterP (tt := tt) (Γ := [(0, MF.rs .stb K0 M0 c_b)]) 1 Tryz.func72 Z J Z (allS_cons Z N0 allS_nil) hH hown (fun f hf => by cases hf) Z ?_
 refine R0 ?_
 obtain ⟨⟨u1, u2, u3⟩, hu1⟩ := xE (a0a c_b c_i c_h 4)
 refine CP 999 2 Z Z Z Z Z Z O Z (fun w β H η σ γ => f41 w n τ1 H η (β 999) c_b K0 M0 (γ.q 0 Z) c_i c_h 4 σ hokc_b hokc_i hokc_h (i6 4) u1 u2 u3 hu1) ?_
 rintro ⟨⟩ hq1
 have q1 := l1Below_rng c_b c_i c_h 4
 rw [hu1] at q1
 try dsimp only at q1
 refine R0 ?_
 refine WX.free 4 (MF.os none 0 ([] : List Str)) (owSl_nil _ _) ?_
 refine WX.der 3 (MF.rs .der none 0 ([] : List Str)) Z (fun _ hΓ => (hΓ.get 4 Z : OwSl _ _ _ _).rd) ?_
 refine WX.loop (ι := Int × (Option Addr) × Nat × (List Str) × Int × Int) ⟨fun | (i, pn_, cn_, n_, u999_i, u999_h) => (-9223372036854775808 ≤ i ∧ i ≤ 9223372036854775807) ∧ (n_.length ≤ bd n ∧ ∀ z_ ∈ n_, GoT.ok n z_) ∧ (NN u999_i) ∧ (-9223372036854775808 ≤ u999_h ∧ u999_h ≤ 9223372036854775807) ∧ (n_.length + i.toNat ≤ 3) ∧ (a1r c_b u1 (([] : List Str) : List Str) u2 u3 = a1r c_b i n_ u999_i u999_h), fun | (i, pn_, cn_, n_, u999_i, u999_h) => i.toNat, fun | (i, pn_, cn_, n_, u999_i, u999_h) => [(4, .v (.int .i64 (i))), (3, .p 3 0), (2, .p 2 0), (0, .p 999 0)], fun | (i, pn_, cn_, n_, u999_i, u999_h) => [(3, ⟨26, [.slice pn_ ((n_).length) cn_]⟩), (2, ⟨26, [.slice none (0) 0]⟩), (999, ⟨96, [.slice K0 ((c_b).length) M0, .int .i64 (u999_i), .int .i64 (u999_h)]⟩)], fun | (i, pn_, cn_, n_, u999_i, u999_h) => [], fun | (i, pn_, cn_, n_, u999_i, u999_h) => [(0, MF.rs .stb K0 M0 c_b), (4, MF.os pn_ cn_ n_)]⟩ (u1, none, 0, (([] : List Str) : List Str), u2, u3) ⟨hq1.1, (okl_mk (Nat.zero_le _) (fun a ha => by cases ha) : GoT.ok n (([] : List Str) : List Str)), hq1.2.1, hq1.2.2, (by simp; omega), Z⟩
  (.cons Z (.cons Z (.cons Z (.cons Z (.nil))))) (.cons Z (.cons Z (.cons Z (.nil)))) .nil [0, 4] Z ?_
 rintro ⟨i, pn_, cn_, n_, u999_i, u999_h⟩ ⟨v1, v2, v3, v4, v5, v6⟩
 have v2L := v2.1
 refine R0 ?_
 refine WX.cases 9 Z ?_ ?_ <;> intro h1
 ·skip
  have h1d := B.dt h1
  refine R0 ?_
  refine WX.der 5 (MF.rs .der pn_ cn_ n_) Z (fun _ hΓ => (hΓ.get 4 Z : OwSl _ _ _ _).rd) ?_
  refine WX.draw [0, 3, 4, 5, 6, 7, 8] mixed ?_
  intro bs G0 hΓ0
  refine DX.takes (fuel := 8) ttOk [(1, true)] J Z ?_
  refine DX.toTX ?_
  intro S_
  refine TX.all2 0 2 J ?_ ?_
  ·skip
   refine TS.op 0 Z J ?_
   refine R0 ?_
   refine WX.back0 ?_
   refine TX.all1 2 J ?_
   refine TS.op 2 Z J ?_
   refine WX.bld ttOk Z Z Z Z Z Z Z ?_
   intro p1
   refine R0 ?_
   refine WX.back0 ?_
   refine TX.all1 3 J ?_
   refine TS.op 3 Z J ?_
   refine WX.turn [] 6 Z (fun h hs => one_sep (⟨(), _, emp, _, Z, emp_le _, Le.refl _, emp_dj _, trivial, ⟨(), _, emp, _, Z, emp_le _, Le.refl _, emp_dj _, trivial, ⟨(), _, emp, _, Z, emp_le _, Le.refl _, emp_dj _, trivial, ⟨(), _, emp, _, Z, emp_le _, Le.refl _, emp_dj _, trivial, ⟨(), _, emp, _, Z, emp_le _, Le.refl _, emp_dj _, trivial, ⟨(), _, emp, _, Z, emp_le _, Le.refl _, emp_dj _, trivial, Z⟩⟩⟩⟩⟩⟩ : OwL _ _ ([(⟨#[97]⟩ : Str), (⟨#[98]⟩ : Str), (⟨#[110, 101, 119, 115]⟩ : Str), (⟨#[120, 45, 49]⟩ : Str), (⟨#[49]⟩ : Str), (⟨#[107, 101, 121]⟩ : Str)] : List Str))) (gs := [MF.ol [.string (⟨#[97]⟩ : Str), .string (⟨#[98]⟩ : Str), .string (⟨#[110, 101, 119, 115]⟩ : Str), .string (⟨#[120, 45, 49]⟩ : Str), .string (⟨#[49]⟩ : Str), .string (⟨#[107, 101, 121]⟩ : Str)] ([(⟨#[97]⟩ : Str), (⟨#[98]⟩ : Str), (⟨#[110, 101, 119, 115]⟩ : Str), (⟨#[120, 45, 49]⟩ : Str), (⟨#[49]⟩ : Str), (⟨#[107, 101, 121]⟩ : Str)] : List Str)]) Z ?_
   refine WX.seal 15 6 7 Z Z Z Z Z ?_
   have r1 : (⟨#[97]⟩ : Str).size = 1 := rfl
   have r2 : (⟨#[98]⟩ : Str).size = 1 := rfl
   have r3 : (⟨#[110, 101, 119, 115]⟩ : Str).size = 4 := rfl
   have r4 : (⟨#[120, 45, 49]⟩ : Str).size = 3 := rfl
   have r5 : (⟨#[49]⟩ : Str).size = 1 := rfl
   have r6 : (⟨#[107, 101, 121]⟩ : Str).size = 3 := rfl
   obtain ⟨⟨u4, u5, u6⟩, hu2⟩ := xE (a0z c_b u999_i u999_h ([(⟨#[97]⟩ : Str), (⟨#[98]⟩ : Str), (⟨#[110, 101, 119, 115]⟩ : Str), (⟨#[120, 45, 49]⟩ : Str), (⟨#[49]⟩ : Str), (⟨#[107, 101, 121]⟩ : Str)]))
   refine CP 999 9 Z Z Z Z Z Z O Z (fun w β H η σ γ => f63 w n τ1 H η (β 999) c_b K0 M0 (γ.q 0 Z) u999_i u999_h ([(⟨#[97]⟩ : Str), (⟨#[98]⟩ : Str), (⟨#[110, 101, 119, 115]⟩ : Str), (⟨#[120, 45, 49]⟩ : Str), (⟨#[49]⟩ : Str), (⟨#[107, 101, 121]⟩ : Str)]) p1 6 (γ.q 7 Z) σ hokc_b v3 v4 τ8 (okl_mk τ3 (all_cons (α := Str) (Nat.le_trans τ9 (bd_pos n)) (all_cons (α := Str) (Nat.le_trans τ9 (bd_pos n)) (all_cons (α := Str) (Nat.le_trans τ9 (bd_pos n)) (all_cons (α := Str) (Nat.le_trans τ9 (bd_pos n)) (all_cons (α := Str) (Nat.le_trans τ9 (bd_pos n)) (all_cons (α := Str) (Nat.le_trans τ9 (bd_pos n)) (fun a ha => by cases ha))))))) : GoT.ok n ([(⟨#[97]⟩ : Str), (⟨#[98]⟩ : Str), (⟨#[110, 101, 119, 115]⟩ : Str), (⟨#[120, 45, 49]⟩ : Str), (⟨#[49]⟩ : Str), (⟨#[107, 101, 121]⟩ : Str)] : List Str)) u4 u5 u6 hu2) ?_
   rintro ⟨⟩ hq2
   refine R0 ?_
   refine WX.back0 ?_
   refine TX.all1 4 J ?_
   refine TS.der 10 (MF.rs .der pn_ cn_ n_) Z (fun _ hΓ => (hΓ.get 4 Z : OwSl _ _ _ _).rd) ?_
   refine TSF 4 11 Z Z Z Z Z Z O Z (fun w γ => f64 w n τ1 (Name.mk n_) pn_ cn_ (γ.q 10 Z) u4 (okl_of v2) hq2.1) ?_
   rintro ⟨p2, c1⟩ hq3
   have q2 := aP_len (Name.mk n_) u4
   try dsimp only at q2
   refine TX.all1 5 J ?_
   refine TS.op 5 Z J ?_
   refine R0 ?_
   refine WX.back0 ?_
   refine TX.all2 6 7 J ?_ ?_
   ·skip
    refine TS.op 6 Z J ?_
    refine R0 ?_
    refine WX.back0 ?_
    refine TX.all2 7 8 J ?_ ?_
    ·skip
     refine TS.op 7 Z J ?_
     refine R0 ?_
     refine WX.back0 ?_
     refine TX.tail [8] Z Z J ?_
     refine R0 ?_
     refine WX.see Z Z Z (fun _ hΓ => looks_arith Z Z Z Z τ2) ?_
     refine R0 ?_
     refine WX.turn [12] 4 Z (fun _ h => h) Z ?_
     exact WX.iter (i - 1, p2, c1, (a0c (Name.mk n_) u4).1.parts, u5, u6) ⟨τ6, (ok_Name hq3), hq2.2.1, hq2.2.2, τ1, (by rw [v6]; rw [a1r]; simp only [h1, h1d, hu2, cT, cF, ↓reduceIte, Bool.false_eq_true])⟩ τ4 (.cons Z (.cons Z (.cons Z (.cons Z (.nil))))) (.cons Z (.cons Z (.cons Z (.nil)))) .nil [0, 4] Z
    refine TS.op 8 Z J ?_
    refine R0 ?_
    refine WX.back0 ?_
    refine TX.tail [7] Z Z J ?_
    refine R0 ?_
    refine WX.see Z Z Z (fun _ hΓ => looks_arith Z Z Z Z τ2) ?_
    refine R0 ?_
    refine WX.turn [12] 4 Z (fun _ h => h) Z ?_
    exact WX.iter (i - 1, p2, c1, (a0c (Name.mk n_) u4).1.parts, u5, u6) ⟨τ6, (ok_Name hq3), hq2.2.1, hq2.2.2, τ1, (by rw [v6]; rw [a1r]; simp only [h1, h1d, hu2, cT, cF, ↓reduceIte, Bool.false_eq_true])⟩ τ4 (.cons Z (.cons Z (.cons Z (.cons Z (.nil))))) (.cons Z (.cons Z (.cons Z (.nil)))) .nil [0, 4] Z
   refine TS.op 7 Z J ?_
   refine R0 ?_
   refine WX.back0 ?_
   refine TX.tail [6, 8] Z Z J ?_
   refine R0 ?_
   refine WX.see Z Z Z (fun _ hΓ => looks_arith Z Z Z Z τ2) ?_
   refine R0 ?_
   refine WX.turn [12] 4 Z (fun _ h => h) Z ?_
   exact WX.iter (i - 1, p2, c1, (a0c (Name.mk n_) u4).1.parts, u5, u6) ⟨τ6, (ok_Name hq3), hq2.2.1, hq2.2.2, τ1, (by rw [v6]; rw [a1r]; simp only [h1, h1d, hu2, cT, cF, ↓reduceIte, Bool.false_eq_true])⟩ τ4 (.cons Z (.cons Z (.cons Z (.cons Z (.nil))))) (.cons Z (.cons Z (.cons Z (.nil)))) .nil [0, 4] Z
  refine TS.op 2 Z J ?_
  refine WX.bld ttOk Z Z Z Z Z Z Z ?_
  intro p3
  refine R0 ?_
  refine WX.back0 ?_
  refine TX.all2 0 3 J ?_ ?_
  ·skip
   refine TS.op 0 Z J ?_
   refine R0 ?_
   refine WX.back0 ?_
   refine TX.all1 3 J ?_
   refine TS.op 3 Z J ?_
   refine WX.turn [] 13 Z (fun h hs => one_sep (⟨(), _, emp, _, Z, emp_le _, Le.refl _, emp_dj _, trivial, ⟨(), _, emp, _, Z, emp_le _, Le.refl _, emp_dj _, trivial, ⟨(), _, emp, _, Z, emp_le _, Le.refl _, emp_dj _, trivial, ⟨(), _, emp, _, Z, emp_le _, Le.refl _, emp_dj _, trivial, ⟨(), _, emp, _, Z, emp_le _, Le.refl _, emp_dj _, trivial, ⟨(), _, emp, _, Z, emp_le _, Le.refl _, emp_dj _, trivial, Z⟩⟩⟩⟩⟩⟩ : OwL _ _ ([(⟨#[97]⟩ : Str), (⟨#[98]⟩ : Str), (⟨#[110, 101, 119, 115]⟩ : Str), (⟨#[120, 45, 49]⟩ : Str), (⟨#[49]⟩ : Str), (⟨#[107, 101, 121]⟩ : Str)] : List Str))) (gs := [MF.ol [.string (⟨#[97]⟩ : Str), .string (⟨#[98]⟩ : Str), .string (⟨#[110, 101, 119, 115]⟩ : Str), .string (⟨#[120, 45, 49]⟩ : Str), .string (⟨#[49]⟩ : Str), .string (⟨#[107, 101, 121]⟩ : Str)] ([(⟨#[97]⟩ : Str), (⟨#[98]⟩ : Str), (⟨#[110, 101, 119, 115]⟩ : Str), (⟨#[120, 45, 49]⟩ : Str), (⟨#[49]⟩ : Str), (⟨#[107, 101, 121]⟩ : Str)] : List Str)]) Z ?_
   refine WX.seal 15 13 14 Z Z Z Z Z ?_
   have r7 : (⟨#[97]⟩ : Str).size = 1 := rfl
   have r8 : (⟨#[98]⟩ : Str).size = 1 := rfl
   have r9 : (⟨#[110, 101, 119, 115]⟩ : Str).size = 4 := rfl
   have r10 : (⟨#[120, 45, 49]⟩ : Str).size = 3 := rfl
   have r11 : (⟨#[49]⟩ : Str).size = 1 := rfl
   have r12 : (⟨#[107, 101, 121]⟩ : Str).size = 3 := rfl
   obtain ⟨⟨u7, u8, u9⟩, hu3⟩ := xE (a0z c_b u999_i u999_h ([(⟨#[97]⟩ : Str), (⟨#[98]⟩ : Str), (⟨#[110, 101, 119, 115]⟩ : Str), (⟨#[120, 45, 49]⟩ : Str), (⟨#[49]⟩ : Str), (⟨#[107, 101, 121]⟩ : Str)]))
   refine CP 999 16 Z Z Z Z Z Z O Z (fun w β H η σ γ => f63 w n τ1 H η (β 999) c_b K0 M0 (γ.q 0 Z) u999_i u999_h ([(⟨#[97]⟩ : Str), (⟨#[98]⟩ : Str), (⟨#[110, 101, 119, 115]⟩ : Str), (⟨#[120, 45, 49]⟩ : Str), (⟨#[49]⟩ : Str), (⟨#[107, 101, 121]⟩ : Str)]) p3 6 (γ.q 14 Z) σ hokc_b v3 v4 τ8 (okl_mk τ3 (all_cons (α := Str) (Nat.le_trans τ9 (bd_pos n)) (all_cons (α := Str) (Nat.le_trans τ9 (bd_pos n)) (all_cons (α := Str) (Nat.le_trans τ9 (bd_pos n)) (all_cons (α := Str) (Nat.le_trans τ9 (bd_pos n)) (all_cons (α := Str) (Nat.le_trans τ9 (bd_pos n)) (all_cons (α := Str) (Nat.le_trans τ9 (bd_pos n)) (fun a ha => by cases ha))))))) : GoT.ok n ([(⟨#[97]⟩ : Str), (⟨#[98]⟩ : Str), (⟨#[110, 101, 119, 115]⟩ : Str), (⟨#[120, 45, 49]⟩ : Str), (⟨#[49]⟩ : Str), (⟨#[107, 101, 121]⟩ : Str)] : List Str)) u7 u8 u9 hu3) ?_
   rintro ⟨⟩ hq4
   refine R0 ?_
   refine WX.back0 ?_
   refine TX.all1 4 J ?_
   refine TS.der 17 (MF.rs .der pn_ cn_ n_) Z (fun _ hΓ => (hΓ.get 4 Z : OwSl _ _ _ _).rd) ?_
   refine TSF 4 18 Z Z Z Z Z Z O Z (fun w γ => f64 w n τ1 (Name.mk n_) pn_ cn_ (γ.q 17 Z) u7 (okl_of v2) hq4.1) ?_
   rintro ⟨p4, c2⟩ hq5
   have q3 := aP_len (Name.mk n_) u7
   try dsimp only at q3
   refine TX.all1 5 J ?_
   refine TS.op 5 Z J ?_
   refine R0 ?_
   refine WX.back0 ?_
   refine TX.all2 6 7 J ?_ ?_
   ·skip
    refine TS.op 6 Z J ?_
    refine R0 ?_
    refine WX.back0 ?_
    refine TX.all2 7 8 J ?_ ?_
    ·skip
     refine TS.op 7 Z J ?_
     refine R0 ?_
     refine WX.back0 ?_
     refine TX.tail [8] Z Z J ?_
     refine R0 ?_
     refine WX.see Z Z Z (fun _ hΓ => looks_arith Z Z Z Z τ2) ?_
     refine R0 ?_
     refine WX.turn [19] 4 Z (fun _ h => h) Z ?_
     exact WX.iter (i - 1, p4, c2, (a0c (Name.mk n_) u7).1.parts, u8, u9) ⟨τ6, (ok_Name hq5), hq4.2.1, hq4.2.2, τ1, (by rw [v6]; rw [a1r]; simp only [h1, h1d, hu3, cT, cF, ↓reduceIte, Bool.false_eq_true])⟩ τ4 (.cons Z (.cons Z (.cons Z (.cons Z (.nil))))) (.cons Z (.cons Z (.cons Z (.nil)))) .nil [0, 4] Z
    refine TS.op 8 Z J ?_
    refine R0 ?_
    refine WX.back0 ?_
    refine TX.tail [7] Z Z J ?_
    refine R0 ?_
    refine WX.see Z Z Z (fun _ hΓ => looks_arith Z Z Z Z τ2) ?_
    refine R0 ?_
    refine WX.turn [19] 4 Z (fun _ h => h) Z ?_
    exact WX.iter (i - 1, p4, c2, (a0c (Name.mk n_) u7).1.parts, u8, u9) ⟨τ6, (ok_Name hq5), hq4.2.1, hq4.2.2, τ1, (by rw [v6]; rw [a1r]; simp only [h1, h1d, hu3, cT, cF, ↓reduceIte, Bool.false_eq_true])⟩ τ4 (.cons Z (.cons Z (.cons Z (.cons Z (.nil))))) (.cons Z (.cons Z (.cons Z (.nil)))) .nil [0, 4] Z
   refine TS.op 7 Z J ?_
   refine R0 ?_
   refine WX.back0 ?_
   refine TX.tail [6, 8] Z Z J ?_
   refine R0 ?_
   refine WX.see Z Z Z (fun _ hΓ => looks_arith Z Z Z Z τ2) ?_
   refine R0 ?_
   refine WX.turn [19] 4 Z (fun _ h => h) Z ?_
   exact WX.iter (i - 1, p4, c2, (a0c (Name.mk n_) u7).1.parts, u8, u9) ⟨τ6, (ok_Name hq5), hq4.2.1, hq4.2.2, τ1, (by rw [v6]; rw [a1r]; simp only [h1, h1d, hu3, cT, cF, ↓reduceIte, Bool.false_eq_true])⟩ τ4 (.cons Z (.cons Z (.cons Z (.cons Z (.nil))))) (.cons Z (.cons Z (.cons Z (.nil)))) .nil [0, 4] Z
  refine TS.op 3 Z J ?_
  refine WX.turn [] 20 Z (fun h hs => one_sep (⟨(), _, emp, _, Z, emp_le _, Le.refl _, emp_dj _, trivial, ⟨(), _, emp, _, Z, emp_le _, Le.refl _, emp_dj _, trivial, ⟨(), _, emp, _, Z, emp_le _, Le.refl _, emp_dj _, trivial, ⟨(), _, emp, _, Z, emp_le _, Le.refl _, emp_dj _, trivial, ⟨(), _, emp, _, Z, emp_le _, Le.refl _, emp_dj _, trivial, ⟨(), _, emp, _, Z, emp_le _, Le.refl _, emp_dj _, trivial, Z⟩⟩⟩⟩⟩⟩ : OwL _ _ ([(⟨#[97]⟩ : Str), (⟨#[98]⟩ : Str), (⟨#[110, 101, 119, 115]⟩ : Str), (⟨#[120, 45, 49]⟩ : Str), (⟨#[49]⟩ : Str), (⟨#[107, 101, 121]⟩ : Str)] : List Str))) (gs := [MF.ol [.string (⟨#[97]⟩ : Str), .string (⟨#[98]⟩ : Str), .string (⟨#[110, 101, 119, 115]⟩ : Str), .string (⟨#[120, 45, 49]⟩ : Str), .string (⟨#[49]⟩ : Str), .string (⟨#[107, 101, 121]⟩ : Str)] ([(⟨#[97]⟩ : Str), (⟨#[98]⟩ : Str), (⟨#[110, 101, 119, 115]⟩ : Str), (⟨#[120, 45, 49]⟩ : Str), (⟨#[49]⟩ : Str), (⟨#[107, 101, 121]⟩ : Str)] : List Str)]) Z ?_
  refine WX.seal 15 20 21 Z Z Z Z Z ?_
  have r13 : (⟨#[97]⟩ : Str).size = 1 := rfl
  have r14 : (⟨#[98]⟩ : Str).size = 1 := rfl
  have r15 : (⟨#[110, 101, 119, 115]⟩ : Str).size = 4 := rfl
  have r16 : (⟨#[120, 45, 49]⟩ : Str).size = 3 := rfl
  have r17 : (⟨#[49]⟩ : Str).size = 1 := rfl
  have r18 : (⟨#[107, 101, 121]⟩ : Str).size = 3 := rfl
  obtain ⟨⟨u10, u11, u12⟩, hu4⟩ := xE (a0z c_b u999_i u999_h ([(⟨#[97]⟩ : Str), (⟨#[98]⟩ : Str), (⟨#[110, 101, 119, 115]⟩ : Str), (⟨#[120, 45, 49]⟩ : Str), (⟨#[49]⟩ : Str), (⟨#[107, 101, 121]⟩ : Str)]))
  refine CP 999 23 Z Z Z Z Z Z O Z (fun w β H η σ γ => f63 w n τ1 H η (β 999) c_b K0 M0 (γ.q 0 Z) u999_i u999_h ([(⟨#[97]⟩ : Str), (⟨#[98]⟩ : Str), (⟨#[110, 101, 119, 115]⟩ : Str), (⟨#[120, 45, 49]⟩ : Str), (⟨#[49]⟩ : Str), (⟨#[107, 101, 121]⟩ : Str)]) p3 6 (γ.q 21 Z) σ hokc_b v3 v4 τ8 (okl_mk τ3 (all_cons (α := Str) (Nat.le_trans τ9 (bd_pos n)) (all_cons (α := Str) (Nat.le_trans τ9 (bd_pos n)) (all_cons (α := Str) (Nat.le_trans τ9 (bd_pos n)) (all_cons (α := Str) (Nat.le_trans τ9 (bd_pos n)) (all_cons (α := Str) (Nat.le_trans τ9 (bd_pos n)) (all_cons (α := Str) (Nat.le_trans τ9 (bd_pos n)) (fun a ha => by cases ha))))))) : GoT.ok n ([(⟨#[97]⟩ : Str), (⟨#[98]⟩ : Str), (⟨#[110, 101, 119, 115]⟩ : Str), (⟨#[120, 45, 49]⟩ : Str), (⟨#[49]⟩ : Str), (⟨#[107, 101, 121]⟩ : Str)] : List Str)) u10 u11 u12 hu4) ?_
  rintro ⟨⟩ hq6
  refine R0 ?_
  refine WX.back0 ?_
  refine TX.all1 0 J ?_
  refine TS.op 0 Z J ?_
  refine R0 ?_
  refine WX.back0 ?_
  refine TX.all1 4 J ?_
  refine TS.der 24 (MF.rs .der pn_ cn_ n_) Z (fun _ hΓ => (hΓ.get 4 Z : OwSl _ _ _ _).rd) ?_
  refine TSF 4 25 Z Z Z Z Z Z O Z (fun w γ => f64 w n τ1 (Name.mk n_) pn_ cn_ (γ.q 24 Z) u10 (okl_of v2) hq6.1) ?_
  rintro ⟨p5, c3⟩ hq7
  have q4 := aP_len (Name.mk n_) u10
  try dsimp only at q4
  refine TX.all1 5 J ?_
  refine TS.op 5 Z J ?_
  refine R0 ?_
  refine WX.back0 ?_
  refine TX.all2 6 7 J ?_ ?_
  ·skip
   refine TS.op 6 Z J ?_
   refine R0 ?_
   refine WX.back0 ?_
   refine TX.all2 7 8 J ?_ ?_
   ·skip
    refine TS.op 7 Z J ?_
    refine R0 ?_
    refine WX.back0 ?_
    refine TX.tail [8] Z Z J ?_
    refine R0 ?_
    refine WX.see Z Z Z (fun _ hΓ => looks_arith Z Z Z Z τ2) ?_
    refine R0 ?_
    refine WX.turn [26] 4 Z (fun _ h => h) Z ?_
    exact WX.iter (i - 1, p5, c3, (a0c (Name.mk n_) u10).1.parts, u11, u12) ⟨τ6, (ok_Name hq7), hq6.2.1, hq6.2.2, τ1, (by rw [v6]; rw [a1r]; simp only [h1, h1d, hu4, cT, cF, ↓reduceIte, Bool.false_eq_true])⟩ τ4 (.cons Z (.cons Z (.cons Z (.cons Z (.nil))))) (.cons Z (.cons Z (.cons Z (.nil)))) .nil [0, 4] Z
   refine TS.op 8 Z J ?_
   refine R0 ?_
   refine WX.back0 ?_
   refine TX.tail [7] Z Z J ?_
   refine R0 ?_
   refine WX.see Z Z Z (fun _ hΓ => looks_arith Z Z Z Z τ2) ?_
   refine R0 ?_
   refine WX.turn [26] 4 Z (fun _ h => h) Z ?_
   exact WX.iter (i - 1, p5, c3, (a0c (Name.mk n_) u10).1.parts, u11, u12) ⟨τ6, (ok_Name hq7), hq6.2.1, hq6.2.2, τ1, (by rw [v6]; rw [a1r]; simp only [h1, h1d, hu4, cT, cF, ↓reduceIte, Bool.false_eq_true])⟩ τ4 (.cons Z (.cons Z (.cons Z (.cons Z (.nil))))) (.cons Z (.cons Z (.cons Z (.nil)))) .nil [0, 4] Z
  refine TS.op 7 Z J ?_
  refine R0 ?_
  refine WX.back0 ?_
  refine TX.tail [6, 8] Z Z J ?_
  refine R0 ?_
  refine WX.see Z Z Z (fun _ hΓ => looks_arith Z Z Z Z τ2) ?_
  refine R0 ?_
  refine WX.turn [26] 4 Z (fun _ h => h) Z ?_
  exact WX.iter (i - 1, p5, c3, (a0c (Name.mk n_) u10).1.parts, u11, u12) ⟨τ6, (ok_Name hq7), hq6.2.1, hq6.2.2, τ1, (by rw [v6]; rw [a1r]; simp only [h1, h1d, hu4, cT, cF, ↓reduceIte, Bool.false_eq_true])⟩ τ4 (.cons Z (.cons Z (.cons Z (.cons Z (.nil))))) (.cons Z (.cons Z (.cons Z (.nil)))) .nil [0, 4] Z
 have h1d := B.df h1
 refine R0 ?_
 have hX1 : a1r c_b u1 (([] : List Str) : List Str) u2 u3 = (i, ((n_) : List Str), u999_i, u999_h) := by rw [v6]; rw [a1r]; simp only [h1, h1d, cT, cF, ↓reduceIte, Bool.false_eq_true]
 have hP1 : a45 c_b c_i c_h = (Name.mk n_, u999_i, u999_h) := by simp only [a45, hu1, hX1, cT, cF]
 have hz1 := hP1.symm.trans hres
 obtain ⟨hz1, hz2⟩ := Prod.mk.inj hz1
 obtain ⟨hz2, hz3⟩ := Prod.mk.inj hz2
 subst hz1
 subst hz2
 subst hz3
 refine R1 ?_
 intro w1 G bs hI hΓ
 exact Post.ofL 999 [4] (pn_, cn_) hI hΓ Z Z Z (by rw [hI.pin _ rfl]; first | done | rfl) (⟨(okl_of v2), ⟨v3, v4⟩⟩)
theorem f42 (w : World) (n : Nat) (hn : n + 1 ≤ 9) (H : GH) (hH : Le H (hp w)) (bc_ : Nat) (c_b : (List UInt8)) (K0 M0) (N0 : RdSl (cut (hp w) H) K0 M0 c_b) (c_i : Int) (c_h : Int) (hown : Sep H [MF.bx bc_ 96 [.slice K0 ((c_b).length) M0, .int .i64 (c_i), .int .i64 (c_h)]]) (hokc_b : GoT.ok n c_b) (hokc_i : NN c_i) (hokc_h : GoT.ok n c_h) (o0_ : Name) (o1_ : Int) (o2_ : Int) (hres : a0t c_b c_i c_h = (o0_, o1_, o2_)) :
 Does Tryz.prog 42 #[.pointer (some ⟨bc_, 0, none⟩)] w H (Post w H (fun x : GoT.X (Name) => .agg ⟨GoT.sh (o0_ : Name) x⟩) (fun x => MF.bx bc_ 96 [.slice K0 ((c_b).length) M0, .int .i64 (o1_), .int .i64 (o2_)] :: GoT.oa (o0_ : Name) x) (GoT.ok n (o0_ : Name) ∧ NN (o1_) ∧ I64 (o2_))) := by
 have hb := bS1 hn
 have hc_bz : (c_b).length ≤ bd n := (okl hokc_b).1
 refine WX.enterP (tt := tt) (Γ := [(0, MF.rs .stb K0 M0 c_b)]) 1 Tryz.func42 Z J Z (allS_cons Z N0 allS_nil) hH hown (fun f hf => by cases hf) Z ?_
 refine R0 ?_
 obtain ⟨⟨u1, u2, u3⟩, hu1⟩ := xE (a45 c_b c_i c_h)
 refine CQ 999 2 Z Z Z Z Z Z O Z (fun w β H η σ γ => f72 w n τ1 H η (β 999) c_b K0 M0 (γ.q 0 Z) c_i c_h σ hokc_b hokc_i hokc_h u1 u2 u3 hu1) ?_
 rintro ⟨p1, c1⟩ hq1
 have q1 := l4Name_len c_b c_i c_h
 rw [hu1] at q1
 try dsimp only at q1
 refine R0 ?_
 obtain ⟨⟨u4, u5, u6⟩, hu2⟩ := xE (a0a c_b u2 u3 8)
 refine CP 999 4 Z Z Z Z Z Z O Z (fun w β H η σ γ => f41 w n τ1 H η (β 999) c_b K0 M0 (γ.q 0 Z) u2 u3 8 σ hokc_b hq1.2.1 hq1.2.2 (i6 8) u4 u5 u6 hu2) ?_
 rintro ⟨⟩ hq2
 have q2 := l1Below_rng c_b u2 u3 8
 rw [hu2] at q2
 try dsimp only at q2
 refine R0 ?_
 refine WX.cases 8 Z ?_ ?_ <;> intro h1
 ·skip
  have h1d := B.et h1
  refine R0 ?_
  refine WX.draw [1, 4, 6, 7, 8] mixed ?_
  intro bs G0 hΓ0
  refine DX.takes (fuel := 7) ttOk [(0, true), (2, true)] J Z ?_
  refine DX.toTX ?_
  intro S_
  refine TX.all2 1 3 J ?_ ?_
  ·skip
   refine TS.op 1 Z J ?_
   refine R0 ?_
   refine WX.back0 ?_
   refine TX.tail [3, 4, 5, 6, 7, 8] Z Z J ?_
   refine WX.bld ttOk Z Z Z Z Z Z Z ?_
   intro p2
   refine WX.turn [] 5 Z (fun h hs => one_sep (⟨(), _, emp, _, Z, emp_le _, Le.refl _, emp_dj _, trivial, ⟨(), _, emp, _, Z, emp_le _, Le.refl _, emp_dj _, trivial, ⟨(), _, emp, _, Z, emp_le _, Le.refl _, emp_dj _, trivial, ⟨(), _, emp, _, Z, emp_le _, Le.refl _, emp_dj _, trivial, ⟨(), _, emp, _, Z, emp_le _, Le.refl _, emp_dj _, trivial, ⟨(), _, emp, _, Z, emp_le _, Le.refl _, emp_dj _, trivial, Z⟩⟩⟩⟩⟩⟩ : OwL _ _ ([(⟨#[]⟩ : Str), (⟨#[65]⟩ : Str), (⟨#[116, 111, 111, 108, 111, 110, 103, 120, 120]⟩ : Str), (⟨#[97, 47, 98]⟩ : Str), (⟨#[32]⟩ : Str), (⟨#[101, 105, 103, 104, 116, 56, 56, 56]⟩ : Str)] : List Str))) (gs := [MF.ol [.string (⟨#[]⟩ : Str), .string (⟨#[65]⟩ : Str), .string (⟨#[116, 111, 111, 108, 111, 110, 103, 120, 120]⟩ : Str), .string (⟨#[97, 47, 98]⟩ : Str), .string (⟨#[32]⟩ : Str), .string (⟨#[101, 105, 103, 104, 116, 56, 56, 56]⟩ : Str)] ([(⟨#[]⟩ : Str), (⟨#[65]⟩ : Str), (⟨#[116, 111, 111, 108, 111, 110, 103, 120, 120]⟩ : Str), (⟨#[97, 47, 98]⟩ : Str), (⟨#[32]⟩ : Str), (⟨#[101, 105, 103, 104, 116, 56, 56, 56]⟩ : Str)] : List Str)]) Z ?_
   refine WX.seal 13 5 6 Z Z Z Z Z ?_
   have r1 : (⟨#[]⟩ : Str).size = 0 := rfl
   have r2 : (⟨#[65]⟩ : Str).size = 1 := rfl
   have r3 : (⟨#[116, 111, 111, 108, 111, 110, 103, 120, 120]⟩ : Str).size = 9 := rfl
   have r4 : (⟨#[97, 47, 98]⟩ : Str).size = 3 := rfl
   have r5 : (⟨#[32]⟩ : Str).size = 1 := rfl
   have r6 : (⟨#[101, 105, 103, 104, 116, 56, 56, 56]⟩ : Str).size = 8 := rfl
   obtain ⟨⟨u7, u8, u9⟩, hu3⟩ := xE (a0z c_b u5 u6 ([(⟨#[]⟩ : Str), (⟨#[65]⟩ : Str), (⟨#[116, 111, 111, 108, 111, 110, 103, 120, 120]⟩ : Str), (⟨#[97, 47, 98]⟩ : Str), (⟨#[32]⟩ : Str), (⟨#[101, 105, 103, 104, 116, 56, 56, 56]⟩ : Str)]))
   refine CP 999 8 Z Z Z Z Z Z O Z (fun w β H η σ γ => f63 w n τ1 H η (β 999) c_b K0 M0 (γ.q 0 Z) u5 u6 ([(⟨#[]⟩ : Str), (⟨#[65]⟩ : Str), (⟨#[116, 111, 111, 108, 111, 110, 103, 120, 120]⟩ : Str), (⟨#[97, 47, 98]⟩ : Str), (⟨#[32]⟩ : Str), (⟨#[101, 105, 103, 104, 116, 56, 56, 56]⟩ : Str)]) p2 6 (γ.q 6 Z) σ hokc_b hq2.2.1 hq2.2.2 τ8 (okl_mk τ3 (all_cons (α := Str) (Nat.le_trans τ9 (bd_pos n)) (all_cons (α := Str) (Nat.le_trans τ9 (bd_pos n)) (all_cons (α := Str) (Nat.le_trans τ9 (bd_pos n)) (all_cons (α := Str) (Nat.le_trans τ9 (bd_pos n)) (all_cons (α := Str) (Nat.le_trans τ9 (bd_pos n)) (all_cons (α := Str) (Nat.le_trans τ9 (bd_pos n)) (fun a ha => by cases ha))))))) : GoT.ok n ([(⟨#[]⟩ : Str), (⟨#[65]⟩ : Str), (⟨#[116, 111, 111, 108, 111, 110, 103, 120, 120]⟩ : Str), (⟨#[97, 47, 98]⟩ : Str), (⟨#[32]⟩ : Str), (⟨#[101, 105, 103, 104, 116, 56, 56, 56]⟩ : Str)] : List Str)) u7 u8 u9 hu3) ?_
   rintro ⟨⟩ hq3
   refine WX.bld ttOk Z Z Z Z Z Z Z ?_
   intro p3
   refine WX.opn (kk := 1) 501 3 9 Z Z Z ?_
   intro xs1 hx1
   refine WX.turn [] 10 Z (fun h hs => ol_one (α := Str) (a := u7) (x := ()) hs) (gs := [MF.ol [.string u7] ([u7] : List Str)]) Z ?_
   have r7 : (u1.parts).length ≤ bd n := (okl (ok_Name hq1.1)).1
   have r8 : (u7).size ≤ bd n := hq3.1
   refine WX.know (fun G hΓ => (hΓ.get 10 Z : OwL _ _ _).rd.one) ?_
   intro ho1
   refine WX.appR1 501 15 ((u1.parts ++ [u7]) : List Str).length ttOk Z Z Z Z Z Z Z Z Z Z Z Z Z ho1 τ11 τ3 τ3 (fun _ _ => Z) ?_
   intro p4 c2
   refine WX.turn [9, 10] 11 Z (fun h hs => ol_app hs) (gs := [MF.ol (xs1 ++ [.string u7]) ((u1.parts ++ [u7]) : List Str)]) Z ?_
   refine R0 ?_
   refine WX.seal 501 11 12 Z Z Z Z Z ?_
   have hP1 : a0t c_b c_i c_h = (Name.mk (u1.parts ++ [u7]), u8, u9) := by simp only [a0t, hu1, hu2, h1, hu3, cT, cF]
   have hz1 := hP1.symm.trans hres
   obtain ⟨hz1, hz2⟩ := Prod.mk.inj hz1
   obtain ⟨hz2, hz3⟩ := Prod.mk.inj hz2
   subst hz1
   subst hz2
   subst hz3
   refine R1 ?_
   intro w1 G bs hI hΓ
   exact Post.ofL 999 [13] (p4, c2) hI hΓ Z Z Z (by rw [hI.pin _ rfl]; first | done | rfl) (⟨(okl_mk τ3 (all_app (okl (ok_Name hq1.1)).2 (all_cons (α := Str) hq3.1 (fun a ha => by cases ha))) : GoT.ok n ((u1.parts ++ [u7]) : List Str)), ⟨hq3.2.1, hq3.2.2⟩⟩)
  refine TS.op 3 Z J ?_
  refine WX.bld ttOk Z Z Z Z Z Z Z ?_
  intro p5
  refine R0 ?_
  refine WX.back0 ?_
  refine TX.all2 1 4 J ?_ ?_
  ·skip
   refine TS.op 1 Z J ?_
   refine R0 ?_
   refine WX.back0 ?_
   refine TX.tail [4, 5, 6, 7, 8] Z Z J ?_
   refine WX.turn [] 14 Z (fun h hs => one_sep (⟨(), _, emp, _, Z, emp_le _, Le.refl _, emp_dj _, trivial, ⟨(), _, emp, _, Z, emp_le _, Le.refl _, emp_dj _, trivial, ⟨(), _, emp, _, Z, emp_le _, Le.refl _, emp_dj _, trivial, ⟨(), _, emp, _, Z, emp_le _, Le.refl _, emp_dj _, trivial, ⟨(), _, emp, _, Z, emp_le _, Le.refl _, emp_dj _, trivial, ⟨(), _, emp, _, Z, emp_le _, Le.refl _, emp_dj _, trivial, Z⟩⟩⟩⟩⟩⟩ : OwL _ _ ([(⟨#[]⟩ : Str), (⟨#[65]⟩ : Str), (⟨#[116, 111, 111, 108, 111, 110, 103, 120, 120]⟩ : Str), (⟨#[97, 47, 98]⟩ : Str), (⟨#[32]⟩ : Str), (⟨#[101, 105, 103, 104, 116, 56, 56, 56]⟩ : Str)] : List Str))) (gs := [MF.ol [.string (⟨#[]⟩ : Str), .string (⟨#[65]⟩ : Str), .string (⟨#[116, 111, 111, 108, 111, 110, 103, 120, 120]⟩ : Str), .string (⟨#[97, 47, 98]⟩ : Str), .string (⟨#[32]⟩ : Str), .string (⟨#[101, 105, 103, 104, 116, 56, 56, 56]⟩ : Str)] ([(⟨#[]⟩ : Str), (⟨#[65]⟩ : Str), (⟨#[116, 111, 111, 108, 111, 110, 103, 120, 120]⟩ : Str), (⟨#[97, 47, 98]⟩ : Str), (⟨#[32]⟩ : Str), (⟨#[101, 105, 103, 104, 116, 56, 56, 56]⟩ : Str)] : List Str)]) Z ?_
   refine WX.seal 13 14 15 Z Z Z Z Z ?_
   have r9 : (⟨#[]⟩ : Str).size = 0 := rfl
   have r10 : (⟨#[65]⟩ : Str).size = 1 := rfl
   have r11 : (⟨#[116, 111, 111, 108, 111, 110, 103, 120, 120]⟩ : Str).size = 9 := rfl
   have r12 : (⟨#[97, 47, 98]⟩ : Str).size = 3 := rfl
   have r13 : (⟨#[32]⟩ : Str).size = 1 := rfl
   have r14 : (⟨#[101, 105, 103, 104, 116, 56, 56, 56]⟩ : Str).size = 8 := rfl
   obtain ⟨⟨u10, u11, u12⟩, hu4⟩ := xE (a0z c_b u5 u6 ([(⟨#[]⟩ : Str), (⟨#[65]⟩ : Str), (⟨#[116, 111, 111, 108, 111, 110, 103, 120, 120]⟩ : Str), (⟨#[97, 47, 98]⟩ : Str), (⟨#[32]⟩ : Str), (⟨#[101, 105, 103, 104, 116, 56, 56, 56]⟩ : Str)]))
   refine CP 999 17 Z Z Z Z Z Z O Z (fun w β H η σ γ => f63 w n τ1 H η (β 999) c_b K0 M0 (γ.q 0 Z) u5 u6 ([(⟨#[]⟩ : Str), (⟨#[65]⟩ : Str), (⟨#[116, 111, 111, 108, 111, 110, 103, 120, 120]⟩ : Str), (⟨#[97, 47, 98]⟩ : Str), (⟨#[32]⟩ : Str), (⟨#[101, 105, 103, 104, 116, 56, 56, 56]⟩ : Str)]) p5 6 (γ.q 15 Z) σ hokc_b hq2.2.1 hq2.2.2 τ8 (okl_mk τ3 (all_cons (α := Str) (Nat.le_trans τ9 (bd_pos n)) (all_cons (α := Str) (Nat.le_trans τ9 (bd_pos n)) (all_cons (α := Str) (Nat.le_trans τ9 (bd_pos n)) (all_cons (α := Str) (Nat.le_trans τ9 (bd_pos n)) (all_cons (α := Str) (Nat.le_trans τ9 (bd_pos n)) (all_cons (α := Str) (Nat.le_trans τ9 (bd_pos n)) (fun a ha => by cases ha))))))) : GoT.ok n ([(⟨#[]⟩ : Str), (⟨#[65]⟩ : Str), (⟨#[116, 111, 111, 108, 111, 110, 103, 120, 120]⟩ : Str), (⟨#[97, 47, 98]⟩ : Str), (⟨#[32]⟩ : Str), (⟨#[101, 105, 103, 104, 116, 56, 56, 56]⟩ : Str)] : List Str)) u10 u11 u12 hu4) ?_
   rintro ⟨⟩ hq4
   refine WX.bld ttOk Z Z Z Z Z Z Z ?_
   intro p6
   refine WX.opn (kk := 1) 502 3 18 Z Z Z ?_
   intro xs2 hx2
   refine WX.turn [] 19 Z (fun h hs => ol_one (α := Str) (a := u10) (x := ()) hs) (gs := [MF.ol [.string u10] ([u10] : List Str)]) Z ?_
   have r15 : (u1.parts).length ≤ bd n := (okl (ok_Name hq1.1)).1
   have r16 : (u10).size ≤ bd n := hq4.1
   refine WX.know (fun G hΓ => (hΓ.get 19 Z : OwL _ _ _).rd.one) ?_
   intro ho2
   refine WX.appR1 502 15 ((u1.parts ++ [u10]) : List Str).length ttOk Z Z Z Z Z Z Z Z Z Z Z Z Z ho2 τ11 τ3 τ3 (fun _ _ => Z) ?_
   intro p7 c3
   refine WX.turn [18, 19] 20 Z (fun h hs => ol_app hs) (gs := [MF.ol (xs2 ++ [.string u10]) ((u1.parts ++ [u10]) : List Str)]) Z ?_
   refine R0 ?_
   refine WX.seal 502 20 21 Z Z Z Z Z ?_
   have hP2 : a0t c_b c_i c_h = (Name.mk (u1.parts ++ [u10]), u11, u12) := by simp only [a0t, hu1, hu2, h1, hu4, cT, cF]
   have hz1 := hP2.symm.trans hres
   obtain ⟨hz1, hz2⟩ := Prod.mk.inj hz1
   obtain ⟨hz2, hz3⟩ := Prod.mk.inj hz2
   subst hz1
   subst hz2
   subst hz3
   refine R1 ?_
   intro w1 G bs hI hΓ
   exact Post.ofL 999 [22] (p7, c3) hI hΓ Z Z Z (by rw [hI.pin _ rfl]; first | done | rfl) (⟨(okl_mk τ3 (all_app (okl (ok_Name hq1.1)).2 (all_cons (α := Str) hq4.1 (fun a ha => by cases ha))) : GoT.ok n ((u1.parts ++ [u10]) : List Str)), ⟨hq4.2.1, hq4.2.2⟩⟩)
  refine TS.op 4 Z J ?_
  refine WX.turn [] 23 Z (fun h hs => one_sep (⟨(), _, emp, _, Z, emp_le _, Le.refl _, emp_dj _, trivial, ⟨(), _, emp, _, Z, emp_le _, Le.refl _, emp_dj _, trivial, ⟨(), _, emp, _, Z, emp_le _, Le.refl _, emp_dj _, trivial, ⟨(), _, emp, _, Z, emp_le _, Le.refl _, emp_dj _, trivial, ⟨(), _, emp, _, Z, emp_le _, Le.refl _, emp_dj _, trivial, ⟨(), _, emp, _, Z, emp_le _, Le.refl _, emp_dj _, trivial, Z⟩⟩⟩⟩⟩⟩ : OwL _ _ ([(⟨#[]⟩ : Str), (⟨#[65]⟩ : Str), (⟨#[116, 111, 111, 108, 111, 110, 103, 120, 120]⟩ : Str), (⟨#[97, 47, 98]⟩ : Str), (⟨#[32]⟩ : Str), (⟨#[101, 105, 103, 104, 116, 56, 56, 56]⟩ : Str)] : List Str))) (gs := [MF.ol [.string (⟨#[]⟩ : Str), .string (⟨#[65]⟩ : Str), .string (⟨#[116, 111, 111, 108, 111, 110, 103, 120, 120]⟩ : Str), .string (⟨#[97, 47, 98]⟩ : Str), .string (⟨#[32]⟩ : Str), .string (⟨#[101, 105, 103, 104, 116, 56, 56, 56]⟩ : Str)] ([(⟨#[]⟩ : Str), (⟨#[65]⟩ : Str), (⟨#[116, 111, 111, 108, 111, 110, 103, 120, 120]⟩ : Str), (⟨#[97, 47, 98]⟩ : Str), (⟨#[32]⟩ : Str), (⟨#[101, 105, 103, 104, 116, 56, 56, 56]⟩ : Str)] : List Str)]) Z ?_
  refine WX.seal 13 23 24 Z Z Z Z Z ?_
  have r17 : (⟨#[]⟩ : Str).size = 0 := rfl
  have r18 : (⟨#[65]⟩ : Str).size = 1 := rfl
  have r19 : (⟨#[116, 111, 111, 108, 111, 110, 103, 120, 120]⟩ : Str).size = 9 := rfl
  have r20 : (⟨#[97, 47, 98]⟩ : Str).size = 3 := rfl
  have r21 : (⟨#[32]⟩ : Str).size = 1 := rfl
  have r22 : (⟨#[101, 105, 103, 104, 116, 56, 56, 56]⟩ : Str).size = 8 := rfl
  obtain ⟨⟨u13, u14, u15⟩, hu5⟩ := xE (a0z c_b u5 u6 ([(⟨#[]⟩ : Str), (⟨#[65]⟩ : Str), (⟨#[116, 111, 111, 108, 111, 110, 103, 120, 120]⟩ : Str), (⟨#[97, 47, 98]⟩ : Str), (⟨#[32]⟩ : Str), (⟨#[101, 105, 103, 104, 116, 56, 56, 56]⟩ : Str)]))
  refine CP 999 26 Z Z Z Z Z Z O Z (fun w β H η σ γ => f63 w n τ1 H η (β 999) c_b K0 M0 (γ.q 0 Z) u5 u6 ([(⟨#[]⟩ : Str), (⟨#[65]⟩ : Str), (⟨#[116, 111, 111, 108, 111, 110, 103, 120, 120]⟩ : Str), (⟨#[97, 47, 98]⟩ : Str), (⟨#[32]⟩ : Str), (⟨#[101, 105, 103, 104, 116, 56, 56, 56]⟩ : Str)]) p5 6 (γ.q 24 Z) σ hokc_b hq2.2.1 hq2.2.2 τ8 (okl_mk τ3 (all_cons (α := Str) (Nat.le_trans τ9 (bd_pos n)) (all_cons (α := Str) (Nat.le_trans τ9 (bd_pos n)) (all_cons (α := Str) (Nat.le_trans τ9 (bd_pos n)) (all_cons (α := Str) (Nat.le_trans τ9 (bd_pos n)) (all_cons (α := Str) (Nat.le_trans τ9 (bd_pos n)) (all_cons (α := Str) (Nat.le_trans τ9 (bd_pos n)) (fun a ha => by cases ha))))))) : GoT.ok n ([(⟨#[]⟩ : Str), (⟨#[65]⟩ : Str), (⟨#[116, 111, 111, 108, 111, 110, 103, 120, 120]⟩ : Str), (⟨#[97, 47, 98]⟩ : Str), (⟨#[32]⟩ : Str), (⟨#[101, 105, 103, 104, 116, 56, 56, 56]⟩ : Str)] : List Str)) u13 u14 u15 hu5) ?_
  rintro ⟨⟩ hq5
  refine R0 ?_
  refine WX.back0 ?_
  refine TX.all2 1 5 J ?_ ?_
  ·skip
   refine TS.op 1 Z J ?_
   refine R0 ?_
   refine WX.back0 ?_
   refine TX.tail [5, 6, 7, 8] Z Z J ?_
   refine WX.bld ttOk Z Z Z Z Z Z Z ?_
   intro p8
   refine WX.opn (kk := 1) 503 3 27 Z Z Z ?_
   intro xs3 hx3
   refine WX.turn [] 28 Z (fun h hs => ol_one (α := Str) (a := u13) (x := ()) hs) (gs := [MF.ol [.string u13] ([u13] : List Str)]) Z ?_
   have r23 : (u1.parts).length ≤ bd n := (okl (ok_Name hq1.1)).1
   have r24 : (u13).size ≤ bd n := hq5.1
   refine WX.know (fun G hΓ => (hΓ.get 28 Z : OwL _ _ _).rd.one) ?_
   intro ho3
   refine WX.appR1 503 15 ((u1.parts ++ [u13]) : List Str).length ttOk Z Z Z Z Z Z Z Z Z Z Z Z Z ho3 τ11 τ3 τ3 (fun _ _ => Z) ?_
   intro p9 c4
   refine WX.turn [27, 28] 29 Z (fun h hs => ol_app hs) (gs := [MF.ol (xs3 ++ [.string u13]) ((u1.parts ++ [u13]) : List Str)]) Z ?_
   refine R0 ?_
   refine WX.seal 503 29 30 Z Z Z Z Z ?_
   have hP3 : a0t c_b c_i c_h = (Name.mk (u1.parts ++ [u13]), u14, u15) := by simp only [a0t, hu1, hu2, h1, hu5, cT, cF]
   have hz1 := hP3.symm.trans hres
   obtain ⟨hz1, hz2⟩ := Prod.mk.inj hz1
   obtain ⟨hz2, hz3⟩ := Prod.mk.inj hz2
   subst hz1
   subst hz2
   subst hz3
   refine R1 ?_
   intro w1 G bs hI hΓ
   exact Post.ofL 999 [31] (p9, c4) hI hΓ Z Z Z (by rw [hI.pin _ rfl]; first | done | rfl) (⟨(okl_mk τ3 (all_app (okl (ok_Name hq1.1)).2 (all_cons (α := Str) hq5.1 (fun a ha => by cases ha))) : GoT.ok n ((u1.parts ++ [u13]) : List Str)), ⟨hq5.2.1, hq5.2.2⟩⟩)
  refine TS.op 5 Z J ?_
  refine WX.bld ttOk Z Z Z Z Z Z Z ?_
  intro p10
  refine R0 ?_
  refine WX.back0 ?_
  refine TX.tail [1, 6, 7, 8] Z Z J ?_
  refine R0 ?_
  refine WX.opn (kk := 1) 504 3 32 Z Z Z ?_
  intro xs4 hx4
  refine WX.turn [] 33 Z (fun h hs => ol_one (α := Str) (a := u13) (x := ()) hs) (gs := [MF.ol [.string u13] ([u13] : List Str)]) Z ?_
  have r25 : (u1.parts).length ≤ bd n := (okl (ok_Name hq1.1)).1
  have r26 : (u13).size ≤ bd n := hq5.1
  refine WX.know (fun G hΓ => (hΓ.get 33 Z : OwL _ _ _).rd.one) ?_
  intro ho4
  refine WX.appR1 504 15 ((u1.parts ++ [u13]) : List Str).length ttOk Z Z Z Z Z Z Z Z Z Z Z Z Z ho4 τ11 τ3 τ3 (fun _ _ => Z) ?_
  intro p11 c5
  refine WX.turn [32, 33] 34 Z (fun h hs => ol_app hs) (gs := [MF.ol (xs4 ++ [.string u13]) ((u1.parts ++ [u13]) : List Str)]) Z ?_
  refine R0 ?_
  refine WX.seal 504 34 35 Z Z Z Z Z ?_
  have hP4 : a0t c_b c_i c_h = (Name.mk (u1.parts ++ [u13]), u14, u15) := by simp only [a0t, hu1, hu2, h1, hu5, cT, cF]
  have hz1 := hP4.symm.trans hres
  obtain ⟨hz1, hz2⟩ := Prod.mk.inj hz1
  obtain ⟨hz2, hz3⟩ := Prod.mk.inj hz2
  subst hz1
  subst hz2
  subst hz3
  refine R1 ?_
  intro w1 G bs hI hΓ
  exact Post.ofL 999 [36] (p11, c5) hI hΓ Z Z Z (by rw [hI.pin _ rfl]; first | done | rfl) (⟨(okl_mk τ3 (all_app (okl (ok_Name hq1.1)).2 (all_cons (α := Str) hq5.1 (fun a ha => by cases ha))) : GoT.ok n ((u1.parts ++ [u13]) : List Str)), ⟨hq5.2.1, hq5.2.2⟩⟩)
 have h1d := B.ef h1
 refine R0 ?_
 refine WX.cases 18 Z ?_ ?_ <;> intro h2
 ·skip
  have h2d := B.et h2
  refine R0 ?_
  refine WX.loop (ι := (Option Addr) × Nat × (List Str) × Int × Int) ⟨fun | (pn_, cn_, n_, u999_i, u999_h) => (n_.length ≤ bd n ∧ ∀ z_ ∈ n_, GoT.ok n z_) ∧ (NN u999_i) ∧ (-9223372036854775808 ≤ u999_h ∧ u999_h ≤ 9223372036854775807) ∧ (n_.length ≤ 7) ∧ (a14 c_b (u1.parts : List Str) u5 u6 = a14 c_b n_ u999_i u999_h), fun | (pn_, cn_, n_, u999_i, u999_h) => 7 - n_.length, fun | (pn_, cn_, n_, u999_i, u999_h) => [(3, .p 3 0), (2, .p 2 0), (0, .p 999 0)], fun | (pn_, cn_, n_, u999_i, u999_h) => [(3, ⟨26, [.slice pn_ ((n_).length) cn_]⟩), (2, ⟨26, [.slice none (0) 0]⟩), (999, ⟨96, [.slice K0 ((c_b).length) M0, .int .i64 (u999_i), .int .i64 (u999_h)]⟩)], fun | (pn_, cn_, n_, u999_i, u999_h) => [], fun | (pn_, cn_, n_, u999_i, u999_h) => [(0, MF.rs .stb K0 M0 c_b), (3, MF.os pn_ cn_ n_)]⟩ (p1, c1, (u1.parts : List Str), u5, u6) ⟨(ok_Name hq1.1), hq2.2.1, hq2.2.2, τ1, Z⟩
   (.cons Z (.cons Z (.cons Z (.nil)))) (.cons Z (.cons Z (.cons Z (.nil)))) .nil [0, 3] Z ?_
  rintro ⟨pn_, cn_, n_, u999_i, u999_h⟩ ⟨v1, v2, v3, v4, v5⟩
  have v1L := v1.1
  refine R0 ?_
  refine WX.der 37 (MF.rs .der pn_ cn_ n_) Z (fun _ hΓ => (hΓ.get 3 Z : OwSl _ _ _ _).rd) ?_
  refine WX.draw [1, 2, 4, 5, 6] mixed ?_
  intro bs G0 hΓ0
  refine DX.takes (fuel := 5) ttOk [(0, true), (3, true)] J Z ?_
  refine DX.toTX ?_
  intro S_
  refine TX.all2 1 4 J ?_ ?_
  ·skip
   refine TS.op 1 Z J ?_
   refine R0 ?_
   refine WX.back0 ?_
   refine TX.all2 2 4 J ?_ ?_
   ·skip
    refine TS.op 2 Z J ?_
    refine R0 ?_
    refine WX.back0 ?_
    refine TX.tail [4, 5, 6] Z Z J ?_
    obtain ⟨⟨u16, u17, u18⟩, hu6⟩ := xE (a0a c_b u999_i u999_h 3)
    refine CP 999 38 Z Z Z Z Z Z O Z (fun w β H η σ γ => f41 w n τ1 H η (β 999) c_b K0 M0 (γ.q 0 Z) u999_i u999_h 3 σ hokc_b v2 v3 (i6 3) u16 u17 u18 hu6) ?_
    rintro ⟨⟩ hq6
    have q3 := l1Below_rng c_b u999_i u999_h 3
    rw [hu6] at q3
    try dsimp only at q3
    have r27 : -9223372036854775808 ≤ u16 ∧ u16 ≤ 9223372036854775807 := hq6.1
    refine WX.see Z Z Z (fun _ hΓ => looks_arith Z Z Z Z τ2) ?_
    refine R0 ?_
    refine WX.cases 26 Z ?_ ?_ <;> intro h3
    ·skip
     have h3d := B.dt h3
     refine R0 ?_
     refine WX.bld ttOk Z Z Z Z Z Z Z ?_
     intro p12
     refine WX.opn (kk := 1) 505 3 39 Z Z Z ?_
     intro xs5 hx5
     refine WX.turn [] 40 Z (fun h hs => ol_one (α := Str) (a := (⟨#[109]⟩ : Str)) (x := ()) hs) (gs := [MF.ol [.string (⟨#[109]⟩ : Str)] ([(⟨#[109]⟩ : Str)] : List Str)]) Z ?_
     have r28 : (⟨#[109]⟩ : Str).size = 1 := rfl
     refine WX.know (fun G hΓ => (hΓ.get 40 Z : OwL _ _ _).rd.one) ?_
     intro ho5
     refine WX.appR1 505 29 ((n_ ++ [(⟨#[109]⟩ : Str)]) : List Str).length ttOk Z Z Z Z Z Z Z Z Z Z Z Z Z ho5 τ11 τ3 τ3 (fun _ _ => Z) ?_
     intro p13 c6
     refine WX.turn [39, 40] 41 Z (fun h hs => ol_app hs) (gs := [MF.ol (xs5 ++ [.string (⟨#[109]⟩ : Str)]) ((n_ ++ [(⟨#[109]⟩ : Str)]) : List Str)]) Z ?_
     refine R0 ?_
     refine WX.seal 505 41 42 Z Z Z Z Z ?_
     refine WX.turn [43] 3 Z (fun _ h => h) Z ?_
     exact WX.iter (p13, c6, (n_ ++ [(⟨#[109]⟩ : Str)]), u17, u18) ⟨(okl_mk τ3 (all_app v1.2 (all_cons (α := Str) (Nat.le_trans τ9 (bd_pos n)) (fun a ha => by cases ha))) : GoT.ok n ((n_ ++ [(⟨#[109]⟩ : Str)]) : List Str)), hq6.2.1, hq6.2.2, τ5, (by rw [v5]; rw [a14]; simp only [hu6, h3, h3d, cT, cF, ↓reduceIte, Bool.false_eq_true])⟩ τ10 (.cons Z (.cons Z (.cons Z (.nil)))) (.cons Z (.cons Z (.cons Z (.nil)))) .nil [0, 3] Z
    have h3d := B.df h3
    refine R0 ?_
    have hX1 : a14 c_b (u1.parts : List Str) u5 u6 = (((n_) : List Str), u17, u18) := by rw [v5]; rw [a14]; simp only [hu6, h3, h3d, cT, cF, ↓reduceIte, Bool.false_eq_true]
    have hP5 : a0t c_b c_i c_h = (Name.mk n_, u17, u18) := by simp only [a0t, hu1, hu2, h1, h2, hX1, cT, cF]
    have hz1 := hP5.symm.trans hres
    obtain ⟨hz1, hz2⟩ := Prod.mk.inj hz1
    obtain ⟨hz2, hz3⟩ := Prod.mk.inj hz2
    subst hz1
    subst hz2
    subst hz3
    refine R1 ?_
    intro w1 G bs hI hΓ
    exact Post.ofL 999 [3] (pn_, cn_) hI hΓ Z Z Z (by rw [hI.pin _ rfl]; first | done | rfl) (⟨(okl_of v1), ⟨hq6.2.1, hq6.2.2⟩⟩)
   refine TS.op 4 Z J ?_
   obtain ⟨⟨u19, u20, u21⟩, hu7⟩ := xE (a0a c_b u999_i u999_h 3)
   refine CP 999 44 Z Z Z Z Z Z O Z (fun w β H η σ γ => f41 w n τ1 H η (β 999) c_b K0 M0 (γ.q 0 Z) u999_i u999_h 3 σ hokc_b v2 v3 (i6 3) u19 u20 u21 hu7) ?_
   rintro ⟨⟩ hq7
   have q4 := l1Below_rng c_b u999_i u999_h 3
   rw [hu7] at q4
   try dsimp only at q4
   refine R0 ?_
   refine WX.back0 ?_
   refine TX.all2 2 5 J ?_ ?_
   ·skip
    refine TS.op 2 Z J ?_
    refine R0 ?_
    refine WX.back0 ?_
    refine TX.tail [5, 6] Z Z J ?_
    have r29 : -9223372036854775808 ≤ u19 ∧ u19 ≤ 9223372036854775807 := hq7.1
    refine WX.see Z Z Z (fun _ hΓ => looks_arith Z Z Z Z τ2) ?_
    refine R0 ?_
    refine WX.cases 26 Z ?_ ?_ <;> intro h4
    ·skip
     have h4d := B.dt h4
     refine R0 ?_
     refine WX.bld ttOk Z Z Z Z Z Z Z ?_
     intro p14
     refine WX.opn (kk := 1) 506 3 45 Z Z Z ?_
     intro xs6 hx6
     refine WX.turn [] 46 Z (fun h hs => ol_one (α := Str) (a := (⟨#[109]⟩ : Str)) (x := ()) hs) (gs := [MF.ol [.string (⟨#[109]⟩ : Str)] ([(⟨#[109]⟩ : Str)] : List Str)]) Z ?_
     have r30 : (⟨#[109]⟩ : Str).size = 1 := rfl
     refine WX.know (fun G hΓ => (hΓ.get 46 Z : OwL _ _ _).rd.one) ?_
     intro ho6
     refine WX.appR1 506 29 ((n_ ++ [(⟨#[109]⟩ : Str)]) : List Str).length ttOk Z Z Z Z Z Z Z Z Z Z Z Z Z ho6 τ11 τ3 τ3 (fun _ _ => Z) ?_
     intro p15 c7
     refine WX.turn [45, 46] 47 Z (fun h hs => ol_app hs) (gs := [MF.ol (xs6 ++ [.string (⟨#[109]⟩ : Str)]) ((n_ ++ [(⟨#[109]⟩ : Str)]) : List Str)]) Z ?_
     refine R0 ?_
     refine WX.seal 506 47 48 Z Z Z Z Z ?_
     refine WX.turn [49] 3 Z (fun _ h => h) Z ?_
     exact WX.iter (p15, c7, (n_ ++ [(⟨#[109]⟩ : Str)]), u20, u21) ⟨(okl_mk τ3 (all_app v1.2 (all_cons (α := Str) (Nat.le_trans τ9 (bd_pos n)) (fun a ha => by cases ha))) : GoT.ok n ((n_ ++ [(⟨#[109]⟩ : Str)]) : List Str)), hq7.2.1, hq7.2.2, τ5, (by rw [v5]; rw [a14]; simp only [hu7, h4, h4d, cT, cF, ↓reduceIte, Bool.false_eq_true])⟩ τ10 (.cons Z (.cons Z (.cons Z (.nil)))) (.cons Z (.cons Z (.cons Z (.nil)))) .nil [0, 3] Z
    have h4d := B.df h4
    refine R0 ?_
    have hX2 : a14 c_b (u1.parts : List Str) u5 u6 = (((n_) : List Str), u20, u21) := by rw [v5]; rw [a14]; simp only [hu7, h4, h4d, cT, cF, ↓reduceIte, Bool.false_eq_true]
    have hP6 : a0t c_b c_i c_h = (Name.mk n_, u20, u21) := by simp only [a0t, hu1, hu2, h1, h2, hX2, cT, cF]
    have hz1 := hP6.symm.trans hres
    obtain ⟨hz1, hz2⟩ := Prod.mk.inj hz1
    obtain ⟨hz2, hz3⟩ := Prod.mk.inj hz2
    subst hz1
    subst hz2
    subst hz3
    refine R1 ?_
    intro w1 G bs hI hΓ
    exact Post.ofL 999 [3] (pn_, cn_) hI hΓ Z Z Z (by rw [hI.pin _ rfl]; first | done | rfl) (⟨(okl_of v1), ⟨hq7.2.1, hq7.2.2⟩⟩)
   refine TS.op 5 Z J ?_
   have r31 : -9223372036854775808 ≤ u19 ∧ u19 ≤ 9223372036854775807 := hq7.1
   refine WX.see Z Z Z (fun _ hΓ => looks_arith Z Z Z Z τ2) ?_
   refine R0 ?_
   refine WX.back0 ?_
   refine TX.tail [2, 6] Z Z J ?_
   refine R0 ?_
   refine WX.cases 26 Z ?_ ?_ <;> intro h5
   ·skip
    have h5d := B.dt h5
    refine R0 ?_
    refine WX.bld ttOk Z Z Z Z Z Z Z ?_
    intro p16
    refine WX.opn (kk := 1) 507 3 50 Z Z Z ?_
    intro xs7 hx7
    refine WX.turn [] 51 Z (fun h hs => ol_one (α := Str) (a := (⟨#[109]⟩ : Str)) (x := ()) hs) (gs := [MF.ol [.string (⟨#[109]⟩ : Str)] ([(⟨#[109]⟩ : Str)] : List Str)]) Z ?_
    have r32 : (⟨#[109]⟩ : Str).size = 1 := rfl
    refine WX.know (fun G hΓ => (hΓ.get 51 Z : OwL _ _ _).rd.one) ?_
    intro ho7
    refine WX.appR1 507 29 ((n_ ++ [(⟨#[109]⟩ : Str)]) : List Str).length ttOk Z Z Z Z Z Z Z Z Z Z Z Z Z ho7 τ11 τ3 τ3 (fun _ _ => Z) ?_
    intro p17 c8
    refine WX.turn [50, 51] 52 Z (fun h hs => ol_app hs) (gs := [MF.ol (xs7 ++ [.string (⟨#[109]⟩ : Str)]) ((n_ ++ [(⟨#[109]⟩ : Str)]) : List Str)]) Z ?_
    refine R0 ?_
    refine WX.seal 507 52 53 Z Z Z Z Z ?_
    refine WX.turn [54] 3 Z (fun _ h => h) Z ?_
    exact WX.iter (p17, c8, (n_ ++ [(⟨#[109]⟩ : Str)]), u20, u21) ⟨(okl_mk τ3 (all_app v1.2 (all_cons (α := Str) (Nat.le_trans τ9 (bd_pos n)) (fun a ha => by cases ha))) : GoT.ok n ((n_ ++ [(⟨#[109]⟩ : Str)]) : List Str)), hq7.2.1, hq7.2.2, τ5, (by rw [v5]; rw [a14]; simp only [hu7, h5, h5d, cT, cF, ↓reduceIte, Bool.false_eq_true])⟩ τ10 (.cons Z (.cons Z (.cons Z (.nil)))) (.cons Z (.cons Z (.cons Z (.nil)))) .nil [0, 3] Z
   have h5d := B.df h5
   refine R0 ?_
   have hX3 : a14 c_b (u1.parts : List Str) u5 u6 = (((n_) : List Str), u20, u21) := by rw [v5]; rw [a14]; simp only [hu7, h5, h5d, cT, cF, ↓reduceIte, Bool.false_eq_true]
   have hP7 : a0t c_b c_i c_h = (Name.mk n_, u20, u21) := by simp only [a0t, hu1, hu2, h1, h2, hX3, cT, cF]
   have hz1 := hP7.symm.trans hres
   obtain ⟨hz1, hz2⟩ := Prod.mk.inj hz1
   obtain ⟨hz2, hz3⟩ := Prod.mk.inj hz2
   subst hz1
   subst hz2
   subst hz3
   refine R1 ?_
   intro w1 G bs hI hΓ
   exact Post.ofL 999 [3] (pn_, cn_) hI hΓ Z Z Z (by rw [hI.pin _ rfl]; first | done | rfl) (⟨(okl_of v1), ⟨hq7.2.1, hq7.2.2⟩⟩)
  refine TS.op 4 Z J ?_
  obtain ⟨⟨u22, u23, u24⟩, hu8⟩ := xE (a0a c_b u999_i u999_h 3)
  refine CP 999 55 Z Z Z Z Z Z O Z (fun w β H η σ γ => f41 w n τ1 H η (β 999) c_b K0 M0 (γ.q 0 Z) u999_i u999_h 3 σ hokc_b v2 v3 (i6 3) u22 u23 u24 hu8) ?_
  rintro ⟨⟩ hq8
  have q5 := l1Below_rng c_b u999_i u999_h 3
  rw [hu8] at q5
  try dsimp only at q5
  refine R0 ?_
  refine WX.back0 ?_
  refine TX.all2 1 5 J ?_ ?_
  ·skip
   refine TS.op 1 Z J ?_
   refine R0 ?_
   refine WX.back0 ?_
   refine TX.all2 2 5 J ?_ ?_
   ·skip
    refine TS.op 2 Z J ?_
    refine R0 ?_
    refine WX.back0 ?_
    refine TX.tail [5, 6] Z Z J ?_
    have r33 : -9223372036854775808 ≤ u22 ∧ u22 ≤ 9223372036854775807 := hq8.1
    refine WX.see Z Z Z (fun _ hΓ => looks_arith Z Z Z Z τ2) ?_
    refine R0 ?_
    refine WX.cases 26 Z ?_ ?_ <;> intro h6
    ·skip
     have h6d := B.dt h6
     refine R0 ?_
     refine WX.bld ttOk Z Z Z Z Z Z Z ?_
     intro p18
     refine WX.opn (kk := 1) 508 3 56 Z Z Z ?_
     intro xs8 hx8
     refine WX.turn [] 57 Z (fun h hs => ol_one (α := Str) (a := (⟨#[109]⟩ : Str)) (x := ()) hs) (gs := [MF.ol [.string (⟨#[109]⟩ : Str)] ([(⟨#[109]⟩ : Str)] : List Str)]) Z ?_
     have r34 : (⟨#[109]⟩ : Str).size = 1 := rfl
     refine WX.know (fun G hΓ => (hΓ.get 57 Z : OwL _ _ _).rd.one) ?_
     intro ho8
     refine WX.appR1 508 29 ((n_ ++ [(⟨#[109]⟩ : Str)]) : List Str).length ttOk Z Z Z Z Z Z Z Z Z Z Z Z Z ho8 τ11 τ3 τ3 (fun _ _ => Z) ?_
     intro p19 c9
     refine WX.turn [56, 57] 58 Z (fun h hs => ol_app hs) (gs := [MF.ol (xs8 ++ [.string (⟨#[109]⟩ : Str)]) ((n_ ++ [(⟨#[109]⟩ : Str)]) : List Str)]) Z ?_
     refine R0 ?_
     refine WX.seal 508 58 59 Z Z Z Z Z ?_
     refine WX.turn [60] 3 Z (fun _ h => h) Z ?_
     exact WX.iter (p19, c9, (n_ ++ [(⟨#[109]⟩ : Str)]), u23, u24) ⟨(okl_mk τ3 (all_app v1.2 (all_cons (α := Str) (Nat.le_trans τ9 (bd_pos n)) (fun a ha => by cases ha))) : GoT.ok n ((n_ ++ [(⟨#[109]⟩ : Str)]) : List Str)), hq8.2.1, hq8.2.2, τ5, (by rw [v5]; rw [a14]; simp only [hu8, h6, h6d, cT, cF, ↓reduceIte, Bool.false_eq_true])⟩ τ10 (.cons Z (.cons Z (.cons Z (.nil)))) (.cons Z (.cons Z (.cons Z (.nil)))) .nil [0, 3] Z
    have h6d := B.df h6
    refine R0 ?_
    have hX4 : a14 c_b (u1.parts : List Str) u5 u6 = (((n_) : List Str), u23, u24) := by rw [v5]; rw [a14]; simp only [hu8, h6, h6d, cT, cF, ↓reduceIte, Bool.false_eq_true]
    have hP8 : a0t c_b c_i c_h = (Name.mk n_, u23, u24) := by simp only [a0t, hu1, hu2, h1, h2, hX4, cT, cF]
    have hz1 := hP8.symm.trans hres
    obtain ⟨hz1, hz2⟩ := Prod.mk.inj hz1
    obtain ⟨hz2, hz3⟩ := Prod.mk.inj hz2
    subst hz1
    subst hz2
    subst hz3
    refine R1 ?_
    intro w1 G bs hI hΓ
    exact Post.ofL 999 [3] (pn_, cn_) hI hΓ Z Z Z (by rw [hI.pin _ rfl]; first | done | rfl) (⟨(okl_of v1), ⟨hq8.2.1, hq8.2.2⟩⟩)
   refine TS.op 5 Z J ?_
   have r35 : -9223372036854775808 ≤ u22 ∧ u22 ≤ 9223372036854775807 := hq8.1
   refine WX.see Z Z Z (fun _ hΓ => looks_arith Z Z Z Z τ2) ?_
   refine R0 ?_
   refine WX.back0 ?_
   refine TX.tail [2, 6] Z Z J ?_
   refine R0 ?_
   refine WX.cases 26 Z ?_ ?_ <;> intro h7
   ·skip
    have h7d := B.dt h7
    refine R0 ?_
    refine WX.bld ttOk Z Z Z Z Z Z Z ?_
    intro p20
    refine WX.opn (kk := 1) 509 3 61 Z Z Z ?_
    intro xs9 hx9
    refine WX.turn [] 62 Z (fun h hs => ol_one (α := Str) (a := (⟨#[109]⟩ : Str)) (x := ()) hs) (gs := [MF.ol [.string (⟨#[109]⟩ : Str)] ([(⟨#[109]⟩ : Str)] : List Str)]) Z ?_
    have r36 : (⟨#[109]⟩ : Str).size = 1 := rfl
    refine WX.know (fun G hΓ => (hΓ.get 62 Z : OwL _ _ _).rd.one) ?_
    intro ho9
    refine WX.appR1 509 29 ((n_ ++ [(⟨#[109]⟩ : Str)]) : List Str).length ttOk Z Z Z Z Z Z Z Z Z Z Z Z Z ho9 τ11 τ3 τ3 (fun _ _ => Z) ?_
    intro p21 c10
    refine WX.turn [61, 62] 63 Z (fun h hs => ol_app hs) (gs := [MF.ol (xs9 ++ [.string (⟨#[109]⟩ : Str)]) ((n_ ++ [(⟨#[109]⟩ : Str)]) : List Str)]) Z ?_
    refine R0 ?_
    refine WX.seal 509 63 64 Z Z Z Z Z ?_
    refine WX.turn [65] 3 Z (fun _ h => h) Z ?_
    exact WX.iter (p21, c10, (n_ ++ [(⟨#[109]⟩ : Str)]), u23, u24) ⟨(okl_mk τ3 (all_app v1.2 (all_cons (α := Str) (Nat.le_trans τ9 (bd_pos n)) (fun a ha => by cases ha))) : GoT.ok n ((n_ ++ [(⟨#[109]⟩ : Str)]) : List Str)), hq8.2.1, hq8.2.2, τ5, (by rw [v5]; rw [a14]; simp only [hu8, h7, h7d, cT, cF, ↓reduceIte, Bool.false_eq_true])⟩ τ10 (.cons Z (.cons Z (.cons Z (.nil)))) (.cons Z (.cons Z (.cons Z (.nil)))) .nil [0, 3] Z
   have h7d := B.df h7
   refine R0 ?_
   have hX5 : a14 c_b (u1.parts : List Str) u5 u6 = (((n_) : List Str), u23, u24) := by rw [v5]; rw [a14]; simp only [hu8, h7, h7d, cT, cF, ↓reduceIte, Bool.false_eq_true]
   have hP9 : a0t c_b c_i c_h = (Name.mk n_, u23, u24) := by simp only [a0t, hu1, hu2, h1, h2, hX5, cT, cF]
   have hz1 := hP9.symm.trans hres
   obtain ⟨hz1, hz2⟩ := Prod.mk.inj hz1
   obtain ⟨hz2, hz3⟩ := Prod.mk.inj hz2
   subst hz1
   subst hz2
   subst hz3
   refine R1 ?_
   intro w1 G bs hI hΓ
   exact Post.ofL 999 [3] (pn_, cn_) hI hΓ Z Z Z (by rw [hI.pin _ rfl]; first | done | rfl) (⟨(okl_of v1), ⟨hq8.2.1, hq8.2.2⟩⟩)
  refine TS.op 5 Z J ?_
  have r37 : -9223372036854775808 ≤ u22 ∧ u22 ≤ 9223372036854775807 := hq8.1
  refine WX.see Z Z Z (fun _ hΓ => looks_arith Z Z Z Z τ2) ?_
  refine R0 ?_
  refine WX.back0 ?_
  refine TX.tail [1, 2, 6] Z Z J ?_
  refine R0 ?_
  refine WX.cases 26 Z ?_ ?_ <;> intro h8
  ·skip
   have h8d := B.dt h8
   refine R0 ?_
   refine WX.bld ttOk Z Z Z Z Z Z Z ?_
   intro p22
   refine WX.opn (kk := 1) 510 3 66 Z Z Z ?_
   intro xs10 hx10
   refine WX.turn [] 67 Z (fun h hs => ol_one (α := Str) (a := (⟨#[109]⟩ : Str)) (x := ()) hs) (gs := [MF.ol [.string (⟨#[109]⟩ : Str)] ([(⟨#[109]⟩ : Str)] : List Str)]) Z ?_
   have r38 : (⟨#[109]⟩ : Str).size = 1 := rfl
   refine WX.know (fun G hΓ => (hΓ.get 67 Z : OwL _ _ _).rd.one) ?_
   intro ho10
   refine WX.appR1 510 29 ((n_ ++ [(⟨#[109]⟩ : Str)]) : List Str).length ttOk Z Z Z Z Z Z Z Z Z Z Z Z Z ho10 τ11 τ3 τ3 (fun _ _ => Z) ?_
   intro p23 c11
   refine WX.turn [66, 67] 68 Z (fun h hs => ol_app hs) (gs := [MF.ol (xs10 ++ [.string (⟨#[109]⟩ : Str)]) ((n_ ++ [(⟨#[109]⟩ : Str)]) : List Str)]) Z ?_
   refine R0 ?_
   refine WX.seal 510 68 69 Z Z Z Z Z ?_
   refine WX.turn [70] 3 Z (fun _ h => h) Z ?_
   exact WX.iter (p23, c11, (n_ ++ [(⟨#[109]⟩ : Str)]), u23, u24) ⟨(okl_mk τ3 (all_app v1.2 (all_cons (α := Str) (Nat.le_trans τ9 (bd_pos n)) (fun a ha => by cases ha))) : GoT.ok n ((n_ ++ [(⟨#[109]⟩ : Str)]) : List Str)), hq8.2.1, hq8.2.2, τ5, (by rw [v5]; rw [a14]; simp only [hu8, h8, h8d, cT, cF, ↓reduceIte, Bool.false_eq_true])⟩ τ10 (.cons Z (.cons Z (.cons Z (.nil)))) (.cons Z (.cons Z (.cons Z (.nil)))) .nil [0, 3] Z
  have h8d := B.df h8
  refine R0 ?_
  have hX6 : a14 c_b (u1.parts : List Str) u5 u6 = (((n_) : List Str), u23, u24) := by rw [v5]; rw [a14]; simp only [hu8, h8, h8d, cT, cF, ↓reduceIte, Bool.false_eq_true]
  have hP10 : a0t c_b c_i c_h = (Name.mk n_, u23, u24) := by simp only [a0t, hu1, hu2, h1, h2, hX6, cT, cF]
  have hz1 := hP10.symm.trans hres
  obtain ⟨hz1, hz2⟩ := Prod.mk.inj hz1
  obtain ⟨hz2, hz3⟩ := Prod.mk.inj hz2
  subst hz1
  subst hz2
  subst hz3
  refine R1 ?_
  intro w1 G bs hI hΓ
  exact Post.ofL 999 [3] (pn_, cn_) hI hΓ Z Z Z (by rw [hI.pin _ rfl]; first | done | rfl) (⟨(okl_of v1), ⟨hq8.2.1, hq8.2.2⟩⟩)
 have h2d := B.ef h2
 refine R0 ?_
 have hP11 : a0t c_b c_i c_h = (u1, u5, u6) := by simp only [a0t, hu1, hu2, h1, h2, cT, cF]
 have hz1 := hP11.symm.trans hres
 obtain ⟨hz1, hz2⟩ := Prod.mk.inj hz1
 obtain ⟨hz2, hz3⟩ := Prod.mk.inj hz2
 subst hz1
 subst hz2
 subst hz3
 refine R1 ?_
 intro w1 G bs hI hΓ
 exact Post.ofL 999 [3] (p1, c1) hI hΓ Z Z Z (by rw [hI.pin _ rfl]; first | done | rfl) (⟨hq1.1, ⟨hq2.2.1, hq2.2.2⟩⟩)
end Go.Proofs.YthdgpfbldbabmaaGreatDoor

namespace Go.Stp
set_option linter.unusedVariables false
set_option linter.unusedSimpArgs false
instance ctlInh27 {α β : Type} [Inhabited α] : Inhabited (Ctl α β) := ⟨.ret default⟩
theorem sh7 (x : Int) : Int.fdiv x (2 ^ (min (Int.toNat (7 : Int)) 64)) = x / 128 := by
 rw [show ((2 : Int) ^ (min (Int.toNat (7 : Int)) 64)) = 128 by decide, Int.fdiv_eq_ediv_of_nonneg _ (by decide)]
def avI (n : Int) (k : Nat) : Prop := 0 ≤ n ∧ ((k = 0 ∧ n ≤ 1000000000000) ∨ (k = 1 ∧ n ≤ 7812500000) ∨ (k = 2 ∧ n ≤ 61035156) ∨ (k = 3 ∧ n ≤ 476837) ∨ (k = 4 ∧ n ≤ 3725) ∨ (k = 5 ∧ n ≤ 29))
theorem avI_0 {n : Int} (h : 0 ≤ n ∧ n ≤ 1000000000000) : avI n 0 := ⟨h.1, .inl ⟨rfl, h.2⟩⟩
theorem avI_len {n : Int} {k : Nat} (h : avI n k) : k ≤ 5 := by unfold avI at h; omega
theorem avI_rng {n : Int} {k : Nat} (h : avI n k) : 0 ≤ n ∧ n ≤ 1000000000000 := by unfold avI at h; omega
theorem avI_step {n : Int} {k : Nat} (h : avI n k) (hn : n ≥ 128) : avI (n / 128) (k + 1) := by unfold avI at h ⊢; omega
theorem avI_next {n : Int} {k k' : Nat} (h : avI n k) (hn : n ≥ 128) (hk : k' = k + 1) : avI (n / 128) k' := hk ▸ avI_step h hn
theorem inR_implP {n a b : Int} (h : a0r n a b = true) : a ≤ n ∧ n ≤ b := by
 unfold a0r at h
 cases hd : decide (a ≤ n)
 ·exact absurd (show false = true by rw [show decide (a ≤ n) = false from hd] at h; exact h) Bool.false_ne_true
 ·rw [show decide (a ≤ n) = true from hd] at h
  exact ⟨of_decide_eq_true hd, of_decide_eq_true (show decide (n ≤ b) = true from h)⟩
theorem inR_specP {n a b : Int} (h : a0m n a b = true) : a ≤ n ∧ n ≤ b := by
 unfold a0m at h
 cases hd : decide (a ≤ n)
 ·exact absurd (show false = true by rw [show decide (a ≤ n) = false from hd] at h; exact h) Bool.false_ne_true
 ·rw [show decide (a ≤ n) = true from hd] at h
  exact ⟨of_decide_eq_true hd, of_decide_eq_true (show decide (n ≤ b) = true from h)⟩

def a2n (n_2 : Int) (out : List UInt8) : Int × (List UInt8) :=
 if n_2 ≥ 128 then
  a2n (Int.fdiv n_2 (2 ^ (min (Int.toNat (7 : Int)) 64))) (((out ++ [((toU8 n_2) ||| (128 : UInt8))])) : List UInt8)
 else
  (n_2, ((out) : List UInt8))
termination_by n_2.toNat
decreasing_by all_goals (rw [sh7]; omega)
def a10 (b : (List UInt8)) (n_ : Int) : (List UInt8) :=
 bif (!(a0r n_ 0 1000000000000)) then
  b
 else
  match a2n n_ (b : List UInt8) with
   | (n_2, out) =>
    (out ++ [(toU8 n_2)])
def a2o (n_2 : Int) (out : List UInt8) : Int × (List UInt8) :=
 if n_2 > 127 then
  a2o (Int.fdiv n_2 (2 ^ (min (Int.toNat (7 : Int)) 64))) (((out ++ [(toU8 (bitO .or (bitO .and n_2 127) 128))])) : List UInt8)
 else
  (n_2, ((out) : List UInt8))
termination_by n_2.toNat
decreasing_by all_goals (rw [sh7]; omega)
def a11 (b : (List UInt8)) (n_ : Int) : (List UInt8) :=
 bif (!(a0m n_ 0 1000000000000)) then
  b
 else
  match a2o n_ (b : List UInt8) with
   | (n_2, out) =>
    (out ++ [(toU8 n_2)])
theorem len_implAVL : ∀ (m : Nat) (n : Int) (out : List UInt8) (k : Nat), avI n k → 5 - k = m → (a2n n out).2.length ≤ out.length + m
 | 0, n, out, k, h, hm => by
  have := avI_len h
  rw [a2n, if_neg (show ¬ n ≥ 128 by unfold avI at h; omega)]
  exact Nat.le_refl _
 | m + 1, n, out, k, h, hm => by
  rw [a2n]
  by_cases hn : n ≥ 128
  ·rw [if_pos hn, sh7]
   have := len_implAVL m (n / 128) (out ++ [(toU8 n) ||| (128 : UInt8)]) (k + 1) (avI_step h (by omega)) (by omega)
   rw [List.length_append, List.length_cons, List.length_nil] at this
   omega
  ·rw [if_neg hn]
   show out.length ≤ _
   omega
theorem len_implAV (b : List UInt8) (n_ : Int) : (a10 b n_).length ≤ b.length + 6 := by
 unfold a10
 cases hr : a0r n_ 0 1000000000000
 ·show b.length ≤ _
  omega
 ·have h := len_implAVL 5 n_ b 0 (avI_0 (inR_implP hr)) rfl
  simp only [Bool.not_true, cond_false, List.length_append, List.length_cons, List.length_nil]
  omega
theorem len_specAVL : ∀ (m : Nat) (n : Int) (out : List UInt8) (k : Nat), avI n k → 5 - k = m → (a2o n out).2.length ≤ out.length + m
 | 0, n, out, k, h, hm => by
  have := avI_len h
  rw [a2o, if_neg (show ¬ n > 127 by unfold avI at h; omega)]
  exact Nat.le_refl _
 | m + 1, n, out, k, h, hm => by
  rw [a2o]
  by_cases hn : n > 127
  ·rw [if_pos hn, sh7]
   have := len_specAVL m (n / 128) (out ++ [toU8 (bitO .or (bitO .and n 127) 128)]) (k + 1) (avI_step h (by omega)) (by omega)
   rw [List.length_append, List.length_cons, List.length_nil] at this
   omega
  ·rw [if_neg hn]
   show out.length ≤ _
   omega
theorem len_specAV (b : List UInt8) (n_ : Int) : (a11 b n_).length ≤ b.length + 6 := by
 unfold a11
 cases hr : a0m n_ 0 1000000000000
 ·show b.length ≤ _
  omega
 ·have h := len_specAVL 5 n_ b 0 (avI_0 (inR_specP hr)) rfl
  simp only [Bool.not_true, cond_false, List.length_append, List.length_cons, List.length_nil]
  omega
def a2e (b : (List UInt8)) (s : (List UInt8)) : (List UInt8) :=
 ((a10 b (((s).length : Nat) : Int)) ++ s)
def a2f (b : (List UInt8)) (s : (List UInt8)) : (List UInt8) :=
 ((a11 b (((s).length : Nat) : Int)) ++ s)
theorem len_implAB (b s : List UInt8) : (a2e b s).length ≤ b.length + s.length + 6 := by
 have := len_implAV b ((s.length : Nat) : Int)
 unfold a2e
 rw [List.length_append]
 omega
theorem len_specAB (b s : List UInt8) : (a2f b s).length ≤ b.length + s.length + 6 := by
 have := len_specAV b ((s.length : Nat) : Int)
 unfold a2f
 rw [List.length_append]
 omega
def NTb (o : Option Bool) : Prop := o = none ∨ o = some false
theorem ntb {c : Bool} {a b : Option Bool} (ha : NTb a) (hb : NTb b) : NTb (bif c then a else b) := by
 cases c
 ·exact hb
 ·exact ha
theorem vpL_impl : ∀ (l : List UInt8), NTb (a0p l)
 | [] => .inl rfl
 | x :: l => by
  have ih := vpL_impl l
  simp only [a0p]
  repeat' (first | exact ih | exact .inr rfl | refine ntb ?_ ?_)
theorem vpB_impl {s : Str} (h : a2x s = true) : s.size ≤ 8 := by
 unfold a2x at h
 rcases vpL_impl ((s).data.toList) with h1 | h1 <;> rw [h1] at h
 ·have := inR_implP h
  omega
 ·cases h
theorem vpB_spec {s : Str} (h : a1f s = true) : s.size ≤ 8 := by
 unfold a1f at h
 cases hr : a0m (((s).size : Nat) : Int) 1 8
 ·rw [hr] at h; cases h
 ·have := inR_specP hr
  omega
theorem ixS : ∀ (f : Str → Bool) (l : List Str) (i : Nat), (slices_IndexFunc_string_L1 f l i = none ∧ ∀ a ∈ l, f a = false) ∨ ∃ j : Nat, slices_IndexFunc_string_L1 f l i = some (j : Int)
 | f, [], i => .inl ⟨rfl, fun a ha => by cases ha⟩
 | f, x :: l, i => by
  simp only [slices_IndexFunc_string_L1]
  cases hx : f x
  ·rcases ixS f l (i + 1) with ⟨h1, h2⟩ | h
   ·exact .inl ⟨h1, fun a ha => (List.mem_cons.1 ha).elim (fun e => e ▸ hx) (h2 a)⟩
   ·exact .inr h
  ·exact .inr ⟨i, rfl⟩
theorem vnB_impl {n_ : Name} (h : a23 n_ = true) : n_.parts.length ≤ 6 ∧ ∀ p ∈ n_.parts, p.size ≤ 8 := by
 unfold a23 at h
 cases hd : decide ((((n_.parts).length : Nat) : Int) ≤ 6)
 ·rw [hd] at h; cases h
 ·rw [hd, cond_true] at h
  have := of_decide_eq_true hd
  refine ⟨by omega, fun p hp => ?_⟩
  unfold slices_ContainsFunc_string slices_IndexFunc_string at h
  rcases ixS (fun e0_ => (a4c e0_)) n_.parts 0 with ⟨h1, h2⟩ | ⟨j, h1⟩
  ·have h3 := h2 p hp
   exact vpB_impl (by simpa [a4c] using h3)
  ·rw [h1] at h
   have h4 : decide (((j : Nat) : Int) ≥ 0) = true := decide_eq_true (by omega)
   rw [h4] at h; cases h
theorem vnL_spec : ∀ (l : List Str), (a1j l = none ∧ ∀ p ∈ l, p.size ≤ 8) ∨ a1j l = some false
 | [] => .inl ⟨rfl, fun p hp => by cases hp⟩
 | x :: l => by
  simp only [a1j]
  cases hx : a1f x
  ·exact .inr rfl
  ·rcases vnL_spec l with ⟨h1, h2⟩ | h
   ·exact .inl ⟨h1, fun p hp => (List.mem_cons.1 hp).elim (fun e => e ▸ vpB_spec hx) (h2 p)⟩
   ·exact .inr h
theorem vnB_spec {n_ : Name} (h : a13 n_ = true) : n_.parts.length ≤ 6 ∧ ∀ p ∈ n_.parts, p.size ≤ 8 := by
 unfold a13 at h
 rcases vnL_spec n_.parts with ⟨h1, h2⟩ | h1 <;> rw [h1] at h
 ·have := of_decide_eq_true h
  exact ⟨by omega, h2⟩
 ·cases h
def a2p : List Str → (List UInt8) → (List UInt8)
 | [], out => ((out) : List UInt8)
 | e1 :: rest_, out =>
  a2p rest_ (((a2e out ((e1).data.toList))) : List UInt8)
def a07 (b : (List UInt8)) (n_ : Name) : (List UInt8) :=
 bif (!(a23 n_)) then
  b
 else
  match a2p n_.parts ((a10 b (((n_.parts).length : Nat) : Int)) : List UInt8) with
   | out =>
    out
def a2q : List Str → (List UInt8) → (List UInt8)
 | [], out => ((out) : List UInt8)
 | e1 :: rest_, out =>
  a2q rest_ (((a2f out ((e1).data.toList))) : List UInt8)
def a01 (b : (List UInt8)) (n_ : Name) : (List UInt8) :=
 bif (!(a13 n_)) then
  b
 else
  match a2q n_.parts ((a11 b (((n_.parts).length : Nat) : Int)) : List UInt8) with
   | out =>
    out
theorem len_implANL : ∀ (l : List Str) (out : List UInt8), (∀ p ∈ l, p.size ≤ 8) → (a2p l out).length ≤ out.length + 14 * l.length
 | [], out, _ => by simp [a2p]
 | x :: l, out, h => by
  have h1 := len_implANL l (a2e out ((x).data.toList)) (fun p hp => h p (List.mem_cons_of_mem _ hp))
  have h2 := len_implAB out ((x).data.toList)
  have h3 := h x List.mem_cons_self
  have h4 : ((x).data.toList).length = (x).size := rfl
  rw [List.length_cons]
  simp only [a2p]
  omega
theorem len_implAN (b : List UInt8) (n_ : Name) : (a07 b n_).length ≤ b.length + 90 := by
 unfold a07
 cases hv : a23 n_
 ·show b.length ≤ _
  omega
 ·have h1 := vnB_impl hv
  have h2 := len_implANL n_.parts (a10 b (((n_.parts).length : Nat) : Int)) h1.2
  have h3 := len_implAV b (((n_.parts).length : Nat) : Int)
  show (a2p n_.parts (a10 b (((n_.parts).length : Nat) : Int))).length ≤ _
  omega
theorem len_specANL : ∀ (l : List Str) (out : List UInt8), (∀ p ∈ l, p.size ≤ 8) → (a2q l out).length ≤ out.length + 14 * l.length
 | [], out, _ => by simp [a2q]
 | x :: l, out, h => by
  have h1 := len_specANL l (a2f out ((x).data.toList)) (fun p hp => h p (List.mem_cons_of_mem _ hp))
  have h2 := len_specAB out ((x).data.toList)
  have h3 := h x List.mem_cons_self
  have h4 : ((x).data.toList).length = (x).size := rfl
  rw [List.length_cons]
  simp only [a2q]
  omega
theorem len_specAN (b : List UInt8) (n_ : Name) : (a01 b n_).length ≤ b.length + 90 := by
 unfold a01
 cases hv : a13 n_
 ·show b.length ≤ _
  omega
 ·have h1 := vnB_spec hv
  have h2 := len_specANL n_.parts (a11 b (((n_.parts).length : Nat) : Int)) h1.2
  have h3 := len_specAV b (((n_.parts).length : Nat) : Int)
  show (a2q n_.parts (a11 b (((n_.parts).length : Nat) : Int))).length ≤ _
  omega
end Go.Stp

namespace Go.Proofs.YthdgpfbldbabmaaGreatDoor
open Go.Stp
set_option linter.unusedVariables false
set_option linter.unusedSimpArgs false
theorem f132 (w : World) (n : Nat) (hn : n + 1 ≤ 9) (b : (List UInt8)) (pb cb) (N0 : RdSl (hp w) pb cb b) (n_ : Int) (hokb : GoT.ok n b) (hokn_ : GoT.ok n n_) :
 Does Tryz.prog 132 #[.slice pb ((b).length) cb, .int .i64 (n_)] w emp (Post w emp (fun x : GoT.X ((List UInt8)) => (GoT.sh ((a10 b n_) : (List UInt8)) x).headD undef) (fun x => GoT.oa ((a10 b n_) : (List UInt8)) x) (GoT.ok (n + 1) ((a10 b n_) : (List UInt8)))) := by
 have hb := bS1 hn
 refine EN Tryz.func132 Z (aS1 N0) ?_
 refine R0 ?_
 refine CF 1 Z Z Z Z Z O Z (fun w γ => f70 w n τ1 b pb cb (γ.q 0 Z) hokb) ?_
 rintro ⟨p1, c1⟩ hq1
 refine R0 ?_
 refine CV Z Z Z Z Z O Z (fun w γ => f52 w n τ1 n_ 0 1000000000000 hokn_ (i6 0) (i6 1000000000000)) ?_
 intro hq2
 refine R0 ?_
 refine WX.cases 10 Z ?_ ?_ <;> intro h1
 ·skip
  have h1d := (B.nt h1)
  refine R0 ?_
  have hP1 : a10 b n_ = b := by simp only [a10, h1, cT, cF]
  refine R1 ?_
  intro w1 G bs hI hΓ
  rw [hP1]
  exact Post.of [2] (p1, c1) hI hΓ Z Z Z (GoT.okm (α := List UInt8) τ1 hq1)
 have h1d := (B.nf h1)
 have h1r := inR_impl (B.nf h1)
 refine R0 ?_
 refine WX.loop (ι := Int × (Option Addr) × Nat × (List UInt8)) ⟨fun | (n_2, pout, cout, out) => (-9223372036854775808 ≤ n_2 ∧ n_2 ≤ 9223372036854775807) ∧ (out.length ≤ bd (n + 1) ∧ ∀ z_ ∈ out, GoT.ok (n + 1) z_) ∧ (avI n_2 (out.length - b.length) ∧ b.length ≤ out.length) ∧ (a2n n_ (b : List UInt8) = a2n n_2 out), fun | (n_2, pout, cout, out) => n_2.toNat, fun | (n_2, pout, cout, out) => [(1, .v (.int .i64 (n_2))), (5, .v (.slice pout ((out).length) cout))], fun | (n_2, pout, cout, out) => [], fun | (n_2, pout, cout, out) => [], fun | (n_2, pout, cout, out) => [(0, MF.rs .stb pb cb b), (2, MF.os pout cout out)]⟩ (n_, p1, c1, (b : List UInt8)) ⟨hokn_, (GoT.okm (α := List UInt8) τ1 hq1), ⟨by rw [Nat.sub_self]; exact avI_0 h1r, Nat.le_refl _⟩, Z⟩
  (.cons Z (.cons Z (.nil))) .nil .nil [0, 2] Z ?_
 rintro ⟨n_2, pout, cout, out⟩ ⟨v1, v2, v3, v4⟩
 have v2L := v2.1
 have hz0 := avI_len v3.1
 have hz1 := avI_rng v3.1
 have hz2 : b.length ≤ bd n := (okl hokb).1
 have hz3 := v3.2
 refine R0 ?_
 refine WX.cases 13 Z ?_ ?_ <;> intro h2
 ·skip
  have h2d := B.dt h2
  refine R0 ?_
  refine WX.see Z Z Z (fun _ hΓ => looks_toU8 ttOk Z Z Z Z Z Z) ?_
  refine WX.see Z Z Z (fun _ hΓ => looks_orU8 (p := toU8 n_2) (q := (128 : UInt8)) Z Z Z Z Z) ?_
  refine WX.bld ttOk Z Z Z Z Z Z Z ?_
  intro p2
  refine WX.opn (kk := 1) 501 2 3 Z Z Z ?_
  intro xs1 hx1
  refine WX.turn [] 4 Z (fun h hs => ol_one (α := UInt8) (a := ((toU8 n_2) ||| (128 : UInt8))) (x := ()) hs) (gs := [MF.ol [.int .u8 ((((toU8 n_2) ||| (128 : UInt8))).toNat : Nat)] ([((toU8 n_2) ||| (128 : UInt8))] : List UInt8)]) Z ?_
  refine WX.know (fun G hΓ => (hΓ.get 4 Z : OwL _ _ _).rd.one) ?_
  intro ho1
  refine WX.appR1 501 18 ((out ++ [((toU8 n_2) ||| (128 : UInt8))]) : List UInt8).length ttOk Z Z Z Z Z Z Z Z Z Z Z Z Z ho1 τ11 τ3 τ3 (fun _ _ => Z) ?_
  intro p3 c2
  refine WX.turn [3, 4] 5 Z (fun h hs => ol_app hs) (gs := [MF.ol (xs1 ++ [.int .u8 ((((toU8 n_2) ||| (128 : UInt8))).toNat : Nat)]) ((out ++ [((toU8 n_2) ||| (128 : UInt8))]) : List UInt8)]) Z ?_
  refine R0 ?_
  refine WX.see Z Z Z (fun _ hΓ => looks_shr Z Z Z τ9) ?_
  refine R0 ?_
  refine WX.seal 501 5 6 Z Z Z Z Z ?_
  refine WX.turn [7] 2 Z (fun _ h => h) Z ?_
  have hs7 := sh7 n_2
  exact WX.iter (Int.fdiv n_2 (2 ^ (min (Int.toNat (7 : Int)) 64)), p3, c2, (out ++ [((toU8 n_2) ||| (128 : UInt8))])) ⟨τ6, (okl_mk τ3 (fun _ _ => trivial) : GoT.ok (n + 1) ((out ++ [((toU8 n_2) ||| (128 : UInt8))]) : List UInt8)), ⟨by rw [sh7]; exact avI_next v3.1 τ1 (by simp; omega), by simp; omega⟩, (by rw [v4]; rw [a2n]; simp only [h2, h2d, cT, cF, ↓reduceIte, Bool.false_eq_true])⟩ (by dsimp only; rw [sh7]; omega) (.cons Z (.cons Z (.nil))) .nil .nil [0, 2] Z
 have h2d := B.df h2
 refine R0 ?_
 have hX1 : a2n n_ (b : List UInt8) = (n_2, ((out) : List UInt8)) := by rw [v4]; rw [a2n]; simp only [h2, h2d, cT, cF, ↓reduceIte, Bool.false_eq_true]
 refine WX.see Z Z Z (fun _ hΓ => looks_toU8 ttOk Z Z Z Z Z Z) ?_
 refine WX.bld ttOk Z Z Z Z Z Z Z ?_
 intro p4
 refine WX.opn (kk := 1) 502 2 8 Z Z Z ?_
 intro xs2 hx2
 refine WX.turn [] 9 Z (fun h hs => ol_one (α := UInt8) (a := (toU8 n_2)) (x := ()) hs) (gs := [MF.ol [.int .u8 ((toU8 n_2).toNat : Nat)] ([(toU8 n_2)] : List UInt8)]) Z ?_
 refine WX.know (fun G hΓ => (hΓ.get 9 Z : OwL _ _ _).rd.one) ?_
 intro ho2
 refine WX.appR1 502 25 ((out ++ [(toU8 n_2)]) : List UInt8).length ttOk Z Z Z Z Z Z Z Z Z Z Z Z Z ho2 τ11 τ3 τ3 (fun _ _ => Z) ?_
 intro p5 c3
 refine WX.turn [8, 9] 10 Z (fun h hs => ol_app hs) (gs := [MF.ol (xs2 ++ [.int .u8 ((toU8 n_2).toNat : Nat)]) ((out ++ [(toU8 n_2)]) : List UInt8)]) Z ?_
 refine R0 ?_
 refine WX.seal 502 10 11 Z Z Z Z Z ?_
 have hP2 : a10 b n_ = (out ++ [(toU8 n_2)]) := by simp only [a10, h1, hX1, cT, cF]
 refine R1 ?_
 intro w1 G bs hI hΓ
 rw [hP2]
 exact Post.of [12] (p5, c3) hI hΓ Z Z Z (okl_mk τ3 (fun _ _ => trivial) : GoT.ok (n + 1) ((out ++ [(toU8 n_2)]) : List UInt8))
theorem f135 (w : World) (n : Nat) (hn : n + 1 ≤ 9) (b : (List UInt8)) (pb cb) (N0 : RdSl (hp w) pb cb b) (n_ : Int) (hokb : GoT.ok n b) (hokn_ : GoT.ok n n_) :
 Does Tryz.prog 135 #[.slice pb ((b).length) cb, .int .i64 (n_)] w emp (Post w emp (fun x : GoT.X ((List UInt8)) => (GoT.sh ((a11 b n_) : (List UInt8)) x).headD undef) (fun x => GoT.oa ((a11 b n_) : (List UInt8)) x) (GoT.ok (n + 1) ((a11 b n_) : (List UInt8)))) := by
 have hb := bS1 hn
 refine EN Tryz.func135 Z (aS1 N0) ?_
 refine R0 ?_
 refine WX.bld ttOk Z Z Z Z Z Z Z ?_
 intro p1
 refine R0 ?_
 refine WX.free 1 (MF.ol [] ([] : List UInt8)) Z ?_
 have r1 : (b).length ≤ bd n := (okl hokb).1
 refine WX.appG1 6 0 2 (b : List UInt8).length ttOk Z Z Z Z Z Z Z Z Z Z Z Z Z τ7 τ1 τ1 (fun _ _ _ => Z) ?_
 intro ys1 p2 c1
 refine WX.know (fun G hΓ => (hΓ.get 2 Z : RdL _ _ _).flat) ?_
 intro hf1
 refine WX.turn [1] 3 Z (fun h hs => ol_flat hs hf1) (gs := [MF.ol ([] ++ ys1) (b : List UInt8)]) Z ?_
 refine R0 ?_
 refine CV Z Z Z Z Z O Z (fun w γ => f55 w n τ1 n_ 0 1000000000000 hokn_ (i6 0) (i6 1000000000000)) ?_
 intro hq1
 refine R0 ?_
 refine WX.cases 11 Z ?_ ?_ <;> intro h1
 ·skip
  have h1d := (B.nt h1)
  refine R0 ?_
  refine WX.seal 6 3 4 Z Z Z Z Z ?_
  have hP1 : a11 b n_ = b := by simp only [a11, h1, cT, cF]
  refine R1 ?_
  intro w1 G bs hI hΓ
  rw [hP1]
  exact Post.of [5] (p2, c1) hI hΓ Z Z Z (okl_mk τ1 (fun _ _ => trivial) : GoT.ok (n + 1) (b : List UInt8))
 have h1d := (B.nf h1)
 have h1r := inR_spec (B.nf h1)
 refine R0 ?_
 refine WX.loop (ι := Int × (Option Addr) × Nat × (List Value) × (List UInt8)) ⟨fun | (n_2, pout, cout, xsout, out) => (-9223372036854775808 ≤ n_2 ∧ n_2 ≤ 9223372036854775807) ∧ (∀ z_ ∈ out, GoT.ok (n + 1) z_) ∧ (avI n_2 (out.length - b.length) ∧ b.length ≤ out.length) ∧ (a2o n_ (b : List UInt8) = a2o n_2 out), fun | (n_2, pout, cout, xsout, out) => n_2.toNat, fun | (n_2, pout, cout, xsout, out) => [(1, .v (.int .i64 (n_2))), (5, .v (.slice pout ((out).length) cout))], fun | (n_2, pout, cout, xsout, out) => [], fun | (n_2, pout, cout, xsout, out) => [(6, ⟨1, pout, (out).length, cout, xsout⟩)], fun | (n_2, pout, cout, xsout, out) => [(0, MF.rs .stb pb cb b), (3, MF.ol xsout (out : List UInt8))]⟩ (n_, p2, c1, ([] ++ ys1), (b : List UInt8)) ⟨hokn_, (fun _ _ => trivial), ⟨by rw [Nat.sub_self]; exact avI_0 h1r, Nat.le_refl _⟩, Z⟩
  (.cons Z (.cons Z (.nil))) .nil (.cons Z (.nil)) [0, 3] Z ?_
 rintro ⟨n_2, pout, cout, xsout, out⟩ ⟨v1, v2, v3, v4⟩
 have hz0 := avI_len v3.1
 have hz1 := avI_rng v3.1
 have hz2 : b.length ≤ bd n := (okl hokb).1
 have hz3 := v3.2
 refine R0 ?_
 refine WX.cases 14 Z ?_ ?_ <;> intro h2
 ·skip
  have h2d := B.dt h2
  refine R0 ?_
  refine WX.see Z Z Z (fun _ hΓ => looks_bits Z Z Z Z) ?_
  refine WX.see Z Z Z (fun _ hΓ => looks_bits Z Z Z Z) ?_
  refine WX.see Z Z Z (fun _ hΓ => looks_toU8 ttOk Z Z Z Z Z Z) ?_
  refine WX.bld ttOk Z Z Z Z Z Z Z ?_
  intro p3
  refine WX.turn [] 6 Z (fun h hs => ol_one (α := UInt8) (a := (toU8 (bitO .or (bitO .and n_2 127) 128))) (x := ()) hs) (gs := [MF.ol [.int .u8 ((toU8 (bitO .or (bitO .and n_2 127) 128)).toNat : Nat)] ([(toU8 (bitO .or (bitO .and n_2 127) 128))] : List UInt8)]) Z ?_
  refine WX.know (fun G hΓ => (hΓ.get 6 Z : OwL _ _ _).rd.one) ?_
  intro ho1
  refine WX.appR1 6 20 ((out ++ [(toU8 (bitO .or (bitO .and n_2 127) 128))]) : List UInt8).length ttOk Z Z Z Z Z Z Z Z Z Z Z Z Z ho1 τ11 τ3 τ3 (fun _ _ => Z) ?_
  intro p4 c2
  refine WX.turn [3, 6] 7 Z (fun h hs => ol_app hs) (gs := [MF.ol (xsout ++ [.int .u8 ((toU8 (bitO .or (bitO .and n_2 127) 128)).toNat : Nat)]) ((out ++ [(toU8 (bitO .or (bitO .and n_2 127) 128))]) : List UInt8)]) Z ?_
  refine R0 ?_
  refine WX.see Z Z Z (fun _ hΓ => looks_shr Z Z Z τ9) ?_
  refine R0 ?_
  refine WX.turn [7] 3 Z (fun _ h => h) Z ?_
  have hs7 := sh7 n_2
  exact WX.iter (Int.fdiv n_2 (2 ^ (min (Int.toNat (7 : Int)) 64)), p4, c2, (xsout ++ [.int .u8 ((toU8 (bitO .or (bitO .and n_2 127) 128)).toNat : Nat)]), ((out ++ [(toU8 (bitO .or (bitO .and n_2 127) 128))]) : List UInt8)) ⟨τ6, (fun _ _ => trivial), ⟨by rw [sh7]; exact avI_next v3.1 τ1 (by simp; omega), by simp; omega⟩, (by rw [v4]; rw [a2o]; simp only [h2, h2d, cT, cF, ↓reduceIte, Bool.false_eq_true])⟩ (by dsimp only; rw [sh7]; omega) (.cons Z (.cons Z (.nil))) .nil (.cons Z (.nil)) [0, 3] Z
 have h2d := B.df h2
 refine R0 ?_
 have hX1 : a2o n_ (b : List UInt8) = (n_2, ((out) : List UInt8)) := by rw [v4]; rw [a2o]; simp only [h2, h2d, cT, cF, ↓reduceIte, Bool.false_eq_true]
 refine WX.see Z Z Z (fun _ hΓ => looks_toU8 ttOk Z Z Z Z Z Z) ?_
 refine WX.bld ttOk Z Z Z Z Z Z Z ?_
 intro p5
 refine WX.turn [] 8 Z (fun h hs => ol_one (α := UInt8) (a := (toU8 n_2)) (x := ()) hs) (gs := [MF.ol [.int .u8 ((toU8 n_2).toNat : Nat)] ([(toU8 n_2)] : List UInt8)]) Z ?_
 refine WX.know (fun G hΓ => (hΓ.get 8 Z : OwL _ _ _).rd.one) ?_
 intro ho2
 refine WX.appR1 6 27 ((out ++ [(toU8 n_2)]) : List UInt8).length ttOk Z Z Z Z Z Z Z Z Z Z Z Z Z ho2 τ11 τ3 τ3 (fun _ _ => Z) ?_
 intro p6 c3
 refine WX.turn [3, 8] 9 Z (fun h hs => ol_app hs) (gs := [MF.ol (xsout ++ [.int .u8 ((toU8 n_2).toNat : Nat)]) ((out ++ [(toU8 n_2)]) : List UInt8)]) Z ?_
 refine R0 ?_
 refine WX.seal 6 9 10 Z Z Z Z Z ?_
 have hP2 : a11 b n_ = (out ++ [(toU8 n_2)]) := by simp only [a11, h1, hX1, cT, cF]
 refine R1 ?_
 intro w1 G bs hI hΓ
 rw [hP2]
 exact Post.of [11] (p6, c3) hI hΓ Z Z Z (okl_mk τ3 (fun _ _ => trivial) : GoT.ok (n + 1) ((out ++ [(toU8 n_2)]) : List UInt8))
theorem f165 (w : World) (n : Nat) (hn : n + 2 ≤ 9) (b : (List UInt8)) (pb cb) (N0 : RdSl (hp w) pb cb b) (s : (List UInt8)) (ps cs) (N1 : RdSl (hp w) ps cs s) (hokb : GoT.ok n b) (hoks : GoT.ok n s) :
 Does Tryz.prog 165 #[.slice pb ((b).length) cb, .slice ps ((s).length) cs] w emp (Post w emp (fun x : GoT.X ((List UInt8)) => (GoT.sh ((a2e b s) : (List UInt8)) x).headD undef) (fun x => GoT.oa ((a2e b s) : (List UInt8)) x) (GoT.ok (n + 2) ((a2e b s) : (List UInt8)))) := by
 have hb := bS2 hn
 refine EN Tryz.func165 Z (aS2 N0 N1) ?_
 refine R0 ?_
 have r1 : (s).length ≤ bd n := (okl hoks).1
 refine CF 2 Z Z Z Z Z O Z (fun w γ => f132 w n τ1 b pb cb (γ.q 0 Z) (((s).length : Nat) : Int) hokb (i6 (((s).length : Nat) : Int))) ?_
 rintro ⟨p1, c1⟩ hq1
 have q1 := len_implAV b (((s).length : Nat) : Int)
 refine R0 ?_
 refine WX.opn (kk := 1) 501 3 4 Z Z Z ?_
 intro xs1 hx1
 have r2 : (b).length ≤ bd n := (okl hokb).1
 have r3 : (a10 b (((s).length : Nat) : Int)).length ≤ bd (n + 1) := (okl hq1).1
 refine WX.appG1 501 1 5 (((a10 b (((s).length : Nat) : Int)) ++ s) : List UInt8).length ttOk Z Z Z Z Z Z Z Z Z Z Z Z Z τ7 τ3 τ3 (fun _ _ _ => Z) ?_
 intro ys1 p2 c2
 refine WX.know (fun G hΓ => (hΓ.get 5 Z : RdL _ _ _).flat) ?_
 intro hf1
 refine WX.turn [4] 6 Z (fun h hs => ol_flat hs hf1) (gs := [MF.ol (xs1 ++ ys1) (((a10 b (((s).length : Nat) : Int)) ++ s) : List UInt8)]) Z ?_
 refine R0 ?_
 refine WX.seal 501 6 7 Z Z Z Z Z ?_
 have hP1 : a2e b s = ((a10 b (((s).length : Nat) : Int)) ++ s) := by simp only [a2e, cT, cF]
 refine R1 ?_
 intro w1 G bs hI hΓ
 rw [hP1]
 exact Post.of [8] (p2, c2) hI hΓ Z Z Z (okl_mk τ3 (fun _ _ => trivial) : GoT.ok (n + 2) (((a10 b (((s).length : Nat) : Int)) ++ s) : List UInt8))
theorem f136 (w : World) (n : Nat) (hn : n + 2 ≤ 9) (b : (List UInt8)) (pb cb) (N0 : RdSl (hp w) pb cb b) (s : (List UInt8)) (ps cs) (N1 : RdSl (hp w) ps cs s) (hokb : GoT.ok n b) (hoks : GoT.ok n s) :
 Does Tryz.prog 136 #[.slice pb ((b).length) cb, .slice ps ((s).length) cs] w emp (Post w emp (fun x : GoT.X ((List UInt8)) => (GoT.sh ((a2f b s) : (List UInt8)) x).headD undef) (fun x => GoT.oa ((a2f b s) : (List UInt8)) x) (GoT.ok (n + 2) ((a2f b s) : (List UInt8)))) := by
 have hb := bS2 hn
 refine EN Tryz.func136 Z (aS2 N0 N1) ?_
 refine R0 ?_
 have r1 : (s).length ≤ bd n := (okl hoks).1
 refine CF 2 Z Z Z Z Z O Z (fun w γ => f135 w n τ1 b pb cb (γ.q 0 Z) (((s).length : Nat) : Int) hokb (i6 (((s).length : Nat) : Int))) ?_
 rintro ⟨p1, c1⟩ hq1
 have q1 := len_specAV b (((s).length : Nat) : Int)
 refine R0 ?_
 refine WX.opn (kk := 1) 501 3 4 Z Z Z ?_
 intro xs1 hx1
 have r2 : (b).length ≤ bd n := (okl hokb).1
 have r3 : (a11 b (((s).length : Nat) : Int)).length ≤ bd (n + 1) := (okl hq1).1
 refine WX.appG1 501 1 5 (((a11 b (((s).length : Nat) : Int)) ++ s) : List UInt8).length ttOk Z Z Z Z Z Z Z Z Z Z Z Z Z τ7 τ3 τ3 (fun _ _ _ => Z) ?_
 intro ys1 p2 c2
 refine WX.know (fun G hΓ => (hΓ.get 5 Z : RdL _ _ _).flat) ?_
 intro hf1
 refine WX.turn [4] 6 Z (fun h hs => ol_flat hs hf1) (gs := [MF.ol (xs1 ++ ys1) (((a11 b (((s).length : Nat) : Int)) ++ s) : List UInt8)]) Z ?_
 refine R0 ?_
 refine WX.seal 501 6 7 Z Z Z Z Z ?_
 have hP1 : a2f b s = ((a11 b (((s).length : Nat) : Int)) ++ s) := by simp only [a2f, cT, cF]
 refine R1 ?_
 intro w1 G bs hI hΓ
 rw [hP1]
 exact Post.of [8] (p2, c2) hI hΓ Z Z Z (okl_mk τ3 (fun _ _ => trivial) : GoT.ok (n + 2) (((a11 b (((s).length : Nat) : Int)) ++ s) : List UInt8))
theorem f149 (w : World) (n : Nat) (hn : n + 3 ≤ 9) (b : (List UInt8)) (pb cb) (N0 : RdSl (hp w) pb cb b) (n_ : Name) (K1 M1) (N1 : RdSl (hp w) K1 M1 n_.parts) (hokb : GoT.ok n b) (hokn_ : GoT.ok n n_) :
 Does Tryz.prog 149 #[.slice pb ((b).length) cb, .agg #[.slice K1 ((n_.parts).length) M1]] w emp (Post w emp (fun x : GoT.X ((List UInt8)) => (GoT.sh ((a07 b n_) : (List UInt8)) x).headD undef) (fun x => GoT.oa ((a07 b n_) : (List UInt8)) x) (GoT.ok (n + 1) ((a07 b n_) : (List UInt8)))) := by
 have hb := bS3 hn
 refine EN Tryz.func149 Z (aS2 N0 N1) ?_
 refine R0 ?_
 refine CV Z Z Z Z Z O Z (fun w γ => f53 w n τ1 n_ K1 M1 (γ.q 1 Z) hokn_) ?_
 intro hq1
 refine R0 ?_
 refine WX.cases 10 Z ?_ ?_ <;> intro h1
 ·skip
  have h1d := (B.nt h1)
  refine R0 ?_
  refine CF 2 Z Z Z Z Z O Z (fun w γ => f70 w n τ1 b pb cb (γ.q 0 Z) hokb) ?_
  rintro ⟨p1, c1⟩ hq2
  refine R0 ?_
  have hP1 : a07 b n_ = b := by simp only [a07, h1, cT, cF]
  refine R1 ?_
  intro w1 G bs hI hΓ
  rw [hP1]
  exact Post.of [3] (p1, c1) hI hΓ Z Z Z (GoT.okm (α := List UInt8) τ1 hq2)
 have h1d := (B.nf h1)
 refine R0 ?_
 have r1 : (n_.parts).length ≤ bd n := (okl (ok_Name hokn_)).1
 refine CF 4 Z Z Z Z Z O Z (fun w γ => f132 w n τ1 b pb cb (γ.q 0 Z) (((n_.parts).length : Nat) : Int) hokb (i6 (((n_.parts).length : Nat) : Int))) ?_
 rintro ⟨p2, c2⟩ hq3
 have q1 := len_implAV b (((n_.parts).length : Nat) : Int)
 refine R0 ?_
 have hv0 := vnB_impl h1d
 have hv1 := hv0.1
 have hv2 : b.length ≤ bd n := (okl hokb).1
 refine WX.loop (ι := (Option Addr) × Nat × (List UInt8) × Nat) ⟨fun | (pout, cout, out, i) => (i ≤ (n_.parts).length) ∧ (out.length ≤ bd (n + 1) ∧ ∀ z_ ∈ out, GoT.ok (n + 1) z_) ∧ (out.length ≤ b.length + 6 + 14 * i) ∧ (a2p n_.parts ((a10 b (((n_.parts).length : Nat) : Int)) : List UInt8) = a2p ((n_.parts).drop i) out), fun | (pout, cout, out, i) => (n_.parts).length - i, fun | (pout, cout, out, i) => [(5, .v (.slice pout ((out).length) cout)), (21, .v (.int .i64 (((i : Nat) : Int)))), (20, .v (.int .i64 ((((n_.parts).length : Nat) : Int)))), (19, .v (.slice K1 ((n_.parts).length) M1))], fun | (pout, cout, out, i) => [], fun | (pout, cout, out, i) => [], fun | (pout, cout, out, i) => [(0, MF.rs .stb pb cb b), (1, MF.rs .stb K1 M1 n_.parts), (5, MF.os pout cout out)]⟩ (p2, c2, ((a10 b (((n_.parts).length : Nat) : Int)) : List UInt8), 0) ⟨(Nat.zero_le _), hq3, τ1, Z⟩
  (.cons Z (.cons Z (.cons Z (.cons Z (.nil))))) .nil .nil [0, 1, 5] Z ?_
 rintro ⟨pout, cout, out, i⟩ ⟨v1, v2, v3, v4⟩
 have v2L := v2.1
 refine R0 ?_
 refine WX.cases 22 Z ?_ ?_ <;> intro h2
 ·skip
  have h2d := B.dt h2
  have e1i : i < (n_.parts).length := τ1
  obtain ⟨e1, e1h⟩ : ∃ e1, (n_.parts)[i]? = some e1 := ⟨_, List.getElem?_eq_getElem e1i⟩
  have ok1 : GoT.ok n e1 := (okl (ok_Name hokn_)).2 _ (List.mem_of_getElem? e1h)
  refine R0 ?_
  refine WX.idx 1 i ttOk Z Z Z Z Z Z Z Z Z Z e1i ?_
  rintro ad1 rfl
  refine WX.ldE 1 6 e1 ttOk Z Z Z Z Z Z Z Z e1h O O ?_
  rintro ⟨⟩
  refine R0 ?_
  have r2 : (e1).size ≤ bd n := ok1
  refine WX.toB 6 ttOk Z Z Z Z Z Z Z Z Z Z Z τ1 ?_
  intro p3 c3
  have r3 : ((e1).data.toList).length = (e1).size := rfl
  refine WX.der 7 (MF.rs .der pout cout out) Z (fun _ hΓ => (hΓ.get 5 Z : OwSl _ _ _ _).rd) ?_
  refine CF 8 Z Z Z Z Z O Z (fun w γ => f165 w (n + 1) τ1 out pout cout (γ.q 7 Z) ((e1).data.toList) (some p3) c3 (γ.q 6 Z) (okl_of v2) (okl_mk τ1 (fun _ _ => trivial) : GoT.ok (n + 1) ((e1).data.toList : List UInt8))) ?_
  rintro ⟨p4, c4⟩ hq4
  have q2 := len_implAB out ((e1).data.toList)
  refine R0 ?_
  refine WX.see Z Z Z (fun _ hΓ => looks_arith Z Z Z Z τ2) ?_
  refine R0 ?_
  refine WX.turn [9] 5 Z (fun _ h => h) Z ?_
  have r4 : (a2e out ((e1).data.toList)).length ≤ bd (n + 3) := (okl hq4).1
  exact WX.iter (p4, c4, (a2e out ((e1).data.toList)), i + 1) ⟨τ1, (okl_mk τ1 (fun _ _ => trivial) : GoT.ok (n + 1) ((a2e out ((e1).data.toList)) : List UInt8)), (by have z_ := hv0.2 _ (List.mem_of_getElem? e1h); have z2_ : ((e1).data.toList).length = (e1).size := rfl; omega), (by rw [v4, drop_get e1h]; simp only [a2p, cT, cF])⟩ τ4 (.cons Z (.cons Z (.cons Z (.cons Z (.nil))))) .nil .nil [0, 1, 5] Z
 have h2d := B.df h2
 refine R0 ?_
 have hX1 : a2p n_.parts ((a10 b (((n_.parts).length : Nat) : Int)) : List UInt8) = ((out) : List UInt8) := by rw [v4, List.drop_eq_nil_of_le (show (n_.parts).length ≤ i by omega)]; simp only [a2p, cT, cF]
 have hP2 : a07 b n_ = out := by simp only [a07, h1, hX1, cT, cF]
 refine R1 ?_
 intro w1 G bs hI hΓ
 rw [hP2]
 exact Post.of [5] (pout, cout) hI hΓ Z Z Z (okl_of v2)
theorem f114 (w : World) (n : Nat) (hn : n + 3 ≤ 9) (b : (List UInt8)) (pb cb) (N0 : RdSl (hp w) pb cb b) (n_ : Name) (K1 M1) (N1 : RdSl (hp w) K1 M1 n_.parts) (hokb : GoT.ok n b) (hokn_ : GoT.ok n n_) :
 Does Tryz.prog 114 #[.slice pb ((b).length) cb, .agg #[.slice K1 ((n_.parts).length) M1]] w emp (Post w emp (fun x : GoT.X ((List UInt8)) => (GoT.sh ((a01 b n_) : (List UInt8)) x).headD undef) (fun x => GoT.oa ((a01 b n_) : (List UInt8)) x) (GoT.ok (n + 1) ((a01 b n_) : (List UInt8)))) := by
 have hb := bS3 hn
 refine EN Tryz.func114 Z (aS2 N0 N1) ?_
 refine R0 ?_
 refine WX.bld ttOk Z Z Z Z Z Z Z ?_
 intro p1
 refine R0 ?_
 refine WX.free 2 (MF.ol [] ([] : List UInt8)) Z ?_
 have r1 : (b).length ≤ bd n := (okl hokb).1
 refine WX.appG1 7 0 3 (b : List UInt8).length ttOk Z Z Z Z Z Z Z Z Z Z Z Z Z τ7 τ1 τ1 (fun _ _ _ => Z) ?_
 intro ys1 p2 c1
 refine WX.know (fun G hΓ => (hΓ.get 3 Z : RdL _ _ _).flat) ?_
 intro hf1
 refine WX.turn [2] 4 Z (fun h hs => ol_flat hs hf1) (gs := [MF.ol ([] ++ ys1) (b : List UInt8)]) Z ?_
 refine R0 ?_
 refine CV Z Z Z Z Z O Z (fun w γ => f56 w n τ1 n_ K1 M1 (γ.q 1 Z) hokn_) ?_
 intro hq1
 refine R0 ?_
 refine WX.cases 12 Z ?_ ?_ <;> intro h1
 ·skip
  have h1d := (B.nt h1)
  refine R0 ?_
  refine WX.seal 7 4 5 Z Z Z Z Z ?_
  have hP1 : a01 b n_ = b := by simp only [a01, h1, cT, cF]
  refine R1 ?_
  intro w1 G bs hI hΓ
  rw [hP1]
  exact Post.of [6] (p2, c1) hI hΓ Z Z Z (okl_mk τ1 (fun _ _ => trivial) : GoT.ok (n + 1) (b : List UInt8))
 have h1d := (B.nf h1)
 refine R0 ?_
 refine WX.seal 7 4 7 Z Z Z Z Z ?_
 have r2 : (n_.parts).length ≤ bd n := (okl (ok_Name hokn_)).1
 refine CF 9 Z Z Z Z Z O Z (fun w γ => f135 w n τ1 b p2 c1 (γ.q 7 Z) (((n_.parts).length : Nat) : Int) (okl_mk τ1 (fun _ _ => trivial) : GoT.ok n (b : List UInt8)) (i6 (((n_.parts).length : Nat) : Int))) ?_
 rintro ⟨p3, c2⟩ hq2
 have q1 := len_specAV b (((n_.parts).length : Nat) : Int)
 refine R0 ?_
 have hv0 := vnB_spec h1d
 have hv1 := hv0.1
 have hv2 : b.length ≤ bd n := (okl hokb).1
 refine WX.loop (ι := (Option Addr) × Nat × (List UInt8) × Nat) ⟨fun | (pout, cout, out, i) => (i ≤ (n_.parts).length) ∧ (out.length ≤ bd (n + 1) ∧ ∀ z_ ∈ out, GoT.ok (n + 1) z_) ∧ (out.length ≤ b.length + 6 + 14 * i) ∧ (a2q n_.parts ((a11 b (((n_.parts).length : Nat) : Int)) : List UInt8) = a2q ((n_.parts).drop i) out), fun | (pout, cout, out, i) => (n_.parts).length - i, fun | (pout, cout, out, i) => [(5, .v (.slice pout ((out).length) cout)), (6, .v (.int .i64 (((i : Nat) : Int)))), (3, .p 3 0)], fun | (pout, cout, out, i) => [(3, ⟨26, [.slice K1 ((n_.parts).length) M1]⟩)], fun | (pout, cout, out, i) => [], fun | (pout, cout, out, i) => [(0, MF.rs .stb pb cb b), (1, MF.rs .stb K1 M1 n_.parts), (10, MF.os pout cout out)]⟩ (p3, c2, ((a11 b (((n_.parts).length : Nat) : Int)) : List UInt8), 0) ⟨(Nat.zero_le _), hq2, τ1, Z⟩
  (.cons Z (.cons Z (.cons Z (.nil)))) (.cons Z (.nil)) .nil [0, 1, 10] Z ?_
 rintro ⟨pout, cout, out, i⟩ ⟨v1, v2, v3, v4⟩
 have v2L := v2.1
 refine R0 ?_
 refine WX.cases 23 Z ?_ ?_ <;> intro h2
 ·skip
  have h2d := B.dt h2
  have e1i : i < (n_.parts).length := τ1
  obtain ⟨e1, e1h⟩ : ∃ e1, (n_.parts)[i]? = some e1 := ⟨_, List.getElem?_eq_getElem e1i⟩
  have ok1 : GoT.ok n e1 := (okl (ok_Name hokn_)).2 _ (List.mem_of_getElem? e1h)
  refine R0 ?_
  refine WX.idx 1 i ttOk Z Z Z Z Z Z Z Z Z Z e1i ?_
  rintro ad1 rfl
  refine WX.ldE 1 11 e1 ttOk Z Z Z Z Z Z Z Z e1h O O ?_
  rintro ⟨⟩
  have r3 : (e1).size ≤ bd n := ok1
  refine WX.toB 11 ttOk Z Z Z Z Z Z Z Z Z Z Z τ1 ?_
  intro p4 c3
  have r4 : ((e1).data.toList).length = (e1).size := rfl
  refine WX.der 12 (MF.rs .der pout cout out) Z (fun _ hΓ => (hΓ.get 10 Z : OwSl _ _ _ _).rd) ?_
  refine CF 13 Z Z Z Z Z O Z (fun w γ => f136 w (n + 1) τ1 out pout cout (γ.q 12 Z) ((e1).data.toList) (some p4) c3 (γ.q 11 Z) (okl_of v2) (okl_mk τ1 (fun _ _ => trivial) : GoT.ok (n + 1) ((e1).data.toList : List UInt8))) ?_
  rintro ⟨p5, c4⟩ hq3
  have q2 := len_specAB out ((e1).data.toList)
  refine R0 ?_
  refine WX.see Z Z Z (fun _ hΓ => looks_arith Z Z Z Z τ2) ?_
  refine R0 ?_
  refine WX.turn [14] 10 Z (fun _ h => h) Z ?_
  have r5 : (a2f out ((e1).data.toList)).length ≤ bd (n + 3) := (okl hq3).1
  exact WX.iter (p5, c4, (a2f out ((e1).data.toList)), i + 1) ⟨τ1, (okl_mk τ1 (fun _ _ => trivial) : GoT.ok (n + 1) ((a2f out ((e1).data.toList)) : List UInt8)), (by have z_ := hv0.2 _ (List.mem_of_getElem? e1h); have z2_ : ((e1).data.toList).length = (e1).size := rfl; omega), (by rw [v4, drop_get e1h]; simp only [a2q, cT, cF])⟩ τ4 (.cons Z (.cons Z (.cons Z (.nil)))) (.cons Z (.nil)) .nil [0, 1, 10] Z
 have h2d := B.df h2
 refine R0 ?_
 have hX1 : a2q n_.parts ((a11 b (((n_.parts).length : Nat) : Int)) : List UInt8) = ((out) : List UInt8) := by rw [v4, List.drop_eq_nil_of_le (show (n_.parts).length ≤ i by omega)]; simp only [a2q, cT, cF]
 have hP2 : a01 b n_ = out := by simp only [a01, h1, hX1, cT, cF]
 refine R1 ?_
 intro w1 G bs hI hΓ
 rw [hP2]
 exact Post.of [10] (pout, cout) hI hΓ Z Z Z (okl_of v2)
end Go.Proofs.YthdgpfbldbabmaaGreatDoor

namespace Go.Stp
set_option linter.unusedVariables false
set_option linter.unusedSimpArgs false
def a2r (n_ : Int) (m : Int) : Int :=
 bif (!(a0m m 1 1000000000000)) then
  0
 else
  (Int.tmod (IntKind.i64.wrap ((Int.tmod n_ m) + m)) m)
def a2y : List UInt8 → (List Int) → (List Int)
 | [], l => ((l) : List Int)
 | e1 :: rest_, l =>
  a2y rest_ (((l ++ [((e1).toNat : Int)])) : List Int)
def a00 (b : (List UInt8)) : (List Int) :=
 match a2y b ([(((b).length : Nat) : Int)] : List Int) with
  | l =>
   l
theorem len_specBIL : ∀ (b : List UInt8) (l : List Int), (a2y b l).length = l.length + b.length
 | [], l => by simp [a2y]
 | x :: b, l => by
  simp only [a2y]
  rw [len_specBIL b]
  simp only [List.length_append, List.length_cons, List.length_nil]; omega
theorem len_specBI (b : List UInt8) : (a00 b).length = b.length + 1 := by
 unfold a00
 rw [len_specBIL]
 simp only [List.length_cons, List.length_nil]; omega
def a2z (x_ : DataP) : (List Int) :=
 ((((a00 (a01 ([]) x_.name)) ++ (a00 x_.content)) ++ (a00 (a01 ([]) x_.keyName))) ++ [x_.freshUntil])
def a3w : List Int → Int → Int
 | [], d => d
 | e1 :: rest_, d =>
  a3w rest_ (Int.tmod (IntKind.i64.wrap ((IntKind.i64.wrap ((IntKind.i64.wrap (d * 1000003)) + (a2r e1 2147483647))) + 13)) 2147483647)
def a30 (l : (List Int)) : Int :=
 match a3w l 11 with
  | d =>
   d
def a3x (secret : Int) (l : (List Int)) : Int :=
 (a30 (([secret] ++ l) ++ [secret]))
def a2s (n_ : Int) (m : Int) : Int :=
 bif (!(a0r m 1 1000000000000)) then
  0
 else
  (Int.tmod (IntKind.i64.wrap ((Int.tmod n_ m) + m)) m)
def a32 : List UInt8 → (List Int) → (List Int)
 | [], out => ((out) : List Int)
 | e1 :: rest_, out =>
  a32 rest_ (((out ++ [((e1).toNat : Int)])) : List Int)
def a05 (b : (List UInt8)) : (List Int) :=
 match a32 b ([(((b).length : Nat) : Int)] : List Int) with
  | out =>
   out
theorem len_implBIL : ∀ (b : List UInt8) (l : List Int), (a32 b l).length = l.length + b.length
 | [], l => by simp [a32]
 | x :: b, l => by
  simp only [a32]
  rw [len_implBIL b]
  simp only [List.length_append, List.length_cons, List.length_nil]; omega
theorem len_implBI (b : List UInt8) : (a05 b).length = b.length + 1 := by
 unfold a05
 rw [len_implBIL]
 simp only [List.length_cons, List.length_nil]; omega
def a3y : List Int → Int → Int
 | [], d => d
 | e1 :: rest_, d =>
  a3y rest_ (Int.tmod (IntKind.i64.wrap ((IntKind.i64.wrap ((IntKind.i64.wrap (d * 1000003)) + (a2s e1 2147483647))) + 13)) 2147483647)
def a33 (l : (List Int)) : Int :=
 match a3y l 11 with
  | d =>
   d
def slices_Grow_int (s : List Int) (n : Int) : List Int := []
def slices_Concat_int_L2 : List (List Int) → (List Int) → (List Int)
 | [], newslice => ((newslice) : List Int)
 | e2 :: rest_, newslice =>
  slices_Concat_int_L2 rest_ (((newslice ++ e2)) : List Int)
def slices_Concat_int_L1 : List (List Int) → Int → Int
 | [], size => size
 | e1 :: rest_, size =>
  slices_Concat_int_L1 rest_ (size + (((e1).length : Nat) : Int))
def slices_Concat_int (slices : (List (List Int))) : (List Int) :=
 match slices_Concat_int_L1 slices 0 with
  | size =>
   match slices_Concat_int_L2 slices ((slices_Grow_int ([] : List Int) size) : List Int) with
    | newslice =>
     newslice
theorem concL : ∀ (l : List (List Int)) (o : List Int), slices_Concat_int_L2 l o = o ++ l.flatten
 | [], o => by simp [slices_Concat_int_L2]
 | x :: l, o => by
  simp only [slices_Concat_int_L2]
  rw [concL l]
  simp
theorem len_Concat (l : List (List Int)) : (slices_Concat_int l).length = l.flatten.length := by
 unfold slices_Concat_int slices_Grow_int
 simp only [concL, List.nil_append]
def a4d (secret : Int) (l : (List Int)) : Int :=
 (a33 (slices_Concat_int ([([secret]), l, ([secret])])))
def a29 (x_ : DataP) : (List Int) :=
 ((slices_Concat_int ([(a05 (a07 ([] : List UInt8) x_.name)), (a05 x_.content), (a05 (a07 ([] : List UInt8) x_.keyName))])) ++ ([x_.freshUntil] : List Int))
end Go.Stp

