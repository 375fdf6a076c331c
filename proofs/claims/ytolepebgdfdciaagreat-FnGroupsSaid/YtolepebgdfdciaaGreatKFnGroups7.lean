/-
  What the proof of one law needs: rules of the program logic, functions as Lean functions, contracts. No condition but what each says. Written by a program (pack.py) out of my own texts.
-/
import Derived.Test.YtolepebgdfdciaaGreatKFnGroups6
namespace Go.Proofs.YtolepebgdfdciaaGreat
open Go.Stp
set_option linter.unusedVariables false
set_option linter.unusedSimpArgs false
theorem f197 (w : World) (n : Nat) (hn : n + 4 ≤ 9) (H : GH) (hH : Le H (hp w)) (bc_ : Nat) (c_b : (List UInt8)) (K0 : Option Addr) (M0 : Nat) (N0 : RdSl (cut (hp w) H) K0 M0 c_b) (c_i : Int) (c_h : Int) (hown : Sep H [MF.bx bc_ 182 [.slice K0 ((c_b).length) M0, .int .i64 (c_i), .int .i64 (c_h)]]) (hokc_b : GoT.ok n c_b) (hokc_i : NN c_i) (hokc_h : GoT.ok n c_h) (o0_ : StateVector) (o1_ : Int) (o2_ : Int) (hres : a3o c_b c_i c_h = (o0_, o1_, o2_)) :
 Does Tryz.prog 197 #[.pointer (some ⟨bc_, 0, none⟩)] w H (Post w H (fun x : GoT.X (StateVector) => .agg ⟨GoT.sh (o0_ : StateVector) x⟩) (fun x => MF.bx bc_ 182 [.slice K0 ((c_b).length) M0, .int .i64 (o1_), .int .i64 (o2_)] :: GoT.oa (o0_ : StateVector) x) (GoT.ok (n + 1) (o0_ : StateVector) ∧ NN (o1_) ∧ I64 (o2_))) := by
 have hbP := bd_pos n
 have hbS0 : bd (n + 1) = 4 * bd (n) := bd_succ (n := n) (by omega)
 have hbS1 : bd (n + 2) = 4 * bd (n + 1) := bd_succ (n := n + 1) (by omega)
 have hbS2 : bd (n + 3) = 4 * bd (n + 2) := bd_succ (n := n + 2) (by omega)
 have hbS3 : bd (n + 4) = 4 * bd (n + 3) := bd_succ (n := n + 3) (by omega)
 have hbB := bd_big (n := (n + 4)) (by omega)
 have hbM := bd_mono (show n ≤ n + 4 by omega)
 have hc_bz : (c_b).length ≤ bd n := (okl hokc_b).1
 refine WX.enterP (tt := tt) (Γ := [(0, MF.rs .stb K0 M0 c_b)]) 1 Tryz.func197 Z J Z (allS_cons Z N0 allS_nil) hH hown (fun f hf => by cases hf) Z ?_
 refine R0 ?_
 obtain ⟨⟨u1, u2, u3⟩, hu1⟩ : ∃ r_, a08 c_b c_i c_h 5 = r_ := ⟨_, rfl⟩
 refine WX.callP (ds := fun _ => []) 999 2 Z (fun _ _ _ => All.nil) (fun _ f hf => by cases hf) Z Z Z Z Z O Z (fun w G bs H hI hH hs hΓ => f84 w n (by omega) H hH (bs 999) c_b K0 M0 (hΓ.get 0 Z) c_i c_h 5 hs hokc_b hokc_i hokc_h (show I64 5 from (by unfold I64; omega)) u1 u2 u3 hu1) O O ?_
 rintro ⟨⟩ hq1
 have q1 := l1Below_rng c_b c_i c_h 5
 rw [hu1] at q1
 try dsimp only at q1
 refine R0 ?_
 refine WX.free 4 (MF.os none 0 ([] : List TableEntry)) (owSl_nil _ _) ?_
 refine WX.der 3 (MF.rs .der none 0 ([] : List TableEntry)) Z (fun _ hΓ => (hΓ.get 4 Z : OwSl _ _ _ _).rd) ?_
 refine WX.loop (ι := Int × (Option Addr) × Nat × (List TableEntry) × Int × Int) ⟨fun | (i, pv, cv, v, u999_i, u999_h) => (-9223372036854775808 ≤ i ∧ i ≤ 9223372036854775807) ∧ (v.length ≤ bd (n + 1) ∧ ∀ z_ ∈ v, GoT.ok (n + 1) z_) ∧ (NN u999_i) ∧ (-9223372036854775808 ≤ u999_h ∧ u999_h ≤ 9223372036854775807) ∧ (v.length + i.toNat ≤ 4) ∧ (a0l c_b u1 (([] : List TableEntry) : List TableEntry) u2 u3 = a0l c_b i v u999_i u999_h), fun | (i, pv, cv, v, u999_i, u999_h) => i.toNat, fun | (i, pv, cv, v, u999_i, u999_h) => [(4, .v (.int .i64 (i))), (3, .p 3 0), (2, .p 2 0), (0, .p 999 0)], fun | (i, pv, cv, v, u999_i, u999_h) => [(3, ⟨57, [.slice pv ((v).length) cv]⟩), (2, ⟨57, [.slice none (0) 0]⟩), (999, ⟨182, [.slice K0 ((c_b).length) M0, .int .i64 (u999_i), .int .i64 (u999_h)]⟩)], fun | (i, pv, cv, v, u999_i, u999_h) => [], fun | (i, pv, cv, v, u999_i, u999_h) => [(0, MF.rs .stb K0 M0 c_b), (4, MF.os pv cv v)]⟩ (u1, none, 0, (([] : List TableEntry) : List TableEntry), u2, u3) ⟨hq1.1, (okl_mk (Nat.zero_le _) (fun a ha => by cases ha) : GoT.ok (n + 1) (([] : List TableEntry) : List TableEntry)), hq1.2.1, hq1.2.2, (by simp; omega), Z⟩
  (.cons Z (.cons Z (.cons Z (.cons Z (.nil))))) (.cons Z (.cons Z (.cons Z (.nil)))) .nil [0, 4] Z ?_
 rintro ⟨i, pv, cv, v, u999_i, u999_h⟩ hpre
 have hpre_ : (-9223372036854775808 ≤ i ∧ i ≤ 9223372036854775807) ∧ (v.length ≤ bd (n + 1) ∧ ∀ z_ ∈ v, GoT.ok (n + 1) z_) ∧ (NN u999_i) ∧ (-9223372036854775808 ≤ u999_h ∧ u999_h ≤ 9223372036854775807) ∧ (v.length + i.toNat ≤ 4) ∧ (a0l c_b u1 (([] : List TableEntry) : List TableEntry) u2 u3 = a0l c_b i v u999_i u999_h) := hpre
 clear hpre
 obtain ⟨v1, v2, v3, v4, v5, v6⟩ := hpre_
 have v2L := v2.1
 refine R0 ?_
 refine WX.cases 12 Z (fun h1 => ?_) (fun h1 => ?_)
 ·skip
  have h1d := B.dt h1
  refine R0 ?_
  refine WX.bld ttOk Z Z Z Z Z Z Z ?_
  intro p1
  refine WX.turn [] 5 Z (fun h hs => one_sep (⟨(), _, emp, _, Z, emp_le _, Le.refl _, emp_dj _, trivial, ⟨(), _, emp, _, Z, emp_le _, Le.refl _, emp_dj _, trivial, ⟨(), _, emp, _, Z, emp_le _, Le.refl _, emp_dj _, trivial, ⟨(), _, emp, _, Z, emp_le _, Le.refl _, emp_dj _, trivial, ⟨(), _, emp, _, Z, emp_le _, Le.refl _, emp_dj _, trivial, Z⟩⟩⟩⟩⟩ : OwL _ _ ([(⟨#[47, 97]⟩ : Str), (⟨#[47, 98]⟩ : Str), (⟨#[47, 110, 101, 119, 115]⟩ : Str), (⟨#[47, 97, 47, 98]⟩ : Str), (⟨#[47, 99]⟩ : Str)] : List Str))) (gs := [MF.ol [.string (⟨#[47, 97]⟩ : Str), .string (⟨#[47, 98]⟩ : Str), .string (⟨#[47, 110, 101, 119, 115]⟩ : Str), .string (⟨#[47, 97, 47, 98]⟩ : Str), .string (⟨#[47, 99]⟩ : Str)] ([(⟨#[47, 97]⟩ : Str), (⟨#[47, 98]⟩ : Str), (⟨#[47, 110, 101, 119, 115]⟩ : Str), (⟨#[47, 97, 47, 98]⟩ : Str), (⟨#[47, 99]⟩ : Str)] : List Str)]) Z ?_
  refine WX.seal 16 5 6 Z Z Z Z Z ?_
  have r1 : (⟨#[47, 97]⟩ : Str).size = 2 := rfl
  have r2 : (⟨#[47, 98]⟩ : Str).size = 2 := rfl
  have r3 : (⟨#[47, 110, 101, 119, 115]⟩ : Str).size = 5 := rfl
  have r4 : (⟨#[47, 97, 47, 98]⟩ : Str).size = 4 := rfl
  have r5 : (⟨#[47, 99]⟩ : Str).size = 2 := rfl
  obtain ⟨⟨u4, u5, u6⟩, hu2⟩ : ∃ r_, a1o c_b u999_i u999_h ([(⟨#[47, 97]⟩ : Str), (⟨#[47, 98]⟩ : Str), (⟨#[47, 110, 101, 119, 115]⟩ : Str), (⟨#[47, 97, 47, 98]⟩ : Str), (⟨#[47, 99]⟩ : Str)]) = r_ := ⟨_, rfl⟩
  refine WX.callP (ds := fun _ => []) 999 8 Z (fun _ _ _ => All.nil) (fun _ f hf => by cases hf) Z Z Z Z Z O Z (fun w G bs H hI hH hs hΓ => f110 w n (by omega) H hH (bs 999) c_b K0 M0 (hΓ.get 0 Z) u999_i u999_h ([(⟨#[47, 97]⟩ : Str), (⟨#[47, 98]⟩ : Str), (⟨#[47, 110, 101, 119, 115]⟩ : Str), (⟨#[47, 97, 47, 98]⟩ : Str), (⟨#[47, 99]⟩ : Str)]) p1 5 (hΓ.get 6 Z) hs hokc_b v3 v4 (by first | assumption | omega | (simp; done) | (simp; omega)) (okl_mk (by simp; omega) (all_cons (α := Str) (Nat.le_trans (by decide) (bd_pos n)) (all_cons (α := Str) (Nat.le_trans (by decide) (bd_pos n)) (all_cons (α := Str) (Nat.le_trans (by decide) (bd_pos n)) (all_cons (α := Str) (Nat.le_trans (by decide) (bd_pos n)) (all_cons (α := Str) (Nat.le_trans (by decide) (bd_pos n)) (fun a ha => by cases ha)))))) : GoT.ok n ([(⟨#[47, 97]⟩ : Str), (⟨#[47, 98]⟩ : Str), (⟨#[47, 110, 101, 119, 115]⟩ : Str), (⟨#[47, 97, 47, 98]⟩ : Str), (⟨#[47, 99]⟩ : Str)] : List Str)) u4 u5 u6 hu2) O O ?_
  rintro ⟨⟩ hq2
  refine WX.callF 9 (fun _ _ h => GoT.ow_rd h) (fun _ f hf => GoT.fak f hf) Z Z Z Z Z O Z (fun w G bs hI hΓ => f109 w n (by omega) u4 hq2.1) O O ?_
  rintro ⟨p2, c1⟩ hq3
  refine R0 ?_
  refine WX.der 11 (MF.rs .der pv cv v) Z (fun _ hΓ => (hΓ.get 4 Z : OwSl _ _ _ _).rd) ?_
  refine WX.draw [1, 2, 4, 5, 6, 7, 8, 9, 10, 11] mixed ?_
  intro bs G0 hΓ0
  refine DX.takes (fuel := 10) ttOk [(0, true), (3, true)] J Z ?_
  refine DX.toTX ?_
  intro S_
  refine TX.all3 1 2 4 J ?_ ?_ ?_
  ·skip
   refine TS.op 1 Z J ?_
   refine R0 ?_
   refine WX.back0 ?_
   refine TX.all2 2 4 J ?_ ?_
   ·skip
    refine TS.op 2 Z J ?_
    refine R0 ?_
    refine WX.back0 ?_
    refine TX.all1 4 J ?_
    refine TS.op 4 Z J ?_
    obtain ⟨⟨u7, u8, u9⟩, hu3⟩ : ∃ r_, a08 c_b u5 u6 5 = r_ := ⟨_, rfl⟩
    refine WX.callP (ds := fun _ => []) 999 12 Z (fun _ _ _ => All.nil) (fun _ f hf => by cases hf) Z Z Z Z Z O Z (fun w G bs H hI hH hs hΓ => f84 w n (by omega) H hH (bs 999) c_b K0 M0 (hΓ.get 0 Z) u5 u6 5 hs hokc_b hq2.2.1 hq2.2.2 (show I64 5 from (by unfold I64; omega)) u7 u8 u9 hu3) O O ?_
    rintro ⟨⟩ hq4
    have q2 := l1Below_rng c_b u5 u6 5
    rw [hu3] at q2
    try dsimp only at q2
    refine R0 ?_
    refine WX.back0 ?_
    refine TX.all1 5 J ?_
    refine TS.op 5 Z J ?_
    have r6 : -9223372036854775808 ≤ u7 ∧ u7 ≤ 9223372036854775807 := hq4.1
    refine WX.see Z Z Z (fun _ hΓ => looks_arith Z Z Z Z (by unfold I64; first | omega | (simp only [List.length_take] at *; omega))) ?_
    refine R0 ?_
    refine WX.back0 ?_
    refine TX.all1 6 J ?_
    refine TS.callF 6 13 (fun _ _ h => GoT.ow_rd h) (fun _ f hf => GoT.fak f hf) Z Z Z Z Z Z O Z (fun w G bs hI hΓ => f117 w (n + 1) (by omega) v pv cv (hΓ.get 11 Z) (a01 u4) p2 c1 (hΓ.get 9 Z) (1 + u7) (okl_of v2) hq3 (show I64 (1 + u7) from (by unfold I64; omega))) O O ?_
    rintro ⟨p3, c2⟩ hq5
    have q3 := (put_spec v (a01 u4) (1 + u7)).len
    have hfx1 := (put_spec v (a01 u4) (1 + u7)).els (k := (n + 1)) v2.2 hq3 (show I64 (1 + u7) from (by unfold I64; omega))
    refine TX.all1 7 J ?_
    refine TS.op 7 Z J ?_
    refine R0 ?_
    refine WX.back0 ?_
    refine TX.all2 8 9 J ?_ ?_
    ·skip
     refine TS.op 8 Z J ?_
     refine R0 ?_
     refine WX.back0 ?_
     refine TX.all2 9 10 J ?_ ?_
     ·skip
      refine TS.op 9 Z J ?_
      refine R0 ?_
      refine WX.back0 ?_
      refine TX.tail [10, 11] Z Z J ?_
      refine R0 ?_
      refine WX.see Z Z Z (fun _ hΓ => looks_arith Z Z Z Z (by unfold I64; first | omega | (simp only [List.length_take] at *; omega))) ?_
      refine R0 ?_
      refine WX.turn [14] 4 Z (fun _ h => h) Z ?_
      have r7 : (u4).size ≤ bd n := hq2.1
      have r8 : ((a03 v (a01 u4) (1 + u7)).1).length ≤ bd (n + 4) := (okl hq5).1
      exact WX.iter (i - 1, p3, c2, (a03 v (a01 u4) (1 + u7)).1, u8, u9) ⟨(by first | assumption | omega), (okl_mk (by omega) hfx1 : GoT.ok (n + 1) ((a03 v (a01 u4) (1 + u7)).1 : List TableEntry)), hq4.2.1, hq4.2.2, (by omega), (by rw [v6]; rw [a0l]; simp only [h1, h1d, hu2, hu3, ct, cf, ↓reduceIte, Bool.false_eq_true])⟩ (by first | (dsimp only; omega) | omega) (.cons Z (.cons Z (.cons Z (.cons Z (.nil))))) (.cons Z (.cons Z (.cons Z (.nil)))) .nil [0, 4] Z
     refine TS.op 10 Z J ?_
     refine R0 ?_
     refine WX.back0 ?_
     refine TX.tail [9, 11] Z Z J ?_
     refine R0 ?_
     refine WX.see Z Z Z (fun _ hΓ => looks_arith Z Z Z Z (by unfold I64; first | omega | (simp only [List.length_take] at *; omega))) ?_
     refine R0 ?_
     refine WX.turn [14] 4 Z (fun _ h => h) Z ?_
     have r9 : (u4).size ≤ bd n := hq2.1
     have r10 : ((a03 v (a01 u4) (1 + u7)).1).length ≤ bd (n + 4) := (okl hq5).1
     exact WX.iter (i - 1, p3, c2, (a03 v (a01 u4) (1 + u7)).1, u8, u9) ⟨(by first | assumption | omega), (okl_mk (by omega) hfx1 : GoT.ok (n + 1) ((a03 v (a01 u4) (1 + u7)).1 : List TableEntry)), hq4.2.1, hq4.2.2, (by omega), (by rw [v6]; rw [a0l]; simp only [h1, h1d, hu2, hu3, ct, cf, ↓reduceIte, Bool.false_eq_true])⟩ (by first | (dsimp only; omega) | omega) (.cons Z (.cons Z (.cons Z (.cons Z (.nil))))) (.cons Z (.cons Z (.cons Z (.nil)))) .nil [0, 4] Z
    refine TS.op 9 Z J ?_
    refine R0 ?_
    refine WX.back0 ?_
    refine TX.tail [8, 10, 11] Z Z J ?_
    refine R0 ?_
    refine WX.see Z Z Z (fun _ hΓ => looks_arith Z Z Z Z (by unfold I64; first | omega | (simp only [List.length_take] at *; omega))) ?_
    refine R0 ?_
    refine WX.turn [14] 4 Z (fun _ h => h) Z ?_
    have r11 : (u4).size ≤ bd n := hq2.1
    have r12 : ((a03 v (a01 u4) (1 + u7)).1).length ≤ bd (n + 4) := (okl hq5).1
    exact WX.iter (i - 1, p3, c2, (a03 v (a01 u4) (1 + u7)).1, u8, u9) ⟨(by first | assumption | omega), (okl_mk (by omega) hfx1 : GoT.ok (n + 1) ((a03 v (a01 u4) (1 + u7)).1 : List TableEntry)), hq4.2.1, hq4.2.2, (by omega), (by rw [v6]; rw [a0l]; simp only [h1, h1d, hu2, hu3, ct, cf, ↓reduceIte, Bool.false_eq_true])⟩ (by first | (dsimp only; omega) | omega) (.cons Z (.cons Z (.cons Z (.cons Z (.nil))))) (.cons Z (.cons Z (.cons Z (.nil)))) .nil [0, 4] Z
   refine TS.op 4 Z J ?_
   obtain ⟨⟨u10, u11, u12⟩, hu4⟩ : ∃ r_, a08 c_b u5 u6 5 = r_ := ⟨_, rfl⟩
   refine WX.callP (ds := fun _ => []) 999 15 Z (fun _ _ _ => All.nil) (fun _ f hf => by cases hf) Z Z Z Z Z O Z (fun w G bs H hI hH hs hΓ => f84 w n (by omega) H hH (bs 999) c_b K0 M0 (hΓ.get 0 Z) u5 u6 5 hs hokc_b hq2.2.1 hq2.2.2 (show I64 5 from (by unfold I64; omega)) u10 u11 u12 hu4) O O ?_
   rintro ⟨⟩ hq6
   have q4 := l1Below_rng c_b u5 u6 5
   rw [hu4] at q4
   try dsimp only at q4
   refine R0 ?_
   refine WX.back0 ?_
   refine TX.all2 2 5 J ?_ ?_
   ·skip
    refine TS.op 2 Z J ?_
    refine R0 ?_
    refine WX.back0 ?_
    refine TX.all1 5 J ?_
    refine TS.op 5 Z J ?_
    have r13 : -9223372036854775808 ≤ u10 ∧ u10 ≤ 9223372036854775807 := hq6.1
    refine WX.see Z Z Z (fun _ hΓ => looks_arith Z Z Z Z (by unfold I64; first | omega | (simp only [List.length_take] at *; omega))) ?_
    refine R0 ?_
    refine WX.back0 ?_
    refine TX.all1 6 J ?_
    refine TS.callF 6 16 (fun _ _ h => GoT.ow_rd h) (fun _ f hf => GoT.fak f hf) Z Z Z Z Z Z O Z (fun w G bs hI hΓ => f117 w (n + 1) (by omega) v pv cv (hΓ.get 11 Z) (a01 u4) p2 c1 (hΓ.get 9 Z) (1 + u10) (okl_of v2) hq3 (show I64 (1 + u10) from (by unfold I64; omega))) O O ?_
    rintro ⟨p4, c3⟩ hq7
    have q5 := (put_spec v (a01 u4) (1 + u10)).len
    have hfx2 := (put_spec v (a01 u4) (1 + u10)).els (k := (n + 1)) v2.2 hq3 (show I64 (1 + u10) from (by unfold I64; omega))
    refine TX.all1 7 J ?_
    refine TS.op 7 Z J ?_
    refine R0 ?_
    refine WX.back0 ?_
    refine TX.all2 8 9 J ?_ ?_
    ·skip
     refine TS.op 8 Z J ?_
     refine R0 ?_
     refine WX.back0 ?_
     refine TX.all2 9 10 J ?_ ?_
     ·skip
      refine TS.op 9 Z J ?_
      refine R0 ?_
      refine WX.back0 ?_
      refine TX.tail [10, 11] Z Z J ?_
      refine R0 ?_
      refine WX.see Z Z Z (fun _ hΓ => looks_arith Z Z Z Z (by unfold I64; first | omega | (simp only [List.length_take] at *; omega))) ?_
      refine R0 ?_
      refine WX.turn [17] 4 Z (fun _ h => h) Z ?_
      have r14 : (u4).size ≤ bd n := hq2.1
      have r15 : ((a03 v (a01 u4) (1 + u10)).1).length ≤ bd (n + 4) := (okl hq7).1
      exact WX.iter (i - 1, p4, c3, (a03 v (a01 u4) (1 + u10)).1, u11, u12) ⟨(by first | assumption | omega), (okl_mk (by omega) hfx2 : GoT.ok (n + 1) ((a03 v (a01 u4) (1 + u10)).1 : List TableEntry)), hq6.2.1, hq6.2.2, (by omega), (by rw [v6]; rw [a0l]; simp only [h1, h1d, hu2, hu4, ct, cf, ↓reduceIte, Bool.false_eq_true])⟩ (by first | (dsimp only; omega) | omega) (.cons Z (.cons Z (.cons Z (.cons Z (.nil))))) (.cons Z (.cons Z (.cons Z (.nil)))) .nil [0, 4] Z
     refine TS.op 10 Z J ?_
     refine R0 ?_
     refine WX.back0 ?_
     refine TX.tail [9, 11] Z Z J ?_
     refine R0 ?_
     refine WX.see Z Z Z (fun _ hΓ => looks_arith Z Z Z Z (by unfold I64; first | omega | (simp only [List.length_take] at *; omega))) ?_
     refine R0 ?_
     refine WX.turn [17] 4 Z (fun _ h => h) Z ?_
     have r16 : (u4).size ≤ bd n := hq2.1
     have r17 : ((a03 v (a01 u4) (1 + u10)).1).length ≤ bd (n + 4) := (okl hq7).1
     exact WX.iter (i - 1, p4, c3, (a03 v (a01 u4) (1 + u10)).1, u11, u12) ⟨(by first | assumption | omega), (okl_mk (by omega) hfx2 : GoT.ok (n + 1) ((a03 v (a01 u4) (1 + u10)).1 : List TableEntry)), hq6.2.1, hq6.2.2, (by omega), (by rw [v6]; rw [a0l]; simp only [h1, h1d, hu2, hu4, ct, cf, ↓reduceIte, Bool.false_eq_true])⟩ (by first | (dsimp only; omega) | omega) (.cons Z (.cons Z (.cons Z (.cons Z (.nil))))) (.cons Z (.cons Z (.cons Z (.nil)))) .nil [0, 4] Z
    refine TS.op 9 Z J ?_
    refine R0 ?_
    refine WX.back0 ?_
    refine TX.tail [8, 10, 11] Z Z J ?_
    refine R0 ?_
    refine WX.see Z Z Z (fun _ hΓ => looks_arith Z Z Z Z (by unfold I64; first | omega | (simp only [List.length_take] at *; omega))) ?_
    refine R0 ?_
    refine WX.turn [17] 4 Z (fun _ h => h) Z ?_
    have r18 : (u4).size ≤ bd n := hq2.1
    have r19 : ((a03 v (a01 u4) (1 + u10)).1).length ≤ bd (n + 4) := (okl hq7).1
    exact WX.iter (i - 1, p4, c3, (a03 v (a01 u4) (1 + u10)).1, u11, u12) ⟨(by first | assumption | omega), (okl_mk (by omega) hfx2 : GoT.ok (n + 1) ((a03 v (a01 u4) (1 + u10)).1 : List TableEntry)), hq6.2.1, hq6.2.2, (by omega), (by rw [v6]; rw [a0l]; simp only [h1, h1d, hu2, hu4, ct, cf, ↓reduceIte, Bool.false_eq_true])⟩ (by first | (dsimp only; omega) | omega) (.cons Z (.cons Z (.cons Z (.cons Z (.nil))))) (.cons Z (.cons Z (.cons Z (.nil)))) .nil [0, 4] Z
   refine TS.op 5 Z J ?_
   have r20 : -9223372036854775808 ≤ u10 ∧ u10 ≤ 9223372036854775807 := hq6.1
   refine WX.see Z Z Z (fun _ hΓ => looks_arith Z Z Z Z (by unfold I64; first | omega | (simp only [List.length_take] at *; omega))) ?_
   refine R0 ?_
   refine WX.back0 ?_
   refine TX.all1 2 J ?_
   refine TS.op 2 Z J ?_
   refine R0 ?_
   refine WX.back0 ?_
   refine TX.all1 6 J ?_
   refine TS.callF 6 18 (fun _ _ h => GoT.ow_rd h) (fun _ f hf => GoT.fak f hf) Z Z Z Z Z Z O Z (fun w G bs hI hΓ => f117 w (n + 1) (by omega) v pv cv (hΓ.get 11 Z) (a01 u4) p2 c1 (hΓ.get 9 Z) (1 + u10) (okl_of v2) hq3 (show I64 (1 + u10) from (by unfold I64; omega))) O O ?_
   rintro ⟨p5, c4⟩ hq8
   have q6 := (put_spec v (a01 u4) (1 + u10)).len
   have hfx3 := (put_spec v (a01 u4) (1 + u10)).els (k := (n + 1)) v2.2 hq3 (show I64 (1 + u10) from (by unfold I64; omega))
   refine TX.all1 7 J ?_
   refine TS.op 7 Z J ?_
   refine R0 ?_
   refine WX.back0 ?_
   refine TX.all2 8 9 J ?_ ?_
   ·skip
    refine TS.op 8 Z J ?_
    refine R0 ?_
    refine WX.back0 ?_
    refine TX.all2 9 10 J ?_ ?_
    ·skip
     refine TS.op 9 Z J ?_
     refine R0 ?_
     refine WX.back0 ?_
     refine TX.tail [10, 11] Z Z J ?_
     refine R0 ?_
     refine WX.see Z Z Z (fun _ hΓ => looks_arith Z Z Z Z (by unfold I64; first | omega | (simp only [List.length_take] at *; omega))) ?_
     refine R0 ?_
     refine WX.turn [19] 4 Z (fun _ h => h) Z ?_
     have r21 : (u4).size ≤ bd n := hq2.1
     have r22 : ((a03 v (a01 u4) (1 + u10)).1).length ≤ bd (n + 4) := (okl hq8).1
     exact WX.iter (i - 1, p5, c4, (a03 v (a01 u4) (1 + u10)).1, u11, u12) ⟨(by first | assumption | omega), (okl_mk (by omega) hfx3 : GoT.ok (n + 1) ((a03 v (a01 u4) (1 + u10)).1 : List TableEntry)), hq6.2.1, hq6.2.2, (by omega), (by rw [v6]; rw [a0l]; simp only [h1, h1d, hu2, hu4, ct, cf, ↓reduceIte, Bool.false_eq_true])⟩ (by first | (dsimp only; omega) | omega) (.cons Z (.cons Z (.cons Z (.cons Z (.nil))))) (.cons Z (.cons Z (.cons Z (.nil)))) .nil [0, 4] Z
    refine TS.op 10 Z J ?_
    refine R0 ?_
    refine WX.back0 ?_
    refine TX.tail [9, 11] Z Z J ?_
    refine R0 ?_
    refine WX.see Z Z Z (fun _ hΓ => looks_arith Z Z Z Z (by unfold I64; first | omega | (simp only [List.length_take] at *; omega))) ?_
    refine R0 ?_
    refine WX.turn [19] 4 Z (fun _ h => h) Z ?_
    have r23 : (u4).size ≤ bd n := hq2.1
    have r24 : ((a03 v (a01 u4) (1 + u10)).1).length ≤ bd (n + 4) := (okl hq8).1
    exact WX.iter (i - 1, p5, c4, (a03 v (a01 u4) (1 + u10)).1, u11, u12) ⟨(by first | assumption | omega), (okl_mk (by omega) hfx3 : GoT.ok (n + 1) ((a03 v (a01 u4) (1 + u10)).1 : List TableEntry)), hq6.2.1, hq6.2.2, (by omega), (by rw [v6]; rw [a0l]; simp only [h1, h1d, hu2, hu4, ct, cf, ↓reduceIte, Bool.false_eq_true])⟩ (by first | (dsimp only; omega) | omega) (.cons Z (.cons Z (.cons Z (.cons Z (.nil))))) (.cons Z (.cons Z (.cons Z (.nil)))) .nil [0, 4] Z
   refine TS.op 9 Z J ?_
   refine R0 ?_
   refine WX.back0 ?_
   refine TX.tail [8, 10, 11] Z Z J ?_
   refine R0 ?_
   refine WX.see Z Z Z (fun _ hΓ => looks_arith Z Z Z Z (by unfold I64; first | omega | (simp only [List.length_take] at *; omega))) ?_
   refine R0 ?_
   refine WX.turn [19] 4 Z (fun _ h => h) Z ?_
   have r25 : (u4).size ≤ bd n := hq2.1
   have r26 : ((a03 v (a01 u4) (1 + u10)).1).length ≤ bd (n + 4) := (okl hq8).1
   exact WX.iter (i - 1, p5, c4, (a03 v (a01 u4) (1 + u10)).1, u11, u12) ⟨(by first | assumption | omega), (okl_mk (by omega) hfx3 : GoT.ok (n + 1) ((a03 v (a01 u4) (1 + u10)).1 : List TableEntry)), hq6.2.1, hq6.2.2, (by omega), (by rw [v6]; rw [a0l]; simp only [h1, h1d, hu2, hu4, ct, cf, ↓reduceIte, Bool.false_eq_true])⟩ (by first | (dsimp only; omega) | omega) (.cons Z (.cons Z (.cons Z (.cons Z (.nil))))) (.cons Z (.cons Z (.cons Z (.nil)))) .nil [0, 4] Z
  ·skip
   refine TS.op 2 Z J ?_
   refine R0 ?_
   refine WX.back0 ?_
   refine TX.all2 1 4 J ?_ ?_
   ·skip
    refine TS.op 1 Z J ?_
    refine R0 ?_
    refine WX.back0 ?_
    refine TX.all1 4 J ?_
    refine TS.op 4 Z J ?_
    obtain ⟨⟨u13, u14, u15⟩, hu5⟩ : ∃ r_, a08 c_b u5 u6 5 = r_ := ⟨_, rfl⟩
    refine WX.callP (ds := fun _ => []) 999 20 Z (fun _ _ _ => All.nil) (fun _ f hf => by cases hf) Z Z Z Z Z O Z (fun w G bs H hI hH hs hΓ => f84 w n (by omega) H hH (bs 999) c_b K0 M0 (hΓ.get 0 Z) u5 u6 5 hs hokc_b hq2.2.1 hq2.2.2 (show I64 5 from (by unfold I64; omega)) u13 u14 u15 hu5) O O ?_
    rintro ⟨⟩ hq9
    have q7 := l1Below_rng c_b u5 u6 5
    rw [hu5] at q7
    try dsimp only at q7
    refine R0 ?_
    refine WX.back0 ?_
    refine TX.all1 5 J ?_
    refine TS.op 5 Z J ?_
    have r27 : -9223372036854775808 ≤ u13 ∧ u13 ≤ 9223372036854775807 := hq9.1
    refine WX.see Z Z Z (fun _ hΓ => looks_arith Z Z Z Z (by unfold I64; first | omega | (simp only [List.length_take] at *; omega))) ?_
    refine R0 ?_
    refine WX.back0 ?_
    refine TX.all1 6 J ?_
    refine TS.callF 6 21 (fun _ _ h => GoT.ow_rd h) (fun _ f hf => GoT.fak f hf) Z Z Z Z Z Z O Z (fun w G bs hI hΓ => f117 w (n + 1) (by omega) v pv cv (hΓ.get 11 Z) (a01 u4) p2 c1 (hΓ.get 9 Z) (1 + u13) (okl_of v2) hq3 (show I64 (1 + u13) from (by unfold I64; omega))) O O ?_
    rintro ⟨p6, c5⟩ hq10
    have q8 := (put_spec v (a01 u4) (1 + u13)).len
    have hfx4 := (put_spec v (a01 u4) (1 + u13)).els (k := (n + 1)) v2.2 hq3 (show I64 (1 + u13) from (by unfold I64; omega))
    refine TX.all1 7 J ?_
    refine TS.op 7 Z J ?_
    refine R0 ?_
    refine WX.back0 ?_
    refine TX.all2 8 9 J ?_ ?_
    ·skip
     refine TS.op 8 Z J ?_
     refine R0 ?_
     refine WX.back0 ?_
     refine TX.all2 9 10 J ?_ ?_
     ·skip
      refine TS.op 9 Z J ?_
      refine R0 ?_
      refine WX.back0 ?_
      refine TX.tail [10, 11] Z Z J ?_
      refine R0 ?_
      refine WX.see Z Z Z (fun _ hΓ => looks_arith Z Z Z Z (by unfold I64; first | omega | (simp only [List.length_take] at *; omega))) ?_
      refine R0 ?_
      refine WX.turn [22] 4 Z (fun _ h => h) Z ?_
      have r28 : (u4).size ≤ bd n := hq2.1
      have r29 : ((a03 v (a01 u4) (1 + u13)).1).length ≤ bd (n + 4) := (okl hq10).1
      exact WX.iter (i - 1, p6, c5, (a03 v (a01 u4) (1 + u13)).1, u14, u15) ⟨(by first | assumption | omega), (okl_mk (by omega) hfx4 : GoT.ok (n + 1) ((a03 v (a01 u4) (1 + u13)).1 : List TableEntry)), hq9.2.1, hq9.2.2, (by omega), (by rw [v6]; rw [a0l]; simp only [h1, h1d, hu2, hu5, ct, cf, ↓reduceIte, Bool.false_eq_true])⟩ (by first | (dsimp only; omega) | omega) (.cons Z (.cons Z (.cons Z (.cons Z (.nil))))) (.cons Z (.cons Z (.cons Z (.nil)))) .nil [0, 4] Z
     refine TS.op 10 Z J ?_
     refine R0 ?_
     refine WX.back0 ?_
     refine TX.tail [9, 11] Z Z J ?_
     refine R0 ?_
     refine WX.see Z Z Z (fun _ hΓ => looks_arith Z Z Z Z (by unfold I64; first | omega | (simp only [List.length_take] at *; omega))) ?_
     refine R0 ?_
     refine WX.turn [22] 4 Z (fun _ h => h) Z ?_
     have r30 : (u4).size ≤ bd n := hq2.1
     have r31 : ((a03 v (a01 u4) (1 + u13)).1).length ≤ bd (n + 4) := (okl hq10).1
     exact WX.iter (i - 1, p6, c5, (a03 v (a01 u4) (1 + u13)).1, u14, u15) ⟨(by first | assumption | omega), (okl_mk (by omega) hfx4 : GoT.ok (n + 1) ((a03 v (a01 u4) (1 + u13)).1 : List TableEntry)), hq9.2.1, hq9.2.2, (by omega), (by rw [v6]; rw [a0l]; simp only [h1, h1d, hu2, hu5, ct, cf, ↓reduceIte, Bool.false_eq_true])⟩ (by first | (dsimp only; omega) | omega) (.cons Z (.cons Z (.cons Z (.cons Z (.nil))))) (.cons Z (.cons Z (.cons Z (.nil)))) .nil [0, 4] Z
    refine TS.op 9 Z J ?_
    refine R0 ?_
    refine WX.back0 ?_
    refine TX.tail [8, 10, 11] Z Z J ?_
    refine R0 ?_
    refine WX.see Z Z Z (fun _ hΓ => looks_arith Z Z Z Z (by unfold I64; first | omega | (simp only [List.length_take] at *; omega))) ?_
    refine R0 ?_
    refine WX.turn [22] 4 Z (fun _ h => h) Z ?_
    have r32 : (u4).size ≤ bd n := hq2.1
    have r33 : ((a03 v (a01 u4) (1 + u13)).1).length ≤ bd (n + 4) := (okl hq10).1
    exact WX.iter (i - 1, p6, c5, (a03 v (a01 u4) (1 + u13)).1, u14, u15) ⟨(by first | assumption | omega), (okl_mk (by omega) hfx4 : GoT.ok (n + 1) ((a03 v (a01 u4) (1 + u13)).1 : List TableEntry)), hq9.2.1, hq9.2.2, (by omega), (by rw [v6]; rw [a0l]; simp only [h1, h1d, hu2, hu5, ct, cf, ↓reduceIte, Bool.false_eq_true])⟩ (by first | (dsimp only; omega) | omega) (.cons Z (.cons Z (.cons Z (.cons Z (.nil))))) (.cons Z (.cons Z (.cons Z (.nil)))) .nil [0, 4] Z
   refine TS.op 4 Z J ?_
   obtain ⟨⟨u16, u17, u18⟩, hu6⟩ : ∃ r_, a08 c_b u5 u6 5 = r_ := ⟨_, rfl⟩
   refine WX.callP (ds := fun _ => []) 999 23 Z (fun _ _ _ => All.nil) (fun _ f hf => by cases hf) Z Z Z Z Z O Z (fun w G bs H hI hH hs hΓ => f84 w n (by omega) H hH (bs 999) c_b K0 M0 (hΓ.get 0 Z) u5 u6 5 hs hokc_b hq2.2.1 hq2.2.2 (show I64 5 from (by unfold I64; omega)) u16 u17 u18 hu6) O O ?_
   rintro ⟨⟩ hq11
   have q9 := l1Below_rng c_b u5 u6 5
   rw [hu6] at q9
   try dsimp only at q9
   refine R0 ?_
   refine WX.back0 ?_
   refine TX.all2 1 5 J ?_ ?_
   ·skip
    refine TS.op 1 Z J ?_
    refine R0 ?_
    refine WX.back0 ?_
    refine TX.all1 5 J ?_
    refine TS.op 5 Z J ?_
    have r34 : -9223372036854775808 ≤ u16 ∧ u16 ≤ 9223372036854775807 := hq11.1
    refine WX.see Z Z Z (fun _ hΓ => looks_arith Z Z Z Z (by unfold I64; first | omega | (simp only [List.length_take] at *; omega))) ?_
    refine R0 ?_
    refine WX.back0 ?_
    refine TX.all1 6 J ?_
    refine TS.callF 6 24 (fun _ _ h => GoT.ow_rd h) (fun _ f hf => GoT.fak f hf) Z Z Z Z Z Z O Z (fun w G bs hI hΓ => f117 w (n + 1) (by omega) v pv cv (hΓ.get 11 Z) (a01 u4) p2 c1 (hΓ.get 9 Z) (1 + u16) (okl_of v2) hq3 (show I64 (1 + u16) from (by unfold I64; omega))) O O ?_
    rintro ⟨p7, c6⟩ hq12
    have q10 := (put_spec v (a01 u4) (1 + u16)).len
    have hfx5 := (put_spec v (a01 u4) (1 + u16)).els (k := (n + 1)) v2.2 hq3 (show I64 (1 + u16) from (by unfold I64; omega))
    refine TX.all1 7 J ?_
    refine TS.op 7 Z J ?_
    refine R0 ?_
    refine WX.back0 ?_
    refine TX.all2 8 9 J ?_ ?_
    ·skip
     refine TS.op 8 Z J ?_
     refine R0 ?_
     refine WX.back0 ?_
     refine TX.all2 9 10 J ?_ ?_
     ·skip
      refine TS.op 9 Z J ?_
      refine R0 ?_
      refine WX.back0 ?_
      refine TX.tail [10, 11] Z Z J ?_
      refine R0 ?_
      refine WX.see Z Z Z (fun _ hΓ => looks_arith Z Z Z Z (by unfold I64; first | omega | (simp only [List.length_take] at *; omega))) ?_
      refine R0 ?_
      refine WX.turn [25] 4 Z (fun _ h => h) Z ?_
      have r35 : (u4).size ≤ bd n := hq2.1
      have r36 : ((a03 v (a01 u4) (1 + u16)).1).length ≤ bd (n + 4) := (okl hq12).1
      exact WX.iter (i - 1, p7, c6, (a03 v (a01 u4) (1 + u16)).1, u17, u18) ⟨(by first | assumption | omega), (okl_mk (by omega) hfx5 : GoT.ok (n + 1) ((a03 v (a01 u4) (1 + u16)).1 : List TableEntry)), hq11.2.1, hq11.2.2, (by omega), (by rw [v6]; rw [a0l]; simp only [h1, h1d, hu2, hu6, ct, cf, ↓reduceIte, Bool.false_eq_true])⟩ (by first | (dsimp only; omega) | omega) (.cons Z (.cons Z (.cons Z (.cons Z (.nil))))) (.cons Z (.cons Z (.cons Z (.nil)))) .nil [0, 4] Z
     refine TS.op 10 Z J ?_
     refine R0 ?_
     refine WX.back0 ?_
     refine TX.tail [9, 11] Z Z J ?_
     refine R0 ?_
     refine WX.see Z Z Z (fun _ hΓ => looks_arith Z Z Z Z (by unfold I64; first | omega | (simp only [List.length_take] at *; omega))) ?_
     refine R0 ?_
     refine WX.turn [25] 4 Z (fun _ h => h) Z ?_
     have r37 : (u4).size ≤ bd n := hq2.1
     have r38 : ((a03 v (a01 u4) (1 + u16)).1).length ≤ bd (n + 4) := (okl hq12).1
     exact WX.iter (i - 1, p7, c6, (a03 v (a01 u4) (1 + u16)).1, u17, u18) ⟨(by first | assumption | omega), (okl_mk (by omega) hfx5 : GoT.ok (n + 1) ((a03 v (a01 u4) (1 + u16)).1 : List TableEntry)), hq11.2.1, hq11.2.2, (by omega), (by rw [v6]; rw [a0l]; simp only [h1, h1d, hu2, hu6, ct, cf, ↓reduceIte, Bool.false_eq_true])⟩ (by first | (dsimp only; omega) | omega) (.cons Z (.cons Z (.cons Z (.cons Z (.nil))))) (.cons Z (.cons Z (.cons Z (.nil)))) .nil [0, 4] Z
    refine TS.op 9 Z J ?_
    refine R0 ?_
    refine WX.back0 ?_
    refine TX.tail [8, 10, 11] Z Z J ?_
    refine R0 ?_
    refine WX.see Z Z Z (fun _ hΓ => looks_arith Z Z Z Z (by unfold I64; first | omega | (simp only [List.length_take] at *; omega))) ?_
    refine R0 ?_
    refine WX.turn [25] 4 Z (fun _ h => h) Z ?_
    have r39 : (u4).size ≤ bd n := hq2.1
    have r40 : ((a03 v (a01 u4) (1 + u16)).1).length ≤ bd (n + 4) := (okl hq12).1
    exact WX.iter (i - 1, p7, c6, (a03 v (a01 u4) (1 + u16)).1, u17, u18) ⟨(by first | assumption | omega), (okl_mk (by omega) hfx5 : GoT.ok (n + 1) ((a03 v (a01 u4) (1 + u16)).1 : List TableEntry)), hq11.2.1, hq11.2.2, (by omega), (by rw [v6]; rw [a0l]; simp only [h1, h1d, hu2, hu6, ct, cf, ↓reduceIte, Bool.false_eq_true])⟩ (by first | (dsimp only; omega) | omega) (.cons Z (.cons Z (.cons Z (.cons Z (.nil))))) (.cons Z (.cons Z (.cons Z (.nil)))) .nil [0, 4] Z
   refine TS.op 5 Z J ?_
   have r41 : -9223372036854775808 ≤ u16 ∧ u16 ≤ 9223372036854775807 := hq11.1
   refine WX.see Z Z Z (fun _ hΓ => looks_arith Z Z Z Z (by unfold I64; first | omega | (simp only [List.length_take] at *; omega))) ?_
   refine R0 ?_
   refine WX.back0 ?_
   refine TX.all1 1 J ?_
   refine TS.op 1 Z J ?_
   refine R0 ?_
   refine WX.back0 ?_
   refine TX.all1 6 J ?_
   refine TS.callF 6 26 (fun _ _ h => GoT.ow_rd h) (fun _ f hf => GoT.fak f hf) Z Z Z Z Z Z O Z (fun w G bs hI hΓ => f117 w (n + 1) (by omega) v pv cv (hΓ.get 11 Z) (a01 u4) p2 c1 (hΓ.get 9 Z) (1 + u16) (okl_of v2) hq3 (show I64 (1 + u16) from (by unfold I64; omega))) O O ?_
   rintro ⟨p8, c7⟩ hq13
   have q11 := (put_spec v (a01 u4) (1 + u16)).len
   have hfx6 := (put_spec v (a01 u4) (1 + u16)).els (k := (n + 1)) v2.2 hq3 (show I64 (1 + u16) from (by unfold I64; omega))
   refine TX.all1 7 J ?_
   refine TS.op 7 Z J ?_
   refine R0 ?_
   refine WX.back0 ?_
   refine TX.all2 8 9 J ?_ ?_
   ·skip
    refine TS.op 8 Z J ?_
    refine R0 ?_
    refine WX.back0 ?_
    refine TX.all2 9 10 J ?_ ?_
    ·skip
     refine TS.op 9 Z J ?_
     refine R0 ?_
     refine WX.back0 ?_
     refine TX.tail [10, 11] Z Z J ?_
     refine R0 ?_
     refine WX.see Z Z Z (fun _ hΓ => looks_arith Z Z Z Z (by unfold I64; first | omega | (simp only [List.length_take] at *; omega))) ?_
     refine R0 ?_
     refine WX.turn [27] 4 Z (fun _ h => h) Z ?_
     have r42 : (u4).size ≤ bd n := hq2.1
     have r43 : ((a03 v (a01 u4) (1 + u16)).1).length ≤ bd (n + 4) := (okl hq13).1
     exact WX.iter (i - 1, p8, c7, (a03 v (a01 u4) (1 + u16)).1, u17, u18) ⟨(by first | assumption | omega), (okl_mk (by omega) hfx6 : GoT.ok (n + 1) ((a03 v (a01 u4) (1 + u16)).1 : List TableEntry)), hq11.2.1, hq11.2.2, (by omega), (by rw [v6]; rw [a0l]; simp only [h1, h1d, hu2, hu6, ct, cf, ↓reduceIte, Bool.false_eq_true])⟩ (by first | (dsimp only; omega) | omega) (.cons Z (.cons Z (.cons Z (.cons Z (.nil))))) (.cons Z (.cons Z (.cons Z (.nil)))) .nil [0, 4] Z
    refine TS.op 10 Z J ?_
    refine R0 ?_
    refine WX.back0 ?_
    refine TX.tail [9, 11] Z Z J ?_
    refine R0 ?_
    refine WX.see Z Z Z (fun _ hΓ => looks_arith Z Z Z Z (by unfold I64; first | omega | (simp only [List.length_take] at *; omega))) ?_
    refine R0 ?_
    refine WX.turn [27] 4 Z (fun _ h => h) Z ?_
    have r44 : (u4).size ≤ bd n := hq2.1
    have r45 : ((a03 v (a01 u4) (1 + u16)).1).length ≤ bd (n + 4) := (okl hq13).1
    exact WX.iter (i - 1, p8, c7, (a03 v (a01 u4) (1 + u16)).1, u17, u18) ⟨(by first | assumption | omega), (okl_mk (by omega) hfx6 : GoT.ok (n + 1) ((a03 v (a01 u4) (1 + u16)).1 : List TableEntry)), hq11.2.1, hq11.2.2, (by omega), (by rw [v6]; rw [a0l]; simp only [h1, h1d, hu2, hu6, ct, cf, ↓reduceIte, Bool.false_eq_true])⟩ (by first | (dsimp only; omega) | omega) (.cons Z (.cons Z (.cons Z (.cons Z (.nil))))) (.cons Z (.cons Z (.cons Z (.nil)))) .nil [0, 4] Z
   refine TS.op 9 Z J ?_
   refine R0 ?_
   refine WX.back0 ?_
   refine TX.tail [8, 10, 11] Z Z J ?_
   refine R0 ?_
   refine WX.see Z Z Z (fun _ hΓ => looks_arith Z Z Z Z (by unfold I64; first | omega | (simp only [List.length_take] at *; omega))) ?_
   refine R0 ?_
   refine WX.turn [27] 4 Z (fun _ h => h) Z ?_
   have r46 : (u4).size ≤ bd n := hq2.1
   have r47 : ((a03 v (a01 u4) (1 + u16)).1).length ≤ bd (n + 4) := (okl hq13).1
   exact WX.iter (i - 1, p8, c7, (a03 v (a01 u4) (1 + u16)).1, u17, u18) ⟨(by first | assumption | omega), (okl_mk (by omega) hfx6 : GoT.ok (n + 1) ((a03 v (a01 u4) (1 + u16)).1 : List TableEntry)), hq11.2.1, hq11.2.2, (by omega), (by rw [v6]; rw [a0l]; simp only [h1, h1d, hu2, hu6, ct, cf, ↓reduceIte, Bool.false_eq_true])⟩ (by first | (dsimp only; omega) | omega) (.cons Z (.cons Z (.cons Z (.cons Z (.nil))))) (.cons Z (.cons Z (.cons Z (.nil)))) .nil [0, 4] Z
  refine TS.op 4 Z J ?_
  obtain ⟨⟨u19, u20, u21⟩, hu7⟩ : ∃ r_, a08 c_b u5 u6 5 = r_ := ⟨_, rfl⟩
  refine WX.callP (ds := fun _ => []) 999 28 Z (fun _ _ _ => All.nil) (fun _ f hf => by cases hf) Z Z Z Z Z O Z (fun w G bs H hI hH hs hΓ => f84 w n (by omega) H hH (bs 999) c_b K0 M0 (hΓ.get 0 Z) u5 u6 5 hs hokc_b hq2.2.1 hq2.2.2 (show I64 5 from (by unfold I64; omega)) u19 u20 u21 hu7) O O ?_
  rintro ⟨⟩ hq14
  have q12 := l1Below_rng c_b u5 u6 5
  rw [hu7] at q12
  try dsimp only at q12
  refine R0 ?_
  refine WX.back0 ?_
  refine TX.all3 1 2 5 J ?_ ?_ ?_
  ·skip
   refine TS.op 1 Z J ?_
   refine R0 ?_
   refine WX.back0 ?_
   refine TX.all2 2 5 J ?_ ?_
   ·skip
    refine TS.op 2 Z J ?_
    refine R0 ?_
    refine WX.back0 ?_
    refine TX.all1 5 J ?_
    refine TS.op 5 Z J ?_
    have r48 : -9223372036854775808 ≤ u19 ∧ u19 ≤ 9223372036854775807 := hq14.1
    refine WX.see Z Z Z (fun _ hΓ => looks_arith Z Z Z Z (by unfold I64; first | omega | (simp only [List.length_take] at *; omega))) ?_
    refine R0 ?_
    refine WX.back0 ?_
    refine TX.all1 6 J ?_
    refine TS.callF 6 29 (fun _ _ h => GoT.ow_rd h) (fun _ f hf => GoT.fak f hf) Z Z Z Z Z Z O Z (fun w G bs hI hΓ => f117 w (n + 1) (by omega) v pv cv (hΓ.get 11 Z) (a01 u4) p2 c1 (hΓ.get 9 Z) (1 + u19) (okl_of v2) hq3 (show I64 (1 + u19) from (by unfold I64; omega))) O O ?_
    rintro ⟨p9, c8⟩ hq15
    have q13 := (put_spec v (a01 u4) (1 + u19)).len
    have hfx7 := (put_spec v (a01 u4) (1 + u19)).els (k := (n + 1)) v2.2 hq3 (show I64 (1 + u19) from (by unfold I64; omega))
    refine TX.all1 7 J ?_
    refine TS.op 7 Z J ?_
    refine R0 ?_
    refine WX.back0 ?_
    refine TX.all2 8 9 J ?_ ?_
    ·skip
     refine TS.op 8 Z J ?_
     refine R0 ?_
     refine WX.back0 ?_
     refine TX.all2 9 10 J ?_ ?_
     ·skip
      refine TS.op 9 Z J ?_
      refine R0 ?_
      refine WX.back0 ?_
      refine TX.tail [10, 11] Z Z J ?_
      refine R0 ?_
      refine WX.see Z Z Z (fun _ hΓ => looks_arith Z Z Z Z (by unfold I64; first | omega | (simp only [List.length_take] at *; omega))) ?_
      refine R0 ?_
      refine WX.turn [30] 4 Z (fun _ h => h) Z ?_
      have r49 : (u4).size ≤ bd n := hq2.1
      have r50 : ((a03 v (a01 u4) (1 + u19)).1).length ≤ bd (n + 4) := (okl hq15).1
      exact WX.iter (i - 1, p9, c8, (a03 v (a01 u4) (1 + u19)).1, u20, u21) ⟨(by first | assumption | omega), (okl_mk (by omega) hfx7 : GoT.ok (n + 1) ((a03 v (a01 u4) (1 + u19)).1 : List TableEntry)), hq14.2.1, hq14.2.2, (by omega), (by rw [v6]; rw [a0l]; simp only [h1, h1d, hu2, hu7, ct, cf, ↓reduceIte, Bool.false_eq_true])⟩ (by first | (dsimp only; omega) | omega) (.cons Z (.cons Z (.cons Z (.cons Z (.nil))))) (.cons Z (.cons Z (.cons Z (.nil)))) .nil [0, 4] Z
     refine TS.op 10 Z J ?_
     refine R0 ?_
     refine WX.back0 ?_
     refine TX.tail [9, 11] Z Z J ?_
     refine R0 ?_
     refine WX.see Z Z Z (fun _ hΓ => looks_arith Z Z Z Z (by unfold I64; first | omega | (simp only [List.length_take] at *; omega))) ?_
     refine R0 ?_
     refine WX.turn [30] 4 Z (fun _ h => h) Z ?_
     have r51 : (u4).size ≤ bd n := hq2.1
     have r52 : ((a03 v (a01 u4) (1 + u19)).1).length ≤ bd (n + 4) := (okl hq15).1
     exact WX.iter (i - 1, p9, c8, (a03 v (a01 u4) (1 + u19)).1, u20, u21) ⟨(by first | assumption | omega), (okl_mk (by omega) hfx7 : GoT.ok (n + 1) ((a03 v (a01 u4) (1 + u19)).1 : List TableEntry)), hq14.2.1, hq14.2.2, (by omega), (by rw [v6]; rw [a0l]; simp only [h1, h1d, hu2, hu7, ct, cf, ↓reduceIte, Bool.false_eq_true])⟩ (by first | (dsimp only; omega) | omega) (.cons Z (.cons Z (.cons Z (.cons Z (.nil))))) (.cons Z (.cons Z (.cons Z (.nil)))) .nil [0, 4] Z
    refine TS.op 9 Z J ?_
    refine R0 ?_
    refine WX.back0 ?_
    refine TX.tail [8, 10, 11] Z Z J ?_
    refine R0 ?_
    refine WX.see Z Z Z (fun _ hΓ => looks_arith Z Z Z Z (by unfold I64; first | omega | (simp only [List.length_take] at *; omega))) ?_
    refine R0 ?_
    refine WX.turn [30] 4 Z (fun _ h => h) Z ?_
    have r53 : (u4).size ≤ bd n := hq2.1
    have r54 : ((a03 v (a01 u4) (1 + u19)).1).length ≤ bd (n + 4) := (okl hq15).1
    exact WX.iter (i - 1, p9, c8, (a03 v (a01 u4) (1 + u19)).1, u20, u21) ⟨(by first | assumption | omega), (okl_mk (by omega) hfx7 : GoT.ok (n + 1) ((a03 v (a01 u4) (1 + u19)).1 : List TableEntry)), hq14.2.1, hq14.2.2, (by omega), (by rw [v6]; rw [a0l]; simp only [h1, h1d, hu2, hu7, ct, cf, ↓reduceIte, Bool.false_eq_true])⟩ (by first | (dsimp only; omega) | omega) (.cons Z (.cons Z (.cons Z (.cons Z (.nil))))) (.cons Z (.cons Z (.cons Z (.nil)))) .nil [0, 4] Z
   refine TS.op 5 Z J ?_
   have r55 : -9223372036854775808 ≤ u19 ∧ u19 ≤ 9223372036854775807 := hq14.1
   refine WX.see Z Z Z (fun _ hΓ => looks_arith Z Z Z Z (by unfold I64; first | omega | (simp only [List.length_take] at *; omega))) ?_
   refine R0 ?_
   refine WX.back0 ?_
   refine TX.all1 2 J ?_
   refine TS.op 2 Z J ?_
   refine R0 ?_
   refine WX.back0 ?_
   refine TX.all1 6 J ?_
   refine TS.callF 6 31 (fun _ _ h => GoT.ow_rd h) (fun _ f hf => GoT.fak f hf) Z Z Z Z Z Z O Z (fun w G bs hI hΓ => f117 w (n + 1) (by omega) v pv cv (hΓ.get 11 Z) (a01 u4) p2 c1 (hΓ.get 9 Z) (1 + u19) (okl_of v2) hq3 (show I64 (1 + u19) from (by unfold I64; omega))) O O ?_
   rintro ⟨p10, c9⟩ hq16
   have q14 := (put_spec v (a01 u4) (1 + u19)).len
   have hfx8 := (put_spec v (a01 u4) (1 + u19)).els (k := (n + 1)) v2.2 hq3 (show I64 (1 + u19) from (by unfold I64; omega))
   refine TX.all1 7 J ?_
   refine TS.op 7 Z J ?_
   refine R0 ?_
   refine WX.back0 ?_
   refine TX.all2 8 9 J ?_ ?_
   ·skip
    refine TS.op 8 Z J ?_
    refine R0 ?_
    refine WX.back0 ?_
    refine TX.all2 9 10 J ?_ ?_
    ·skip
     refine TS.op 9 Z J ?_
     refine R0 ?_
     refine WX.back0 ?_
     refine TX.tail [10, 11] Z Z J ?_
     refine R0 ?_
     refine WX.see Z Z Z (fun _ hΓ => looks_arith Z Z Z Z (by unfold I64; first | omega | (simp only [List.length_take] at *; omega))) ?_
     refine R0 ?_
     refine WX.turn [32] 4 Z (fun _ h => h) Z ?_
     have r56 : (u4).size ≤ bd n := hq2.1
     have r57 : ((a03 v (a01 u4) (1 + u19)).1).length ≤ bd (n + 4) := (okl hq16).1
     exact WX.iter (i - 1, p10, c9, (a03 v (a01 u4) (1 + u19)).1, u20, u21) ⟨(by first | assumption | omega), (okl_mk (by omega) hfx8 : GoT.ok (n + 1) ((a03 v (a01 u4) (1 + u19)).1 : List TableEntry)), hq14.2.1, hq14.2.2, (by omega), (by rw [v6]; rw [a0l]; simp only [h1, h1d, hu2, hu7, ct, cf, ↓reduceIte, Bool.false_eq_true])⟩ (by first | (dsimp only; omega) | omega) (.cons Z (.cons Z (.cons Z (.cons Z (.nil))))) (.cons Z (.cons Z (.cons Z (.nil)))) .nil [0, 4] Z
    refine TS.op 10 Z J ?_
    refine R0 ?_
    refine WX.back0 ?_
    refine TX.tail [9, 11] Z Z J ?_
    refine R0 ?_
    refine WX.see Z Z Z (fun _ hΓ => looks_arith Z Z Z Z (by unfold I64; first | omega | (simp only [List.length_take] at *; omega))) ?_
    refine R0 ?_
    refine WX.turn [32] 4 Z (fun _ h => h) Z ?_
    have r58 : (u4).size ≤ bd n := hq2.1
    have r59 : ((a03 v (a01 u4) (1 + u19)).1).length ≤ bd (n + 4) := (okl hq16).1
    exact WX.iter (i - 1, p10, c9, (a03 v (a01 u4) (1 + u19)).1, u20, u21) ⟨(by first | assumption | omega), (okl_mk (by omega) hfx8 : GoT.ok (n + 1) ((a03 v (a01 u4) (1 + u19)).1 : List TableEntry)), hq14.2.1, hq14.2.2, (by omega), (by rw [v6]; rw [a0l]; simp only [h1, h1d, hu2, hu7, ct, cf, ↓reduceIte, Bool.false_eq_true])⟩ (by first | (dsimp only; omega) | omega) (.cons Z (.cons Z (.cons Z (.cons Z (.nil))))) (.cons Z (.cons Z (.cons Z (.nil)))) .nil [0, 4] Z
   refine TS.op 9 Z J ?_
   refine R0 ?_
   refine WX.back0 ?_
   refine TX.tail [8, 10, 11] Z Z J ?_
   refine R0 ?_
   refine WX.see Z Z Z (fun _ hΓ => looks_arith Z Z Z Z (by unfold I64; first | omega | (simp only [List.length_take] at *; omega))) ?_
   refine R0 ?_
   refine WX.turn [32] 4 Z (fun _ h => h) Z ?_
   have r60 : (u4).size ≤ bd n := hq2.1
   have r61 : ((a03 v (a01 u4) (1 + u19)).1).length ≤ bd (n + 4) := (okl hq16).1
   exact WX.iter (i - 1, p10, c9, (a03 v (a01 u4) (1 + u19)).1, u20, u21) ⟨(by first | assumption | omega), (okl_mk (by omega) hfx8 : GoT.ok (n + 1) ((a03 v (a01 u4) (1 + u19)).1 : List TableEntry)), hq14.2.1, hq14.2.2, (by omega), (by rw [v6]; rw [a0l]; simp only [h1, h1d, hu2, hu7, ct, cf, ↓reduceIte, Bool.false_eq_true])⟩ (by first | (dsimp only; omega) | omega) (.cons Z (.cons Z (.cons Z (.cons Z (.nil))))) (.cons Z (.cons Z (.cons Z (.nil)))) .nil [0, 4] Z
  ·skip
   refine TS.op 2 Z J ?_
   refine R0 ?_
   refine WX.back0 ?_
   refine TX.all2 1 5 J ?_ ?_
   ·skip
    refine TS.op 1 Z J ?_
    refine R0 ?_
    refine WX.back0 ?_
    refine TX.all1 5 J ?_
    refine TS.op 5 Z J ?_
    have r62 : -9223372036854775808 ≤ u19 ∧ u19 ≤ 9223372036854775807 := hq14.1
    refine WX.see Z Z Z (fun _ hΓ => looks_arith Z Z Z Z (by unfold I64; first | omega | (simp only [List.length_take] at *; omega))) ?_
    refine R0 ?_
    refine WX.back0 ?_
    refine TX.all1 6 J ?_
    refine TS.callF 6 33 (fun _ _ h => GoT.ow_rd h) (fun _ f hf => GoT.fak f hf) Z Z Z Z Z Z O Z (fun w G bs hI hΓ => f117 w (n + 1) (by omega) v pv cv (hΓ.get 11 Z) (a01 u4) p2 c1 (hΓ.get 9 Z) (1 + u19) (okl_of v2) hq3 (show I64 (1 + u19) from (by unfold I64; omega))) O O ?_
    rintro ⟨p11, c10⟩ hq17
    have q15 := (put_spec v (a01 u4) (1 + u19)).len
    have hfx9 := (put_spec v (a01 u4) (1 + u19)).els (k := (n + 1)) v2.2 hq3 (show I64 (1 + u19) from (by unfold I64; omega))
    refine TX.all1 7 J ?_
    refine TS.op 7 Z J ?_
    refine R0 ?_
    refine WX.back0 ?_
    refine TX.all2 8 9 J ?_ ?_
    ·skip
     refine TS.op 8 Z J ?_
     refine R0 ?_
     refine WX.back0 ?_
     refine TX.all2 9 10 J ?_ ?_
     ·skip
      refine TS.op 9 Z J ?_
      refine R0 ?_
      refine WX.back0 ?_
      refine TX.tail [10, 11] Z Z J ?_
      refine R0 ?_
      refine WX.see Z Z Z (fun _ hΓ => looks_arith Z Z Z Z (by unfold I64; first | omega | (simp only [List.length_take] at *; omega))) ?_
      refine R0 ?_
      refine WX.turn [34] 4 Z (fun _ h => h) Z ?_
      have r63 : (u4).size ≤ bd n := hq2.1
      have r64 : ((a03 v (a01 u4) (1 + u19)).1).length ≤ bd (n + 4) := (okl hq17).1
      exact WX.iter (i - 1, p11, c10, (a03 v (a01 u4) (1 + u19)).1, u20, u21) ⟨(by first | assumption | omega), (okl_mk (by omega) hfx9 : GoT.ok (n + 1) ((a03 v (a01 u4) (1 + u19)).1 : List TableEntry)), hq14.2.1, hq14.2.2, (by omega), (by rw [v6]; rw [a0l]; simp only [h1, h1d, hu2, hu7, ct, cf, ↓reduceIte, Bool.false_eq_true])⟩ (by first | (dsimp only; omega) | omega) (.cons Z (.cons Z (.cons Z (.cons Z (.nil))))) (.cons Z (.cons Z (.cons Z (.nil)))) .nil [0, 4] Z
     refine TS.op 10 Z J ?_
     refine R0 ?_
     refine WX.back0 ?_
     refine TX.tail [9, 11] Z Z J ?_
     refine R0 ?_
     refine WX.see Z Z Z (fun _ hΓ => looks_arith Z Z Z Z (by unfold I64; first | omega | (simp only [List.length_take] at *; omega))) ?_
     refine R0 ?_
     refine WX.turn [34] 4 Z (fun _ h => h) Z ?_
     have r65 : (u4).size ≤ bd n := hq2.1
     have r66 : ((a03 v (a01 u4) (1 + u19)).1).length ≤ bd (n + 4) := (okl hq17).1
     exact WX.iter (i - 1, p11, c10, (a03 v (a01 u4) (1 + u19)).1, u20, u21) ⟨(by first | assumption | omega), (okl_mk (by omega) hfx9 : GoT.ok (n + 1) ((a03 v (a01 u4) (1 + u19)).1 : List TableEntry)), hq14.2.1, hq14.2.2, (by omega), (by rw [v6]; rw [a0l]; simp only [h1, h1d, hu2, hu7, ct, cf, ↓reduceIte, Bool.false_eq_true])⟩ (by first | (dsimp only; omega) | omega) (.cons Z (.cons Z (.cons Z (.cons Z (.nil))))) (.cons Z (.cons Z (.cons Z (.nil)))) .nil [0, 4] Z
    refine TS.op 9 Z J ?_
    refine R0 ?_
    refine WX.back0 ?_
    refine TX.tail [8, 10, 11] Z Z J ?_
    refine R0 ?_
    refine WX.see Z Z Z (fun _ hΓ => looks_arith Z Z Z Z (by unfold I64; first | omega | (simp only [List.length_take] at *; omega))) ?_
    refine R0 ?_
    refine WX.turn [34] 4 Z (fun _ h => h) Z ?_
    have r67 : (u4).size ≤ bd n := hq2.1
    have r68 : ((a03 v (a01 u4) (1 + u19)).1).length ≤ bd (n + 4) := (okl hq17).1
    exact WX.iter (i - 1, p11, c10, (a03 v (a01 u4) (1 + u19)).1, u20, u21) ⟨(by first | assumption | omega), (okl_mk (by omega) hfx9 : GoT.ok (n + 1) ((a03 v (a01 u4) (1 + u19)).1 : List TableEntry)), hq14.2.1, hq14.2.2, (by omega), (by rw [v6]; rw [a0l]; simp only [h1, h1d, hu2, hu7, ct, cf, ↓reduceIte, Bool.false_eq_true])⟩ (by first | (dsimp only; omega) | omega) (.cons Z (.cons Z (.cons Z (.cons Z (.nil))))) (.cons Z (.cons Z (.cons Z (.nil)))) .nil [0, 4] Z
   refine TS.op 5 Z J ?_
   have r69 : -9223372036854775808 ≤ u19 ∧ u19 ≤ 9223372036854775807 := hq14.1
   refine WX.see Z Z Z (fun _ hΓ => looks_arith Z Z Z Z (by unfold I64; first | omega | (simp only [List.length_take] at *; omega))) ?_
   refine R0 ?_
   refine WX.back0 ?_
   refine TX.all1 1 J ?_
   refine TS.op 1 Z J ?_
   refine R0 ?_
   refine WX.back0 ?_
   refine TX.all1 6 J ?_
   refine TS.callF 6 35 (fun _ _ h => GoT.ow_rd h) (fun _ f hf => GoT.fak f hf) Z Z Z Z Z Z O Z (fun w G bs hI hΓ => f117 w (n + 1) (by omega) v pv cv (hΓ.get 11 Z) (a01 u4) p2 c1 (hΓ.get 9 Z) (1 + u19) (okl_of v2) hq3 (show I64 (1 + u19) from (by unfold I64; omega))) O O ?_
   rintro ⟨p12, c11⟩ hq18
   have q16 := (put_spec v (a01 u4) (1 + u19)).len
   have hfx10 := (put_spec v (a01 u4) (1 + u19)).els (k := (n + 1)) v2.2 hq3 (show I64 (1 + u19) from (by unfold I64; omega))
   refine TX.all1 7 J ?_
   refine TS.op 7 Z J ?_
   refine R0 ?_
   refine WX.back0 ?_
   refine TX.all2 8 9 J ?_ ?_
   ·skip
    refine TS.op 8 Z J ?_
    refine R0 ?_
    refine WX.back0 ?_
    refine TX.all2 9 10 J ?_ ?_
    ·skip
     refine TS.op 9 Z J ?_
     refine R0 ?_
     refine WX.back0 ?_
     refine TX.tail [10, 11] Z Z J ?_
     refine R0 ?_
     refine WX.see Z Z Z (fun _ hΓ => looks_arith Z Z Z Z (by unfold I64; first | omega | (simp only [List.length_take] at *; omega))) ?_
     refine R0 ?_
     refine WX.turn [36] 4 Z (fun _ h => h) Z ?_
     have r70 : (u4).size ≤ bd n := hq2.1
     have r71 : ((a03 v (a01 u4) (1 + u19)).1).length ≤ bd (n + 4) := (okl hq18).1
     exact WX.iter (i - 1, p12, c11, (a03 v (a01 u4) (1 + u19)).1, u20, u21) ⟨(by first | assumption | omega), (okl_mk (by omega) hfx10 : GoT.ok (n + 1) ((a03 v (a01 u4) (1 + u19)).1 : List TableEntry)), hq14.2.1, hq14.2.2, (by omega), (by rw [v6]; rw [a0l]; simp only [h1, h1d, hu2, hu7, ct, cf, ↓reduceIte, Bool.false_eq_true])⟩ (by first | (dsimp only; omega) | omega) (.cons Z (.cons Z (.cons Z (.cons Z (.nil))))) (.cons Z (.cons Z (.cons Z (.nil)))) .nil [0, 4] Z
    refine TS.op 10 Z J ?_
    refine R0 ?_
    refine WX.back0 ?_
    refine TX.tail [9, 11] Z Z J ?_
    refine R0 ?_
    refine WX.see Z Z Z (fun _ hΓ => looks_arith Z Z Z Z (by unfold I64; first | omega | (simp only [List.length_take] at *; omega))) ?_
    refine R0 ?_
    refine WX.turn [36] 4 Z (fun _ h => h) Z ?_
    have r72 : (u4).size ≤ bd n := hq2.1
    have r73 : ((a03 v (a01 u4) (1 + u19)).1).length ≤ bd (n + 4) := (okl hq18).1
    exact WX.iter (i - 1, p12, c11, (a03 v (a01 u4) (1 + u19)).1, u20, u21) ⟨(by first | assumption | omega), (okl_mk (by omega) hfx10 : GoT.ok (n + 1) ((a03 v (a01 u4) (1 + u19)).1 : List TableEntry)), hq14.2.1, hq14.2.2, (by omega), (by rw [v6]; rw [a0l]; simp only [h1, h1d, hu2, hu7, ct, cf, ↓reduceIte, Bool.false_eq_true])⟩ (by first | (dsimp only; omega) | omega) (.cons Z (.cons Z (.cons Z (.cons Z (.nil))))) (.cons Z (.cons Z (.cons Z (.nil)))) .nil [0, 4] Z
   refine TS.op 9 Z J ?_
   refine R0 ?_
   refine WX.back0 ?_
   refine TX.tail [8, 10, 11] Z Z J ?_
   refine R0 ?_
   refine WX.see Z Z Z (fun _ hΓ => looks_arith Z Z Z Z (by unfold I64; first | omega | (simp only [List.length_take] at *; omega))) ?_
   refine R0 ?_
   refine WX.turn [36] 4 Z (fun _ h => h) Z ?_
   have r74 : (u4).size ≤ bd n := hq2.1
   have r75 : ((a03 v (a01 u4) (1 + u19)).1).length ≤ bd (n + 4) := (okl hq18).1
   exact WX.iter (i - 1, p12, c11, (a03 v (a01 u4) (1 + u19)).1, u20, u21) ⟨(by first | assumption | omega), (okl_mk (by omega) hfx10 : GoT.ok (n + 1) ((a03 v (a01 u4) (1 + u19)).1 : List TableEntry)), hq14.2.1, hq14.2.2, (by omega), (by rw [v6]; rw [a0l]; simp only [h1, h1d, hu2, hu7, ct, cf, ↓reduceIte, Bool.false_eq_true])⟩ (by first | (dsimp only; omega) | omega) (.cons Z (.cons Z (.cons Z (.cons Z (.nil))))) (.cons Z (.cons Z (.cons Z (.nil)))) .nil [0, 4] Z
  refine TS.op 5 Z J ?_
  have r76 : -9223372036854775808 ≤ u19 ∧ u19 ≤ 9223372036854775807 := hq14.1
  refine WX.see Z Z Z (fun _ hΓ => looks_arith Z Z Z Z (by unfold I64; first | omega | (simp only [List.length_take] at *; omega))) ?_
  refine R0 ?_
  refine WX.back0 ?_
  refine TX.all2 1 2 J ?_ ?_
  ·skip
   refine TS.op 1 Z J ?_
   refine R0 ?_
   refine WX.back0 ?_
   refine TX.all1 2 J ?_
   refine TS.op 2 Z J ?_
   refine R0 ?_
   refine WX.back0 ?_
   refine TX.all1 6 J ?_
   refine TS.callF 6 37 (fun _ _ h => GoT.ow_rd h) (fun _ f hf => GoT.fak f hf) Z Z Z Z Z Z O Z (fun w G bs hI hΓ => f117 w (n + 1) (by omega) v pv cv (hΓ.get 11 Z) (a01 u4) p2 c1 (hΓ.get 9 Z) (1 + u19) (okl_of v2) hq3 (show I64 (1 + u19) from (by unfold I64; omega))) O O ?_
   rintro ⟨p13, c12⟩ hq19
   have q17 := (put_spec v (a01 u4) (1 + u19)).len
   have hfx11 := (put_spec v (a01 u4) (1 + u19)).els (k := (n + 1)) v2.2 hq3 (show I64 (1 + u19) from (by unfold I64; omega))
   refine TX.all1 7 J ?_
   refine TS.op 7 Z J ?_
   refine R0 ?_
   refine WX.back0 ?_
   refine TX.all2 8 9 J ?_ ?_
   ·skip
    refine TS.op 8 Z J ?_
    refine R0 ?_
    refine WX.back0 ?_
    refine TX.all2 9 10 J ?_ ?_
    ·skip
     refine TS.op 9 Z J ?_
     refine R0 ?_
     refine WX.back0 ?_
     refine TX.tail [10, 11] Z Z J ?_
     refine R0 ?_
     refine WX.see Z Z Z (fun _ hΓ => looks_arith Z Z Z Z (by unfold I64; first | omega | (simp only [List.length_take] at *; omega))) ?_
     refine R0 ?_
     refine WX.turn [38] 4 Z (fun _ h => h) Z ?_
     have r77 : (u4).size ≤ bd n := hq2.1
     have r78 : ((a03 v (a01 u4) (1 + u19)).1).length ≤ bd (n + 4) := (okl hq19).1
     exact WX.iter (i - 1, p13, c12, (a03 v (a01 u4) (1 + u19)).1, u20, u21) ⟨(by first | assumption | omega), (okl_mk (by omega) hfx11 : GoT.ok (n + 1) ((a03 v (a01 u4) (1 + u19)).1 : List TableEntry)), hq14.2.1, hq14.2.2, (by omega), (by rw [v6]; rw [a0l]; simp only [h1, h1d, hu2, hu7, ct, cf, ↓reduceIte, Bool.false_eq_true])⟩ (by first | (dsimp only; omega) | omega) (.cons Z (.cons Z (.cons Z (.cons Z (.nil))))) (.cons Z (.cons Z (.cons Z (.nil)))) .nil [0, 4] Z
    refine TS.op 10 Z J ?_
    refine R0 ?_
    refine WX.back0 ?_
    refine TX.tail [9, 11] Z Z J ?_
    refine R0 ?_
    refine WX.see Z Z Z (fun _ hΓ => looks_arith Z Z Z Z (by unfold I64; first | omega | (simp only [List.length_take] at *; omega))) ?_
    refine R0 ?_
    refine WX.turn [38] 4 Z (fun _ h => h) Z ?_
    have r79 : (u4).size ≤ bd n := hq2.1
    have r80 : ((a03 v (a01 u4) (1 + u19)).1).length ≤ bd (n + 4) := (okl hq19).1
    exact WX.iter (i - 1, p13, c12, (a03 v (a01 u4) (1 + u19)).1, u20, u21) ⟨(by first | assumption | omega), (okl_mk (by omega) hfx11 : GoT.ok (n + 1) ((a03 v (a01 u4) (1 + u19)).1 : List TableEntry)), hq14.2.1, hq14.2.2, (by omega), (by rw [v6]; rw [a0l]; simp only [h1, h1d, hu2, hu7, ct, cf, ↓reduceIte, Bool.false_eq_true])⟩ (by first | (dsimp only; omega) | omega) (.cons Z (.cons Z (.cons Z (.cons Z (.nil))))) (.cons Z (.cons Z (.cons Z (.nil)))) .nil [0, 4] Z
   refine TS.op 9 Z J ?_
   refine R0 ?_
   refine WX.back0 ?_
   refine TX.tail [8, 10, 11] Z Z J ?_
   refine R0 ?_
   refine WX.see Z Z Z (fun _ hΓ => looks_arith Z Z Z Z (by unfold I64; first | omega | (simp only [List.length_take] at *; omega))) ?_
   refine R0 ?_
   refine WX.turn [38] 4 Z (fun _ h => h) Z ?_
   have r81 : (u4).size ≤ bd n := hq2.1
   have r82 : ((a03 v (a01 u4) (1 + u19)).1).length ≤ bd (n + 4) := (okl hq19).1
   exact WX.iter (i - 1, p13, c12, (a03 v (a01 u4) (1 + u19)).1, u20, u21) ⟨(by first | assumption | omega), (okl_mk (by omega) hfx11 : GoT.ok (n + 1) ((a03 v (a01 u4) (1 + u19)).1 : List TableEntry)), hq14.2.1, hq14.2.2, (by omega), (by rw [v6]; rw [a0l]; simp only [h1, h1d, hu2, hu7, ct, cf, ↓reduceIte, Bool.false_eq_true])⟩ (by first | (dsimp only; omega) | omega) (.cons Z (.cons Z (.cons Z (.cons Z (.nil))))) (.cons Z (.cons Z (.cons Z (.nil)))) .nil [0, 4] Z
  refine TS.op 2 Z J ?_
  refine R0 ?_
  refine WX.back0 ?_
  refine TX.all1 1 J ?_
  refine TS.op 1 Z J ?_
  refine R0 ?_
  refine WX.back0 ?_
  refine TX.all1 6 J ?_
  refine TS.callF 6 39 (fun _ _ h => GoT.ow_rd h) (fun _ f hf => GoT.fak f hf) Z Z Z Z Z Z O Z (fun w G bs hI hΓ => f117 w (n + 1) (by omega) v pv cv (hΓ.get 11 Z) (a01 u4) p2 c1 (hΓ.get 9 Z) (1 + u19) (okl_of v2) hq3 (show I64 (1 + u19) from (by unfold I64; omega))) O O ?_
  rintro ⟨p14, c13⟩ hq20
  have q18 := (put_spec v (a01 u4) (1 + u19)).len
  have hfx12 := (put_spec v (a01 u4) (1 + u19)).els (k := (n + 1)) v2.2 hq3 (show I64 (1 + u19) from (by unfold I64; omega))
  refine TX.all1 7 J ?_
  refine TS.op 7 Z J ?_
  refine R0 ?_
  refine WX.back0 ?_
  refine TX.all2 8 9 J ?_ ?_
  ·skip
   refine TS.op 8 Z J ?_
   refine R0 ?_
   refine WX.back0 ?_
   refine TX.all2 9 10 J ?_ ?_
   ·skip
    refine TS.op 9 Z J ?_
    refine R0 ?_
    refine WX.back0 ?_
    refine TX.tail [10, 11] Z Z J ?_
    refine R0 ?_
    refine WX.see Z Z Z (fun _ hΓ => looks_arith Z Z Z Z (by unfold I64; first | omega | (simp only [List.length_take] at *; omega))) ?_
    refine R0 ?_
    refine WX.turn [40] 4 Z (fun _ h => h) Z ?_
    have r83 : (u4).size ≤ bd n := hq2.1
    have r84 : ((a03 v (a01 u4) (1 + u19)).1).length ≤ bd (n + 4) := (okl hq20).1
    exact WX.iter (i - 1, p14, c13, (a03 v (a01 u4) (1 + u19)).1, u20, u21) ⟨(by first | assumption | omega), (okl_mk (by omega) hfx12 : GoT.ok (n + 1) ((a03 v (a01 u4) (1 + u19)).1 : List TableEntry)), hq14.2.1, hq14.2.2, (by omega), (by rw [v6]; rw [a0l]; simp only [h1, h1d, hu2, hu7, ct, cf, ↓reduceIte, Bool.false_eq_true])⟩ (by first | (dsimp only; omega) | omega) (.cons Z (.cons Z (.cons Z (.cons Z (.nil))))) (.cons Z (.cons Z (.cons Z (.nil)))) .nil [0, 4] Z
   refine TS.op 10 Z J ?_
   refine R0 ?_
   refine WX.back0 ?_
   refine TX.tail [9, 11] Z Z J ?_
   refine R0 ?_
   refine WX.see Z Z Z (fun _ hΓ => looks_arith Z Z Z Z (by unfold I64; first | omega | (simp only [List.length_take] at *; omega))) ?_
   refine R0 ?_
   refine WX.turn [40] 4 Z (fun _ h => h) Z ?_
   have r85 : (u4).size ≤ bd n := hq2.1
   have r86 : ((a03 v (a01 u4) (1 + u19)).1).length ≤ bd (n + 4) := (okl hq20).1
   exact WX.iter (i - 1, p14, c13, (a03 v (a01 u4) (1 + u19)).1, u20, u21) ⟨(by first | assumption | omega), (okl_mk (by omega) hfx12 : GoT.ok (n + 1) ((a03 v (a01 u4) (1 + u19)).1 : List TableEntry)), hq14.2.1, hq14.2.2, (by omega), (by rw [v6]; rw [a0l]; simp only [h1, h1d, hu2, hu7, ct, cf, ↓reduceIte, Bool.false_eq_true])⟩ (by first | (dsimp only; omega) | omega) (.cons Z (.cons Z (.cons Z (.cons Z (.nil))))) (.cons Z (.cons Z (.cons Z (.nil)))) .nil [0, 4] Z
  refine TS.op 9 Z J ?_
  refine R0 ?_
  refine WX.back0 ?_
  refine TX.tail [8, 10, 11] Z Z J ?_
  refine R0 ?_
  refine WX.see Z Z Z (fun _ hΓ => looks_arith Z Z Z Z (by unfold I64; first | omega | (simp only [List.length_take] at *; omega))) ?_
  refine R0 ?_
  refine WX.turn [40] 4 Z (fun _ h => h) Z ?_
  have r87 : (u4).size ≤ bd n := hq2.1
  have r88 : ((a03 v (a01 u4) (1 + u19)).1).length ≤ bd (n + 4) := (okl hq20).1
  exact WX.iter (i - 1, p14, c13, (a03 v (a01 u4) (1 + u19)).1, u20, u21) ⟨(by first | assumption | omega), (okl_mk (by omega) hfx12 : GoT.ok (n + 1) ((a03 v (a01 u4) (1 + u19)).1 : List TableEntry)), hq14.2.1, hq14.2.2, (by omega), (by rw [v6]; rw [a0l]; simp only [h1, h1d, hu2, hu7, ct, cf, ↓reduceIte, Bool.false_eq_true])⟩ (by first | (dsimp only; omega) | omega) (.cons Z (.cons Z (.cons Z (.cons Z (.nil))))) (.cons Z (.cons Z (.cons Z (.nil)))) .nil [0, 4] Z
 have h1d := B.df h1
 refine R0 ?_
 have hX1 : a0l c_b u1 (([] : List TableEntry) : List TableEntry) u2 u3 = (i, ((v) : List TableEntry), u999_i, u999_h) := by rw [v6]; rw [a0l]; simp only [h1, h1d, ct, cf, ↓reduceIte, Bool.false_eq_true]
 have hP1 : a3o c_b c_i c_h = (StateVector.mk v, u999_i, u999_h) := by simp only [a3o, hu1, hX1, ct, cf]
 have hz1 := hP1.symm.trans hres
 obtain ⟨hz1, hz2⟩ := Prod.mk.inj hz1
 obtain ⟨hz2, hz3⟩ := Prod.mk.inj hz2
 subst hz1
 subst hz2
 subst hz3
 refine R1 ?_
 intro w1 G bs hI hΓ
 exact Post.ofL 999 [4] (pv, cv) hI hΓ Z Z Z (by rw [hI.pin _ rfl]; first | done | rfl) (⟨(okl_of v2), ⟨v3, v4⟩⟩)
theorem f122 (w : World) (n : Nat) (hn : n + 4 ≤ 9) (H : GH) (hH : Le H (hp w)) (bc_ : Nat) (c_b : (List UInt8)) (K0 : Option Addr) (M0 : Nat) (N0 : RdSl (cut (hp w) H) K0 M0 c_b) (c_i : Int) (c_h : Int) (hown : Sep H [MF.bx bc_ 182 [.slice K0 ((c_b).length) M0, .int .i64 (c_i), .int .i64 (c_h)]]) (hokc_b : GoT.ok n c_b) (hokc_i : NN c_i) (hokc_h : GoT.ok n c_h) (o0_ : StateVector) (o1_ : Int) (o2_ : Int) (hres : a0s c_b c_i c_h = (o0_, o1_, o2_)) :
 Does Tryz.prog 122 #[.pointer (some ⟨bc_, 0, none⟩)] w H (Post w H (fun x : GoT.X (StateVector) => .agg ⟨GoT.sh (o0_ : StateVector) x⟩) (fun x => MF.bx bc_ 182 [.slice K0 ((c_b).length) M0, .int .i64 (o1_), .int .i64 (o2_)] :: GoT.oa (o0_ : StateVector) x) (GoT.ok (n + 1) (o0_ : StateVector) ∧ NN (o1_) ∧ I64 (o2_))) := by
 have hbP := bd_pos n
 have hbS0 : bd (n + 1) = 4 * bd (n) := bd_succ (n := n) (by omega)
 have hbS1 : bd (n + 2) = 4 * bd (n + 1) := bd_succ (n := n + 1) (by omega)
 have hbS2 : bd (n + 3) = 4 * bd (n + 2) := bd_succ (n := n + 2) (by omega)
 have hbS3 : bd (n + 4) = 4 * bd (n + 3) := bd_succ (n := n + 3) (by omega)
 have hbB := bd_big (n := (n + 4)) (by omega)
 have hbM := bd_mono (show n ≤ n + 4 by omega)
 have hc_bz : (c_b).length ≤ bd n := (okl hokc_b).1
 refine WX.enterP (tt := tt) (Γ := [(0, MF.rs .stb K0 M0 c_b)]) 1 Tryz.func122 Z J Z (allS_cons Z N0 allS_nil) hH hown (fun f hf => by cases hf) Z ?_
 refine R0 ?_
 obtain ⟨⟨u1, u2, u3⟩, hu1⟩ : ∃ r_, a3o c_b c_i c_h = r_ := ⟨_, rfl⟩
 refine WX.callP 999 2 Z (fun _ _ h => GoT.ow_rd h) (fun _ f hf => GoT.fak f hf) Z Z Z Z Z O Z (fun w G bs H hI hH hs hΓ => f197 w n (by omega) H hH (bs 999) c_b K0 M0 (hΓ.get 0 Z) c_i c_h hs hokc_b hokc_i hokc_h u1 u2 u3 hu1) O O ?_
 rintro ⟨p1, c1⟩ hq1
 have q1 := l27Draw_len c_b c_i c_h
 rw [hu1] at q1
 try dsimp only at q1
 refine R0 ?_
 obtain ⟨⟨u4, u5, u6⟩, hu2⟩ : ∃ r_, a08 c_b u2 u3 10 = r_ := ⟨_, rfl⟩
 refine WX.callP (ds := fun _ => []) 999 4 Z (fun _ _ _ => All.nil) (fun _ f hf => by cases hf) Z Z Z Z Z O Z (fun w G bs H hI hH hs hΓ => f84 w n (by omega) H hH (bs 999) c_b K0 M0 (hΓ.get 0 Z) u2 u3 10 hs hokc_b hq1.2.1 hq1.2.2 (show I64 10 from (by unfold I64; omega)) u4 u5 u6 hu2) O O ?_
 rintro ⟨⟩ hq2
 have q2 := l1Below_rng c_b u2 u3 10
 rw [hu2] at q2
 try dsimp only at q2
 refine R0 ?_
 refine WX.cases 8 Z (fun h1 => ?_) (fun h1 => ?_)
 ·skip
  have h1d := B.et h1
  refine R0 ?_
  refine WX.draw [1, 3, 6, 7, 9, 10, 11] mixed ?_
  intro bs G0 hΓ0
  refine DX.takes (fuel := 9) ttOk [(0, true), (2, true), (4, true)] J Z ?_
  refine DX.toTX ?_
  intro S_
  refine TX.all3 1 3 5 J ?_ ?_ ?_
  ·skip
   refine TS.op 1 Z J ?_
   refine R0 ?_
   refine WX.back0 ?_
   refine TX.all2 3 5 J ?_ ?_
   ·skip
    refine TS.op 3 Z J ?_
    obtain ⟨⟨u7, u8, u9⟩, hu3⟩ : ∃ r_, a0r c_b u5 u6 = r_ := ⟨_, rfl⟩
    refine WX.callP 999 5 Z (fun _ _ h => GoT.ow_rd h) (fun _ f hf => GoT.fak f hf) Z Z Z Z Z O Z (fun w G bs H hI hH hs hΓ => f123 w n (by omega) H hH (bs 999) c_b K0 M0 (hΓ.get 0 Z) u5 u6 hs hokc_b hq2.2.1 hq2.2.2 u7 u8 u9 hu3) O O ?_
    rintro ⟨p2, c2⟩ hq3
    have q3 := l4Any_len c_b u5 u6
    rw [hu3] at q3
    try dsimp only at q3
    refine R0 ?_
    refine WX.back0 ?_
    refine TX.tail [5, 6, 7, 8, 9, 10, 11] Z Z J ?_
    refine WX.bld ttOk Z Z Z Z Z Z Z ?_
    intro p3
    refine WX.turn [] 7 Z (fun h hs => one_sep (⟨(), _, emp, _, Z, emp_le _, Le.refl _, emp_dj _, trivial, ⟨(), _, emp, _, Z, emp_le _, Le.refl _, emp_dj _, trivial, ⟨(), _, emp, _, Z, emp_le _, Le.refl _, emp_dj _, trivial, ⟨(), _, emp, _, Z, emp_le _, Le.refl _, emp_dj _, trivial, ⟨(), _, emp, _, Z, emp_le _, Le.refl _, emp_dj _, trivial, Z⟩⟩⟩⟩⟩ : OwL _ _ ([0, 1, 1000, 1001, (-1)] : List Int))) (gs := [MF.ol [.int .i64 (0), .int .i64 (1), .int .i64 (1000), .int .i64 (1001), .int .i64 ((-1))] ([0, 1, 1000, 1001, (-1)] : List Int)]) Z ?_
    refine WX.seal 15 7 8 Z Z Z Z Z ?_
    obtain ⟨⟨u10, u11, u12⟩, hu4⟩ : ∃ r_, a1w c_b u8 u9 ([0, 1, 1000, 1001, (-1)]) = r_ := ⟨_, rfl⟩
    refine WX.callP (ds := fun _ => []) 999 10 Z (fun _ _ _ => All.nil) (fun _ f hf => by cases hf) Z Z Z Z Z O Z (fun w G bs H hI hH hs hΓ => f107 w n (by omega) H hH (bs 999) c_b K0 M0 (hΓ.get 0 Z) u8 u9 ([0, 1, 1000, 1001, (-1)]) p3 5 (hΓ.get 8 Z) hs hokc_b hq3.2.1 hq3.2.2 (by first | assumption | omega | (simp; done) | (simp; omega)) (okl_mk (by simp; omega) (all_cons (α := Int) (show I64 0 from (by unfold I64; omega)) (all_cons (α := Int) (show I64 1 from (by unfold I64; omega)) (all_cons (α := Int) (show I64 1000 from (by unfold I64; omega)) (all_cons (α := Int) (show I64 1001 from (by unfold I64; omega)) (all_cons (α := Int) (show I64 (-1) from (by unfold I64; omega)) (fun a ha => by cases ha)))))) : GoT.ok n ([0, 1, 1000, 1001, (-1)] : List Int)) u10 u11 u12 hu4) O O ?_
    rintro ⟨⟩ hq4
    refine R0 ?_
    refine WX.bld ttOk Z Z Z Z Z Z Z ?_
    intro p4
    refine WX.opn (kk := 2) 501 3 11 Z Z Z ?_
    intro xs1 hx1
    refine WX.turn [6] 12 Z (fun h hs => ol_one (α := TableEntry) (a := (TableEntry.mk u7 u10)) (x := ((p2, c2), ())) hs) (gs := [MF.ol [.slice p2 ((u7.parts).length) c2, .int .i64 (u10)] ([(TableEntry.mk u7 u10)] : List TableEntry)]) Z ?_
    have r1 : (u1.entries).length ≤ bd (n + 1) := (okl (ok_StateVector hq1.1)).1
    have r2 : -9223372036854775808 ≤ u10 ∧ u10 ≤ 9223372036854775807 := hq4.1
    refine WX.know (fun G hΓ => (hΓ.get 12 Z : OwL _ _ _).rd.one) ?_
    intro ho1
    refine WX.appR1 501 18 ((u1.entries ++ [(TableEntry.mk u7 u10)]) : List TableEntry).length ttOk Z Z Z Z Z Z Z Z Z Z Z Z Z ho1 (by simp) (by simp; omega) (by simp; omega) (fun _ _ => Z) ?_
    intro p5 c3
    refine WX.turn [11, 12] 13 Z (fun h hs => ol_app hs) (gs := [MF.ol (xs1 ++ [.slice p2 ((u7.parts).length) c2, .int .i64 (u10)]) ((u1.entries ++ [(TableEntry.mk u7 u10)]) : List TableEntry)]) Z ?_
    refine R0 ?_
    refine WX.seal 501 13 14 Z Z Z Z Z ?_
    have hP1 : a0s c_b c_i c_h = (StateVector.mk (u1.entries ++ [(TableEntry.mk u7 u10)]), u11, u12) := by simp only [a0s, hu1, hu2, h1, hu3, hu4, ct, cf]
    have hz1 := hP1.symm.trans hres
    obtain ⟨hz1, hz2⟩ := Prod.mk.inj hz1
    obtain ⟨hz2, hz3⟩ := Prod.mk.inj hz2
    subst hz1
    subst hz2
    subst hz3
    refine R1 ?_
    intro w1 G bs hI hΓ
    exact Post.ofL 999 [15] (p5, c3) hI hΓ Z Z Z (by rw [hI.pin _ rfl]; first | done | rfl) (⟨(okl_mk (by simp; omega) (all_app (okl (ok_StateVector hq1.1)).2 (fun a ha => GoT.okm (by omega) ((all_cons (α := TableEntry) (And.intro hq3.1 hq4.1) (fun a ha => by cases ha)) a ha))) : GoT.ok (n + 1) ((u1.entries ++ [(TableEntry.mk u7 u10)]) : List TableEntry)), ⟨hq4.2.1, hq4.2.2⟩⟩)
   refine TS.op 5 Z J ?_
   refine WX.bld ttOk Z Z Z Z Z Z Z ?_
   intro p6
   refine R0 ?_
   refine WX.back0 ?_
   refine TX.tail [3, 6, 7, 8, 9, 10, 11] Z Z J ?_
   obtain ⟨⟨u13, u14, u15⟩, hu5⟩ : ∃ r_, a0r c_b u5 u6 = r_ := ⟨_, rfl⟩
   refine WX.callP 999 16 Z (fun _ _ h => GoT.ow_rd h) (fun _ f hf => GoT.fak f hf) Z Z Z Z Z O Z (fun w G bs H hI hH hs hΓ => f123 w n (by omega) H hH (bs 999) c_b K0 M0 (hΓ.get 0 Z) u5 u6 hs hokc_b hq2.2.1 hq2.2.2 u13 u14 u15 hu5) O O ?_
   rintro ⟨p7, c4⟩ hq5
   have q4 := l4Any_len c_b u5 u6
   rw [hu5] at q4
   try dsimp only at q4
   refine WX.turn [] 18 Z (fun h hs => one_sep (⟨(), _, emp, _, Z, emp_le _, Le.refl _, emp_dj _, trivial, ⟨(), _, emp, _, Z, emp_le _, Le.refl _, emp_dj _, trivial, ⟨(), _, emp, _, Z, emp_le _, Le.refl _, emp_dj _, trivial, ⟨(), _, emp, _, Z, emp_le _, Le.refl _, emp_dj _, trivial, ⟨(), _, emp, _, Z, emp_le _, Le.refl _, emp_dj _, trivial, Z⟩⟩⟩⟩⟩ : OwL _ _ ([0, 1, 1000, 1001, (-1)] : List Int))) (gs := [MF.ol [.int .i64 (0), .int .i64 (1), .int .i64 (1000), .int .i64 (1001), .int .i64 ((-1))] ([0, 1, 1000, 1001, (-1)] : List Int)]) Z ?_
   refine WX.seal 15 18 19 Z Z Z Z Z ?_
   obtain ⟨⟨u16, u17, u18⟩, hu6⟩ : ∃ r_, a1w c_b u14 u15 ([0, 1, 1000, 1001, (-1)]) = r_ := ⟨_, rfl⟩
   refine WX.callP (ds := fun _ => []) 999 21 Z (fun _ _ _ => All.nil) (fun _ f hf => by cases hf) Z Z Z Z Z O Z (fun w G bs H hI hH hs hΓ => f107 w n (by omega) H hH (bs 999) c_b K0 M0 (hΓ.get 0 Z) u14 u15 ([0, 1, 1000, 1001, (-1)]) p6 5 (hΓ.get 19 Z) hs hokc_b hq5.2.1 hq5.2.2 (by first | assumption | omega | (simp; done) | (simp; omega)) (okl_mk (by simp; omega) (all_cons (α := Int) (show I64 0 from (by unfold I64; omega)) (all_cons (α := Int) (show I64 1 from (by unfold I64; omega)) (all_cons (α := Int) (show I64 1000 from (by unfold I64; omega)) (all_cons (α := Int) (show I64 1001 from (by unfold I64; omega)) (all_cons (α := Int) (show I64 (-1) from (by unfold I64; omega)) (fun a ha => by cases ha)))))) : GoT.ok n ([0, 1, 1000, 1001, (-1)] : List Int)) u16 u17 u18 hu6) O O ?_
   rintro ⟨⟩ hq6
   refine R0 ?_
   refine WX.bld ttOk Z Z Z Z Z Z Z ?_
   intro p8
   refine WX.opn (kk := 2) 502 3 22 Z Z Z ?_
   intro xs2 hx2
   refine WX.turn [17] 23 Z (fun h hs => ol_one (α := TableEntry) (a := (TableEntry.mk u13 u16)) (x := ((p7, c4), ())) hs) (gs := [MF.ol [.slice p7 ((u13.parts).length) c4, .int .i64 (u16)] ([(TableEntry.mk u13 u16)] : List TableEntry)]) Z ?_
   have r3 : (u1.entries).length ≤ bd (n + 1) := (okl (ok_StateVector hq1.1)).1
   have r4 : -9223372036854775808 ≤ u16 ∧ u16 ≤ 9223372036854775807 := hq6.1
   refine WX.know (fun G hΓ => (hΓ.get 23 Z : OwL _ _ _).rd.one) ?_
   intro ho2
   refine WX.appR1 502 18 ((u1.entries ++ [(TableEntry.mk u13 u16)]) : List TableEntry).length ttOk Z Z Z Z Z Z Z Z Z Z Z Z Z ho2 (by simp) (by simp; omega) (by simp; omega) (fun _ _ => Z) ?_
   intro p9 c5
   refine WX.turn [22, 23] 24 Z (fun h hs => ol_app hs) (gs := [MF.ol (xs2 ++ [.slice p7 ((u13.parts).length) c4, .int .i64 (u16)]) ((u1.entries ++ [(TableEntry.mk u13 u16)]) : List TableEntry)]) Z ?_
   refine R0 ?_
   refine WX.seal 502 24 25 Z Z Z Z Z ?_
   have hP2 : a0s c_b c_i c_h = (StateVector.mk (u1.entries ++ [(TableEntry.mk u13 u16)]), u17, u18) := by simp only [a0s, hu1, hu2, h1, hu5, hu6, ct, cf]
   have hz1 := hP2.symm.trans hres
   obtain ⟨hz1, hz2⟩ := Prod.mk.inj hz1
   obtain ⟨hz2, hz3⟩ := Prod.mk.inj hz2
   subst hz1
   subst hz2
   subst hz3
   refine R1 ?_
   intro w1 G bs hI hΓ
   exact Post.ofL 999 [26] (p9, c5) hI hΓ Z Z Z (by rw [hI.pin _ rfl]; first | done | rfl) (⟨(okl_mk (by simp; omega) (all_app (okl (ok_StateVector hq1.1)).2 (fun a ha => GoT.okm (by omega) ((all_cons (α := TableEntry) (And.intro hq5.1 hq6.1) (fun a ha => by cases ha)) a ha))) : GoT.ok (n + 1) ((u1.entries ++ [(TableEntry.mk u13 u16)]) : List TableEntry)), ⟨hq6.2.1, hq6.2.2⟩⟩)
  ·skip
   refine TS.op 3 Z J ?_
   obtain ⟨⟨u19, u20, u21⟩, hu7⟩ : ∃ r_, a0r c_b u5 u6 = r_ := ⟨_, rfl⟩
   refine WX.callP 999 27 Z (fun _ _ h => GoT.ow_rd h) (fun _ f hf => GoT.fak f hf) Z Z Z Z Z O Z (fun w G bs H hI hH hs hΓ => f123 w n (by omega) H hH (bs 999) c_b K0 M0 (hΓ.get 0 Z) u5 u6 hs hokc_b hq2.2.1 hq2.2.2 u19 u20 u21 hu7) O O ?_
   rintro ⟨p10, c6⟩ hq7
   have q5 := l4Any_len c_b u5 u6
   rw [hu7] at q5
   try dsimp only at q5
   refine R0 ?_
   refine WX.back0 ?_
   refine TX.all2 1 5 J ?_ ?_
   ·skip
    refine TS.op 1 Z J ?_
    refine R0 ?_
    refine WX.back0 ?_
    refine TX.tail [5, 6, 7, 8, 9, 10, 11] Z Z J ?_
    refine WX.bld ttOk Z Z Z Z Z Z Z ?_
    intro p11
    refine WX.turn [] 29 Z (fun h hs => one_sep (⟨(), _, emp, _, Z, emp_le _, Le.refl _, emp_dj _, trivial, ⟨(), _, emp, _, Z, emp_le _, Le.refl _, emp_dj _, trivial, ⟨(), _, emp, _, Z, emp_le _, Le.refl _, emp_dj _, trivial, ⟨(), _, emp, _, Z, emp_le _, Le.refl _, emp_dj _, trivial, ⟨(), _, emp, _, Z, emp_le _, Le.refl _, emp_dj _, trivial, Z⟩⟩⟩⟩⟩ : OwL _ _ ([0, 1, 1000, 1001, (-1)] : List Int))) (gs := [MF.ol [.int .i64 (0), .int .i64 (1), .int .i64 (1000), .int .i64 (1001), .int .i64 ((-1))] ([0, 1, 1000, 1001, (-1)] : List Int)]) Z ?_
    refine WX.seal 15 29 30 Z Z Z Z Z ?_
    obtain ⟨⟨u22, u23, u24⟩, hu8⟩ : ∃ r_, a1w c_b u20 u21 ([0, 1, 1000, 1001, (-1)]) = r_ := ⟨_, rfl⟩
    refine WX.callP (ds := fun _ => []) 999 32 Z (fun _ _ _ => All.nil) (fun _ f hf => by cases hf) Z Z Z Z Z O Z (fun w G bs H hI hH hs hΓ => f107 w n (by omega) H hH (bs 999) c_b K0 M0 (hΓ.get 0 Z) u20 u21 ([0, 1, 1000, 1001, (-1)]) p11 5 (hΓ.get 30 Z) hs hokc_b hq7.2.1 hq7.2.2 (by first | assumption | omega | (simp; done) | (simp; omega)) (okl_mk (by simp; omega) (all_cons (α := Int) (show I64 0 from (by unfold I64; omega)) (all_cons (α := Int) (show I64 1 from (by unfold I64; omega)) (all_cons (α := Int) (show I64 1000 from (by unfold I64; omega)) (all_cons (α := Int) (show I64 1001 from (by unfold I64; omega)) (all_cons (α := Int) (show I64 (-1) from (by unfold I64; omega)) (fun a ha => by cases ha)))))) : GoT.ok n ([0, 1, 1000, 1001, (-1)] : List Int)) u22 u23 u24 hu8) O O ?_
    rintro ⟨⟩ hq8
    refine R0 ?_
    refine WX.bld ttOk Z Z Z Z Z Z Z ?_
    intro p12
    refine WX.opn (kk := 2) 503 3 33 Z Z Z ?_
    intro xs3 hx3
    refine WX.turn [28] 34 Z (fun h hs => ol_one (α := TableEntry) (a := (TableEntry.mk u19 u22)) (x := ((p10, c6), ())) hs) (gs := [MF.ol [.slice p10 ((u19.parts).length) c6, .int .i64 (u22)] ([(TableEntry.mk u19 u22)] : List TableEntry)]) Z ?_
    have r5 : (u1.entries).length ≤ bd (n + 1) := (okl (ok_StateVector hq1.1)).1
    have r6 : -9223372036854775808 ≤ u22 ∧ u22 ≤ 9223372036854775807 := hq8.1
    refine WX.know (fun G hΓ => (hΓ.get 34 Z : OwL _ _ _).rd.one) ?_
    intro ho3
    refine WX.appR1 503 18 ((u1.entries ++ [(TableEntry.mk u19 u22)]) : List TableEntry).length ttOk Z Z Z Z Z Z Z Z Z Z Z Z Z ho3 (by simp) (by simp; omega) (by simp; omega) (fun _ _ => Z) ?_
    intro p13 c7
    refine WX.turn [33, 34] 35 Z (fun h hs => ol_app hs) (gs := [MF.ol (xs3 ++ [.slice p10 ((u19.parts).length) c6, .int .i64 (u22)]) ((u1.entries ++ [(TableEntry.mk u19 u22)]) : List TableEntry)]) Z ?_
    refine R0 ?_
    refine WX.seal 503 35 36 Z Z Z Z Z ?_
    have hP3 : a0s c_b c_i c_h = (StateVector.mk (u1.entries ++ [(TableEntry.mk u19 u22)]), u23, u24) := by simp only [a0s, hu1, hu2, h1, hu7, hu8, ct, cf]
    have hz1 := hP3.symm.trans hres
    obtain ⟨hz1, hz2⟩ := Prod.mk.inj hz1
    obtain ⟨hz2, hz3⟩ := Prod.mk.inj hz2
    subst hz1
    subst hz2
    subst hz3
    refine R1 ?_
    intro w1 G bs hI hΓ
    exact Post.ofL 999 [37] (p13, c7) hI hΓ Z Z Z (by rw [hI.pin _ rfl]; first | done | rfl) (⟨(okl_mk (by simp; omega) (all_app (okl (ok_StateVector hq1.1)).2 (fun a ha => GoT.okm (by omega) ((all_cons (α := TableEntry) (And.intro hq7.1 hq8.1) (fun a ha => by cases ha)) a ha))) : GoT.ok (n + 1) ((u1.entries ++ [(TableEntry.mk u19 u22)]) : List TableEntry)), ⟨hq8.2.1, hq8.2.2⟩⟩)
   refine TS.op 5 Z J ?_
   refine WX.bld ttOk Z Z Z Z Z Z Z ?_
   intro p14
   refine R0 ?_
   refine WX.back0 ?_
   refine TX.all2 1 6 J ?_ ?_
   ·skip
    refine TS.op 1 Z J ?_
    refine R0 ?_
    refine WX.back0 ?_
    refine TX.tail [6, 7, 8, 9, 10, 11] Z Z J ?_
    refine WX.turn [] 38 Z (fun h hs => one_sep (⟨(), _, emp, _, Z, emp_le _, Le.refl _, emp_dj _, trivial, ⟨(), _, emp, _, Z, emp_le _, Le.refl _, emp_dj _, trivial, ⟨(), _, emp, _, Z, emp_le _, Le.refl _, emp_dj _, trivial, ⟨(), _, emp, _, Z, emp_le _, Le.refl _, emp_dj _, trivial, ⟨(), _, emp, _, Z, emp_le _, Le.refl _, emp_dj _, trivial, Z⟩⟩⟩⟩⟩ : OwL _ _ ([0, 1, 1000, 1001, (-1)] : List Int))) (gs := [MF.ol [.int .i64 (0), .int .i64 (1), .int .i64 (1000), .int .i64 (1001), .int .i64 ((-1))] ([0, 1, 1000, 1001, (-1)] : List Int)]) Z ?_
    refine WX.seal 15 38 39 Z Z Z Z Z ?_
    obtain ⟨⟨u25, u26, u27⟩, hu9⟩ : ∃ r_, a1w c_b u20 u21 ([0, 1, 1000, 1001, (-1)]) = r_ := ⟨_, rfl⟩
    refine WX.callP (ds := fun _ => []) 999 41 Z (fun _ _ _ => All.nil) (fun _ f hf => by cases hf) Z Z Z Z Z O Z (fun w G bs H hI hH hs hΓ => f107 w n (by omega) H hH (bs 999) c_b K0 M0 (hΓ.get 0 Z) u20 u21 ([0, 1, 1000, 1001, (-1)]) p14 5 (hΓ.get 39 Z) hs hokc_b hq7.2.1 hq7.2.2 (by first | assumption | omega | (simp; done) | (simp; omega)) (okl_mk (by simp; omega) (all_cons (α := Int) (show I64 0 from (by unfold I64; omega)) (all_cons (α := Int) (show I64 1 from (by unfold I64; omega)) (all_cons (α := Int) (show I64 1000 from (by unfold I64; omega)) (all_cons (α := Int) (show I64 1001 from (by unfold I64; omega)) (all_cons (α := Int) (show I64 (-1) from (by unfold I64; omega)) (fun a ha => by cases ha)))))) : GoT.ok n ([0, 1, 1000, 1001, (-1)] : List Int)) u25 u26 u27 hu9) O O ?_
    rintro ⟨⟩ hq9
    refine R0 ?_
    refine WX.bld ttOk Z Z Z Z Z Z Z ?_
    intro p15
    refine WX.opn (kk := 2) 504 3 42 Z Z Z ?_
    intro xs4 hx4
    refine WX.turn [28] 43 Z (fun h hs => ol_one (α := TableEntry) (a := (TableEntry.mk u19 u25)) (x := ((p10, c6), ())) hs) (gs := [MF.ol [.slice p10 ((u19.parts).length) c6, .int .i64 (u25)] ([(TableEntry.mk u19 u25)] : List TableEntry)]) Z ?_
    have r7 : (u1.entries).length ≤ bd (n + 1) := (okl (ok_StateVector hq1.1)).1
    have r8 : -9223372036854775808 ≤ u25 ∧ u25 ≤ 9223372036854775807 := hq9.1
    refine WX.know (fun G hΓ => (hΓ.get 43 Z : OwL _ _ _).rd.one) ?_
    intro ho4
    refine WX.appR1 504 18 ((u1.entries ++ [(TableEntry.mk u19 u25)]) : List TableEntry).length ttOk Z Z Z Z Z Z Z Z Z Z Z Z Z ho4 (by simp) (by simp; omega) (by simp; omega) (fun _ _ => Z) ?_
    intro p16 c8
    refine WX.turn [42, 43] 44 Z (fun h hs => ol_app hs) (gs := [MF.ol (xs4 ++ [.slice p10 ((u19.parts).length) c6, .int .i64 (u25)]) ((u1.entries ++ [(TableEntry.mk u19 u25)]) : List TableEntry)]) Z ?_
    refine R0 ?_
    refine WX.seal 504 44 45 Z Z Z Z Z ?_
    have hP4 : a0s c_b c_i c_h = (StateVector.mk (u1.entries ++ [(TableEntry.mk u19 u25)]), u26, u27) := by simp only [a0s, hu1, hu2, h1, hu7, hu9, ct, cf]
    have hz1 := hP4.symm.trans hres
    obtain ⟨hz1, hz2⟩ := Prod.mk.inj hz1
    obtain ⟨hz2, hz3⟩ := Prod.mk.inj hz2
    subst hz1
    subst hz2
    subst hz3
    refine R1 ?_
    intro w1 G bs hI hΓ
    exact Post.ofL 999 [46] (p16, c8) hI hΓ Z Z Z (by rw [hI.pin _ rfl]; first | done | rfl) (⟨(okl_mk (by simp; omega) (all_app (okl (ok_StateVector hq1.1)).2 (fun a ha => GoT.okm (by omega) ((all_cons (α := TableEntry) (And.intro hq7.1 hq9.1) (fun a ha => by cases ha)) a ha))) : GoT.ok (n + 1) ((u1.entries ++ [(TableEntry.mk u19 u25)]) : List TableEntry)), ⟨hq9.2.1, hq9.2.2⟩⟩)
   refine TS.op 6 Z J ?_
   refine WX.turn [] 47 Z (fun h hs => one_sep (⟨(), _, emp, _, Z, emp_le _, Le.refl _, emp_dj _, trivial, ⟨(), _, emp, _, Z, emp_le _, Le.refl _, emp_dj _, trivial, ⟨(), _, emp, _, Z, emp_le _, Le.refl _, emp_dj _, trivial, ⟨(), _, emp, _, Z, emp_le _, Le.refl _, emp_dj _, trivial, ⟨(), _, emp, _, Z, emp_le _, Le.refl _, emp_dj _, trivial, Z⟩⟩⟩⟩⟩ : OwL _ _ ([0, 1, 1000, 1001, (-1)] : List Int))) (gs := [MF.ol [.int .i64 (0), .int .i64 (1), .int .i64 (1000), .int .i64 (1001), .int .i64 ((-1))] ([0, 1, 1000, 1001, (-1)] : List Int)]) Z ?_
   refine WX.seal 15 47 48 Z Z Z Z Z ?_
   obtain ⟨⟨u28, u29, u30⟩, hu10⟩ : ∃ r_, a1w c_b u20 u21 ([0, 1, 1000, 1001, (-1)]) = r_ := ⟨_, rfl⟩
   refine WX.callP (ds := fun _ => []) 999 50 Z (fun _ _ _ => All.nil) (fun _ f hf => by cases hf) Z Z Z Z Z O Z (fun w G bs H hI hH hs hΓ => f107 w n (by omega) H hH (bs 999) c_b K0 M0 (hΓ.get 0 Z) u20 u21 ([0, 1, 1000, 1001, (-1)]) p14 5 (hΓ.get 48 Z) hs hokc_b hq7.2.1 hq7.2.2 (by first | assumption | omega | (simp; done) | (simp; omega)) (okl_mk (by simp; omega) (all_cons (α := Int) (show I64 0 from (by unfold I64; omega)) (all_cons (α := Int) (show I64 1 from (by unfold I64; omega)) (all_cons (α := Int) (show I64 1000 from (by unfold I64; omega)) (all_cons (α := Int) (show I64 1001 from (by unfold I64; omega)) (all_cons (α := Int) (show I64 (-1) from (by unfold I64; omega)) (fun a ha => by cases ha)))))) : GoT.ok n ([0, 1, 1000, 1001, (-1)] : List Int)) u28 u29 u30 hu10) O O ?_
   rintro ⟨⟩ hq10
   refine R0 ?_
   refine WX.back0 ?_
   refine TX.all2 1 7 J ?_ ?_
   ·skip
    refine TS.op 1 Z J ?_
    refine R0 ?_
    refine WX.back0 ?_
    refine TX.tail [7, 8, 9, 10, 11] Z Z J ?_
    refine R0 ?_
    refine WX.bld ttOk Z Z Z Z Z Z Z ?_
    intro p17
    refine WX.opn (kk := 2) 505 3 51 Z Z Z ?_
    intro xs5 hx5
    refine WX.turn [28] 52 Z (fun h hs => ol_one (α := TableEntry) (a := (TableEntry.mk u19 u28)) (x := ((p10, c6), ())) hs) (gs := [MF.ol [.slice p10 ((u19.parts).length) c6, .int .i64 (u28)] ([(TableEntry.mk u19 u28)] : List TableEntry)]) Z ?_
    have r9 : (u1.entries).length ≤ bd (n + 1) := (okl (ok_StateVector hq1.1)).1
    have r10 : -9223372036854775808 ≤ u28 ∧ u28 ≤ 9223372036854775807 := hq10.1
    refine WX.know (fun G hΓ => (hΓ.get 52 Z : OwL _ _ _).rd.one) ?_
    intro ho5
    refine WX.appR1 505 18 ((u1.entries ++ [(TableEntry.mk u19 u28)]) : List TableEntry).length ttOk Z Z Z Z Z Z Z Z Z Z Z Z Z ho5 (by simp) (by simp; omega) (by simp; omega) (fun _ _ => Z) ?_
    intro p18 c9
    refine WX.turn [51, 52] 53 Z (fun h hs => ol_app hs) (gs := [MF.ol (xs5 ++ [.slice p10 ((u19.parts).length) c6, .int .i64 (u28)]) ((u1.entries ++ [(TableEntry.mk u19 u28)]) : List TableEntry)]) Z ?_
    refine R0 ?_
    refine WX.seal 505 53 54 Z Z Z Z Z ?_
    have hP5 : a0s c_b c_i c_h = (StateVector.mk (u1.entries ++ [(TableEntry.mk u19 u28)]), u29, u30) := by simp only [a0s, hu1, hu2, h1, hu7, hu10, ct, cf]
    have hz1 := hP5.symm.trans hres
    obtain ⟨hz1, hz2⟩ := Prod.mk.inj hz1
    obtain ⟨hz2, hz3⟩ := Prod.mk.inj hz2
    subst hz1
    subst hz2
    subst hz3
    refine R1 ?_
    intro w1 G bs hI hΓ
    exact Post.ofL 999 [55] (p18, c9) hI hΓ Z Z Z (by rw [hI.pin _ rfl]; first | done | rfl) (⟨(okl_mk (by simp; omega) (all_app (okl (ok_StateVector hq1.1)).2 (fun a ha => GoT.okm (by omega) ((all_cons (α := TableEntry) (And.intro hq7.1 hq10.1) (fun a ha => by cases ha)) a ha))) : GoT.ok (n + 1) ((u1.entries ++ [(TableEntry.mk u19 u28)]) : List TableEntry)), ⟨hq10.2.1, hq10.2.2⟩⟩)
   refine TS.op 7 Z J ?_
   refine R0 ?_
   refine WX.back0 ?_
   refine TX.all2 1 8 J ?_ ?_
   ·skip
    refine TS.op 1 Z J ?_
    refine R0 ?_
    refine WX.back0 ?_
    refine TX.tail [8, 9, 10, 11] Z Z J ?_
    refine WX.bld ttOk Z Z Z Z Z Z Z ?_
    intro p19
    refine WX.opn (kk := 2) 506 3 56 Z Z Z ?_
    intro xs6 hx6
    refine WX.turn [28] 57 Z (fun h hs => ol_one (α := TableEntry) (a := (TableEntry.mk u19 u28)) (x := ((p10, c6), ())) hs) (gs := [MF.ol [.slice p10 ((u19.parts).length) c6, .int .i64 (u28)] ([(TableEntry.mk u19 u28)] : List TableEntry)]) Z ?_
    have r11 : (u1.entries).length ≤ bd (n + 1) := (okl (ok_StateVector hq1.1)).1
    have r12 : -9223372036854775808 ≤ u28 ∧ u28 ≤ 9223372036854775807 := hq10.1
    refine WX.know (fun G hΓ => (hΓ.get 57 Z : OwL _ _ _).rd.one) ?_
    intro ho6
    refine WX.appR1 506 18 ((u1.entries ++ [(TableEntry.mk u19 u28)]) : List TableEntry).length ttOk Z Z Z Z Z Z Z Z Z Z Z Z Z ho6 (by simp) (by simp; omega) (by simp; omega) (fun _ _ => Z) ?_
    intro p20 c10
    refine WX.turn [56, 57] 58 Z (fun h hs => ol_app hs) (gs := [MF.ol (xs6 ++ [.slice p10 ((u19.parts).length) c6, .int .i64 (u28)]) ((u1.entries ++ [(TableEntry.mk u19 u28)]) : List TableEntry)]) Z ?_
    refine R0 ?_
    refine WX.seal 506 58 59 Z Z Z Z Z ?_
    have hP6 : a0s c_b c_i c_h = (StateVector.mk (u1.entries ++ [(TableEntry.mk u19 u28)]), u29, u30) := by simp only [a0s, hu1, hu2, h1, hu7, hu10, ct, cf]
    have hz1 := hP6.symm.trans hres
    obtain ⟨hz1, hz2⟩ := Prod.mk.inj hz1
    obtain ⟨hz2, hz3⟩ := Prod.mk.inj hz2
    subst hz1
    subst hz2
    subst hz3
    refine R1 ?_
    intro w1 G bs hI hΓ
    exact Post.ofL 999 [60] (p20, c10) hI hΓ Z Z Z (by rw [hI.pin _ rfl]; first | done | rfl) (⟨(okl_mk (by simp; omega) (all_app (okl (ok_StateVector hq1.1)).2 (fun a ha => GoT.okm (by omega) ((all_cons (α := TableEntry) (And.intro hq7.1 hq10.1) (fun a ha => by cases ha)) a ha))) : GoT.ok (n + 1) ((u1.entries ++ [(TableEntry.mk u19 u28)]) : List TableEntry)), ⟨hq10.2.1, hq10.2.2⟩⟩)
   refine TS.op 8 Z J ?_
   refine WX.bld ttOk Z Z Z Z Z Z Z ?_
   intro p21
   refine R0 ?_
   refine WX.back0 ?_
   refine TX.tail [1, 9, 10, 11] Z Z J ?_
   refine R0 ?_
   refine WX.opn (kk := 2) 507 3 61 Z Z Z ?_
   intro xs7 hx7
   refine WX.turn [28] 62 Z (fun h hs => ol_one (α := TableEntry) (a := (TableEntry.mk u19 u28)) (x := ((p10, c6), ())) hs) (gs := [MF.ol [.slice p10 ((u19.parts).length) c6, .int .i64 (u28)] ([(TableEntry.mk u19 u28)] : List TableEntry)]) Z ?_
   have r13 : (u1.entries).length ≤ bd (n + 1) := (okl (ok_StateVector hq1.1)).1
   have r14 : -9223372036854775808 ≤ u28 ∧ u28 ≤ 9223372036854775807 := hq10.1
   refine WX.know (fun G hΓ => (hΓ.get 62 Z : OwL _ _ _).rd.one) ?_
   intro ho7
   refine WX.appR1 507 18 ((u1.entries ++ [(TableEntry.mk u19 u28)]) : List TableEntry).length ttOk Z Z Z Z Z Z Z Z Z Z Z Z Z ho7 (by simp) (by simp; omega) (by simp; omega) (fun _ _ => Z) ?_
   intro p22 c11
   refine WX.turn [61, 62] 63 Z (fun h hs => ol_app hs) (gs := [MF.ol (xs7 ++ [.slice p10 ((u19.parts).length) c6, .int .i64 (u28)]) ((u1.entries ++ [(TableEntry.mk u19 u28)]) : List TableEntry)]) Z ?_
   refine R0 ?_
   refine WX.seal 507 63 64 Z Z Z Z Z ?_
   have hP7 : a0s c_b c_i c_h = (StateVector.mk (u1.entries ++ [(TableEntry.mk u19 u28)]), u29, u30) := by simp only [a0s, hu1, hu2, h1, hu7, hu10, ct, cf]
   have hz1 := hP7.symm.trans hres
   obtain ⟨hz1, hz2⟩ := Prod.mk.inj hz1
   obtain ⟨hz2, hz3⟩ := Prod.mk.inj hz2
   subst hz1
   subst hz2
   subst hz3
   refine R1 ?_
   intro w1 G bs hI hΓ
   exact Post.ofL 999 [65] (p22, c11) hI hΓ Z Z Z (by rw [hI.pin _ rfl]; first | done | rfl) (⟨(okl_mk (by simp; omega) (all_app (okl (ok_StateVector hq1.1)).2 (fun a ha => GoT.okm (by omega) ((all_cons (α := TableEntry) (And.intro hq7.1 hq10.1) (fun a ha => by cases ha)) a ha))) : GoT.ok (n + 1) ((u1.entries ++ [(TableEntry.mk u19 u28)]) : List TableEntry)), ⟨hq10.2.1, hq10.2.2⟩⟩)
  refine TS.op 5 Z J ?_
  refine WX.bld ttOk Z Z Z Z Z Z Z ?_
  intro p23
  refine R0 ?_
  refine WX.back0 ?_
  refine TX.all2 1 3 J ?_ ?_
  ·skip
   refine TS.op 1 Z J ?_
   refine R0 ?_
   refine WX.back0 ?_
   refine TX.tail [3, 6, 7, 8, 9, 10, 11] Z Z J ?_
   obtain ⟨⟨u31, u32, u33⟩, hu11⟩ : ∃ r_, a0r c_b u5 u6 = r_ := ⟨_, rfl⟩
   refine WX.callP 999 66 Z (fun _ _ h => GoT.ow_rd h) (fun _ f hf => GoT.fak f hf) Z Z Z Z Z O Z (fun w G bs H hI hH hs hΓ => f123 w n (by omega) H hH (bs 999) c_b K0 M0 (hΓ.get 0 Z) u5 u6 hs hokc_b hq2.2.1 hq2.2.2 u31 u32 u33 hu11) O O ?_
   rintro ⟨p24, c12⟩ hq11
   have q6 := l4Any_len c_b u5 u6
   rw [hu11] at q6
   try dsimp only at q6
   refine WX.turn [] 68 Z (fun h hs => one_sep (⟨(), _, emp, _, Z, emp_le _, Le.refl _, emp_dj _, trivial, ⟨(), _, emp, _, Z, emp_le _, Le.refl _, emp_dj _, trivial, ⟨(), _, emp, _, Z, emp_le _, Le.refl _, emp_dj _, trivial, ⟨(), _, emp, _, Z, emp_le _, Le.refl _, emp_dj _, trivial, ⟨(), _, emp, _, Z, emp_le _, Le.refl _, emp_dj _, trivial, Z⟩⟩⟩⟩⟩ : OwL _ _ ([0, 1, 1000, 1001, (-1)] : List Int))) (gs := [MF.ol [.int .i64 (0), .int .i64 (1), .int .i64 (1000), .int .i64 (1001), .int .i64 ((-1))] ([0, 1, 1000, 1001, (-1)] : List Int)]) Z ?_
   refine WX.seal 15 68 69 Z Z Z Z Z ?_
   obtain ⟨⟨u34, u35, u36⟩, hu12⟩ : ∃ r_, a1w c_b u32 u33 ([0, 1, 1000, 1001, (-1)]) = r_ := ⟨_, rfl⟩
   refine WX.callP (ds := fun _ => []) 999 71 Z (fun _ _ _ => All.nil) (fun _ f hf => by cases hf) Z Z Z Z Z O Z (fun w G bs H hI hH hs hΓ => f107 w n (by omega) H hH (bs 999) c_b K0 M0 (hΓ.get 0 Z) u32 u33 ([0, 1, 1000, 1001, (-1)]) p23 5 (hΓ.get 69 Z) hs hokc_b hq11.2.1 hq11.2.2 (by first | assumption | omega | (simp; done) | (simp; omega)) (okl_mk (by simp; omega) (all_cons (α := Int) (show I64 0 from (by unfold I64; omega)) (all_cons (α := Int) (show I64 1 from (by unfold I64; omega)) (all_cons (α := Int) (show I64 1000 from (by unfold I64; omega)) (all_cons (α := Int) (show I64 1001 from (by unfold I64; omega)) (all_cons (α := Int) (show I64 (-1) from (by unfold I64; omega)) (fun a ha => by cases ha)))))) : GoT.ok n ([0, 1, 1000, 1001, (-1)] : List Int)) u34 u35 u36 hu12) O O ?_
   rintro ⟨⟩ hq12
   refine R0 ?_
   refine WX.bld ttOk Z Z Z Z Z Z Z ?_
   intro p25
   refine WX.opn (kk := 2) 508 3 72 Z Z Z ?_
   intro xs8 hx8
   refine WX.turn [67] 73 Z (fun h hs => ol_one (α := TableEntry) (a := (TableEntry.mk u31 u34)) (x := ((p24, c12), ())) hs) (gs := [MF.ol [.slice p24 ((u31.parts).length) c12, .int .i64 (u34)] ([(TableEntry.mk u31 u34)] : List TableEntry)]) Z ?_
   have r15 : (u1.entries).length ≤ bd (n + 1) := (okl (ok_StateVector hq1.1)).1
   have r16 : -9223372036854775808 ≤ u34 ∧ u34 ≤ 9223372036854775807 := hq12.1
   refine WX.know (fun G hΓ => (hΓ.get 73 Z : OwL _ _ _).rd.one) ?_
   intro ho8
   refine WX.appR1 508 18 ((u1.entries ++ [(TableEntry.mk u31 u34)]) : List TableEntry).length ttOk Z Z Z Z Z Z Z Z Z Z Z Z Z ho8 (by simp) (by simp; omega) (by simp; omega) (fun _ _ => Z) ?_
   intro p26 c13
   refine WX.turn [72, 73] 74 Z (fun h hs => ol_app hs) (gs := [MF.ol (xs8 ++ [.slice p24 ((u31.parts).length) c12, .int .i64 (u34)]) ((u1.entries ++ [(TableEntry.mk u31 u34)]) : List TableEntry)]) Z ?_
   refine R0 ?_
   refine WX.seal 508 74 75 Z Z Z Z Z ?_
   have hP8 : a0s c_b c_i c_h = (StateVector.mk (u1.entries ++ [(TableEntry.mk u31 u34)]), u35, u36) := by simp only [a0s, hu1, hu2, h1, hu11, hu12, ct, cf]
   have hz1 := hP8.symm.trans hres
   obtain ⟨hz1, hz2⟩ := Prod.mk.inj hz1
   obtain ⟨hz2, hz3⟩ := Prod.mk.inj hz2
   subst hz1
   subst hz2
   subst hz3
   refine R1 ?_
   intro w1 G bs hI hΓ
   exact Post.ofL 999 [76] (p26, c13) hI hΓ Z Z Z (by rw [hI.pin _ rfl]; first | done | rfl) (⟨(okl_mk (by simp; omega) (all_app (okl (ok_StateVector hq1.1)).2 (fun a ha => GoT.okm (by omega) ((all_cons (α := TableEntry) (And.intro hq11.1 hq12.1) (fun a ha => by cases ha)) a ha))) : GoT.ok (n + 1) ((u1.entries ++ [(TableEntry.mk u31 u34)]) : List TableEntry)), ⟨hq12.2.1, hq12.2.2⟩⟩)
  refine TS.op 3 Z J ?_
  obtain ⟨⟨u37, u38, u39⟩, hu13⟩ : ∃ r_, a0r c_b u5 u6 = r_ := ⟨_, rfl⟩
  refine WX.callP 999 77 Z (fun _ _ h => GoT.ow_rd h) (fun _ f hf => GoT.fak f hf) Z Z Z Z Z O Z (fun w G bs H hI hH hs hΓ => f123 w n (by omega) H hH (bs 999) c_b K0 M0 (hΓ.get 0 Z) u5 u6 hs hokc_b hq2.2.1 hq2.2.2 u37 u38 u39 hu13) O O ?_
  rintro ⟨p27, c14⟩ hq13
  have q7 := l4Any_len c_b u5 u6
  rw [hu13] at q7
  try dsimp only at q7
  refine R0 ?_
  refine WX.back0 ?_
  refine TX.all2 1 6 J ?_ ?_
  ·skip
   refine TS.op 1 Z J ?_
   refine R0 ?_
   refine WX.back0 ?_
   refine TX.tail [6, 7, 8, 9, 10, 11] Z Z J ?_
   refine WX.turn [] 79 Z (fun h hs => one_sep (⟨(), _, emp, _, Z, emp_le _, Le.refl _, emp_dj _, trivial, ⟨(), _, emp, _, Z, emp_le _, Le.refl _, emp_dj _, trivial, ⟨(), _, emp, _, Z, emp_le _, Le.refl _, emp_dj _, trivial, ⟨(), _, emp, _, Z, emp_le _, Le.refl _, emp_dj _, trivial, ⟨(), _, emp, _, Z, emp_le _, Le.refl _, emp_dj _, trivial, Z⟩⟩⟩⟩⟩ : OwL _ _ ([0, 1, 1000, 1001, (-1)] : List Int))) (gs := [MF.ol [.int .i64 (0), .int .i64 (1), .int .i64 (1000), .int .i64 (1001), .int .i64 ((-1))] ([0, 1, 1000, 1001, (-1)] : List Int)]) Z ?_
   refine WX.seal 15 79 80 Z Z Z Z Z ?_
   obtain ⟨⟨u40, u41, u42⟩, hu14⟩ : ∃ r_, a1w c_b u38 u39 ([0, 1, 1000, 1001, (-1)]) = r_ := ⟨_, rfl⟩
   refine WX.callP (ds := fun _ => []) 999 82 Z (fun _ _ _ => All.nil) (fun _ f hf => by cases hf) Z Z Z Z Z O Z (fun w G bs H hI hH hs hΓ => f107 w n (by omega) H hH (bs 999) c_b K0 M0 (hΓ.get 0 Z) u38 u39 ([0, 1, 1000, 1001, (-1)]) p23 5 (hΓ.get 80 Z) hs hokc_b hq13.2.1 hq13.2.2 (by first | assumption | omega | (simp; done) | (simp; omega)) (okl_mk (by simp; omega) (all_cons (α := Int) (show I64 0 from (by unfold I64; omega)) (all_cons (α := Int) (show I64 1 from (by unfold I64; omega)) (all_cons (α := Int) (show I64 1000 from (by unfold I64; omega)) (all_cons (α := Int) (show I64 1001 from (by unfold I64; omega)) (all_cons (α := Int) (show I64 (-1) from (by unfold I64; omega)) (fun a ha => by cases ha)))))) : GoT.ok n ([0, 1, 1000, 1001, (-1)] : List Int)) u40 u41 u42 hu14) O O ?_
   rintro ⟨⟩ hq14
   refine R0 ?_
   refine WX.bld ttOk Z Z Z Z Z Z Z ?_
   intro p28
   refine WX.opn (kk := 2) 509 3 83 Z Z Z ?_
   intro xs9 hx9
   refine WX.turn [78] 84 Z (fun h hs => ol_one (α := TableEntry) (a := (TableEntry.mk u37 u40)) (x := ((p27, c14), ())) hs) (gs := [MF.ol [.slice p27 ((u37.parts).length) c14, .int .i64 (u40)] ([(TableEntry.mk u37 u40)] : List TableEntry)]) Z ?_
   have r17 : (u1.entries).length ≤ bd (n + 1) := (okl (ok_StateVector hq1.1)).1
   have r18 : -9223372036854775808 ≤ u40 ∧ u40 ≤ 9223372036854775807 := hq14.1
   refine WX.know (fun G hΓ => (hΓ.get 84 Z : OwL _ _ _).rd.one) ?_
   intro ho9
   refine WX.appR1 509 18 ((u1.entries ++ [(TableEntry.mk u37 u40)]) : List TableEntry).length ttOk Z Z Z Z Z Z Z Z Z Z Z Z Z ho9 (by simp) (by simp; omega) (by simp; omega) (fun _ _ => Z) ?_
   intro p29 c15
   refine WX.turn [83, 84] 85 Z (fun h hs => ol_app hs) (gs := [MF.ol (xs9 ++ [.slice p27 ((u37.parts).length) c14, .int .i64 (u40)]) ((u1.entries ++ [(TableEntry.mk u37 u40)]) : List TableEntry)]) Z ?_
   refine R0 ?_
   refine WX.seal 509 85 86 Z Z Z Z Z ?_
   have hP9 : a0s c_b c_i c_h = (StateVector.mk (u1.entries ++ [(TableEntry.mk u37 u40)]), u41, u42) := by simp only [a0s, hu1, hu2, h1, hu13, hu14, ct, cf]
   have hz1 := hP9.symm.trans hres
   obtain ⟨hz1, hz2⟩ := Prod.mk.inj hz1
   obtain ⟨hz2, hz3⟩ := Prod.mk.inj hz2
   subst hz1
   subst hz2
   subst hz3
   refine R1 ?_
   intro w1 G bs hI hΓ
   exact Post.ofL 999 [87] (p29, c15) hI hΓ Z Z Z (by rw [hI.pin _ rfl]; first | done | rfl) (⟨(okl_mk (by simp; omega) (all_app (okl (ok_StateVector hq1.1)).2 (fun a ha => GoT.okm (by omega) ((all_cons (α := TableEntry) (And.intro hq13.1 hq14.1) (fun a ha => by cases ha)) a ha))) : GoT.ok (n + 1) ((u1.entries ++ [(TableEntry.mk u37 u40)]) : List TableEntry)), ⟨hq14.2.1, hq14.2.2⟩⟩)
  refine TS.op 6 Z J ?_
  refine WX.turn [] 88 Z (fun h hs => one_sep (⟨(), _, emp, _, Z, emp_le _, Le.refl _, emp_dj _, trivial, ⟨(), _, emp, _, Z, emp_le _, Le.refl _, emp_dj _, trivial, ⟨(), _, emp, _, Z, emp_le _, Le.refl _, emp_dj _, trivial, ⟨(), _, emp, _, Z, emp_le _, Le.refl _, emp_dj _, trivial, ⟨(), _, emp, _, Z, emp_le _, Le.refl _, emp_dj _, trivial, Z⟩⟩⟩⟩⟩ : OwL _ _ ([0, 1, 1000, 1001, (-1)] : List Int))) (gs := [MF.ol [.int .i64 (0), .int .i64 (1), .int .i64 (1000), .int .i64 (1001), .int .i64 ((-1))] ([0, 1, 1000, 1001, (-1)] : List Int)]) Z ?_
  refine WX.seal 15 88 89 Z Z Z Z Z ?_
  obtain ⟨⟨u43, u44, u45⟩, hu15⟩ : ∃ r_, a1w c_b u38 u39 ([0, 1, 1000, 1001, (-1)]) = r_ := ⟨_, rfl⟩
  refine WX.callP (ds := fun _ => []) 999 91 Z (fun _ _ _ => All.nil) (fun _ f hf => by cases hf) Z Z Z Z Z O Z (fun w G bs H hI hH hs hΓ => f107 w n (by omega) H hH (bs 999) c_b K0 M0 (hΓ.get 0 Z) u38 u39 ([0, 1, 1000, 1001, (-1)]) p23 5 (hΓ.get 89 Z) hs hokc_b hq13.2.1 hq13.2.2 (by first | assumption | omega | (simp; done) | (simp; omega)) (okl_mk (by simp; omega) (all_cons (α := Int) (show I64 0 from (by unfold I64; omega)) (all_cons (α := Int) (show I64 1 from (by unfold I64; omega)) (all_cons (α := Int) (show I64 1000 from (by unfold I64; omega)) (all_cons (α := Int) (show I64 1001 from (by unfold I64; omega)) (all_cons (α := Int) (show I64 (-1) from (by unfold I64; omega)) (fun a ha => by cases ha)))))) : GoT.ok n ([0, 1, 1000, 1001, (-1)] : List Int)) u43 u44 u45 hu15) O O ?_
  rintro ⟨⟩ hq15
  refine R0 ?_
  refine WX.back0 ?_
  refine TX.all2 1 7 J ?_ ?_
  ·skip
   refine TS.op 1 Z J ?_
   refine R0 ?_
   refine WX.back0 ?_
   refine TX.tail [7, 8, 9, 10, 11] Z Z J ?_
   refine R0 ?_
   refine WX.bld ttOk Z Z Z Z Z Z Z ?_
   intro p30
   refine WX.opn (kk := 2) 510 3 92 Z Z Z ?_
   intro xs10 hx10
   refine WX.turn [78] 93 Z (fun h hs => ol_one (α := TableEntry) (a := (TableEntry.mk u37 u43)) (x := ((p27, c14), ())) hs) (gs := [MF.ol [.slice p27 ((u37.parts).length) c14, .int .i64 (u43)] ([(TableEntry.mk u37 u43)] : List TableEntry)]) Z ?_
   have r19 : (u1.entries).length ≤ bd (n + 1) := (okl (ok_StateVector hq1.1)).1
   have r20 : -9223372036854775808 ≤ u43 ∧ u43 ≤ 9223372036854775807 := hq15.1
   refine WX.know (fun G hΓ => (hΓ.get 93 Z : OwL _ _ _).rd.one) ?_
   intro ho10
   refine WX.appR1 510 18 ((u1.entries ++ [(TableEntry.mk u37 u43)]) : List TableEntry).length ttOk Z Z Z Z Z Z Z Z Z Z Z Z Z ho10 (by simp) (by simp; omega) (by simp; omega) (fun _ _ => Z) ?_
   intro p31 c16
   refine WX.turn [92, 93] 94 Z (fun h hs => ol_app hs) (gs := [MF.ol (xs10 ++ [.slice p27 ((u37.parts).length) c14, .int .i64 (u43)]) ((u1.entries ++ [(TableEntry.mk u37 u43)]) : List TableEntry)]) Z ?_
   refine R0 ?_
   refine WX.seal 510 94 95 Z Z Z Z Z ?_
   have hP10 : a0s c_b c_i c_h = (StateVector.mk (u1.entries ++ [(TableEntry.mk u37 u43)]), u44, u45) := by simp only [a0s, hu1, hu2, h1, hu13, hu15, ct, cf]
   have hz1 := hP10.symm.trans hres
   obtain ⟨hz1, hz2⟩ := Prod.mk.inj hz1
   obtain ⟨hz2, hz3⟩ := Prod.mk.inj hz2
   subst hz1
   subst hz2
   subst hz3
   refine R1 ?_
   intro w1 G bs hI hΓ
   exact Post.ofL 999 [96] (p31, c16) hI hΓ Z Z Z (by rw [hI.pin _ rfl]; first | done | rfl) (⟨(okl_mk (by simp; omega) (all_app (okl (ok_StateVector hq1.1)).2 (fun a ha => GoT.okm (by omega) ((all_cons (α := TableEntry) (And.intro hq13.1 hq15.1) (fun a ha => by cases ha)) a ha))) : GoT.ok (n + 1) ((u1.entries ++ [(TableEntry.mk u37 u43)]) : List TableEntry)), ⟨hq15.2.1, hq15.2.2⟩⟩)
  refine TS.op 7 Z J ?_
  refine R0 ?_
  refine WX.back0 ?_
  refine TX.all2 1 8 J ?_ ?_
  ·skip
   refine TS.op 1 Z J ?_
   refine R0 ?_
   refine WX.back0 ?_
   refine TX.tail [8, 9, 10, 11] Z Z J ?_
   refine WX.bld ttOk Z Z Z Z Z Z Z ?_
   intro p32
   refine WX.opn (kk := 2) 511 3 97 Z Z Z ?_
   intro xs11 hx11
   refine WX.turn [78] 98 Z (fun h hs => ol_one (α := TableEntry) (a := (TableEntry.mk u37 u43)) (x := ((p27, c14), ())) hs) (gs := [MF.ol [.slice p27 ((u37.parts).length) c14, .int .i64 (u43)] ([(TableEntry.mk u37 u43)] : List TableEntry)]) Z ?_
   have r21 : (u1.entries).length ≤ bd (n + 1) := (okl (ok_StateVector hq1.1)).1
   have r22 : -9223372036854775808 ≤ u43 ∧ u43 ≤ 9223372036854775807 := hq15.1
   refine WX.know (fun G hΓ => (hΓ.get 98 Z : OwL _ _ _).rd.one) ?_
   intro ho11
   refine WX.appR1 511 18 ((u1.entries ++ [(TableEntry.mk u37 u43)]) : List TableEntry).length ttOk Z Z Z Z Z Z Z Z Z Z Z Z Z ho11 (by simp) (by simp; omega) (by simp; omega) (fun _ _ => Z) ?_
   intro p33 c17
   refine WX.turn [97, 98] 99 Z (fun h hs => ol_app hs) (gs := [MF.ol (xs11 ++ [.slice p27 ((u37.parts).length) c14, .int .i64 (u43)]) ((u1.entries ++ [(TableEntry.mk u37 u43)]) : List TableEntry)]) Z ?_
   refine R0 ?_
   refine WX.seal 511 99 100 Z Z Z Z Z ?_
   have hP11 : a0s c_b c_i c_h = (StateVector.mk (u1.entries ++ [(TableEntry.mk u37 u43)]), u44, u45) := by simp only [a0s, hu1, hu2, h1, hu13, hu15, ct, cf]
   have hz1 := hP11.symm.trans hres
   obtain ⟨hz1, hz2⟩ := Prod.mk.inj hz1
   obtain ⟨hz2, hz3⟩ := Prod.mk.inj hz2
   subst hz1
   subst hz2
   subst hz3
   refine R1 ?_
   intro w1 G bs hI hΓ
   exact Post.ofL 999 [101] (p33, c17) hI hΓ Z Z Z (by rw [hI.pin _ rfl]; first | done | rfl) (⟨(okl_mk (by simp; omega) (all_app (okl (ok_StateVector hq1.1)).2 (fun a ha => GoT.okm (by omega) ((all_cons (α := TableEntry) (And.intro hq13.1 hq15.1) (fun a ha => by cases ha)) a ha))) : GoT.ok (n + 1) ((u1.entries ++ [(TableEntry.mk u37 u43)]) : List TableEntry)), ⟨hq15.2.1, hq15.2.2⟩⟩)
  refine TS.op 8 Z J ?_
  refine WX.bld ttOk Z Z Z Z Z Z Z ?_
  intro p34
  refine R0 ?_
  refine WX.back0 ?_
  refine TX.tail [1, 9, 10, 11] Z Z J ?_
  refine R0 ?_
  refine WX.opn (kk := 2) 512 3 102 Z Z Z ?_
  intro xs12 hx12
  refine WX.turn [78] 103 Z (fun h hs => ol_one (α := TableEntry) (a := (TableEntry.mk u37 u43)) (x := ((p27, c14), ())) hs) (gs := [MF.ol [.slice p27 ((u37.parts).length) c14, .int .i64 (u43)] ([(TableEntry.mk u37 u43)] : List TableEntry)]) Z ?_
  have r23 : (u1.entries).length ≤ bd (n + 1) := (okl (ok_StateVector hq1.1)).1
  have r24 : -9223372036854775808 ≤ u43 ∧ u43 ≤ 9223372036854775807 := hq15.1
  refine WX.know (fun G hΓ => (hΓ.get 103 Z : OwL _ _ _).rd.one) ?_
  intro ho12
  refine WX.appR1 512 18 ((u1.entries ++ [(TableEntry.mk u37 u43)]) : List TableEntry).length ttOk Z Z Z Z Z Z Z Z Z Z Z Z Z ho12 (by simp) (by simp; omega) (by simp; omega) (fun _ _ => Z) ?_
  intro p35 c18
  refine WX.turn [102, 103] 104 Z (fun h hs => ol_app hs) (gs := [MF.ol (xs12 ++ [.slice p27 ((u37.parts).length) c14, .int .i64 (u43)]) ((u1.entries ++ [(TableEntry.mk u37 u43)]) : List TableEntry)]) Z ?_
  refine R0 ?_
  refine WX.seal 512 104 105 Z Z Z Z Z ?_
  have hP12 : a0s c_b c_i c_h = (StateVector.mk (u1.entries ++ [(TableEntry.mk u37 u43)]), u44, u45) := by simp only [a0s, hu1, hu2, h1, hu13, hu15, ct, cf]
  have hz1 := hP12.symm.trans hres
  obtain ⟨hz1, hz2⟩ := Prod.mk.inj hz1
  obtain ⟨hz2, hz3⟩ := Prod.mk.inj hz2
  subst hz1
  subst hz2
  subst hz3
  refine R1 ?_
  intro w1 G bs hI hΓ
  exact Post.ofL 999 [106] (p35, c18) hI hΓ Z Z Z (by rw [hI.pin _ rfl]; first | done | rfl) (⟨(okl_mk (by simp; omega) (all_app (okl (ok_StateVector hq1.1)).2 (fun a ha => GoT.okm (by omega) ((all_cons (α := TableEntry) (And.intro hq13.1 hq15.1) (fun a ha => by cases ha)) a ha))) : GoT.ok (n + 1) ((u1.entries ++ [(TableEntry.mk u37 u43)]) : List TableEntry)), ⟨hq15.2.1, hq15.2.2⟩⟩)
 have h1d := B.ef h1
 refine R0 ?_
 refine WX.cases 21 Z (fun h2 => ?_) (fun h2 => ?_)
 ·skip
  have h2d := B.et h2
  refine R0 ?_
  refine WX.draw [5, 6, 7] mixed ?_
  intro bs G0 hΓ0
  refine DX.takes (fuel := 4) ttOk [(0, true), (1, false), (2, true), (3, false)] J Z ?_
  refine DX.callF 4 107 (fun _ _ h => GoT.ow_rd h) (fun _ f hf => GoT.fak f hf) Z J Z Z Z Z Z Z O Z (fun w G bs hI hΓ => f191 w (n + 1) (by omega) u1.entries p1 c1 (hΓ.get 2 Z) (ok_StateVector hq1.1)) O O ?_
  rintro ⟨p36, c19⟩ hq16
  have q8 := len_l6Copy u1.entries
  refine DX.tail2 [5, 6, 7] Z Z J ?_
  refine WX.opn (kk := 2) 513 3 109 Z Z Z ?_
  intro xs13 hx13
  refine WX.opn (kk := 2) 514 108 110 Z Z Z ?_
  intro xs14 hx14
  have r25 : (u1.entries).length ≤ bd (n + 1) := (okl (ok_StateVector hq1.1)).1
  have r26 : (a00 u1.entries).length ≤ bd (n + 1) := (okl hq16).1
  refine WX.know (fun G hΓ => (hΓ.get 110 Z : OwL _ _ _).rd.one) ?_
  intro ho13
  refine WX.appR1 513 514 ((u1.entries ++ (a00 u1.entries)) : List TableEntry).length ttOk Z Z Z Z Z Z Z Z Z Z Z Z Z ho13 (by simp) (by simp; omega) (by simp; omega) (fun _ _ => Z) ?_
  intro p37 c20
  refine WX.turn [109, 110] 111 Z (fun h hs => ol_app hs) (gs := [MF.ol (xs13 ++ xs14) ((u1.entries ++ (a00 u1.entries)) : List TableEntry)]) Z ?_
  refine R0 ?_
  refine WX.seal 513 111 112 Z Z Z Z Z ?_
  have hP13 : a0s c_b c_i c_h = (StateVector.mk (u1.entries ++ (a00 u1.entries)), u5, u6) := by simp only [a0s, hu1, hu2, h1, h2, ct, cf]
  have hz1 := hP13.symm.trans hres
  obtain ⟨hz1, hz2⟩ := Prod.mk.inj hz1
  obtain ⟨hz2, hz3⟩ := Prod.mk.inj hz2
  subst hz1
  subst hz2
  subst hz3
  refine R1 ?_
  intro w1 G bs hI hΓ
  exact Post.ofL 999 [113] (p37, c20) hI hΓ Z Z Z (by rw [hI.pin _ rfl]; first | done | rfl) (⟨(okl_mk (by simp; omega) (all_app (okl (ok_StateVector hq1.1)).2 (okl hq16).2) : GoT.ok (n + 1) ((u1.entries ++ (a00 u1.entries)) : List TableEntry)), ⟨hq2.2.1, hq2.2.2⟩⟩)
 have h2d := B.ef h2
 refine R0 ?_
 have hP14 : a0s c_b c_i c_h = (u1, u5, u6) := by simp only [a0s, hu1, hu2, h1, h2, ct, cf]
 have hz1 := hP14.symm.trans hres
 obtain ⟨hz1, hz2⟩ := Prod.mk.inj hz1
 obtain ⟨hz2, hz3⟩ := Prod.mk.inj hz2
 subst hz1
 subst hz2
 subst hz3
 refine R1 ?_
 intro w1 G bs hI hΓ
 exact Post.ofL 999 [3] (p1, c1) hI hΓ Z Z Z (by rw [hI.pin _ rfl]; first | done | rfl) (⟨hq1.1, ⟨hq2.2.1, hq2.2.2⟩⟩)
end Go.Proofs.YtolepebgdfdciaaGreat

namespace Go.Stp
set_option linter.unusedVariables false
set_option linter.unusedSimpArgs false
theorem nt37B (a : StateVector) (e1 : TableEntry) : ∀ (m : Nat) (o : List TableEntry) (k : Int), 20 - o.length = m → o.length ≤ 20 → (a18 a e1 o k).1.length ≤ 20 ∧ ∀ e ∈ (a18 a e1 o k).1, e ∈ o ∨ (e.name = e1.name ∧ I64 e.value)
 | m, o, k, hm, ho => by
  rw [a18]
  split
  ·split
   ·rename_i h
    obtain ⟨h1, h2⟩ := nt37B a e1 (m - 1) (o ++ [(TableEntry.mk (a02 e1.name) (IntKind.i64.wrap (k + 1)))]) (IntKind.i64.wrap (k + 1)) (by simp; omega) (by simp; omega)
    refine ⟨h1, fun e he => ?_⟩
    rcases h2 e he with h | h
    ·rcases List.mem_append.1 h with h | h
     ·exact .inl h
     ·obtain rfl := List.mem_singleton.1 h
      exact .inr ⟨rfl, i64_wrap _⟩
    ·exact .inr h
   ·exact ⟨ho, fun e he => .inl he⟩
  ·exact ⟨ho, fun e he => .inl he⟩
termination_by m => m
decreasing_by omega
theorem nt37L (a b : StateVector) : ∀ (l o : List TableEntry), o.length ≤ 20 → (a1d a b l o).length ≤ 20 ∧ ∀ e ∈ a1d a b l o, e ∈ o ∨ ∃ y ∈ l, e.name = y.name ∧ I64 e.value
 | [], o, ho => ⟨ho, fun e he => .inl he⟩
 | x :: l, o, ho => by
  obtain ⟨h1, h2⟩ := nt37B a x _ o (a0b b x.name) rfl ho
  simp only [a1d]
  rcases e0 : a18 a x o (a0b b x.name) with ⟨o2, k⟩
  rw [e0] at h1 h2
  dsimp only at h1 h2 ⊢
  obtain ⟨h3, h4⟩ := nt37L a b l o2 h1
  refine ⟨h3, fun e he => ?_⟩
  rcases h4 e he with h | ⟨y, hy, h⟩
  ·rcases h2 e h with h | h
   ·exact .inl h
   ·exact .inr ⟨x, List.mem_cons_self, h⟩
  ·exact .inr ⟨y, List.mem_cons_of_mem _ hy, h⟩
theorem nt37 (a b : StateVector) : (a2l a b).length ≤ 20 ∧ ∀ e ∈ a2l a b, ∃ y ∈ a.entries, e.name = y.name ∧ I64 e.value := by
 obtain ⟨h1, h2⟩ := nt37L a b a.entries [] (Nat.zero_le _)
 exact ⟨h1, fun e he => (h2 e he).resolve_left (fun h => by cases h)⟩
theorem fp37 {k : Nat} (m : Member) (n_ : Name) (i : Int) (h : ∀ p ∈ m.publications, GoT.ok k p) : GoT.ok k (a0g m n_ i).1 := by
 unfold a0g
 cases decide (a14 m.publications n_ i < 0)
 ·simp only [cond_false]
  cases e : (m.publications)[(a14 m.publications n_ i).toNat]? with
  | none => exact ok_nil
  | some x => exact (ok_Publication (h x (List.mem_of_getElem? e))).2.2
 ·exact ok_nil
def E37 (k : Nat) (a : List Str) (b : List TableEntry) (c : List Publication) : Prop := (∀ p ∈ a, GoT.ok k p) ∧ (∀ p ∈ b, GoT.ok k p) ∧ (∀ p ∈ c, GoT.ok k p)
theorem ap37 {k : Nat} (m : Member) (x : Publication) (h : E37 k m.name.parts m.vector.entries m.publications) (hx : GoT.ok k x) : E37 k (a0k m x).1.name.parts (a0k m x).1.vector.entries (a0k m x).1.publications :=
 ⟨(ap_spec m x).elsN h.1 hx, (ap_spec m x).elsE h.2.1 hx, (ap_spec m x).elsP h.2.2 hx⟩
theorem cu37L {k : Nat} (fr : Member) (hf : ∀ p ∈ fr.publications, GoT.ok k p) : ∀ (l : List TableEntry) (a : List Str) (b : List TableEntry) (c : List Publication), (∀ e ∈ l, GoT.ok k e) → E37 k a b c →
  E37 k (a17 fr l a b c).1 (a17 fr l a b c).2.1 (a17 fr l a b c).2.2
 | [], _, _, _, _, h => h
 | x :: l, a, b, c, hl, h => by
  simp only [a17]
  cases (a0g fr x.name x.value).2
  ·exact cu37L fr hf l a b c (fun e he => hl e (List.mem_cons_of_mem _ he)) h
  ·have hx := ok_TableEntry (hl x List.mem_cons_self)
   exact cu37L fr hf l _ _ _ (fun e he => hl e (List.mem_cons_of_mem _ he)) (ap37 (Member.mk (Name.mk a) (StateVector.mk b) c) _ h ⟨hx.1, hx.2, fp37 fr x.name x.value hf⟩)
theorem cu37 {k : Nat} (m fr : Member) (h : E37 k m.name.parts m.vector.entries m.publications) (hf : GoT.ok k fr) : E37 k (a07 m fr).name.parts (a07 m fr).vector.entries (a07 m fr).publications := by
 have h1 := ok_Member hf
 have h2 : ∀ e ∈ a0q m fr.vector, GoT.ok k e := fun e he => by
  obtain ⟨y, hy, h3, h4⟩ := (nt37 fr.vector m.vector).2 e he
  have h5 := ok_TableEntry ((okl (ok_StateVector h1.2.1)).2 y hy)
  exact ⟨(by rw [h3]; exact h5.1 : GoT.ok k e.name), h4⟩
 have := cu37L fr (okl h1.2.2).2 (a0q m fr.vector) m.name.parts m.vector.entries m.publications h2 h
 unfold a07
 rw [cM_spec]
 rcases e : a17 fr (a0q m fr.vector) m.name.parts m.vector.entries m.publications with ⟨a, b, c⟩
 rw [e] at this
 exact this
theorem cl37L (fr : Member) : ∀ (l : List TableEntry) (a : List Str) (b : List TableEntry) (c : List Publication), (a17 fr l a b c).1.length = a.length ∧ (a17 fr l a b c).2.1.length ≤ b.length + l.length ∧ (a17 fr l a b c).2.2.length ≤ c.length + l.length
 | [], _, _, _ => ⟨rfl, Nat.le_refl _, Nat.le_refl _⟩
 | x :: l, a, b, c => by
  simp only [a17, List.length_cons]
  cases (a0g fr x.name x.value).2
  ·obtain ⟨h1, h2, h3⟩ := cl37L fr l a b c
   exact ⟨h1, by simp only [cond_false]; omega, by simp only [cond_false]; omega⟩
  ·have hs := ap_spec (Member.mk (Name.mk a) (StateVector.mk b) c) (Publication.mk x.name x.value ((a0g fr x.name x.value).1))
   have l1 := hs.lenN
   have l2 := hs.lenE
   have l3 := hs.lenP
   dsimp only at l1 l2 l3
   simp only [cond_true]
   obtain ⟨h1, h2, h3⟩ := cl37L fr l (a0k (Member.mk (Name.mk a) (StateVector.mk b) c) (Publication.mk x.name x.value ((a0g fr x.name x.value).1))).1.name.parts (a0k (Member.mk (Name.mk a) (StateVector.mk b) c) (Publication.mk x.name x.value ((a0g fr x.name x.value).1))).1.vector.entries (a0k (Member.mk (Name.mk a) (StateVector.mk b) c) (Publication.mk x.name x.value ((a0g fr x.name x.value).1))).1.publications
   exact ⟨by omega, by omega, by omega⟩
theorem cl37 (m fr : Member) : (a07 m fr).name.parts.length = m.name.parts.length ∧ (a07 m fr).vector.entries.length ≤ m.vector.entries.length + 20 ∧ (a07 m fr).publications.length ≤ m.publications.length + 20 := by
 have h0 : (a0q m fr.vector).length ≤ 20 := (nt37 fr.vector m.vector).1
 have := cl37L fr (a0q m fr.vector) m.name.parts m.vector.entries m.publications
 unfold a07
 rw [cM_spec]
 rcases e : a17 fr (a0q m fr.vector) m.name.parts m.vector.entries m.publications with ⟨a, b, c⟩
 rw [e] at this
 dsimp only at this ⊢
 omega
theorem pb37 (m : Member) (b : List UInt8) : ∃ x : Publication, ApShape m x (a0f m b).1 ∧ x = Publication.mk m.name (IntKind.i64.wrap ((a0b m.vector m.name) + 1)) b := ⟨_, ap_spec m _, rfl⟩
theorem pe37 {k : Nat} (m : Member) (b : List UInt8) (h : E37 k m.name.parts m.vector.entries m.publications) (hm : GoT.ok k m.name) (hb : GoT.ok k b) : E37 k (a0f m b).1.name.parts (a0f m b).1.vector.entries (a0f m b).1.publications := by
 obtain ⟨x, h1, rfl⟩ := pb37 m b
 have hx : GoT.ok k (Publication.mk m.name (IntKind.i64.wrap ((a0b m.vector m.name) + 1)) b) := ⟨hm, i64_wrap _, hb⟩
 exact ⟨h1.elsN h.1 hx, h1.elsE h.2.1 hx, h1.elsP h.2.2 hx⟩
theorem pl37 (m : Member) (b : List UInt8) : (a0f m b).1.name.parts.length = m.name.parts.length ∧ (a0f m b).1.vector.entries.length ≤ m.vector.entries.length + 20 ∧ (a0f m b).1.publications.length ≤ m.publications.length + 20 := by
 obtain ⟨x, h1, rfl⟩ := pb37 m b
 exact ⟨h1.lenN, Nat.le_trans h1.lenE (by omega), Nat.le_trans h1.lenP (by omega)⟩
def GB (i : Int) (a : Member) : Prop := a.vector.entries.length + 20 * i.toNat ≤ 300 ∧ a.publications.length + 20 * i.toNat ≤ 300
theorem gb_set {i : Int} {l : List Member} {k : Nat} {x : Member} (h : ∀ a ∈ l, GB i a) (hi : i > 0) (hx : GB (i - 1) x) : ∀ a ∈ l.set k x, GB (i - 1) a := fun a ha => by
 rcases List.mem_or_eq_of_mem_set ha with ha | rfl
 ·have := h a ha
  unfold GB at this ⊢
  omega
 ·exact hx
theorem gb_pub {i : Int} {m : Member} (b : List UInt8) (h : GB i m) (hi : i > 0) : GB (i - 1) (a0f m b).1 := by
 have := pl37 m b
 unfold GB at h ⊢
 omega
theorem gb_cu {i : Int} {m : Member} (fr : Member) (h : GB i m) (hi : i > 0) : GB (i - 1) (a07 m fr) := by
 have := cl37 m fr
 unfold GB at h ⊢
 omega
def a1x (c_b : (List UInt8)) (l : List Member) (i : Int) (u999_i : Int) (u999_h : Int) : (List Member) × Int × Int × Int :=
 if i > 0 then
  match a08 c_b u999_i u999_h 3 with
   | (u4, u5, u6) =>
    match (l)[(u4).toNat]? with
     | none => default
     | some e1 =>
      match a33 c_b u5 u6 2 with
       | (u7, u8, u9) =>
        if u7 = true then
         match a08 c_b u8 u9 3 with
          | (u10, u11, u12) =>
           match a19 c_b u11 u12 u10 with
            | (u13, u14, u15) =>
             a1x c_b (((l.set ((u4).toNat) ((a0f e1 u13).1))) : List Member) (i - 1) u14 u15
        else
         match a08 c_b u8 u9 3 with
          | (u16, u17, u18) =>
           match (l)[(u16).toNat]? with
            | none => default
            | some e2 =>
             a1x c_b (((l.set ((u4).toNat) (a07 e1 e2))) : List Member) (i - 1) u17 u18
 else
  (((l) : List Member), i, u999_i, u999_h)
termination_by i.toNat
decreasing_by all_goals (simp_wf; omega)
def a2r (c_b : (List UInt8)) (c_i : Int) (c_h : Int) : (List Member) × Int × Int :=
 match a08 c_b c_i c_h 12 with
  | (u1, u2, u3) =>
   match a1x c_b ([(a0e (a01 (⟨#[47, 97]⟩ : Str))), (a0e (a01 (⟨#[47, 98]⟩ : Str))), (a0e (a01 (⟨#[47, 99]⟩ : Str)))] : List Member) u1 u2 u3 with
    | (l, i, u999_i, u999_h) =>
     (l, u999_i, u999_h)
theorem l28GroupL (b : List UInt8) : ∀ (m : Nat) (i : Int) (l : List Member) (a h : Int), i.toNat = m → l.length = 3 → (a1x b l i a h).1.length = 3
 | 0, i, l, a, h, hm, hl => by
  rw [a1x, if_neg (by omega)]
  exact hl
 | m + 1, i, l, a, h, hm, hl => by
  rw [a1x, if_pos (by omega)]
  have h1 := l1Below_rng b a h 3
  rcases e0 : a08 b a h 3 with ⟨x, j, k⟩
  rw [e0] at h1
  dsimp only at h1 ⊢
  obtain ⟨e1, he1⟩ : ∃ e, l[x.toNat]? = some e := ⟨_, List.getElem?_eq_getElem (by omega)⟩
  rw [he1]
  dsimp only
  rcases a33 b j k 2 with ⟨y, j2, k2⟩
  dsimp only
  have h2 := l1Below_rng b j2 k2 3
  rcases e3 : a08 b j2 k2 3 with ⟨x3, j3, k3⟩
  rw [e3] at h2
  dsimp only at h2 ⊢
  split
  ·rcases a19 b j3 k3 x3 with ⟨x4, j4, k4⟩
   exact l28GroupL b m _ _ _ _ (by omega) (by rw [List.length_set]; exact hl)
  ·obtain ⟨e2, he2⟩ : ∃ e, l[x3.toNat]? = some e := ⟨_, List.getElem?_eq_getElem (by omega)⟩
   rw [he2]
   exact l28GroupL b m _ _ _ _ (by omega) (by rw [List.length_set]; exact hl)
theorem l28Group_len (b : List UInt8) (i h : Int) : (a2r b i h).1.length = 3 := by
 unfold a2r
 rcases a08 b i h 12 with ⟨x, j, k⟩
 dsimp only
 have := l28GroupL b _ x ([(a0e (a01 (⟨#[47, 97]⟩ : Str))), (a0e (a01 (⟨#[47, 98]⟩ : Str))), (a0e (a01 (⟨#[47, 99]⟩ : Str)))] : List Member) j k rfl rfl
 rcases e : a1x b ([(a0e (a01 (⟨#[47, 97]⟩ : Str))), (a0e (a01 (⟨#[47, 98]⟩ : Str))), (a0e (a01 (⟨#[47, 99]⟩ : Str)))] : List Member) x j k with ⟨p, q, r, s⟩
 rw [e] at this
 exact this
def a1y (c_b : (List UInt8)) (c_i : Int) (c_h : Int) : Member × Int × Int :=
 match a2r c_b c_i c_h with
  | (u1, u2, u3) =>
   match a08 c_b u2 u3 3 with
    | (u4, u5, u6) =>
     match (u1)[(u4).toNat]? with
      | none => default
      | some e1 =>
       match a08 c_b u5 u6 10 with
        | (u7, u8, u9) =>
         bif (u7 == 0) then
          match a0s c_b u8 u9 with
           | (u10, u11, u12) =>
            ((Member.mk e1.name u10 e1.publications), u11, u12)
         else
          bif (u7 == 1) then
           match a08 c_b u8 u9 4 with
            | (u13, u14, u15) =>
             ((Member.mk e1.name e1.vector (e1.publications ++ [(Publication.mk (a01 (⟨#[47, 97]⟩ : Str)) u13 ([]))])), u14, u15)
          else
           bif (u7 == 2) then
            match a0r c_b u8 u9 with
             | (u16, u17, u18) =>
              ((Member.mk u16 e1.vector e1.publications), u17, u18)
           else
            (e1, u8, u9)
theorem l1Int_le {M : Int} (b : List UInt8) (i h : Int) (l : List Int) (h0 : 0 < l.length) (hl : ∀ x ∈ l, x ≤ M) : (a1w b i h l).1 ≤ M := by
 unfold a1w
 have h1 := l1Below_rng b i h ((l.length : Nat) : Int)
 rcases e0 : a08 b i h ((l.length : Nat) : Int) with ⟨x, j, k⟩
 rw [e0] at h1
 dsimp only at h1 ⊢
 obtain ⟨e1, he1⟩ : ∃ e, l[x.toNat]? = some e := ⟨_, List.getElem?_eq_getElem (by omega)⟩
 rw [he1]
 exact hl e1 (List.mem_of_getElem? he1)
def a1p (code : (List UInt8)) : (List Member) :=
 match a1n code with
  | (u1, u2) =>
   match a2r code u1 u2 with
    | (u3, u4, u5) =>
     u3
def a05 (code : (List UInt8)) : Member × Publication :=
 match a1n code with
  | (u1, u2) =>
   match a1y code u1 u2 with
    | (u3, u4, u5) =>
     match a1o code u4 u5 ([(⟨#[47, 97]⟩ : Str), (⟨#[47, 98]⟩ : Str), (⟨#[47, 100]⟩ : Str)]) with
      | (u6, u7, u8) =>
       match a33 code u7 u8 4 with
        | (u9, u10, u11) =>
         bif u9 then
          match a08 code u10 u11 4 with
           | (u12, u13, u14) =>
            match a19 code u13 u14 1 with
             | (u15, u16, u17) =>
              (u3, (Publication.mk (a01 u6) u12 u15))
         else
          match a19 code u10 u11 1 with
           | (u30, u31, u32) =>
            (u3, (Publication.mk (a01 u6) (IntKind.i64.wrap ((a0b u3.vector (a01 u6)) + 1)) u30))
def a06 (code : (List UInt8)) : Member × (List UInt8) :=
 match a1n code with
  | (u1, u2) =>
   match a1y code u1 u2 with
    | (u3, u4, u5) =>
     match a1w code u4 u5 ([0, 1, 2, 60, 61]) with
      | (u6, u7, u8) =>
       match a19 code u7 u8 u6 with
        | (u9, u10, u11) =>
         (u3, u9)
def a0n (code : (List UInt8)) : Member × Name × Int :=
 match a1n code with
  | (u1, u2) =>
   match a1y code u1 u2 with
    | (u3, u4, u5) =>
     match a1o code u4 u5 ([(⟨#[47, 97]⟩ : Str), (⟨#[47, 98]⟩ : Str), (⟨#[47, 99]⟩ : Str), (⟨#[47, 100]⟩ : Str)]) with
      | (u6, u7, u8) =>
       match a08 code u7 u8 4 with
        | (u9, u10, u11) =>
         (u3, (a01 u6), u9)
def a1j (code : (List UInt8)) : Member × StateVector :=
 match a1n code with
  | (u1, u2) =>
   match a1y code u1 u2 with
    | (u3, u4, u5) =>
     match a0s code u4 u5 with
      | (u6, u7, u8) =>
       (u3, u6)
def a36 (code : (List UInt8)) : Name :=
 match a1n code with
  | (u1, u2) =>
   match a0r code u1 u2 with
    | (u3, u4, u5) =>
     u3
def a04 (code : (List UInt8)) : Member × Member :=
 match a1n code with
  | (u1, u2) =>
   match a2r code u1 u2 with
    | (u3, u4, u5) =>
     match a08 code u4 u5 3 with
      | (u6, u7, u8) =>
       match (u3)[(u6).toNat]? with
        | none => default
        | some e1 =>
         match a08 code u7 u8 3 with
          | (u9, u10, u11) =>
           match (u3)[(u9).toNat]? with
            | none => default
            | some e2 =>
             match a33 code u10 u11 8 with
              | (u12, u13, u14) =>
               bif u12 then
                match a1y code u13 u14 with
                 | (u15, u16, u17) =>
                  (e1, u15)
               else
                (e1, e2)
def a1r (code : (List UInt8)) : Member × Member :=
 (((a04 code).1), ((a04 code).2))
def a1k (code : (List UInt8)) : Member × Member :=
 bif (Int.tmod (((code).length : Nat) : Int) 2 == 0) then
  ((a07 ((a04 code).1) ((a04 code).2)), (a07 ((a04 code).2) ((a04 code).1)))
 else
  (((a04 code).1), ((a04 code).2))
def a24 (b : Member) : List Publication → Nat → Option (Bool)
 | [], i => none
 | e1 :: rest_, i =>
  match (b.publications)[i]? with
   | none => default
   | some e2 =>
    bif (e1.seq != e2.seq) then
     (some false)
    else
     bif (!(a3h e1.publisher e2.publisher)) then
      (some false)
     else
      bif (!(a2q e1.content e2.content)) then
       (some false)
      else
       a24 b rest_ (i + 1)
def a1l (a : Member) (b : Member) : Bool :=
 bif (!(a3h a.name b.name)) then
  false
 else
  bif (!(a2b a.vector.entries b.vector.entries)) then
   false
  else
   bif ((((a.publications).length : Nat) : Int) != (((b.publications).length : Nat) : Int)) then
    false
   else
    match a24 b a.publications 0 with
     | some r_ => r_
     | none =>
      true
end Go.Stp

namespace Go.Stp
def readyAt (ops : Array Oper) (listed : Array Bool) (i : Nat) : Bool :=
 !listed.getD i true && (match ops[i]? with | some o => o.after.all (fun e => !Region.binds .any e || listed.getD e.on false) | none => false)
theorem readyAt_mem {ops : Array Oper} {listed : Array Bool} {i : Nat} (h : readyAt ops listed i = true) : (Region.ready .any ops listed).contains i = true := by
 unfold readyAt at h
 rw [List.contains_iff_mem]
 unfold Region.ready
 rw [List.mem_filter, List.mem_range]
 cases ho : ops[i]? with
 | none => simp [ho] at h
 | some o =>
  refine ⟨(Array.getElem?_eq_some_iff.1 ho).1, ?_⟩
  simpa [ho] using h
def onB (o : Oper) (i : Nat) : Bool := o.after.any (fun e => Region.binds .any e && e.on == i)
def freeRow (ops : Array Oper) (i : Nat) (oi : Oper) : Nat → List Oper → Bool
 | _, [] => true
 | j, oj :: r => (j == i || onB oj i || onB oi j || oi.apart ops oj) && freeRow ops i oi (j + 1) r
def freeTab (ops : Array Oper) : Nat → List Oper → Bool
 | _, [] => true
 | i, oi :: r => freeRow ops i oi 0 ops.toList && freeTab ops (i + 1) r
def freeAll (ops : Array Oper) : Bool := Region.noSelect ops && freeTab ops 0 ops.toList
theorem freeRow_get {ops : Array Oper} {i : Nat} {oi : Oper} : ∀ {l : List Oper} {j k : Nat} {oj : Oper}, freeRow ops i oi j l = true → l[k]? = some oj → (j + k == i || onB oj i || onB oi (j + k) || oi.apart ops oj) = true
 | [], _, _, _, _, h => by simp at h
 | o :: r, j, k, oj, h, hk => by
  simp only [freeRow, Bool.and_eq_true] at h
  cases k with
  | zero => simp at hk; subst hk; simpa using h.1
  | succ k =>
   have := freeRow_get h.2 (show r[k]? = some oj by simpa using hk)
   rwa [Nat.add_assoc, Nat.add_comm 1 k] at this
theorem freeTab_get {ops : Array Oper} : ∀ {l : List Oper} {i k : Nat} {o : Oper}, freeTab ops i l = true → l[k]? = some o → freeRow ops (i + k) o 0 ops.toList = true
 | [], _, _, _, _, h => by simp at h
 | o :: r, i, k, oj, h, hk => by
  simp only [freeTab, Bool.and_eq_true] at h
  cases k with
  | zero => simp at hk; subst hk; simpa using h.1
  | succ k =>
   have := freeTab_get h.2 (show r[k]? = some oj by simpa using hk)
   rwa [Nat.add_assoc, Nat.add_comm 1 k] at this
theorem freeAll_free {ops : Array Oper} {listed : Array Bool} {i : Nat} (h : freeAll ops = true) (hr : readyAt ops listed i = true) : Region.free .any ops listed i = true := by
 simp only [freeAll, Bool.and_eq_true] at h
 simp only [readyAt, Bool.and_eq_true] at hr
 unfold Region.free
 cases ho : ops[i]? with
 | none => simp [ho] at hr
 | some oi =>
  simp only [ho] at hr
  rw [List.all_eq_true]
  intro j hj
  have hj' : j < ops.size := by simpa using hj
  have hoj : ops[j]? = some ops[j] := by simp [hj']
  have h1 := freeRow_get (freeTab_get h.2 (show ops.toList[i]? = some oi by simpa using ho)) (show ops.toList[j]? = some ops[j] by simp [hj'])
  simp only [Nat.zero_add] at h1
  simp only [hoj]
  cases hji : (j == i) with
  | true => simp
  | false =>
   simp only [hji, Bool.false_or]
   cases hl : listed.getD j true with
   | true => simp
   | false =>
    simp only [Bool.false_or]
    simp only [hji, Bool.false_or, Bool.or_eq_true] at h1
    rcases h1 with (h1 | h1) | h1
    ·simp only [onB] at h1; simp [h1]
    ·exfalso
     obtain ⟨e, he, hb⟩ := Array.any_eq_true'.1 h1
     simp only [Bool.and_eq_true, beq_iff_eq] at hb
     have h2 := Array.all_eq_true_iff_forall_mem.1 hr.2 e he
     simp only [hb.1, Bool.not_true, Bool.false_or, hb.2] at h2
     rw [Array.getD_eq_getD_getElem?] at hl h2
     cases hx : listed[j]? with
     | none => simp [hx] at h2
     | some b => simp [hx] at h2 hl; rw [h2] at hl; cases hl
    ·simp [h1]
def takesR (ops : Array Oper) (tl : List Nat) : Array Bool → List (Nat × Bool) → Bool
 | _, [] => true
 | listed, (i, p) :: r => (readyAt ops listed i && (match p with | true => true | false => !tl.contains i && tl.all (fun j => listed.getD j true || waits ops j i))) && takesR ops tl (listed.setIfInBounds i true) r
theorem freeAll_mayP {ops : Array Oper} {listed : Array Bool} {i : Nat} (h : freeAll ops = true) (hr : readyAt ops listed i = true) : mayP ops listed i = true := by
 have h1 := freeAll_free h hr
 simp only [freeAll, Bool.and_eq_true] at h
 simp only [mayP, h.1, h1, readyAt_mem hr, Bool.and_self]
theorem takesB_of {ops : Array Oper} {tl : List Nat} (hs : freeAll ops = true) : ∀ {is : List (Nat × Bool)} {listed : Array Bool}, takesR ops tl listed is = true → takesB ops tl listed is = true
 | [], _, _ => rfl
 | (i, p) :: r, listed, h => by
  simp only [takesR, Bool.and_eq_true] at h
  obtain ⟨⟨h2, h3⟩, h4⟩ := h
  simp only [takesB, Bool.and_eq_true]
  refine ⟨?_, takesB_of hs h4⟩
  cases p with
  | true => exact freeAll_mayP hs h2
  | false =>
   simp only [Bool.and_eq_true] at h3
   simp only [mayB, freeAll_mayP hs h2, h3.1, h3.2, Bool.and_self]
def mayR (ops : Array Oper) (tl : List Nat) (listed : Array Bool) (i : Nat) : Bool := readyAt ops listed i && (!tl.contains i && tl.all (fun j => listed.getD j true || waits ops j i))
theorem mayB_of {ops : Array Oper} {tl : List Nat} {listed : Array Bool} {i : Nat} (hs : freeAll ops = true) (h : mayR ops tl listed i = true) : mayB ops tl listed i = true := by
 simp only [mayR, Bool.and_eq_true] at h
 simp only [mayB, freeAll_mayP hs h.1, h.2.1, h.2.2, Bool.and_self]
theorem DX.tab {C : Cx} {ops : Array Oper} {tl : List Nat} {s : List It} {bs : Nat → Nat} {G0 : GH} {fuel : Nat} {listed : Array Bool} {env : Env} {L : Locs} {R : Rows} {Γ : Facts} (h : freeAll ops = true)
  (k : freeAll ops = true → DX C ops tl s bs G0 fuel listed env L R Γ) : DX C ops tl s bs G0 fuel listed env L R Γ := k h
section
open GoT (X k ok sh fa oa)
end
end Go.Stp

namespace Go.Stp
open GoT (X k ok sh fa oa)
def SY (C : Cx) (bs : Nat → Nat) (G0 : GH) (L0 : Locs) (R : Rows) : World → Prop := fun w => ∃ G, Le G0 G ∧ G (bs 999) = none ∧ HInv C w G bs L0 R
structure YOk (C : Cx) (bs : Nat → Nat) (L0 L : Locs) (R : Rows) : Prop where
 act : ∀ j, Acts L0 R j → bs j ≠ bs 999
 sub : ∀ j x, look L0 j = some x → look L j = some x
 lab : ∃ l, look L 999 = some l
theorem HInv.more {C : Cx} {w : World} {G : GH} {bs : Nat → Nat} {L : Locs} {R : Rows} (hI : HInv C w G bs L R) {b : Nat} {o : Obj} (hh : w.heap[b]? = some o) (ha : ∀ j, Acts L R j → bs j ≠ b) : HInv C w (join G (sgl b o)) bs L R := by
 have none : ∀ {j : Nat}, Acts L R j → G (bs j) = none → join G (sgl b o) (bs j) = none := fun {j} h hg => by
  unfold join; rw [hg]; exact sgl_ne _ (ha j h)
 refine ⟨hI.keep, join_le hI.le (sgl_le hh), fun j x hx => ?_, fun j r hr => ?_, hI.inj, hI.dis, hI.pin, hI.nr⟩
 ·obtain ⟨q1, q2, q3⟩ := hI.loc j x hx
  exact ⟨q1, q2, none (.inl ⟨x, hx⟩) q3⟩
 ·exact (hI.row j r hr).less fun hc hg => none (.inr ⟨r, hr, hc⟩) hg
theorem SY.keep {C : Cx} {bs : Nat → Nat} {G0 : GH} {L0 : Locs} {R : Rows} {w w' : World} (hb : Kp emp w w') (h : SY C bs G0 L0 R w) : SY C bs G0 L0 R w' := by
 obtain ⟨G, hle, hn, hI⟩ := h
 refine ⟨join (cut G emp) emp, hle.trans (le_join_l (cut G emp) emp), ?_, (hI.called (emp_le _) (fun _ _ h => by cases h) hb (emp_le _) (fun _ _ h => by cases h)).1⟩
 unfold join
 rw [cut_none' hn]
 rfl
theorem SY.cur {C : Cx} {bs : Nat → Nat} {G0 : GH} {L0 : Locs} {R : Rows} {w w' : World} {b : Nat} {o : Obj} (ha : ∀ j, Acts L0 R j → bs j ≠ bs 999) (hb : bs 999 = b) (hM : C.M b) (hh : w.heap[b]? = some o) (hk : Kp (sgl b o) w w') (h : SY C bs G0 L0 R w) : SY C bs G0 L0 R w' := by
 subst hb
 obtain ⟨G, hle, hn, hI⟩ := h
 have h1 := ((hI.more hh ha).called (Hc := sgl (bs 999) o) (h := emp) (le_join_r (sgl_dj hn).symm) (fun b q hx => by
  by_cases hbb : b = bs 999
  ·subst hbb; exact hM
  ·rw [sgl_ne _ hbb] at hx; cases hx) hk (emp_le _) (fun _ _ h => by cases h)).1
 refine ⟨_, hle.trans ((le_cut (le_join_l _ _) (sgl_dj hn).symm).trans (le_join_l _ _)), ?_, h1⟩
 unfold join
 rw [cut_some' (sgl_self _ _)]
 rfl
theorem SY.of {C : Cx} {bs : Nat → Nat} {G G0 : GH} {L0 L : Locs} {R : Rows} {w : World} (hy : YOk C bs L0 L R) (hle : Le G0 G) (hI : HInv C w G bs L R) : SY C bs G0 L0 R w := by
 obtain ⟨l, hl⟩ := hy.lab
 exact ⟨G, hle, (hI.loc 999 l hl).2.2, hI.sub hy.sub (Sub.refl _)⟩
def DY (C : Cx) (ops : Array Oper) (tl : List Nat) (s : List It) (bs : Nat → Nat) (G0 : GH) (L0 : Locs) (fuel : Nat) (listed : Array Bool) (env : Env) (L : Locs) (R : Rows) (Γ : Facts) : Prop :=
 YOk C bs L0 L R → Closed ops listed → ∀ a w G, Le G0 G → SatB C env L R Γ G bs a w → wpAnyT C.P ops (cont C s) (SY C bs G0 L0 R) tl fuel listed a w
theorem WX.drawY {C : Cx} {id : Nat} {ops : Array Oper} {s : List It} {env : Env} {L : Locs} {R : Rows} {Γ : Facts} {l : Loc} (tl : List Nat) (hm : C.P.follows .mixedOrders = true) (hl : look L 999 = some l)
  (k : ∀ bs G0, AllK C.M G0 Γ → DY C ops tl s bs G0 (delL L 999) ops.size (Array.replicate ops.size false) env L R Γ) : WX C (.code (.region id ops true) :: s) env L R Γ := by
 rintro a w ⟨G, bs, hA, hI, hΓ⟩
 show (Code.region id ops true).wp C.P (cont C s) a w
 have hsub : ∀ j x, look (delL L 999) j = some x → look L j = some x := fun j x hx => by
  rw [look_delL] at hx
  split at hx
  ·cases hx
  ·exact hx
 refine wp_region_any hm (wpAny_of_T _ _ _ _ (k bs G hΓ ⟨fun j hj => ?_, hsub, ⟨l, hl⟩⟩ (closed_start ops) a _ G (Le.refl _) ⟨hA, hI.drew, hΓ⟩))
 have hne : j ≠ 999 := by
  rintro rfl
  rcases hj with ⟨x, hx⟩ | ⟨r, hr, _⟩
  ·rw [look_delL] at hx; simp at hx
  ·exact hI.nr r hr
 exact hI.inj j 999 hne (hj.imp (fun ⟨x, hx⟩ => ⟨x, hsub _ _ hx⟩) (fun h => h)) (.inl ⟨l, hl⟩)
theorem DY.take {C : Cx} {ops : Array Oper} {tl : List Nat} {s : List It} {bs : Nat → Nat} {G0 : GH} {L0 : Locs} {fuel : Nat} {listed : Array Bool} {env : Env} {L : Locs} {R : Rows} {Γ : Facts} {i d : Nat} {o : Oper} {sv : SV} {b : Bool} (hb : mayB ops tl listed i = true) (hi : ops[i]? = some o) (hd : o.dst = some d) (hlt : d < C.fn.ntmps)
  (hg : gd ops env o = some b) (hl : b = true → Looks C env L0 R G0 o sv) (hu : b = false → sv = .v undef)
  (k : DY C ops tl s bs G0 L0 fuel (listed.setIfInBounds i true) ((d, sv) :: env) L R Γ) : DY C ops tl s bs G0 L0 (fuel + 1) listed env L R Γ := by
 intro hy hcl a w G hle ⟨hA, hI, hΓ⟩
 simp only [mayB, mayP, Bool.and_eq_true, Bool.not_eq_true', List.all_eq_true, Bool.or_eq_true] at hb
 obtain ⟨⟨⟨⟨h1, h4⟩, h5⟩, h3⟩, h6⟩ := hb
 have hr : i ∈ Region.ready .any ops listed := by simpa using h5
 refine wpAnyT_first hi h3 (Region.noSelect_spec h1) (fun c a w h => (cont_panic C s c _ _ h).elim) fuel listed a w hcl (fun j hj hun => (h6 j hj).resolve_left (by rw [hun]; simp)) (Region.free_spec hi h4) hr (v := conc bs sv) ?_ (SY.of hy hle hI) ?_
 ·cases b with
  | true => exact .inl ⟨gd_sound hA hg, fun w' ⟨G', hle', _, hI'⟩ => hl rfl a w' G' bs hle' hA hI'⟩
  | false => exact .inr ⟨gd_sound hA hg, by rw [hu rfl]; rfl⟩
 ·rw [hd]
  exact k hy (hcl.set hr) _ _ G hle ⟨hA.put hlt sv, hI, hΓ⟩
theorem DY.takeP {C : Cx} {ops : Array Oper} {tl : List Nat} {s : List It} {bs : Nat → Nat} {G0 : GH} {L0 : Locs} {fuel : Nat} {listed : Array Bool} {env : Env} {L : Locs} {R : Rows} {Γ : Facts} {i d : Nat} {o : Oper} {sv : SV} {b : Bool} (hb : mayP ops listed i = true) (hi : ops[i]? = some o) (hd : o.dst = some d) (hlt : d < C.fn.ntmps)
  (hg : gd ops env o = some b) (hl : b = true → ∀ a w bs, At C.fn.ntmps env bs a → (execOp a.eval o).run C.P w = .ok (.value (conc bs sv)) w) (hu : b = false → sv = .v undef)
  (k : DY C ops tl s bs G0 L0 fuel (listed.setIfInBounds i true) ((d, sv) :: env) L R Γ) : DY C ops tl s bs G0 L0 (fuel + 1) listed env L R Γ := by
 intro hy hcl a w G hle ⟨hA, hI, hΓ⟩
 simp only [mayP, Bool.and_eq_true] at hb
 obtain ⟨⟨h1, h4⟩, h5⟩ := hb
 have hr : i ∈ Region.ready .any ops listed := by simpa using h5
 refine wpAnyT_firstP hi (Region.noSelect_spec h1) (fun c a w h => (cont_panic C s c _ _ h).elim) fuel listed a w (Region.free_spec hi h4) hr (v := conc bs sv) ?_ ?_
 ·cases b with
  | true => exact .inl ⟨gd_sound hA hg, fun w' _ => hl rfl a w' bs hA⟩
  | false => exact .inr ⟨gd_sound hA hg, by rw [hu rfl]; rfl⟩
 ·rw [hd]
  exact k hy (hcl.set hr) _ _ G hle ⟨hA.put hlt sv, hI, hΓ⟩
theorem DY.takes {C : Cx} {ops : Array Oper} {tl : List Nat} {s : List It} {bs : Nat → Nat} {G0 : GH} {L0 : Locs} {L : Locs} {R : Rows} {Γ : Facts} (ht : TabOk C.P C.tt) : ∀ (is : List (Nat × Bool)) {fuel : Nat} {listed : Array Bool} {env env' : Env}, takesB ops tl listed is = true →
  takesE C.tt C.fn.ntmps ops L0 env is = some env' → DY C ops tl s bs G0 L0 fuel (setAll listed is) env' L R Γ → DY C ops tl s bs G0 L0 (fuel + is.length) listed env L R Γ
 | [], _, _, _, _, _, h, k => by simp [takesE] at h; subst h; exact k
 | (i, p) :: r, fuel, listed, env, env', hb, h, k => by
  simp only [takesB, Bool.and_eq_true] at hb
  simp only [takesE] at h
  split at h
  ·rename_i o ho
   rw [getO_eq] at ho
   have ho' : ops[i]? = some o := by simpa using ho
   split at h
   ·rename_i d hd
    split at h
    ·rename_i hlt
     have hlt' : d < C.fn.ntmps := by simpa [Nat.blt_eq] using hlt
     split at h
     ·rename_i hg
      split at h
      ·rename_i sv hsv
       cases p with
       | true => exact DY.takeP hb.1 ho' hd hlt' hg (fun _ a w bs' hA => pureS_any ht w hA hsv) (fun h => by cases h) (DY.takes ht r hb.2 h k)
       | false => exact DY.take hb.1 ho' hd hlt' hg (fun _ a w G' bs' hle hA hI => pureS_sound ht hA hI hsv) (fun h => by cases h) (DY.takes ht r hb.2 h k)
      ·cases h
     ·rename_i hg
      cases p with
      | true => exact DY.takeP hb.1 ho' hd hlt' hg (fun h => by cases h) (fun _ => rfl) (DY.takes ht r hb.2 h k)
      | false => exact DY.take hb.1 ho' hd hlt' hg (fun h => by cases h) (fun _ => rfl) (DY.takes ht r hb.2 h k)
     ·cases h
    ·cases h
   ·cases h
  ·cases h
def CurK (C : Cx) (S : World → Prop) : Prop := ∀ b w w' o, C.pin = some b → C.M b → w.heap[b]? = some o → Kp (sgl b o) w w' → S w → S w'
theorem DY.toTX {C : Cx} {ops : Array Oper} {tl : List Nat} {s : List It} {bs : Nat → Nat} {G0 : GH} {L0 : Locs} {fuel : Nat} {listed : Array Bool} {env : Env} {L : Locs} {R : Rows} {Γ : Facts} (k : ∀ S, CurK C S → TX C ops tl s S fuel listed env L R Γ) : DY C ops tl s bs G0 L0 fuel listed env L R Γ :=
 fun hy _ a w G _ hS => k _ (fun b _ _ _ hp hM hh hk h => h.cur hy.act (hS.2.1.pin b hp) hM hh hk) (fun _ _ hb h => h.keep hb) a w ⟨G, bs, hS⟩
theorem TX.takeP {C : Cx} {ops : Array Oper} {tl : List Nat} {s : List It} {S : World → Prop} {fuel : Nat} {listed : Array Bool} {env : Env} {L : Locs} {R : Rows} {Γ : Facts} {i d : Nat} {o : Oper} {sv : SV} {b : Bool} (hb : mayP ops listed i = true) (hi : ops[i]? = some o) (hd : o.dst = some d) (hlt : d < C.fn.ntmps)
  (hg : gd ops env o = some b) (hl : b = true → ∀ a w bs, At C.fn.ntmps env bs a → (execOp a.eval o).run C.P w = .ok (.value (conc bs sv)) w) (hu : b = false → sv = .v undef)
  (k : TX C ops tl s S fuel (listed.setIfInBounds i true) ((d, sv) :: env) L R Γ) : TX C ops tl s S (fuel + 1) listed env L R Γ := by
 intro hS a w ⟨G, bs, hA, hI, hΓ⟩
 simp only [mayP, Bool.and_eq_true] at hb
 obtain ⟨⟨h1, h4⟩, h5⟩ := hb
 have hr : i ∈ Region.ready .any ops listed := by simpa using h5
 refine wpAnyT_firstP hi (Region.noSelect_spec h1) (fun c a w h => (cont_panic C s c _ _ h).elim) fuel listed a w (Region.free_spec hi h4) hr (v := conc bs sv) ?_ ?_
 ·cases b with
  | true => exact .inl ⟨gd_sound hA hg, fun w' _ => hl rfl a w' bs hA⟩
  | false => exact .inr ⟨gd_sound hA hg, by rw [hu rfl]; rfl⟩
 ·rw [hd]
  exact k hS _ _ ⟨G, bs, hA.put hlt sv, hI, hΓ⟩
theorem TX.takes {C : Cx} {ops : Array Oper} {tl : List Nat} {s : List It} {S : World → Prop} {L : Locs} {R : Rows} {Γ : Facts} (ht : TabOk C.P C.tt) : ∀ (is : List Nat) {fuel : Nat} {listed : Array Bool} {env env' : Env}, takesB ops tl listed (is.map fun i => (i, true)) = true →
  takesE C.tt C.fn.ntmps ops [] env (is.map fun i => (i, true)) = some env' → TX C ops tl s S fuel (setAll listed (is.map fun i => (i, true))) env' L R Γ → TX C ops tl s S (fuel + is.length) listed env L R Γ
 | [], _, _, _, _, _, h, k => by simp [takesE] at h; subst h; exact k
 | i :: r, fuel, listed, env, env', hb, h, k => by
  simp only [List.map_cons, takesB, Bool.and_eq_true] at hb
  simp only [List.map_cons, takesE] at h
  split at h
  ·rename_i o ho
   rw [getO_eq] at ho
   have ho' : ops[i]? = some o := by simpa using ho
   split at h
   ·rename_i d hd
    split at h
    ·rename_i hlt
     have hlt' : d < C.fn.ntmps := by simpa [Nat.blt_eq] using hlt
     split at h
     ·rename_i hg
      split at h
      ·rename_i sv hsv
       exact TX.takeP hb.1 ho' hd hlt' hg (fun _ a w bs' hA => pureS_any ht w hA hsv) (fun h => by cases h) (TX.takes ht r hb.2 h k)
      ·cases h
     ·rename_i hg
      exact TX.takeP hb.1 ho' hd hlt' hg (fun h => by cases h) (fun _ => rfl) (TX.takes ht r hb.2 h k)
     ·cases h
    ·cases h
   ·cases h
  ·cases h
theorem TX.seeP {C : Cx} {ops : Array Oper} {tl : List Nat} {s : List It} {S : World → Prop} {fuel : Nat} {listed : Array Bool} {env : Env} {L : Locs} {R : Rows} {Γ : Facts} {d : Nat} {o : Oper} {sv : SV} (i : Nat) (hb : mayP ops listed i = true) (hi : getO ops.toList i = some o) (hg : gd ops env o = some true) (hd : o.dst = some d) (hlt : Nat.blt d C.fn.ntmps = true)
  (hl : LooksP C env o sv) (k : TX C ops tl s S fuel (listed.setIfInBounds i true) ((d, sv) :: env) L R Γ) : TX C ops tl s S (fuel + 1) listed env L R Γ := by
 rw [getO_eq] at hi
 exact TX.takeP hb (by simpa using hi) hd (by simpa [Nat.blt_eq] using hlt) hg (fun _ a w bs hA => hl a w bs hA) (fun h => by cases h) k
theorem TS.peek {C : Cx} {ops : Array Oper} {tl : List Nat} {s : List It} {S : World → Prop} {fuel : Nat} {listed : Array Bool} {env : Env} {L : Locs} {R : Rows} {Γ : Facts} {d : Nat} {o : Oper} (i : Nat) (hi : getO ops.toList i = some o) (hg : gd ops env o = some true) (hd : o.dst = some d) (hlt : Nat.blt d C.fn.ntmps = true)
  (k : ∀ G, AllK C.M G Γ → ∃ sv Γ', Looks C env L R G o sv ∧ (AllK C.M G Γ → AllK C.M G Γ') ∧ TX C ops tl s S fuel (listed.setIfInBounds i true) ((d, sv) :: env) L R Γ') : TS C ops tl s S fuel listed env L R Γ i := by
 intro hS a w ⟨G, bs, hA, hI, hΓ⟩
 obtain ⟨sv, Γ', hl, hΓ', hk⟩ := k G hΓ
 rw [getO_eq] at hi
 have hi' : ops[i]? = some o := by simpa using hi
 unfold wpOp
 simp only [hi']
 rw [if_pos (gd_sound hA hg)]
 refine .inl ?_
 unfold Oper.wp
 rw [hl a w G bs (Le.refl _) hA hI]
 simp only [Oper.upon, hd]
 exact ⟨fun _ h => h, hk hS _ _ ⟨G, bs, hA.put (by simpa [Nat.blt_eq] using hlt) sv, hI, hΓ' hΓ⟩⟩
theorem TS.see {C : Cx} {ops : Array Oper} {tl : List Nat} {s : List It} {S : World → Prop} {fuel : Nat} {listed : Array Bool} {env : Env} {L : Locs} {R : Rows} {Γ : Facts} {d : Nat} {o : Oper} {sv : SV} (i : Nat) (hi : getO ops.toList i = some o) (hg : gd ops env o = some true) (hd : o.dst = some d) (hlt : Nat.blt d C.fn.ntmps = true)
  (hl : ∀ G, AllK C.M G Γ → Looks C env L R G o sv) (k : TX C ops tl s S fuel (listed.setIfInBounds i true) ((d, sv) :: env) L R Γ) : TS C ops tl s S fuel listed env L R Γ i :=
 TS.peek i hi hg hd hlt fun G hΓ => ⟨sv, Γ, hl G hΓ, fun h => h, k⟩
theorem TS.callP {C : Cx} {ops : Array Oper} {tl : List Nat} {st : List It} {S : World → Prop} {fuel : Nat} {listed : Array Bool} {env : Env} {L : Locs} {R : Rows} {Γ : Facts} {o : Oper} (hcur : CurK C S) (i : Nat) {f : Operand} {args : List Operand} {ats : Array TypeId} {g : FuncId} {sf : SV} {svs : List SV} {caps : (Nat → Nat) → List Value} {T : Nat} {cs : List Value}
    {ι : Type} {val val' : ι → Value} {cs' : ι → List Value} {gs ds : ι → List MF} {Q : Prop} {d : Nat} {Γ' : ι → Facts} (n : Nat) (hpin : ∃ b, C.pin = some b) (hl : look L 999 = some ⟨T, cs⟩) (hds : ∀ i h, Sep h (gs i) → All h (ds i)) (hdk : ∀ i, ∀ f ∈ ds i, f.k = .der) (hi : getO ops.toList i = some o) (hg : gd ops env o = some true) (hd : o.dst = some d) (hlt : Nat.blt d C.fn.ntmps = true) (ho : o.op = .call { callee := .value f, args := args.toArray, argTypes := ats })
    (hf : ev env f = some sf) (hsf : ∀ bs, conc bs sf = .func (.func g) #[] (caps bs).toArray) (hargs : evs env args = some svs)
    (hc : ∀ w G bs H, HInv C w G bs L R → Le H (hp w) → Sep H [MF.bx (bs 999) T cs] → AllK C.M (cut (hp w) H) Γ → Does C.P g (svs.map (conc bs) ++ caps bs).toArray w H (Post w H val (fun i => MF.bx (bs 999) T (cs' i) :: gs i) Q))
    (hv : ∀ i, normV (val i) = some (val' i)) (hΓ' : ∀ i, addF n (ds i ++ gs i) Γ = some (Γ' i))
    (k : ∀ j, Q → TX C ops tl st S fuel (listed.setIfInBounds i true) ((d, .v (val' j)) :: env) (setL L 999 (cs' j)) R (Γ' j)) : TS C ops tl st S fuel listed env L R Γ i := by
  intro hS a w ⟨G, bs, hA, hI, hΓ⟩
  rw [getO_eq] at hi
  have hi' : ops[i]? = some o := by simpa using hi
  unfold wpOp
  simp only [hi']
  rw [if_pos (gd_sound hA hg)]
  refine .inl ?_
  unfold Oper.wp
  obtain ⟨h1, h2, h3⟩ := hI.loc 999 _ hl
  have hGH : Le G (cut (hp w) (sgl (bs 999) (lobj ⟨T, cs⟩))) := le_cut hI.le (sgl_dj h3).symm
  obtain ⟨he, hcalls⟩ := hc w G bs (sgl (bs 999) (lobj ⟨T, cs⟩)) hI (sgl_le h1) ⟨_, emp, Le.refl _, emp_le _, (emp_dj _).symm, sgl_self _ _, trivial⟩ (hΓ.mono hGH)
  rw [exec_call he ho (by rw [ev_conc hA hf, hsf]) (evs_sound hA args svs hargs)]
  simp only [Oper.upon]
  refine hcalls.mono fun e w' ⟨v, hve, hb, hψ⟩ => ?_
  subst hve
  refine ⟨fun _ hs => ?_, ?_⟩
  · obtain ⟨b, hpb⟩ := hpin
    have := hI.pin b hpb
    subst this
    exact hcur _ _ _ _ hpb h2 h1 hb hs
  obtain ⟨j, h, rfl, hq, hle, hdom, ha, hr, a1, a2, a3, a4, a5⟩ := hψ
  have a4' : ha (bs 999) = some (lobj ⟨T, cs' j⟩) := a4
  rw [hd, ← normV_eq (hv j)]
  obtain ⟨hI', hdj⟩ := (hI.drop hl).called (Hc := sgl (bs 999) (lobj ⟨T, cs⟩)) (le_join_r (sgl_dj h3).symm) (fun b q hx => by
    by_cases hbb : b = bs 999
    · subst hbb; exact h2
    · rw [sgl_ne _ hbb] at hx; cases hx) hb hle hdom
  have hG1 : Le G (cut (join G (sgl (bs 999) (lobj ⟨T, cs⟩))) (sgl (bs 999) (lobj ⟨T, cs⟩))) := le_cut (le_join_l _ _) (sgl_dj h3).symm
  have hlab : h (bs 999) = some (lobj ⟨T, cs' j⟩) := a1 _ _ a4'
  have hG2 : join (cut (join G (sgl (bs 999) (lobj ⟨T, cs⟩))) (sgl (bs 999) (lobj ⟨T, cs⟩))) h (bs 999) = some (lobj ⟨T, cs' j⟩) := le_join_r hdj.symm _ _ hlab
  have hI2 := hI'.take (i := 999) (l := ⟨T, cs' j⟩) (L' := setL L 999 (cs' j)) (fun x => by
    rw [look_setL, look_delL]
    by_cases hij : 999 = x
    · subst hij; simp [hl]
    · simp [hij]) (fun r hr' => hI.dis 999 _ r hl hr') hG2 h2
  have hdr : Dj hr G := hdj.mono a2 hG1
  have hΓ2 := hΓ.after (h := hr) (n := n) (ds := ds j) hdr (fun b q hx => by
    rcases hdom b q (a2 b q hx) with h4 | h4
    · exact .inl (Nat.le_trans hI.keep.size h4)
    · by_cases hbb : b = bs 999
      · subst hbb; exact h2
      · exact absurd (sgl_ne _ hbb) h4) a5 (hdk j) (hds j hr a5) (hΓ' j)
  refine k j hq hS _ _ ⟨_, bs, hA.put (by simpa [Nat.blt_eq] using hlt) (.v _), hI2, hΓ2.mono (join_le ?_ ?_)⟩
  · exact le_cut (hG1.trans (le_join_l _ _)) (sgl_dj h3).symm
  · refine le_cut (a2.trans (le_join_r hdj.symm)) (sgl_dj ?_).symm
    cases hx : hr (bs 999) with
    | none => rfl
    | some q => rcases a3 (bs 999) with h5 | h5
                · rw [a4'] at h5; cases h5
                · rw [hx] at h5; cases h5
end Go.Stp

namespace Go.Stp
open GoT (X k ok sh fa oa)
structure PI where
 j : Nat
 d : Nat
 obj : Obj
 val : Nat → Value
 env : Env := []
def PIok (C : Cx) (ops : Array Oper) (it : PI) : Prop :=
 ∃ o, ops[it.j]? = some o ∧ gd ops [] o = some true ∧ o.dst = some it.d ∧ it.d < C.fn.ntmps ∧ ∀ (a : Act) (w : World) (bs : Nat → Nat), At C.fn.ntmps it.env bs a → (execOp a.eval o).run C.P w = .ok (.value (it.val w.heap.size)) (w.alloc it.obj)
structure POk (C : Cx) (ops : Array Oper) (listed : Array Bool) (env : Env) (P : List PI) : Prop where
 ok : ∀ it ∈ P, PIok C ops it
 free : ∀ it ∈ P, look env it.d = none
 sub : ∀ it ∈ P, Sub it.env env
 rdy : ∀ it ∈ P, readyAt ops listed it.j = true
 dis : P.Pairwise (fun x y => x.j ≠ y.j ∧ x.d ≠ y.d)
def doneL (listed : Array Bool) (D : Nat → Option Nat) : List PI → Array Bool
 | [] => listed
 | it :: P => match D it.j with
  | some _ => (doneL listed D P).setIfInBounds it.j true
  | none => doneL listed D P
def left (D : Nat → Option Nat) : List PI → Nat
 | [] => 0
 | it :: P => match D it.j with
  | some _ => left D P
  | none => left D P + 1
def upd (D : Nat → Option Nat) (j b : Nat) : Nat → Option Nat := fun i => if i = j then some b else D i
theorem set_getD_true {l : Array Bool} {i : Nat} : (l.setIfInBounds i true).getD i true = true := by
 rw [Array.getD_eq_getD_getElem?]
 by_cases h : i < l.size
 ·simp [h]
 ·rw [Array.getElem?_eq_none (by simp; omega)]; rfl
theorem doneL_un {listed : Array Bool} {D : Nat → Option Nat} {i : Nat} : ∀ {P : List PI}, (doneL listed D P).getD i true = false → listed.getD i true = false ∧ ∀ it ∈ P, it.j = i → D i = none
 | [], h => ⟨h, fun _ h => by cases h⟩
 | it :: P, h => by
  unfold doneL at h
  split at h
  ·rename_i b hb
   by_cases hi : it.j = i
   ·subst hi; rw [set_getD_true] at h; cases h
   ·rw [getD_set_ne true hi] at h
    obtain ⟨h1, h2⟩ := doneL_un h
    exact ⟨h1, fun x hx he => (List.mem_cons.1 hx).elim (fun e => by subst e; exact absurd he hi) (fun hx => h2 x hx he)⟩
  ·rename_i hb
   obtain ⟨h1, h2⟩ := doneL_un h
   exact ⟨h1, fun x hx he => (List.mem_cons.1 hx).elim (fun e => by subst e; rw [← he]; exact hb) (fun hx => h2 x hx he)⟩
theorem doneL_mono {listed : Array Bool} {D : Nat → Option Nat} {i : Nat} (h : listed.getD i false = true) : ∀ {P : List PI}, (doneL listed D P).getD i false = true
 | [] => h
 | it :: P => by
  unfold doneL
  split
  ·exact getD_set_true (doneL_mono h)
  ·exact doneL_mono h
theorem doneL_ne {listed : Array Bool} {D : Nat → Option Nat} {i : Nat} (x : Bool) : ∀ {P : List PI}, (∀ it ∈ P, it.j ≠ i) → (doneL listed D P).getD i x = listed.getD i x
 | [], _ => rfl
 | it :: P, h => by
  unfold doneL
  split
  ·rw [getD_set_ne x (h it List.mem_cons_self)]; exact doneL_ne x fun y hy => h y (List.mem_cons_of_mem _ hy)
  ·exact doneL_ne x fun y hy => h y (List.mem_cons_of_mem _ hy)
theorem doneL_set {listed : Array Bool} {D : Nat → Option Nat} {y : Nat} : ∀ {P : List PI}, (∀ it ∈ P, it.j ≠ y) → doneL (listed.setIfInBounds y true) D P = (doneL listed D P).setIfInBounds y true
 | [], _ => rfl
 | it :: P, h => by
  unfold doneL
  split
  ·rw [doneL_set fun x hx => h x (List.mem_cons_of_mem _ hx)]; exact Array.setIfInBounds_comm _ _ (Ne.symm (h it List.mem_cons_self))
  ·exact doneL_set fun x hx => h x (List.mem_cons_of_mem _ hx)
theorem doneL_congr {listed : Array Bool} {D D' : Nat → Option Nat} : ∀ {P : List PI}, (∀ it ∈ P, D' it.j = D it.j) → doneL listed D' P = doneL listed D P ∧ left D' P = left D P
 | [], _ => ⟨rfl, rfl⟩
 | it :: P, h => by
  obtain ⟨h1, h2⟩ := doneL_congr (listed := listed) (P := P) fun x hx => h x (List.mem_cons_of_mem _ hx)
  unfold doneL left
  rw [h it List.mem_cons_self, h1, h2]
  exact ⟨rfl, rfl⟩
theorem doneL_upd {listed : Array Bool} {D : Nat → Option Nat} {it : PI} {b : Nat} (hD : D it.j = none) : ∀ {P : List PI}, P.Pairwise (fun x y => x.j ≠ y.j ∧ x.d ≠ y.d) → it ∈ P → doneL listed (upd D it.j b) P = (doneL listed D P).setIfInBounds it.j true ∧ left D P = left (upd D it.j b) P + 1
 | [], _, h => by cases h
 | x :: P, hd, h => by
  rw [List.pairwise_cons] at hd
  rcases List.mem_cons.1 h with rfl | h
  ·obtain ⟨h1, h2⟩ := doneL_congr (listed := listed) (D := D) (D' := upd D it.j b) (P := P) fun y hy => if_neg (Ne.symm (hd.1 y hy).1)
   unfold doneL left
   have h3 : upd D it.j b it.j = some b := if_pos rfl
   rw [h3, hD, h1, h2]
   exact ⟨rfl, rfl⟩
  ·obtain ⟨h1, h2⟩ := doneL_upd (listed := listed) hD hd.2 h
   have h3 : upd D it.j b x.j = D x.j := if_neg (hd.1 it h).1
   unfold doneL left
   rw [h3, h1]
   cases D x.j with
   | none => dsimp only; exact ⟨rfl, by omega⟩
   | some q => dsimp only; exact ⟨Array.setIfInBounds_comm _ _ (Ne.symm (hd.1 it h).1), h2⟩
def blockB (ops : Array Oper) (listed : Array Bool) (P : List PI) (i : Nat) : Bool :=
 match ops[i]? with
 | some o => o.after.any fun e => Region.binds .any e && !listed.getD e.on false && P.all fun it => !Nat.beq it.j e.on
 | none => true
def nextB (ops : Array Oper) (listed : Array Bool) (P P' : List PI) (y : Nat) : Bool :=
 (List.range ops.size).all fun i => Nat.beq i y || listed.getD i true || (P.any fun it => Nat.beq it.j i) || blockB ops listed P' i
theorem next_spec {ops : Array Oper} {listed : Array Bool} {D : Nat → Option Nat} {P P' : List PI} {y i : Nat} (hn : nextB ops listed P P' y = true) (hD : doneL listed D P = doneL listed D P') (hr : i ∈ Region.ready .any ops (doneL listed D P)) : i = y ∨ ∃ it ∈ P, it.j = i ∧ D it.j = none := by
 obtain ⟨hun, o, ho, hall⟩ := mem_ready.1 hr
 obtain ⟨u1, u2⟩ := doneL_un hun
 have h1 := List.all_eq_true.1 hn i (List.mem_range.2 (Array.getElem?_eq_some_iff.1 ho).1)
 simp only [Bool.or_eq_true] at h1
 rcases h1 with ((h1 | h1) | h1) | h1
 ·exact .inl (Nat.eq_of_beq_eq_true h1)
 ·rw [u1] at h1; cases h1
 ·obtain ⟨it, hit, he⟩ := List.any_eq_true.1 h1
  have he' := Nat.eq_of_beq_eq_true he
  exact .inr ⟨it, hit, he', by rw [he']; exact u2 it hit he'⟩
 ·exfalso
  unfold blockB at h1
  rw [ho] at h1
  obtain ⟨e, he, hb⟩ := Array.any_eq_true'.1 h1
  simp only [Bool.and_eq_true, Bool.not_eq_true', List.all_eq_true] at hb
  have h2 := hall e he hb.1.1
  rw [hD, doneL_ne false fun it hit h => by have := hb.2 it hit; rw [h] at this; simp at this] at h2
  rw [hb.1.2] at h2; cases h2
theorem ready_mem {ops : Array Oper} {listed : Array Bool} {D : Nat → Option Nat} {P : List PI} {y : Nat} (hy : readyAt ops listed y = true) (hP : ∀ it ∈ P, it.j = y → D it.j = none) : y ∈ Region.ready .any ops (doneL listed D P) := by
 have h := hy
 unfold readyAt at h
 cases ho : ops[y]? with
 | none => simp [ho] at h
 | some o =>
  simp only [ho, Bool.and_eq_true, Bool.not_eq_true'] at h
  refine mem_ready.2 ⟨?_, o, ho, fun e he hb => ?_⟩
  ·have key : ∀ {P : List PI}, (∀ it ∈ P, it.j = y → D it.j = none) → (doneL listed D P).getD y true = listed.getD y true := by
    intro P
    induction P with
    | nil => exact fun _ => rfl
    | cons it P ih =>
     intro hP
     have ih := ih fun x hx => hP x (List.mem_cons_of_mem _ hx)
     unfold doneL
     split
     ·rename_i b hb
      by_cases he : it.j = y
      ·rw [hP it List.mem_cons_self he] at hb; cases hb
      ·rw [getD_set_ne true he]; exact ih
     ·exact ih
   rw [key hP]; exact h.1
  ·have h2 := Array.all_eq_true_iff_forall_mem.1 h.2 e he
   simp only [hb, Bool.not_true, Bool.false_or] at h2
   exact doneL_mono h2
theorem pw_uniq {α : Type} {R : α → α → Prop} (hs : ∀ x y, R x y → R y x) : ∀ {l : List α}, l.Pairwise R → ∀ x ∈ l, ∀ y ∈ l, x = y ∨ R x y
 | [], _, x, hx, _, _ => by cases hx
 | z :: l, h, x, hx, y, hy => by
  rw [List.pairwise_cons] at h
  rcases List.mem_cons.1 hx with e1 | h1 <;> rcases List.mem_cons.1 hy with e2 | h2
  ·exact .inl (e1.trans e2.symm)
  ·exact .inr (e1 ▸ h.1 y h2)
  ·exact .inr (hs _ _ (e2 ▸ h.1 x h1))
  ·exact pw_uniq hs h.2 x h1 y h2
theorem setV_ne {l : Array Value} {i j : Nat} {v x : Value} (h : i ≠ j) : (l.setIfInBounds i v).getD j x = l.getD j x := by simp [Array.getD_eq_getD_getElem?, h]
def Fr (C : Cx) (w : World) (G : GH) (bs : Nat → Nat) (L : Locs) (R : Rows) (a : Act) (D : Nat → Option Nat) (P : List PI) : Prop :=
 ∀ it ∈ P, ∀ b, D it.j = some b → a.tmps.getD it.d undef = it.val b ∧ w.heap[b]? = some it.obj ∧ C.w0.heap.size ≤ b ∧ G b = none ∧ (∀ i, Acts L R i → bs i ≠ b) ∧ (∀ it' ∈ P, ∀ b', D it'.j = some b' → it'.j ≠ it.j → b' ≠ b)
def SatD (C : Cx) (env : Env) (L : Locs) (R : Rows) (Γ : Facts) (a : Act) (w : World) (D : Nat → Option Nat) (P : List PI) : Prop :=
 ∃ G bs, At C.fn.ntmps env bs a ∧ HInv C w G bs L R ∧ AllK C.M G Γ ∧ Fr C w G bs L R a D P
def TXP (C : Cx) (ops : Array Oper) (tl : List Nat) (s : List It) (S : World → Prop) (P : List PI) (fuel : Nat) (listed : Array Bool) (env : Env) (L : Locs) (R : Rows) (Γ : Facts) : Prop :=
 (∀ w w', Kp emp w w' → S w → S w') → POk C ops listed env P → ∀ D a w, SatD C env L R Γ a w D P → wpAnyT C.P ops (cont C s) S tl (fuel + left D P) (doneL listed D P) a w
theorem Fr.keep {C : Cx} {w w' : World} {G G' Hc : GH} {bs : Nat → Nat} {L L' : Locs} {R : Rows} {a : Act} {D : Nat → Option Nat} {P : List PI} {d : Nat} {v : Value} (h : Fr C w G bs L R a D P) (hb : Kp Hc w w') (hc : ∀ b, G b = none → (∀ i, Acts L R i → bs i ≠ b) → Hc b = none) (hG : ∀ b, G b = none → b < w.heap.size → (∀ i, Acts L R i → bs i ≠ b) → G' b = none) (hL : ∀ i, Acts L' R i → Acts L R i) (hd : ∀ it ∈ P, it.d ≠ d) : Fr C w' G' bs L' R (a.put (some d) v) D P := by
 intro it hit b hD
 obtain ⟨h1, h2, h3, h4, h5, h6⟩ := h it hit b hD
 have hlt : b < w.heap.size := (Array.getElem?_eq_some_iff.1 h2).1
 refine ⟨?_, ?_, h3, hG b h4 hlt h5, fun i hi => h5 i (hL i hi), h6⟩
 ·show (a.tmps.setIfInBounds d v).getD it.d undef = _
  rw [setV_ne (Ne.symm (hd it hit))]; exact h1
 ·rw [hb.block b hlt (hc b h4 h5)]; exact h2
theorem it_step {C : Cx} {ops : Array Oper} {listed : Array Bool} {env : Env} {L : Locs} {R : Rows} {Γ : Facts} {P : List PI} {it : PI} {D : Nat → Option Nat} {Q : Exit → Act → World → Prop} {a : Act} {w : World} (hP : POk C ops listed env P) (hit : it ∈ P) (hS : SatD C env L R Γ a w D P) :
  wpOp C.P ops Q it.j (fun a' w' => Kp emp w w' ∧ ∃ b, SatD C env L R Γ a' w' (upd D it.j b) P) a w := by
 obtain ⟨G, bs, hA, hI, hΓ, hF⟩ := hS
 obtain ⟨o, ho, hg, hd, hlt, hx⟩ := hP.ok it hit
 unfold wpOp
 simp only [ho]
 rw [if_pos (gd_sound (env := []) (bs := bs) ⟨hA.size, hA.dfr, fun _ _ h => by simp [look] at h⟩ hg)]
 refine .inl ?_
 unfold Oper.wp
 rw [hx a w bs ⟨hA.size, hA.dfr, fun d s h => hA.slot d s (hP.sub it hit d s h)⟩]
 simp only [Oper.upon, hd]
 have hk : Kp emp w (w.alloc it.obj) := (Kp.refl emp w).alloc _
 refine ⟨hk, w.heap.size, join (cut G emp) emp, bs, ⟨?_, hA.dfr, fun e x hex => ?_⟩, (hI.called (emp_le _) (fun _ _ h => by cases h) hk (emp_le _) (fun _ _ h => by cases h)).1, hΓ.mono (le_join_l (cut G emp) emp), ?_⟩
 ·show (a.tmps.setIfInBounds _ _).size = _
  rw [Array.size_setIfInBounds]; exact hA.size
 ·show (a.tmps.setIfInBounds it.d _).getD e undef = _
  have hne : it.d ≠ e := fun h => by subst h; rw [hP.free it hit] at hex; cases hex
  rw [setV_ne hne]; exact hA.slot e x hex
 ·have hGn : ∀ b, G b = none → join (cut G emp) emp b = none := fun b h => by unfold join; rw [cut_none' h]; rfl
  have hlt' : ∀ i, Acts L R i → bs i < w.heap.size := by
   intro i h
   rcases h with ⟨x, hx⟩ | ⟨r, hr, hc⟩
   ·exact (Array.getElem?_eq_some_iff.1 (hI.loc i x hx).1).1
   ·rcases (hI.row i r hr).2 with ⟨h0, _⟩ | ⟨_, _, _, _, _, _, cur, T, hh, _⟩
    ·exact absurd h0 hc
    ·exact (Array.getElem?_eq_some_iff.1 hh).1
  have hGs : G w.heap.size = none := by
   cases hg' : G w.heap.size with
   | none => rfl
   | some q => have := hI.le.lt hg'; omega
  intro x hx b hb
  by_cases hj : x.j = it.j
  ·have hxi : x = it := (pw_uniq (fun _ _ h => ⟨Ne.symm h.1, Ne.symm h.2⟩) hP.dis x hx it hit).resolve_right fun h => h.1 hj
   subst hxi
   have hb' : w.heap.size = b := by
    have : upd D x.j w.heap.size x.j = some w.heap.size := if_pos rfl
    rw [this] at hb; injection hb
   subst hb'
   refine ⟨?_, heap_alloc_new w _, hI.keep.size, hGn _ hGs, fun i hi => Nat.ne_of_lt (hlt' i hi), fun y hy b' hb' hne => ?_⟩
   ·show (a.tmps.setIfInBounds x.d _).getD x.d undef = _
    rw [Array.getD_eq_getD_getElem?]
    simp [hA.size, hlt]
   ·have h2 : upd D x.j w.heap.size y.j = D y.j := if_neg hne
    rw [h2] at hb'
    have := (Array.getElem?_eq_some_iff.1 (hF y hy b' hb').2.1).1
    omega
  ·have h2 : upd D it.j w.heap.size x.j = D x.j := if_neg hj
   rw [h2] at hb
   obtain ⟨q1, q2, q3, q4, q5, q6⟩ := hF x hx b hb
   have hlt2 : b < w.heap.size := (Array.getElem?_eq_some_iff.1 q2).1
   have hxd : it.d ≠ x.d := fun h => (pw_uniq (fun _ _ h => ⟨Ne.symm h.1, Ne.symm h.2⟩) hP.dis x hx it hit).elim (fun e => hj (by rw [e])) (fun e => e.2 h.symm)
   refine ⟨?_, by rw [hk.block b hlt2 rfl]; exact q2, q3, hGn _ q4, q5, fun y hy b' hb' hne => ?_⟩
   ·show (a.tmps.setIfInBounds it.d _).getD x.d undef = _
    rw [setV_ne hxd]; exact q1
   ·by_cases hyj : y.j = it.j
    ·have : upd D it.j w.heap.size y.j = some w.heap.size := if_pos hyj
     rw [this] at hb'
     injection hb' with hb'
     omega
    ·have h3 : upd D it.j w.heap.size y.j = D y.j := if_neg hyj
     rw [h3] at hb'
     exact q6 y hy b' hb' hne
theorem TXP.core {C : Cx} {ops : Array Oper} {tl : List Nat} {s : List It} {S : World → Prop} {P : List PI} {fuel y : Nat} {listed : Array Bool} {env : Env} {L : Locs} {R : Rows} {Γ : Facts} (hS : ∀ w w', Kp emp w w' → S w → S w') (hP : POk C ops listed env P) (ok : (Nat → Option Nat) → Prop)
  (hn : ∀ D, ok D → ∀ i ∈ Region.ready .any ops (doneL listed D P), i = y ∨ ∃ it ∈ P, it.j = i ∧ D it.j = none) (hne : ∀ D, ok D → Region.ready .any ops (doneL listed D P) ≠ [])
  (stop : ∀ D a w, ¬ ok D → SatD C env L R Γ a w D P → wpAnyT C.P ops (cont C s) S tl (fuel + left D P) (doneL listed D P) a w)
  (step : ∀ D a w, ok D → SatD C env L R Γ a w D P → y ∈ Region.ready .any ops (doneL listed D P) → ∃ f, fuel + left D P = f + 1 ∧ wpOp C.P ops (cont C s) y (fun a' w' => (tl.contains y = false → S w → S w') ∧ wpAnyT C.P ops (cont C s) S tl f ((doneL listed D P).setIfInBounds y true) a' w') a w) :
  ∀ n D a w, left D P = n → SatD C env L R Γ a w D P → wpAnyT C.P ops (cont C s) S tl (fuel + left D P) (doneL listed D P) a w := by
 intro n
 induction n with
 | zero =>
  intro D a w hn0 hSat
  by_cases hok : ok D
  ·have hnone : ∀ it ∈ P, D it.j ≠ none := fun it hit h => by have := (doneL_upd (listed := listed) (b := 0) h hP.dis hit).2; omega
   have hy : y ∈ Region.ready .any ops (doneL listed D P) := by
    cases hr : Region.ready .any ops (doneL listed D P) with
    | nil => exact absurd hr (hne D hok)
    | cons i r =>
     rcases hn D hok i (by rw [hr]; exact List.mem_cons_self) with rfl | ⟨it, hit, _, h⟩
     ·exact List.mem_cons_self
     ·exact absurd h (hnone it hit)
   obtain ⟨f, hf, hs⟩ := step D a w hok hSat hy
   rw [hf]
   refine ⟨fun h => absurd h (hne D hok), fun i hi => ?_⟩
   rcases hn D hok i hi with rfl | ⟨it, hit, _, h⟩
   ·exact hs
   ·exact absurd h (hnone it hit)
  ·exact stop D a w hok hSat
 | succ n ih =>
  intro D a w hn0 hSat
  by_cases hok : ok D
  ·have hf : fuel + left D P = (fuel + n) + 1 := by omega
   rw [hf]
   refine ⟨fun h => absurd h (hne D hok), fun i hi => ?_⟩
   rcases hn D hok i hi with rfl | ⟨it, hit, rfl, h⟩
   ·obtain ⟨f, hf', hs⟩ := step D a w hok hSat hi
    have : f = fuel + n := by omega
    subst this
    exact hs
   ·refine wpOp_mono (fun a' w' ⟨hk, b, hSat'⟩ => ⟨fun _ h => hS _ _ hk h, ?_⟩) (it_step (Q := cont C s) hP hit hSat)
    obtain ⟨e1, e2⟩ := doneL_upd (listed := listed) (b := b) h hP.dis hit
    have hl : left (upd D it.j b) P = n := by omega
    have := ih (upd D it.j b) a' w' hl hSat'
    rw [e1, hl] at this
    exact this
  ·exact stop D a w hok hSat
def envNo (d : Nat) (e : Env) : Bool := e.all fun x => !Nat.beq x.1 d
def apartB (P : List PI) (j d : Nat) : Bool := P.all fun it => !Nat.beq it.j j && !Nat.beq it.d d && envNo d it.env
theorem apartB_spec {P : List PI} {j d : Nat} (h : apartB P j d = true) : ∀ it ∈ P, it.j ≠ j ∧ it.d ≠ d := fun it hit => by
 have := List.all_eq_true.1 h it hit
 simp only [Bool.and_eq_true, Bool.not_eq_true'] at this
 exact ⟨Nat.ne_of_beq_eq_false this.1.1, Nat.ne_of_beq_eq_false this.1.2⟩
theorem apartB_env {P : List PI} {j d : Nat} (h : apartB P j d = true) : ∀ it ∈ P, envNo d it.env = true := fun it hit => by
 have := List.all_eq_true.1 h it hit
 simp only [Bool.and_eq_true, Bool.not_eq_true'] at this
 exact this.2
theorem envNo_sub {d : Nat} {e env : Env} {sv : SV} (h : envNo d e = true) (hs : Sub e env) : Sub e ((d, sv) :: env) := fun i x hx => by
 have h1 := List.all_eq_true.1 h (i, x) (look_mem hx)
 simp only [Bool.not_eq_true'] at h1
 rw [look_cons, if_neg (Ne.symm (Nat.ne_of_beq_eq_false h1))]
 exact hs i x hx
theorem TXP.pend {C : Cx} {ops : Array Oper} {tl : List Nat} {s : List It} {S : World → Prop} {P : List PI} {fuel : Nat} {listed : Array Bool} {env : Env} {L : Locs} {R : Rows} {Γ : Facts} (it : PI) (hok : PIok C ops it) (hsb : Sub it.env env) (hf : look env it.d = none) (hr : readyAt ops listed it.j = true) (hd : apartB P it.j it.d = true)
  (k : TXP C ops tl s S (it :: P) fuel listed env L R Γ) : TXP C ops tl s S P (fuel + 1) listed env L R Γ := by
 intro hS hP D a w ⟨G, bs, hA, hI, hΓ, hF⟩
 have hdd := apartB_spec hd
 let D' : Nat → Option Nat := fun i => if i = it.j then none else D i
 have hD0 : D' it.j = none := if_pos rfl
 have hD1 : ∀ x ∈ P, D' x.j = D x.j := fun x hx => if_neg (hdd x hx).1
 obtain ⟨e1, e2⟩ := doneL_congr (listed := listed) hD1
 have key := k hS ⟨fun x hx => (List.mem_cons.1 hx).elim (fun e => e ▸ hok) (hP.ok x), fun x hx => (List.mem_cons.1 hx).elim (fun e => e ▸ hf) (hP.free x), fun x hx => (List.mem_cons.1 hx).elim (fun e => e ▸ hsb) (hP.sub x), fun x hx => (List.mem_cons.1 hx).elim (fun e => e ▸ hr) (hP.rdy x), List.pairwise_cons.2 ⟨fun x hx => ⟨Ne.symm (hdd x hx).1, Ne.symm (hdd x hx).2⟩, hP.dis⟩⟩ D' a w ⟨G, bs, hA, hI, hΓ, fun x hx b hb => ?_⟩
 ·unfold doneL left at key
  rw [hD0] at key
  dsimp only at key
  rw [e1, e2] at key
  rw [show fuel + 1 + left D P = fuel + (left D P + 1) by omega]
  exact key
 ·rcases List.mem_cons.1 hx with e | hx
  ·subst e; rw [hD0] at hb; cases hb
  ·rw [hD1 x hx] at hb
   obtain ⟨q1, q2, q3, q4, q5, q6⟩ := hF x hx b hb
   refine ⟨q1, q2, q3, q4, q5, fun y hy b' hb' hne => ?_⟩
   rcases List.mem_cons.1 hy with e | hy
   ·subst e; rw [hD0] at hb'; cases hb'
   ·rw [hD1 y hy] at hb'; exact q6 y hy b' hb' hne
theorem readyAt_set {ops : Array Oper} {listed : Array Bool} {i j : Nat} (h : readyAt ops listed j = true) (hij : j ≠ i) : readyAt ops (listed.setIfInBounds i true) j = true := by
 unfold readyAt at h ⊢
 rw [getD_set_ne true (Ne.symm hij)]
 cases ho : ops[j]? with
 | none => simp [ho] at h
 | some o =>
  simp only [ho, Bool.and_eq_true] at h ⊢
  refine ⟨h.1, Array.all_eq_true_iff_forall_mem.2 fun e he => ?_⟩
  have := Array.all_eq_true_iff_forall_mem.1 h.2 e he
  simp only [Bool.or_eq_true] at this ⊢
  exact this.imp id getD_set_true
theorem ready_doneL {ops : Array Oper} {listed : Array Bool} {D : Nat → Option Nat} {P : List PI} {i : Nat} (h : i ∈ Region.ready .any ops listed) (hP : ∀ it ∈ P, it.j ≠ i) : i ∈ Region.ready .any ops (doneL listed D P) := by
 obtain ⟨hun, o, ho, hall⟩ := mem_ready.1 h
 exact mem_ready.2 ⟨by rw [doneL_ne true hP]; exact hun, o, ho, fun e he hb => doneL_mono (hall e he hb)⟩
theorem POk.step {C : Cx} {ops : Array Oper} {listed : Array Bool} {env : Env} {P : List PI} {i d : Nat} {sv : SV} (hP : POk C ops listed env P) (ha : apartB P i d = true) : POk C ops (listed.setIfInBounds i true) ((d, sv) :: env) P :=
 have h := apartB_spec ha
 ⟨hP.ok, fun x hx => by rw [look_cons, if_neg (Ne.symm (h x hx).2)]; exact hP.free x hx, fun x hx => envNo_sub (apartB_env ha x hx) (hP.sub x hx), fun x hx => readyAt_set (hP.rdy x hx) (h x hx).1, hP.dis⟩
theorem TXP.takeP {C : Cx} {ops : Array Oper} {tl : List Nat} {s : List It} {S : World → Prop} {P : List PI} {fuel : Nat} {listed : Array Bool} {env : Env} {L : Locs} {R : Rows} {Γ : Facts} {i d : Nat} {o : Oper} {sv : SV} {b : Bool} (hb : mayP ops listed i = true) (hi : ops[i]? = some o) (hd : o.dst = some d) (hlt : d < C.fn.ntmps) (ha : apartB P i d = true)
  (hg : gd ops env o = some b) (hl : b = true → ∀ a w bs, At C.fn.ntmps env bs a → (execOp a.eval o).run C.P w = .ok (.value (conc bs sv)) w) (hu : b = false → sv = .v undef)
  (k : TXP C ops tl s S P fuel (listed.setIfInBounds i true) ((d, sv) :: env) L R Γ) : TXP C ops tl s S P (fuel + 1) listed env L R Γ := by
 intro hS hP D a w ⟨G, bs, hA, hI, hΓ, hF⟩
 have hap := apartB_spec ha
 simp only [mayP, Bool.and_eq_true] at hb
 obtain ⟨⟨h1, h4⟩, h5⟩ := hb
 have hr : i ∈ Region.ready .any ops (doneL listed D P) := ready_doneL (by simpa using h5) fun it hit => (hap it hit).1
 rw [show fuel + 1 + left D P = (fuel + left D P) + 1 by omega]
 refine wpAnyT_firstP hi (Region.noSelect_spec h1) (fun c a w h => (cont_panic C s c _ _ h).elim) (fuel + left D P) (doneL listed D P) a w (fun j oj hj hne hun hno => Region.free_spec hi h4 j oj hj hne (doneL_un hun).1 hno) hr (v := conc bs sv) ?_ ?_
 ·cases b with
  | true => exact .inl ⟨gd_sound hA hg, fun w' _ => hl rfl a w' bs hA⟩
  | false => exact .inr ⟨gd_sound hA hg, by rw [hu rfl]; rfl⟩
 ·rw [hd, ← doneL_set fun it hit => (hap it hit).1]
  refine k hS (hP.step ha) D _ _ ⟨G, bs, hA.put hlt sv, hI, hΓ, fun x hx b hb => ?_⟩
  obtain ⟨q1, q⟩ := hF x hx b hb
  exact ⟨by rw [← q1]; exact setV_ne (Ne.symm (hap x hx).2), q⟩
def apartL (ops : Array Oper) (P : List PI) (is : List Nat) : Bool := is.all fun i => match getO ops.toList i with | some o => (match o.dst with | some d => apartB P i d | none => false) | none => false
theorem TXP.takes {C : Cx} {ops : Array Oper} {tl : List Nat} {s : List It} {S : World → Prop} {P : List PI} {L : Locs} {R : Rows} {Γ : Facts} (ht : TabOk C.P C.tt) : ∀ (is : List Nat) {fuel : Nat} {listed : Array Bool} {env env' : Env}, apartL ops P is = true → takesB ops tl listed (is.map fun i => (i, true)) = true →
  takesE C.tt C.fn.ntmps ops [] env (is.map fun i => (i, true)) = some env' → TXP C ops tl s S P fuel (setAll listed (is.map fun i => (i, true))) env' L R Γ → TXP C ops tl s S P (fuel + is.length) listed env L R Γ
 | [], _, _, _, _, _, _, h, k => by simp [takesE] at h; subst h; exact k
 | i :: r, fuel, listed, env, env', ha, hb, h, k => by
  simp only [apartL, List.all_cons, Bool.and_eq_true] at ha
  simp only [List.map_cons, takesB, Bool.and_eq_true] at hb
  simp only [List.map_cons, takesE] at h
  split at h
  ·rename_i o ho
   simp only [ho] at ha
   rw [getO_eq] at ho
   have ho' : ops[i]? = some o := by simpa using ho
   split at h
   ·rename_i d hd
    simp only [hd] at ha
    split at h
    ·rename_i hlt
     have hlt' : d < C.fn.ntmps := by simpa [Nat.blt_eq] using hlt
     split at h
     ·rename_i hg
      split at h
      ·rename_i sv hsv
       exact TXP.takeP hb.1 ho' hd hlt' ha.1 hg (fun _ a w bs' hA => pureS_any ht w hA hsv) (fun h => by cases h) (TXP.takes ht r ha.2 hb.2 h k)
      ·cases h
     ·rename_i hg
      exact TXP.takeP hb.1 ho' hd hlt' ha.1 hg (fun h => by cases h) (fun _ => rfl) (TXP.takes ht r ha.2 hb.2 h k)
     ·cases h
    ·cases h
   ·cases h
  ·cases h
theorem TXP.seeP {C : Cx} {ops : Array Oper} {tl : List Nat} {s : List It} {S : World → Prop} {P : List PI} {fuel : Nat} {listed : Array Bool} {env : Env} {L : Locs} {R : Rows} {Γ : Facts} {d : Nat} {o : Oper} {sv : SV} (i : Nat) (hb : mayP ops listed i = true) (hi : getO ops.toList i = some o) (hg : gd ops env o = some true) (hd : o.dst = some d) (hlt : Nat.blt d C.fn.ntmps = true) (ha : apartB P i d = true)
  (hl : LooksP C env o sv) (k : TXP C ops tl s S P fuel (listed.setIfInBounds i true) ((d, sv) :: env) L R Γ) : TXP C ops tl s S P (fuel + 1) listed env L R Γ := by
 rw [getO_eq] at hi
 exact TXP.takeP hb (by simpa using hi) hd (by simpa [Nat.blt_eq] using hlt) ha hg (fun _ a w bs hA => hl a w bs hA) (fun h => by cases h) k
theorem TXP.next {C : Cx} {ops : Array Oper} {tl : List Nat} {s : List It} {S : World → Prop} {P : List PI} {fuel i d : Nat} {listed : Array Bool} {env : Env} {L : Locs} {R : Rows} {Γ : Facts} (hn : nextB ops listed P P i = true) (hr : readyAt ops listed i = true) (ha : apartB P i d = true)
  (step : (∀ w w', Kp emp w w' → S w → S w') → POk C ops listed env P → ∀ D a w, SatD C env L R Γ a w D P → wpOp C.P ops (cont C s) i (fun a' w' => (tl.contains i = false → S w → S w') ∧ wpAnyT C.P ops (cont C s) S tl (fuel + left D P) (doneL (listed.setIfInBounds i true) D P) a' w') a w) : TXP C ops tl s S P (fuel + 1) listed env L R Γ := by
 intro hS hP D a w hSat
 have hap := apartB_spec ha
 have hin : ∀ D, i ∈ Region.ready .any ops (doneL listed D P) := fun D => ready_mem hr fun it hit h => absurd h (hap it hit).1
 refine TXP.core (y := i) hS hP (fun _ => True) (fun D _ j hj => next_spec hn rfl hj) (fun D _ h => by have := hin D; rw [h] at this; cases this) (fun _ _ _ h => absurd trivial h) (fun D a w _ hSat _ => ⟨fuel + left D P, by omega, ?_⟩) _ D a w rfl hSat
 have := step hS hP D a w hSat
 rw [doneL_set fun it hit => (hap it hit).1] at this
 exact this
theorem TXP.callG {C : Cx} {ops : Array Oper} {tl : List Nat} {st : List It} {S : World → Prop} {P : List PI} {fuel : Nat} {listed : Array Bool} {env : Env} {L : Locs} {R : Rows} {Γ : Facts} {o : Oper} (i : Nat) {f : Operand} {args : List Operand} {ats : Array TypeId} {g : FuncId} {sf : SV} {svs : List SV} {caps : (Nat → Nat) → List Value}
  {Ψ : World → Value → World → Prop} {d : Nat} (hn : nextB ops listed P P i = true) (hr : readyAt ops listed i = true) (ha : apartB P i d = true) (hi : getO ops.toList i = some o) (hg : gd ops env o = some true) (hd : o.dst = some d) (ho : o.op = .call { callee := .value f, args := args.toArray, argTypes := ats })
  (hf : ev env f = some sf) (hsf : ∀ bs, conc bs sf = .func (.func g) #[] (caps bs).toArray) (hargs : evs env args = some svs)
  (hc : ∀ w G bs, HInv C w G bs L R → AllK C.M (hp w) Γ → Does C.P g (svs.map (conc bs) ++ caps bs).toArray w emp (Ψ w))
  (k : ∀ a w w' G bs v D, (∀ w w', Kp emp w w' → S w → S w') → POk C ops listed env P → At C.fn.ntmps env bs a → HInv C w G bs L R → AllK C.M G Γ → Fr C w G bs L R a D P → Kp emp w w' → Ψ w v w' → wpAnyT C.P ops (cont C st) S tl (fuel + left D P) (doneL (listed.setIfInBounds i true) D P) (a.put (some d) v) w') : TXP C ops tl st S P (fuel + 1) listed env L R Γ := by
 refine TXP.next (d := d) hn hr ha fun hS hP D a w ⟨G, bs, hA, hI, hΓ, hF⟩ => ?_
 rw [getO_eq] at hi
 have hi' : ops[i]? = some o := by simpa using hi
 unfold wpOp
 simp only [hi']
 rw [if_pos (gd_sound hA hg)]
 refine .inl ?_
 unfold Oper.wp
 obtain ⟨he, hcalls⟩ := hc w G bs hI (hΓ.mono hI.le)
 rw [exec_call he ho (by rw [ev_conc hA hf, hsf]) (evs_sound hA args svs hargs)]
 simp only [Oper.upon]
 refine hcalls.mono fun e w' ⟨v, hv, hb, hψ⟩ => ?_
 subst hv
 rw [hd]
 exact ⟨fun _ hs => hS _ _ hb hs, k a w w' G bs v D hS hP hA hI hΓ hF hb hψ⟩
theorem join_none {G h : GH} {b : Nat} (h1 : G b = none) (h2 : h b = none) : join G h b = none := by unfold join; rw [h1]; exact h2
theorem TXP.callV {C : Cx} {ops : Array Oper} {tl : List Nat} {st : List It} {S : World → Prop} {P : List PI} {fuel : Nat} {listed : Array Bool} {env : Env} {L : Locs} {R : Rows} {Γ : Facts} {o : Oper} (i : Nat) {f : Operand} {args : List Operand} {ats : Array TypeId} {g : FuncId} {sf : SV} {svs : List SV} {caps : (Nat → Nat) → List Value}
  {c : Value} {Q : Prop} {d : Nat} (hn : nextB ops listed P P i = true) (hr : readyAt ops listed i = true) (hi : getO ops.toList i = some o) (hg : gd ops env o = some true) (hd : o.dst = some d) (ha : apartB P i d = true) (hlt : Nat.blt d C.fn.ntmps = true) (ho : o.op = .call { callee := .value f, args := args.toArray, argTypes := ats })
  (hf : ev env f = some sf) (hsf : ∀ bs, conc bs sf = .func (.func g) #[] (caps bs).toArray) (hargs : evs env args = some svs)
  (hc : ∀ w G bs, HInv C w G bs L R → AllK C.M (hp w) Γ → Does C.P g (svs.map (conc bs) ++ caps bs).toArray w emp fun v _ => v = c ∧ Q)
  (k : Q → TXP C ops tl st S P fuel (listed.setIfInBounds i true) ((d, .v c) :: env) L R Γ) : TXP C ops tl st S P (fuel + 1) listed env L R Γ :=
 TXP.callG (Ψ := fun _ v _ => v = c ∧ Q) i hn hr ha hi hg hd ho hf hsf hargs hc fun a w w' G bs v D hS hP hA hI hΓ hF hb ⟨hv, hq⟩ => by
  subst hv
  have hI' := (hI.called (emp_le _) (fun _ _ h => by cases h) hb (emp_le _) (fun _ _ h => by cases h)).1
  exact k hq hS (hP.step ha) D _ _ ⟨_, bs, hA.put (by simpa [Nat.blt_eq] using hlt) (.v v), hI', hΓ.mono (le_join_l (cut G emp) emp), hF.keep hb (fun _ _ _ => rfl) (fun b h _ _ => join_none (cut_none' h) rfl) (fun _ h => h) fun it hit => (apartB_spec ha it hit).2⟩
theorem TXP.callF {C : Cx} {ops : Array Oper} {tl : List Nat} {st : List It} {S : World → Prop} {P : List PI} {fuel : Nat} {listed : Array Bool} {env : Env} {L : Locs} {R : Rows} {Γ : Facts} {o : Oper} (i m : Nat) {f : Operand} {args : List Operand} {ats : Array TypeId} {g : FuncId} {sf : SV} {svs : List SV} {caps : (Nat → Nat) → List Value}
    {ι : Type} {val val' : ι → Value} {gs ds : ι → List MF} {Q : Prop} {d : Nat} {Γ' : ι → Facts} (hds : ∀ i h, Sep h (gs i) → All h (ds i)) (hdk : ∀ i, ∀ f ∈ ds i, f.k = .der) (hn : nextB ops listed P P i = true) (hr : readyAt ops listed i = true) (hi : getO ops.toList i = some o) (hg : gd ops env o = some true) (hd : o.dst = some d) (ha : apartB P i d = true) (hlt : Nat.blt d C.fn.ntmps = true) (ho : o.op = .call { callee := .value f, args := args.toArray, argTypes := ats })
    (hf : ev env f = some sf) (hsf : ∀ bs, conc bs sf = .func (.func g) #[] (caps bs).toArray) (hargs : evs env args = some svs)
    (hc : ∀ w G bs, HInv C w G bs L R → AllK C.M (hp w) Γ → Does C.P g (svs.map (conc bs) ++ caps bs).toArray w emp (Post w emp val gs Q))
    (hv : ∀ i, normV (val i) = some (val' i)) (hΓ' : ∀ i, addF m (ds i ++ gs i) Γ = some (Γ' i))
    (k : ∀ j, Q → TXP C ops tl st S P fuel (listed.setIfInBounds i true) ((d, .v (val' j)) :: env) L R (Γ' j)) : TXP C ops tl st S P (fuel + 1) listed env L R Γ :=
  TXP.callG (Ψ := fun w v w' => Post w emp val gs Q v w') i hn hr ha hi hg hd ho hf hsf hargs hc fun a w w' G bs v D hS hP hA hI hΓ hF hb hv' => by
    obtain ⟨j, h, rfl, hq, hle1, hdom, hs⟩ := hv'
    rw [← normV_eq (hv j)]
    obtain ⟨hI', hdj⟩ := hI.called (emp_le _) (fun _ _ h => by cases h) hb hle1 hdom
    refine k j hq hS (hP.step ha) D _ _ ⟨_, bs, hA.put (by simpa [Nat.blt_eq] using hlt) (.v _), hI', hΓ.after hdj (fun b o hb' => .inl ((hdom b o hb').elim (Nat.le_trans hI.keep.size) (fun h => absurd rfl h))) hs (hdk j) (hds j h hs) (hΓ' j), hF.keep hb (fun _ _ _ => rfl) (fun b h1 h2 _ => join_none (cut_none' h1) ?_) (fun _ h => h) fun it hit => (apartB_spec ha it hit).2⟩
    cases hx : h b with
    | none => rfl
    | some q => rcases hdom b q hx with h3 | h3
                · omega
                · exact absurd rfl h3
theorem cur_post {C : Cx} {w w' : World} {G : GH} {bs : Nat → Nat} {L : Locs} {R : Rows} {Γ : Facts} {T : Nat} {cs : List Value} {ι : Type} {val val' : ι → Value} {cs' : ι → List Value} {gs ds : ι → List MF} {Q : Prop} {Γ' : ι → Facts} {v : Value} (n : Nat) (hI : HInv C w G bs L R) (hΓ : AllK C.M G Γ) (hl : look L 999 = some ⟨T, cs⟩) (hds : ∀ i h, Sep h (gs i) → All h (ds i)) (hdk : ∀ i, ∀ f ∈ ds i, f.k = .der)
    (hv : ∀ i, normV (val i) = some (val' i)) (hΓ' : ∀ i, addF n (ds i ++ gs i) Γ = some (Γ' i)) (hb : Kp (sgl (bs 999) (lobj ⟨T, cs⟩)) w w') (hψ : Post w (sgl (bs 999) (lobj ⟨T, cs⟩)) val (fun i => MF.bx (bs 999) T (cs' i) :: gs i) Q v w') :
    ∃ j G2, Q ∧ v = val' j ∧ HInv C w' G2 bs (setL L 999 (cs' j)) R ∧ AllK C.M G2 (Γ' j) ∧ ∀ b, G b = none → b < w.heap.size → bs 999 ≠ b → G2 b = none := by
  obtain ⟨h1, h2, h3⟩ := hI.loc 999 _ hl
  obtain ⟨j, h, rfl, hq, hle, hdom, ha, hr, a1, a2, a3, a4, a5⟩ := hψ
  have a4' : ha (bs 999) = some (lobj ⟨T, cs' j⟩) := a4
  obtain ⟨hI', hdj⟩ := (hI.drop hl).called (Hc := sgl (bs 999) (lobj ⟨T, cs⟩)) (le_join_r (sgl_dj h3).symm) (fun b q hx => by
    by_cases hbb : b = bs 999
    · subst hbb; exact h2
    · rw [sgl_ne _ hbb] at hx; cases hx) hb hle hdom
  have hG1 : Le G (cut (join G (sgl (bs 999) (lobj ⟨T, cs⟩))) (sgl (bs 999) (lobj ⟨T, cs⟩))) := le_cut (le_join_l _ _) (sgl_dj h3).symm
  have hlab : h (bs 999) = some (lobj ⟨T, cs' j⟩) := a1 _ _ a4'
  have hG2 : join (cut (join G (sgl (bs 999) (lobj ⟨T, cs⟩))) (sgl (bs 999) (lobj ⟨T, cs⟩))) h (bs 999) = some (lobj ⟨T, cs' j⟩) := le_join_r hdj.symm _ _ hlab
  have hI2 := hI'.take (i := 999) (l := ⟨T, cs' j⟩) (L' := setL L 999 (cs' j)) (fun x => by
    rw [look_setL, look_delL]
    by_cases hij : 999 = x
    · subst hij; simp [hl]
    · simp [hij]) (fun r hr' => hI.dis 999 _ r hl hr') hG2 h2
  have hdr : Dj hr G := hdj.mono a2 hG1
  have hΓ2 := hΓ.after (h := hr) (n := n) (ds := ds j) hdr (fun b q hx => by
    rcases hdom b q (a2 b q hx) with h4 | h4
    · exact .inl (Nat.le_trans hI.keep.size h4)
    · by_cases hbb : b = bs 999
      · subst hbb; exact h2
      · exact absurd (sgl_ne _ hbb) h4) a5 (hdk j) (hds j hr a5) (hΓ' j)
  refine ⟨j, _, hq, (normV_eq (hv j)).symm, hI2, hΓ2.mono (join_le ?_ ?_), fun b hgb hlt hne => ?_⟩
  · exact le_cut (hG1.trans (le_join_l _ _)) (sgl_dj h3).symm
  · refine le_cut (a2.trans (le_join_r hdj.symm)) (sgl_dj ?_).symm
    cases hx : hr (bs 999) with
    | none => rfl
    | some q => rcases a3 (bs 999) with h5 | h5
                · rw [a4'] at h5; cases h5
                · rw [hx] at h5; cases h5
  · refine cut_none' (join_none (cut_none' (join_none hgb (sgl_ne _ (Ne.symm hne)))) ?_)
    cases hx : h b with
    | none => rfl
    | some q => rcases hdom b q hx with h4 | h4
                · omega
                · exact absurd (sgl_ne _ (Ne.symm hne)) h4
theorem TXP.callP {C : Cx} {ops : Array Oper} {tl : List Nat} {st : List It} {S : World → Prop} {P : List PI} {fuel : Nat} {listed : Array Bool} {env : Env} {L : Locs} {R : Rows} {Γ : Facts} {o : Oper} (hcur : CurK C S) (i : Nat) {f : Operand} {args : List Operand} {ats : Array TypeId} {g : FuncId} {sf : SV} {svs : List SV} {caps : (Nat → Nat) → List Value} {T : Nat} {cs : List Value}
  {ι : Type} {val val' : ι → Value} {cs' : ι → List Value} {gs ds : ι → List MF} {Q : Prop} {d : Nat} {Γ' : ι → Facts} (n : Nat) (hpin : ∃ b, C.pin = some b) (hl : look L 999 = some ⟨T, cs⟩) (hds : ∀ i h, Sep h (gs i) → All h (ds i)) (hdk : ∀ i, ∀ f ∈ ds i, f.k = .der) (hn : nextB ops listed P P i = true) (hr : readyAt ops listed i = true) (hi : getO ops.toList i = some o) (hg : gd ops env o = some true) (hd : o.dst = some d) (ha : apartB P i d = true) (hlt : Nat.blt d C.fn.ntmps = true) (ho : o.op = .call { callee := .value f, args := args.toArray, argTypes := ats })
  (hf : ev env f = some sf) (hsf : ∀ bs, conc bs sf = .func (.func g) #[] (caps bs).toArray) (hargs : evs env args = some svs)
  (hc : ∀ w G bs H, HInv C w G bs L R → Le H (hp w) → Sep H [MF.bx (bs 999) T cs] → AllK C.M (cut (hp w) H) Γ → Does C.P g (svs.map (conc bs) ++ caps bs).toArray w H (Post w H val (fun i => MF.bx (bs 999) T (cs' i) :: gs i) Q))
  (hv : ∀ i, normV (val i) = some (val' i)) (hΓ' : ∀ i, addF n (ds i ++ gs i) Γ = some (Γ' i))
  (k : ∀ j, Q → TXP C ops tl st S P fuel (listed.setIfInBounds i true) ((d, .v (val' j)) :: env) (setL L 999 (cs' j)) R (Γ' j)) : TXP C ops tl st S P (fuel + 1) listed env L R Γ := by
 refine TXP.next (d := d) hn hr ha fun hS hP D a w ⟨G, bs, hA, hI, hΓ, hF⟩ => ?_
 rw [getO_eq] at hi
 have hi' : ops[i]? = some o := by simpa using hi
 unfold wpOp
 simp only [hi']
 rw [if_pos (gd_sound hA hg)]
 refine .inl ?_
 unfold Oper.wp
 obtain ⟨h1, h2, h3⟩ := hI.loc 999 _ hl
 have hGH : Le G (cut (hp w) (sgl (bs 999) (lobj ⟨T, cs⟩))) := le_cut hI.le (sgl_dj h3).symm
 obtain ⟨he, hcalls⟩ := hc w G bs (sgl (bs 999) (lobj ⟨T, cs⟩)) hI (sgl_le h1) ⟨_, emp, Le.refl _, emp_le _, (emp_dj _).symm, sgl_self _ _, trivial⟩ (hΓ.mono hGH)
 rw [exec_call he ho (by rw [ev_conc hA hf, hsf]) (evs_sound hA args svs hargs)]
 simp only [Oper.upon]
 refine hcalls.mono fun e w' ⟨v, hve, hb, hψ⟩ => ?_
 subst hve
 rw [hd]
 refine ⟨fun _ hs => ?_, ?_⟩
 ·obtain ⟨b, hpb⟩ := hpin
  have := hI.pin b hpb
  subst this
  exact hcur _ _ _ _ hpb h2 h1 hb hs
 obtain ⟨j, G2, hq, rfl, hI2, hΓ2, hGn⟩ := cur_post n hI hΓ hl hds hdk hv hΓ' hb hψ
 have hact : Acts L R 999 := .inl ⟨_, hl⟩
 refine k j hq hS (hP.step ha) D _ _ ⟨G2, bs, hA.put (by simpa [Nat.blt_eq] using hlt) (.v _), hI2, hΓ2, hF.keep hb (fun b hgb hx => sgl_ne _ (Ne.symm (hx 999 hact))) (fun b hgb hlt hx => hGn b hgb hlt (hx 999 hact)) (fun x hx => ?_) fun it hit => (apartB_spec ha it hit).2⟩
 rcases hx with ⟨y, hy⟩ | hx
 ·rw [look_setL] at hy
  by_cases h9 : 999 = x
  ·subst h9; exact hact
  ·rw [if_neg h9] at hy; exact .inl ⟨y, hy⟩
 ·exact .inr hx
def getP : List PI → Nat → Option PI
 | [], _ => none
 | it :: _, 0 => some it
 | _ :: P, k + 1 => getP P k
def rmP : List PI → Nat → List PI
 | [], _ => []
 | _ :: P, 0 => P
 | it :: P, k + 1 => it :: rmP P k
theorem rmP_mem {it x : PI} : ∀ {P : List PI} {k : Nat}, x ∈ rmP P k → x ∈ P
 | [], _, h => h
 | _ :: P, 0, h => List.mem_cons_of_mem _ h
 | y :: P, k + 1, h => (List.mem_cons.1 h).elim (fun e => e ▸ List.mem_cons_self) fun h => List.mem_cons_of_mem _ (rmP_mem (it := it) h)
theorem getP_mem {it : PI} : ∀ {P : List PI} {k : Nat}, getP P k = some it → it ∈ P
 | [], _, h => by cases h
 | _ :: P, 0, h => by cases h; exact List.mem_cons_self
 | y :: P, k + 1, h => List.mem_cons_of_mem _ (getP_mem h)
theorem rmP_pw {P : List PI} (h : P.Pairwise (fun x y => x.j ≠ y.j ∧ x.d ≠ y.d)) : ∀ {k : Nat} {it : PI}, getP P k = some it → (rmP P k).Pairwise (fun x y => x.j ≠ y.j ∧ x.d ≠ y.d) ∧ ∀ x ∈ rmP P k, x.j ≠ it.j ∧ x.d ≠ it.d := by
 induction P with
 | nil => exact fun h => by cases h
 | cons y P ih =>
  intro k it hk
  rw [List.pairwise_cons] at h
  cases k with
  | zero => cases hk; exact ⟨h.2, fun x hx => ⟨Ne.symm (h.1 x hx).1, Ne.symm (h.1 x hx).2⟩⟩
  | succ k =>
   obtain ⟨i1, i2⟩ := ih h.2 hk
   refine ⟨List.pairwise_cons.2 ⟨fun x hx => h.1 x (rmP_mem (it := it) hx), i1⟩, fun x hx => ?_⟩
   rcases List.mem_cons.1 hx with rfl | hx
   ·exact h.1 it (getP_mem hk)
   ·exact i2 x hx
theorem rmP_doneL {listed : Array Bool} {D : Nat → Option Nat} {it : PI} : ∀ {P : List PI} {k : Nat}, P.Pairwise (fun x y => x.j ≠ y.j ∧ x.d ≠ y.d) → getP P k = some it → (D it.j = none → doneL listed D P = doneL listed D (rmP P k)) ∧ (∀ b, D it.j = some b → doneL listed D P = doneL (listed.setIfInBounds it.j true) D (rmP P k) ∧ left D P = left D (rmP P k))
 | [], _, _, h => by cases h
 | y :: P, 0, hd, h => by
  cases h
  rw [List.pairwise_cons] at hd
  refine ⟨fun h => ?_, fun b h => ?_⟩
  ·show doneL listed D (_ :: P) = doneL listed D P
   conv => lhs; unfold doneL
   rw [h]
  ·show doneL listed D (_ :: P) = doneL _ D P ∧ left D (_ :: P) = left D P
   rw [doneL_set fun x hx => Ne.symm (hd.1 x hx).1]
   constructor
   ·conv => lhs; unfold doneL
    rw [h]
   ·conv => lhs; unfold left
    rw [h]
 | y :: P, k + 1, hd, h => by
  rw [List.pairwise_cons] at hd
  obtain ⟨i1, i2⟩ := rmP_doneL (listed := listed) (D := D) hd.2 (show getP P k = some it from h)
  refine ⟨fun h => ?_, fun b h => ?_⟩
  ·show doneL listed D (y :: P) = doneL listed D (y :: rmP P k)
   unfold doneL; rw [i1 h]
  ·obtain ⟨j1, j2⟩ := i2 b h
   show doneL listed D (y :: P) = doneL _ D (y :: rmP P k) ∧ left D (y :: P) = left D (y :: rmP P k)
   unfold doneL left; rw [j1, j2]; exact ⟨rfl, rfl⟩
def Stop (C : Cx) (ops : Array Oper) (tl : List Nat) (s : List It) (S : World → Prop) (P : List PI) (fuel : Nat) (listed : Array Bool) (env : Env) (L : Locs) (R : Rows) (Γ : Facts) (it : PI) (k : Nat) : Prop :=
 (∀ w w', Kp emp w w' → S w → S w') → POk C ops listed env P → ∀ D a w b, D it.j = some b → SatD C env L R Γ a w D P → wpAnyT C.P ops (cont C s) S tl (fuel + left D (rmP P k)) (doneL (listed.setIfInBounds it.j true) D (rmP P k)) a w
theorem rmP_left {D : Nat → Option Nat} {it : PI} (hD : D it.j = none) : ∀ {P : List PI} {k : Nat}, getP P k = some it → left D P = left D (rmP P k) + 1
 | [], _, h => by cases h
 | y :: P, 0, h => by
  cases h
  show left D (_ :: P) = left D P + 1
  conv => lhs; unfold left
  rw [hD]
 | y :: P, k + 1, h => by
  have ih := rmP_left hD (show getP P k = some it from h)
  show left D (y :: P) = left D (y :: rmP P k) + 1
  unfold left
  cases D y.j <;> dsimp only <;> omega
theorem TXP.split {C : Cx} {ops : Array Oper} {tl : List Nat} {s : List It} {S : World → Prop} {P : List PI} {fuel : Nat} {listed : Array Bool} {env : Env} {L : Locs} {R : Rows} {Γ : Facts} {it : PI} (k : Nat) (hk : getP P k = some it) (no : TXP C ops tl s S (rmP P k) (fuel + 1) listed env L R Γ)
  (stop : Stop C ops tl s S P fuel listed env L R Γ it k) : TXP C ops tl s S P fuel listed env L R Γ := by
 intro hS hP D a w hSat
 cases hb : D it.j with
 | none =>
  obtain ⟨G, bs, hA, hI, hΓ, hF⟩ := hSat
  have := no hS ⟨fun x hx => hP.ok x (rmP_mem (it := it) hx), fun x hx => hP.free x (rmP_mem (it := it) hx), fun x hx => hP.sub x (rmP_mem (it := it) hx), fun x hx => hP.rdy x (rmP_mem (it := it) hx), (rmP_pw hP.dis hk).1⟩ D a w ⟨G, bs, hA, hI, hΓ, fun x hx b hb => by
   obtain ⟨q1, q2, q3, q4, q5, q6⟩ := hF x (rmP_mem (it := it) hx) b hb
   exact ⟨q1, q2, q3, q4, q5, fun y hy => q6 y (rmP_mem (it := it) hy)⟩⟩
  rw [rmP_left hb hk, (rmP_doneL hP.dis hk).1 hb, show fuel + (left D (rmP P k) + 1) = fuel + 1 + left D (rmP P k) by omega]
  exact this
 | some b =>
  obtain ⟨e1, e2⟩ := (rmP_doneL (listed := listed) (D := D) hP.dis hk).2 b hb
  rw [e1, e2]
  exact stop hS hP D a w b hb hSat
def PI.loc (j d : Nat) (l : Loc) : PI := ⟨j, d, lobj l, fun b => .pointer (some ⟨b, 0, none⟩), []⟩
def PI.lit (j d c T : Nat) (cs : List Value) (env : Env) : PI := ⟨j, d, .cells cs.toArray T (0, 0), fun b => .slice (some ⟨b, 0, none⟩) c c, env⟩
theorem TXP.der {C : Cx} {ops : Array Oper} {tl : List Nat} {s : List It} {S : World → Prop} {P : List PI} {fuel : Nat} {listed : Array Bool} {env : Env} {L : Locs} {R : Rows} {Γ : Facts} (m : Nat) (f : MF) (hk : f.k = .der) (h : ∀ G, AllK C.M G Γ → f.p G)
  (k : TXP C ops tl s S P fuel listed env L R ((m, f) :: Γ)) : TXP C ops tl s S P fuel listed env L R Γ := fun hS hP D a w ⟨G, bs, hA, hI, hΓ, hF⟩ => k hS hP D a w ⟨G, bs, hA, hI, hΓ.der m f hk (h G hΓ), hF⟩
theorem TX.slot {C : Cx} {ops : Array Oper} {tl : List Nat} {s : List It} {S : World → Prop} {fuel : Nat} {listed : Array Bool} {env : Env} {L : Locs} {R : Rows} {Γ : Facts} (d : Nat) {x y : SV} (h : look env d = some x) (e : ∀ bs, conc bs x = conc bs y) (k : TX C ops tl s S fuel listed ((d, y) :: env) L R Γ) : TX C ops tl s S fuel listed env L R Γ := by
 intro hS a w ⟨G, bs, hA, hI, hΓ⟩
 refine k hS a w ⟨G, bs, ⟨hA.size, hA.dfr, fun i x' hx => ?_⟩, hI, hΓ⟩
 rw [look_cons] at hx
 split at hx
 ·rename_i hi; subst hi; simp at hx; subst hx; rw [← e bs]; exact hA.slot d x h
 ·exact hA.slot i x' hx
theorem TS.slot {C : Cx} {ops : Array Oper} {tl : List Nat} {s : List It} {S : World → Prop} {fuel : Nat} {listed : Array Bool} {env : Env} {L : Locs} {R : Rows} {Γ : Facts} {i : Nat} (d : Nat) {x y : SV} (h : look env d = some x) (e : ∀ bs, conc bs x = conc bs y) (k : TS C ops tl s S fuel listed ((d, y) :: env) L R Γ i) : TS C ops tl s S fuel listed env L R Γ i := by
 intro hS a w ⟨G, bs, hA, hI, hΓ⟩
 refine k hS a w ⟨G, bs, ⟨hA.size, hA.dfr, fun i x' hx => ?_⟩, hI, hΓ⟩
 rw [look_cons] at hx
 split at hx
 ·rename_i hi; subst hi; simp at hx; subst hx; rw [← e bs]; exact hA.slot d x h
 ·exact hA.slot i x' hx
theorem TS.idx {C : Cx} {ops : Array Oper} {tl : List Nat} {s : List It} {S : World → Prop} {fuel : Nat} {listed : Array Bool} {env : Env} {L : Locs} {R : Rows} {Γ : Facts} {o : Oper} {α : Type} [GoT α] {d : Nat} {x y : Operand} {T kk q c : Nat} {m : Int} {kd : Kd} {p : Option Addr} {l : List α} (i ℓ j : Nat) (ht : TabOk C.P C.tt)
  (hi : getO ops.toList i = some o) (hg : gd ops env o = some true) (hd : o.dst = some d) (hlt : Nat.blt d C.fn.ntmps = true) (ho : o.op = .indexAddr T x y)
  (hx : ev env x = some (.v (.slice p q c))) (hy : ev env y = some (.v (.int .i64 m))) (hk : elemO C.tt T = some kk) (hℓ : look Γ ℓ = some (MF.rs kd p c l)) (hq : q = l.length) (hm : m = (j : Int)) (hj : j < l.length)
  (k : ∀ ad, p = some ad → TX C ops tl s S fuel (listed.setIfInBounds i true) ((d, .e (some ad) j kk 0) :: env) L R Γ) : TS C ops tl s S fuel listed env L R Γ i :=
 TS.peek i hi hg hd hlt fun G hΓ => by
  obtain ⟨x', ad, rfl, _⟩ := RdSl.get (i := j) (hΓ.get ℓ hℓ : RdSl G p c l) (List.getElem?_eq_getElem hj)
  exact ⟨_, Γ, looks_idx ht ho hx hy hk hm (by omega), fun h => h, k ad rfl⟩
theorem TS.ldE {C : Cx} {ops : Array Oper} {tl : List Nat} {s : List It} {S : World → Prop} {fuel : Nat} {listed : Array Bool} {env : Env} {L : Locs} {R : Rows} {Γ : Facts} {o : Oper} {α : Type} [GoT α] {d : Nat} {x : Operand} {T c j off : Nat} {ti : TI} {ad : Addr} {kd : Kd} {l : List α} (i ℓ m : Nat) (a : α) {val : X α → Value} {Γ' : X α → Facts} (ht : TabOk C.P C.tt)
  (hi : getO ops.toList i = some o) (hg : gd ops env o = some true) (hd : o.dst = some d) (hlt : Nat.blt d C.fn.ntmps = true) (ho : o.op = .load T x)
  (hx : ev env x = some (.e (some ad) j (GoT.k α) off)) (hT : look C.tt T = some ti) (hℓ : look Γ ℓ = some (MF.rs kd (some ad) c l)) (ha : l[j]? = some a)
  (hv : ∀ x, asm ti (sh a x) off = some (val x)) (hf : ∀ x, addF m (fa .der a x) Γ = some (Γ' x))
  (k : ∀ x, TX C ops tl s S fuel (listed.setIfInBounds i true) ((d, .v (val x)) :: env) L R (Γ' x)) : TS C ops tl s S fuel listed env L R Γ i :=
 TS.peek i hi hg hd hlt fun G hΓ => by
  obtain ⟨x', ad', had, hfa, hc⟩ := RdSl.get (i := j) (hΓ.get ℓ hℓ : RdSl G (some ad) c l) ha
  simp at had; subst had
  exact ⟨_, Γ' x', looks_ldE ht ho hx hT hc (hv x'), fun h => AllK.ders (hf x') (fun f hf => GoT.fak f hf) hfa h, k x'⟩
end Go.Stp

namespace Go.Stp
open GoT (X k ok sh fa oa)
def MF.oz (fs : List MF) : MF := ⟨.lin, fun h => All h fs, fun hl k => k.mono hl⟩
theorem Post.ofZ {C : Cx} {w : World} {G : GH} {bs : Nat → Nat} {L : Locs} {R : Rows} {Γ Γ1 : Facts} {ι : Type} {val : ι → Value} {gs : ι → List MF} {Q : Prop} {v : Value} {fs zs : List MF} (ks : List Nat) (i : ι) (hI : HInv C w G bs L R) (hΓ : AllK C.M G Γ) (hk : giveK ks Γ = some (fs, Γ1)) (hv : v = val i) (hf : gs i = [MF.oz zs]) (hz : ∀ h, Sep h fs → All h zs) (hq : Q) : Post C.w0 C.H val gs Q v w := by
 obtain ⟨H, q1, q2, q3, q4⟩ := giveK_spec hk hΓ
 exact ⟨i, H, hv, hq, q1.trans hI.le, q2, by rw [hf]; exact one_sep (hz H q3)⟩
theorem all_app2 {h : GH} {a b : List MF} (h1 : All h a) (h2 : All h b) : All h (a ++ b) := fun f hf => (List.mem_append.1 hf).elim (h1 f) (h2 f)
theorem mem_read {h : GH} {xs : List Value} {l : List Member} {i : Nat} {a : Member} {x : X Member} (hO : RdL h xs l) (ha : l[i]? = some a) (hx : ∀ j u, (sh a x)[j]? = some u → xs[i * k Member + j]? = some u) : All h (fa .der a x) := by
 obtain ⟨x', h1, h2⟩ := hO.get ha
 have e : ∀ j u u', (sh a x)[j]? = some u → (sh a x')[j]? = some u' → u = u' := fun j u u' q1 q2 => by
  have := hx j u q1
  rw [h2 j u' q2] at this
  injection this with this
  exact this.symm
 obtain ⟨⟨p1, c1⟩, ⟨p2, c2⟩, ⟨p3, c3⟩⟩ := x
 obtain ⟨⟨p1', c1'⟩, ⟨p2', c2'⟩, ⟨p3', c3'⟩⟩ := x'
 have e1 := e 0 _ _ rfl rfl
 have e2 := e 1 _ _ rfl rfl
 have e3 := e 2 _ _ rfl rfl
 injection e1 with a1 _ a2
 injection e2 with b1 _ b2
 injection e3 with d1 _ d2
 subst a1 a2 b1 b2 d1 d2
 exact h1
end Go.Stp

