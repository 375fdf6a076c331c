/-
  What the proof of one law needs: rules of the program logic, functions as Lean functions, contracts. No condition but what each says. Written by a program (pack.py) out of my own texts.
-/
import Derived.Test.YtdimfabadjfkiaaKFnVecs6
namespace Go.Proofs.Ytdimfabadjfkiaa
open Go.Stp
set_option linter.unusedVariables false
set_option linter.unusedSimpArgs false
theorem f36 (w : World) (n : Nat) (hn : n + 4 ≤ 9) (H : GH) (hH : Le H (hp w)) (bc_ : Nat) (c_b : (List UInt8)) (K0 : Option Addr) (M0 : Nat) (N0 : RdSl (cut (hp w) H) K0 M0 c_b) (c_i : Int) (c_h : Int) (hown : Sep H [MF.bx bc_ 80 [.slice K0 ((c_b).length) M0, .int .i64 (c_i), .int .i64 (c_h)]]) (hokc_b : GoT.ok n c_b) (hokc_i : NN c_i) (hokc_h : GoT.ok n c_h) (o0_ : StateVector) (o1_ : Int) (o2_ : Int) (hres : spec_l27Draw c_b c_i c_h = (o0_, o1_, o2_)) :
  Does Try.prog 36 #[.pointer (some ⟨bc_, 0, none⟩)] w H (Post w H (fun x : GoT.X (StateVector) => .agg ⟨GoT.sh (o0_ : StateVector) x⟩) (fun x => MF.bx bc_ 80 [.slice K0 ((c_b).length) M0, .int .i64 (o1_), .int .i64 (o2_)] :: GoT.oa (o0_ : StateVector) x) (GoT.ok (n + 1) (o0_ : StateVector) ∧ NN (o1_) ∧ I64 (o2_))) := by
 have hbP := bd_pos n
 have hbS0 : bd (n + 1) = 4 * bd (n) := bd_succ (n := n) (by omega)
 have hbS1 : bd (n + 2) = 4 * bd (n + 1) := bd_succ (n := n + 1) (by omega)
 have hbS2 : bd (n + 3) = 4 * bd (n + 2) := bd_succ (n := n + 2) (by omega)
 have hbS3 : bd (n + 4) = 4 * bd (n + 3) := bd_succ (n := n + 3) (by omega)
 have hbB := bd_big (n := (n + 4)) (by omega)
 have hbM := bd_mono (show n ≤ n + 4 by omega)
 have hc_bz : (c_b).length ≤ bd n := (okl hokc_b).1
 refine WX.enterP (tt := tt) (Γ := [(0, MF.rs .stb K0 M0 c_b)]) 1 Try.func36 rfl (by kernel_rfl) rfl (allS_cons rfl N0 allS_nil) hH hown (fun f hf => by cases hf) rfl ?_
 refine R0 ?_
 obtain ⟨⟨u1, u2, u3⟩, hu1⟩ : ∃ r_, spec_l1Below c_b c_i c_h 5 = r_ := ⟨_, rfl⟩
 refine WX.callP (ds := fun _ => [])  999 2 rfl (fun _ _ _ => All.nil) (fun _ f hf => by cases hf) rfl rfl rfl rfl rfl (fun _ => rfl) rfl (fun w G bs H hI hH hs hΓ => f35 w n (by omega) H hH (bs 999) c_b K0 M0 (hΓ.get 0 rfl) c_i c_h 5 hs hokc_b hokc_i hokc_h (show I64 5 from (by unfold I64; omega)) u1 u2 u3 hu1) (fun _ => rfl) (fun _ => rfl) ?_
 rintro ⟨⟩ hq1
 have q1 := l1Below_rng c_b c_i c_h 5
 rw [hu1] at q1
 try dsimp only at q1
 refine R0 ?_
 refine WX.free 4 (MF.os none 0 ([] : List TableEntry)) (owSl_nil _ _) ?_
 refine WX.der 3 (MF.rs .der none 0 ([] : List TableEntry)) rfl (fun _ hΓ => (hΓ.get 4 rfl : OwSl _ _ _ _).rd) ?_
 refine WX.loop (ι := Int × (Option Addr) × Nat × (List TableEntry) × Int × Int) ⟨fun | (i, pv, cv, v, u999_i, u999_h) => (-9223372036854775808 ≤ i ∧ i ≤ 9223372036854775807) ∧ (v.length ≤ bd (n + 1) ∧ ∀ z_ ∈ v, GoT.ok (n + 1) z_) ∧ (NN u999_i) ∧ (-9223372036854775808 ≤ u999_h ∧ u999_h ≤ 9223372036854775807) ∧ (v.length + i.toNat ≤ 4) ∧ (spec_l27Draw_L1 c_b u1 (([] : List TableEntry) : List TableEntry) u2 u3 = spec_l27Draw_L1 c_b i v u999_i u999_h), fun | (i, pv, cv, v, u999_i, u999_h) => i.toNat, fun | (i, pv, cv, v, u999_i, u999_h) => [(4, .v (.int .i64 (i))), (3, .p 3 0), (2, .p 2 0), (0, .p 999 0)], fun | (i, pv, cv, v, u999_i, u999_h) => [(3, ⟨30, [.slice pv ((v).length) cv]⟩), (2, ⟨30, [.slice none (0) 0]⟩), (999, ⟨80, [.slice K0 ((c_b).length) M0, .int .i64 (u999_i), .int .i64 (u999_h)]⟩)], fun | (i, pv, cv, v, u999_i, u999_h) => [], fun | (i, pv, cv, v, u999_i, u999_h) => [(0, MF.rs .stb K0 M0 c_b), (4, MF.os pv cv v)]⟩ (u1, none, 0, (([] : List TableEntry) : List TableEntry), u2, u3) ⟨hq1.1, (okl_mk (Nat.zero_le _) (fun a ha => by cases ha) : GoT.ok (n + 1) (([] : List TableEntry) : List TableEntry)), hq1.2.1, hq1.2.2, (by simp; omega), rfl⟩
  (.cons rfl (.cons rfl (.cons rfl (.cons rfl (.nil))))) (.cons rfl (.cons rfl (.cons rfl (.nil)))) .nil [0, 4] rfl ?_
 rintro ⟨i, pv, cv, v, u999_i, u999_h⟩ hpre
 have hpre_ : (-9223372036854775808 ≤ i ∧ i ≤ 9223372036854775807) ∧ (v.length ≤ bd (n + 1) ∧ ∀ z_ ∈ v, GoT.ok (n + 1) z_) ∧ (NN u999_i) ∧ (-9223372036854775808 ≤ u999_h ∧ u999_h ≤ 9223372036854775807) ∧ (v.length + i.toNat ≤ 4) ∧ (spec_l27Draw_L1 c_b u1 (([] : List TableEntry) : List TableEntry) u2 u3 = spec_l27Draw_L1 c_b i v u999_i u999_h) := hpre
 clear hpre
 obtain ⟨v1, v2, v3, v4, v5, v6⟩ := hpre_
 have v2L := v2.1
 refine R0 ?_
 refine WX.cases 12 rfl (fun h1 => ?_) (fun h1 => ?_)
 ·skip
  have h1d := B.dt h1
  refine R0 ?_
  refine WX.bld ttOk rfl rfl rfl rfl rfl rfl rfl ?_
  intro p1
  refine WX.turn [] 5 rfl (fun h hs => one_sep (⟨(), _, emp, _, rfl, emp_le _, Le.refl _, emp_dj _, trivial, ⟨(), _, emp, _, rfl, emp_le _, Le.refl _, emp_dj _, trivial, ⟨(), _, emp, _, rfl, emp_le _, Le.refl _, emp_dj _, trivial, ⟨(), _, emp, _, rfl, emp_le _, Le.refl _, emp_dj _, trivial, ⟨(), _, emp, _, rfl, emp_le _, Le.refl _, emp_dj _, trivial, rfl⟩⟩⟩⟩⟩ : OwL _ _ ([(⟨#[47, 97]⟩ : Str), (⟨#[47, 98]⟩ : Str), (⟨#[47, 110, 101, 119, 115]⟩ : Str), (⟨#[47, 97, 47, 98]⟩ : Str), (⟨#[47, 99]⟩ : Str)] : List Str))) (gs := [MF.ol [.string (⟨#[47, 97]⟩ : Str), .string (⟨#[47, 98]⟩ : Str), .string (⟨#[47, 110, 101, 119, 115]⟩ : Str), .string (⟨#[47, 97, 47, 98]⟩ : Str), .string (⟨#[47, 99]⟩ : Str)] ([(⟨#[47, 97]⟩ : Str), (⟨#[47, 98]⟩ : Str), (⟨#[47, 110, 101, 119, 115]⟩ : Str), (⟨#[47, 97, 47, 98]⟩ : Str), (⟨#[47, 99]⟩ : Str)] : List Str)]) rfl ?_
  refine WX.seal 16 5 6 rfl rfl rfl rfl rfl ?_
  have r1 : (⟨#[47, 97]⟩ : Str).size = 2 := rfl
  have r2 : (⟨#[47, 98]⟩ : Str).size = 2 := rfl
  have r3 : (⟨#[47, 110, 101, 119, 115]⟩ : Str).size = 5 := rfl
  have r4 : (⟨#[47, 97, 47, 98]⟩ : Str).size = 4 := rfl
  have r5 : (⟨#[47, 99]⟩ : Str).size = 2 := rfl
  obtain ⟨⟨u4, u5, u6⟩, hu2⟩ : ∃ r_, spec_l1Str c_b u999_i u999_h ([(⟨#[47, 97]⟩ : Str), (⟨#[47, 98]⟩ : Str), (⟨#[47, 110, 101, 119, 115]⟩ : Str), (⟨#[47, 97, 47, 98]⟩ : Str), (⟨#[47, 99]⟩ : Str)]) = r_ := ⟨_, rfl⟩
  refine WX.callP (ds := fun _ => [])  999 8 rfl (fun _ _ _ => All.nil) (fun _ f hf => by cases hf) rfl rfl rfl rfl rfl (fun _ => rfl) rfl (fun w G bs H hI hH hs hΓ => f45 w n (by omega) H hH (bs 999) c_b K0 M0 (hΓ.get 0 rfl) u999_i u999_h ([(⟨#[47, 97]⟩ : Str), (⟨#[47, 98]⟩ : Str), (⟨#[47, 110, 101, 119, 115]⟩ : Str), (⟨#[47, 97, 47, 98]⟩ : Str), (⟨#[47, 99]⟩ : Str)]) p1 5 (hΓ.get 6 rfl) hs hokc_b v3 v4 (by first | assumption | omega | (simp; done) | (simp; omega)) (okl_mk (by simp; omega) (all_cons (α := Str) (Nat.le_trans (by decide) (bd_pos _)) (all_cons (α := Str) (Nat.le_trans (by decide) (bd_pos _)) (all_cons (α := Str) (Nat.le_trans (by decide) (bd_pos _)) (all_cons (α := Str) (Nat.le_trans (by decide) (bd_pos _)) (all_cons (α := Str) (Nat.le_trans (by decide) (bd_pos _)) (fun a ha => by cases ha)))))) : GoT.ok n ([(⟨#[47, 97]⟩ : Str), (⟨#[47, 98]⟩ : Str), (⟨#[47, 110, 101, 119, 115]⟩ : Str), (⟨#[47, 97, 47, 98]⟩ : Str), (⟨#[47, 99]⟩ : Str)] : List Str)) u4 u5 u6 hu2) (fun _ => rfl) (fun _ => rfl) ?_
  rintro ⟨⟩ hq2
  refine WX.callF 9 (fun _ _ h => GoT.ow_rd h) (fun _ f hf => GoT.fak f hf) rfl rfl rfl rfl rfl (fun _ => rfl) rfl (fun w G bs hI hΓ => f44 w n (by omega) u4 hq2.1) (fun _ => rfl) (fun _ => rfl) ?_
  rintro ⟨p2, c1⟩ hq3
  refine R0 ?_
  refine WX.der 11 (MF.rs .der pv cv v) rfl (fun _ hΓ => (hΓ.get 4 rfl : OwSl _ _ _ _).rd) ?_
  refine WX.draw [1, 2, 4, 5, 6, 7, 8, 9, 10, 11] mixed ?_
  intro bs G0 hΓ0
  refine DX.takes (fuel := 10) ttOk [(0, true), (3, true)] (by kernel_rfl) rfl ?_
  refine DX.toTX ?_
  intro S_
  refine TX.all3 1 2 4 (by kernel_rfl) ?_ ?_ ?_
  ·skip
   refine TS.op 1 rfl (by kernel_rfl) ?_
   refine R0 ?_
   refine WX.back0 ?_
   refine TX.all2 2 4 (by kernel_rfl) ?_ ?_
   ·skip
    refine TS.op 2 rfl (by kernel_rfl) ?_
    refine R0 ?_
    refine WX.back0 ?_
    refine TX.all1 4 (by kernel_rfl) ?_
    refine TS.op 4 rfl (by kernel_rfl) ?_
    obtain ⟨⟨u7, u8, u9⟩, hu3⟩ : ∃ r_, spec_l1Below c_b u5 u6 5 = r_ := ⟨_, rfl⟩
    refine WX.callP (ds := fun _ => [])  999 12 rfl (fun _ _ _ => All.nil) (fun _ f hf => by cases hf) rfl rfl rfl rfl rfl (fun _ => rfl) rfl (fun w G bs H hI hH hs hΓ => f35 w n (by omega) H hH (bs 999) c_b K0 M0 (hΓ.get 0 rfl) u5 u6 5 hs hokc_b hq2.2.1 hq2.2.2 (show I64 5 from (by unfold I64; omega)) u7 u8 u9 hu3) (fun _ => rfl) (fun _ => rfl) ?_
    rintro ⟨⟩ hq4
    have q2 := l1Below_rng c_b u5 u6 5
    rw [hu3] at q2
    try dsimp only at q2
    refine R0 ?_
    refine WX.back0 ?_
    refine TX.all1 5 (by kernel_rfl) ?_
    refine TS.op 5 rfl (by kernel_rfl) ?_
    have r6 : -9223372036854775808 ≤ u7 ∧ u7 ≤ 9223372036854775807 := hq4.1
    refine WX.see rfl rfl rfl (fun _ hΓ => looks_arith rfl rfl rfl rfl (by unfold I64; first | omega | (simp only [List.length_take] at *; omega))) ?_
    refine R0 ?_
    refine WX.back0 ?_
    refine TX.all1 6 (by kernel_rfl) ?_
    refine TS.callF 6 13 (fun _ _ h => GoT.ow_rd h) (fun _ f hf => GoT.fak f hf) rfl rfl rfl rfl rfl rfl (fun _ => rfl) rfl (fun w G bs hI hΓ => f50 w (n + 1) (by omega) v pv cv (hΓ.get 11 rfl) (spec_l4Of u4) p2 c1 (hΓ.get 9 rfl) (1 + u7) (okl_of v2) hq3 (show I64 (1 + u7) from (by unfold I64; omega))) (fun _ => rfl) (fun _ => rfl) ?_
    rintro ⟨p3, c2⟩ hq5
    have q3 := (put_spec v (spec_l4Of u4) (1 + u7)).len
    have hfx1 := (put_spec v (spec_l4Of u4) (1 + u7)).els (k := (n + 1)) v2.2 hq3 (show I64 (1 + u7) from (by unfold I64; omega))
    refine TX.all1 7 (by kernel_rfl) ?_
    refine TS.op 7 rfl (by kernel_rfl) ?_
    refine R0 ?_
    refine WX.back0 ?_
    refine TX.all2 8 9 (by kernel_rfl) ?_ ?_
    ·skip
     refine TS.op 8 rfl (by kernel_rfl) ?_
     refine R0 ?_
     refine WX.back0 ?_
     refine TX.all2 9 10 (by kernel_rfl) ?_ ?_
     ·skip
      refine TS.op 9 rfl (by kernel_rfl) ?_
      refine R0 ?_
      refine WX.back0 ?_
      refine TX.tail [10, 11] rfl rfl (by kernel_rfl) ?_
      refine R0 ?_
      refine WX.see rfl rfl rfl (fun _ hΓ => looks_arith rfl rfl rfl rfl (by unfold I64; first | omega | (simp only [List.length_take] at *; omega))) ?_
      refine R0 ?_
      refine WX.turn [14] 4 rfl (fun _ h => h) rfl ?_
      have r7 : (u4).size ≤ bd n := hq2.1
      have r8 : ((spec_PutEntry v (spec_l4Of u4) (1 + u7)).1).length ≤ bd (n + 4) := (okl hq5).1
      exact WX.iter (i - 1, p3, c2, (spec_PutEntry v (spec_l4Of u4) (1 + u7)).1, u8, u9) ⟨(by first | assumption | omega), (okl_mk (by omega) hfx1 : GoT.ok (n + 1) ((spec_PutEntry v (spec_l4Of u4) (1 + u7)).1 : List TableEntry)), hq4.2.1, hq4.2.2, (by omega), (by rw [v6]; rw [spec_l27Draw_L1]; simp only [h1, h1d, hu2, hu3, ct, cf, ↓reduceIte, Bool.false_eq_true])⟩ (by first | (dsimp only; omega) | omega) (.cons rfl (.cons rfl (.cons rfl (.cons rfl (.nil))))) (.cons rfl (.cons rfl (.cons rfl (.nil)))) .nil [0, 4] rfl
     ·skip
      refine TS.op 10 rfl (by kernel_rfl) ?_
      refine R0 ?_
      refine WX.back0 ?_
      refine TX.tail [9, 11] rfl rfl (by kernel_rfl) ?_
      refine R0 ?_
      refine WX.see rfl rfl rfl (fun _ hΓ => looks_arith rfl rfl rfl rfl (by unfold I64; first | omega | (simp only [List.length_take] at *; omega))) ?_
      refine R0 ?_
      refine WX.turn [14] 4 rfl (fun _ h => h) rfl ?_
      have r9 : (u4).size ≤ bd n := hq2.1
      have r10 : ((spec_PutEntry v (spec_l4Of u4) (1 + u7)).1).length ≤ bd (n + 4) := (okl hq5).1
      exact WX.iter (i - 1, p3, c2, (spec_PutEntry v (spec_l4Of u4) (1 + u7)).1, u8, u9) ⟨(by first | assumption | omega), (okl_mk (by omega) hfx1 : GoT.ok (n + 1) ((spec_PutEntry v (spec_l4Of u4) (1 + u7)).1 : List TableEntry)), hq4.2.1, hq4.2.2, (by omega), (by rw [v6]; rw [spec_l27Draw_L1]; simp only [h1, h1d, hu2, hu3, ct, cf, ↓reduceIte, Bool.false_eq_true])⟩ (by first | (dsimp only; omega) | omega) (.cons rfl (.cons rfl (.cons rfl (.cons rfl (.nil))))) (.cons rfl (.cons rfl (.cons rfl (.nil)))) .nil [0, 4] rfl
    ·skip
     refine TS.op 9 rfl (by kernel_rfl) ?_
     refine R0 ?_
     refine WX.back0 ?_
     refine TX.tail [8, 10, 11] rfl rfl (by kernel_rfl) ?_
     refine R0 ?_
     refine WX.see rfl rfl rfl (fun _ hΓ => looks_arith rfl rfl rfl rfl (by unfold I64; first | omega | (simp only [List.length_take] at *; omega))) ?_
     refine R0 ?_
     refine WX.turn [14] 4 rfl (fun _ h => h) rfl ?_
     have r11 : (u4).size ≤ bd n := hq2.1
     have r12 : ((spec_PutEntry v (spec_l4Of u4) (1 + u7)).1).length ≤ bd (n + 4) := (okl hq5).1
     exact WX.iter (i - 1, p3, c2, (spec_PutEntry v (spec_l4Of u4) (1 + u7)).1, u8, u9) ⟨(by first | assumption | omega), (okl_mk (by omega) hfx1 : GoT.ok (n + 1) ((spec_PutEntry v (spec_l4Of u4) (1 + u7)).1 : List TableEntry)), hq4.2.1, hq4.2.2, (by omega), (by rw [v6]; rw [spec_l27Draw_L1]; simp only [h1, h1d, hu2, hu3, ct, cf, ↓reduceIte, Bool.false_eq_true])⟩ (by first | (dsimp only; omega) | omega) (.cons rfl (.cons rfl (.cons rfl (.cons rfl (.nil))))) (.cons rfl (.cons rfl (.cons rfl (.nil)))) .nil [0, 4] rfl
   ·skip
    refine TS.op 4 rfl (by kernel_rfl) ?_
    obtain ⟨⟨u10, u11, u12⟩, hu4⟩ : ∃ r_, spec_l1Below c_b u5 u6 5 = r_ := ⟨_, rfl⟩
    refine WX.callP (ds := fun _ => [])  999 15 rfl (fun _ _ _ => All.nil) (fun _ f hf => by cases hf) rfl rfl rfl rfl rfl (fun _ => rfl) rfl (fun w G bs H hI hH hs hΓ => f35 w n (by omega) H hH (bs 999) c_b K0 M0 (hΓ.get 0 rfl) u5 u6 5 hs hokc_b hq2.2.1 hq2.2.2 (show I64 5 from (by unfold I64; omega)) u10 u11 u12 hu4) (fun _ => rfl) (fun _ => rfl) ?_
    rintro ⟨⟩ hq6
    have q4 := l1Below_rng c_b u5 u6 5
    rw [hu4] at q4
    try dsimp only at q4
    refine R0 ?_
    refine WX.back0 ?_
    refine TX.all2 2 5 (by kernel_rfl) ?_ ?_
    ·skip
     refine TS.op 2 rfl (by kernel_rfl) ?_
     refine R0 ?_
     refine WX.back0 ?_
     refine TX.all1 5 (by kernel_rfl) ?_
     refine TS.op 5 rfl (by kernel_rfl) ?_
     have r13 : -9223372036854775808 ≤ u10 ∧ u10 ≤ 9223372036854775807 := hq6.1
     refine WX.see rfl rfl rfl (fun _ hΓ => looks_arith rfl rfl rfl rfl (by unfold I64; first | omega | (simp only [List.length_take] at *; omega))) ?_
     refine R0 ?_
     refine WX.back0 ?_
     refine TX.all1 6 (by kernel_rfl) ?_
     refine TS.callF 6 16 (fun _ _ h => GoT.ow_rd h) (fun _ f hf => GoT.fak f hf) rfl rfl rfl rfl rfl rfl (fun _ => rfl) rfl (fun w G bs hI hΓ => f50 w (n + 1) (by omega) v pv cv (hΓ.get 11 rfl) (spec_l4Of u4) p2 c1 (hΓ.get 9 rfl) (1 + u10) (okl_of v2) hq3 (show I64 (1 + u10) from (by unfold I64; omega))) (fun _ => rfl) (fun _ => rfl) ?_
     rintro ⟨p4, c3⟩ hq7
     have q5 := (put_spec v (spec_l4Of u4) (1 + u10)).len
     have hfx2 := (put_spec v (spec_l4Of u4) (1 + u10)).els (k := (n + 1)) v2.2 hq3 (show I64 (1 + u10) from (by unfold I64; omega))
     refine TX.all1 7 (by kernel_rfl) ?_
     refine TS.op 7 rfl (by kernel_rfl) ?_
     refine R0 ?_
     refine WX.back0 ?_
     refine TX.all2 8 9 (by kernel_rfl) ?_ ?_
     ·skip
      refine TS.op 8 rfl (by kernel_rfl) ?_
      refine R0 ?_
      refine WX.back0 ?_
      refine TX.all2 9 10 (by kernel_rfl) ?_ ?_
      ·skip
       refine TS.op 9 rfl (by kernel_rfl) ?_
       refine R0 ?_
       refine WX.back0 ?_
       refine TX.tail [10, 11] rfl rfl (by kernel_rfl) ?_
       refine R0 ?_
       refine WX.see rfl rfl rfl (fun _ hΓ => looks_arith rfl rfl rfl rfl (by unfold I64; first | omega | (simp only [List.length_take] at *; omega))) ?_
       refine R0 ?_
       refine WX.turn [17] 4 rfl (fun _ h => h) rfl ?_
       have r14 : (u4).size ≤ bd n := hq2.1
       have r15 : ((spec_PutEntry v (spec_l4Of u4) (1 + u10)).1).length ≤ bd (n + 4) := (okl hq7).1
       exact WX.iter (i - 1, p4, c3, (spec_PutEntry v (spec_l4Of u4) (1 + u10)).1, u11, u12) ⟨(by first | assumption | omega), (okl_mk (by omega) hfx2 : GoT.ok (n + 1) ((spec_PutEntry v (spec_l4Of u4) (1 + u10)).1 : List TableEntry)), hq6.2.1, hq6.2.2, (by omega), (by rw [v6]; rw [spec_l27Draw_L1]; simp only [h1, h1d, hu2, hu4, ct, cf, ↓reduceIte, Bool.false_eq_true])⟩ (by first | (dsimp only; omega) | omega) (.cons rfl (.cons rfl (.cons rfl (.cons rfl (.nil))))) (.cons rfl (.cons rfl (.cons rfl (.nil)))) .nil [0, 4] rfl
      ·skip
       refine TS.op 10 rfl (by kernel_rfl) ?_
       refine R0 ?_
       refine WX.back0 ?_
       refine TX.tail [9, 11] rfl rfl (by kernel_rfl) ?_
       refine R0 ?_
       refine WX.see rfl rfl rfl (fun _ hΓ => looks_arith rfl rfl rfl rfl (by unfold I64; first | omega | (simp only [List.length_take] at *; omega))) ?_
       refine R0 ?_
       refine WX.turn [17] 4 rfl (fun _ h => h) rfl ?_
       have r16 : (u4).size ≤ bd n := hq2.1
       have r17 : ((spec_PutEntry v (spec_l4Of u4) (1 + u10)).1).length ≤ bd (n + 4) := (okl hq7).1
       exact WX.iter (i - 1, p4, c3, (spec_PutEntry v (spec_l4Of u4) (1 + u10)).1, u11, u12) ⟨(by first | assumption | omega), (okl_mk (by omega) hfx2 : GoT.ok (n + 1) ((spec_PutEntry v (spec_l4Of u4) (1 + u10)).1 : List TableEntry)), hq6.2.1, hq6.2.2, (by omega), (by rw [v6]; rw [spec_l27Draw_L1]; simp only [h1, h1d, hu2, hu4, ct, cf, ↓reduceIte, Bool.false_eq_true])⟩ (by first | (dsimp only; omega) | omega) (.cons rfl (.cons rfl (.cons rfl (.cons rfl (.nil))))) (.cons rfl (.cons rfl (.cons rfl (.nil)))) .nil [0, 4] rfl
     ·skip
      refine TS.op 9 rfl (by kernel_rfl) ?_
      refine R0 ?_
      refine WX.back0 ?_
      refine TX.tail [8, 10, 11] rfl rfl (by kernel_rfl) ?_
      refine R0 ?_
      refine WX.see rfl rfl rfl (fun _ hΓ => looks_arith rfl rfl rfl rfl (by unfold I64; first | omega | (simp only [List.length_take] at *; omega))) ?_
      refine R0 ?_
      refine WX.turn [17] 4 rfl (fun _ h => h) rfl ?_
      have r18 : (u4).size ≤ bd n := hq2.1
      have r19 : ((spec_PutEntry v (spec_l4Of u4) (1 + u10)).1).length ≤ bd (n + 4) := (okl hq7).1
      exact WX.iter (i - 1, p4, c3, (spec_PutEntry v (spec_l4Of u4) (1 + u10)).1, u11, u12) ⟨(by first | assumption | omega), (okl_mk (by omega) hfx2 : GoT.ok (n + 1) ((spec_PutEntry v (spec_l4Of u4) (1 + u10)).1 : List TableEntry)), hq6.2.1, hq6.2.2, (by omega), (by rw [v6]; rw [spec_l27Draw_L1]; simp only [h1, h1d, hu2, hu4, ct, cf, ↓reduceIte, Bool.false_eq_true])⟩ (by first | (dsimp only; omega) | omega) (.cons rfl (.cons rfl (.cons rfl (.cons rfl (.nil))))) (.cons rfl (.cons rfl (.cons rfl (.nil)))) .nil [0, 4] rfl
    ·skip
     refine TS.op 5 rfl (by kernel_rfl) ?_
     have r20 : -9223372036854775808 ≤ u10 ∧ u10 ≤ 9223372036854775807 := hq6.1
     refine WX.see rfl rfl rfl (fun _ hΓ => looks_arith rfl rfl rfl rfl (by unfold I64; first | omega | (simp only [List.length_take] at *; omega))) ?_
     refine R0 ?_
     refine WX.back0 ?_
     refine TX.all1 2 (by kernel_rfl) ?_
     refine TS.op 2 rfl (by kernel_rfl) ?_
     refine R0 ?_
     refine WX.back0 ?_
     refine TX.all1 6 (by kernel_rfl) ?_
     refine TS.callF 6 18 (fun _ _ h => GoT.ow_rd h) (fun _ f hf => GoT.fak f hf) rfl rfl rfl rfl rfl rfl (fun _ => rfl) rfl (fun w G bs hI hΓ => f50 w (n + 1) (by omega) v pv cv (hΓ.get 11 rfl) (spec_l4Of u4) p2 c1 (hΓ.get 9 rfl) (1 + u10) (okl_of v2) hq3 (show I64 (1 + u10) from (by unfold I64; omega))) (fun _ => rfl) (fun _ => rfl) ?_
     rintro ⟨p5, c4⟩ hq8
     have q6 := (put_spec v (spec_l4Of u4) (1 + u10)).len
     have hfx3 := (put_spec v (spec_l4Of u4) (1 + u10)).els (k := (n + 1)) v2.2 hq3 (show I64 (1 + u10) from (by unfold I64; omega))
     refine TX.all1 7 (by kernel_rfl) ?_
     refine TS.op 7 rfl (by kernel_rfl) ?_
     refine R0 ?_
     refine WX.back0 ?_
     refine TX.all2 8 9 (by kernel_rfl) ?_ ?_
     ·skip
      refine TS.op 8 rfl (by kernel_rfl) ?_
      refine R0 ?_
      refine WX.back0 ?_
      refine TX.all2 9 10 (by kernel_rfl) ?_ ?_
      ·skip
       refine TS.op 9 rfl (by kernel_rfl) ?_
       refine R0 ?_
       refine WX.back0 ?_
       refine TX.tail [10, 11] rfl rfl (by kernel_rfl) ?_
       refine R0 ?_
       refine WX.see rfl rfl rfl (fun _ hΓ => looks_arith rfl rfl rfl rfl (by unfold I64; first | omega | (simp only [List.length_take] at *; omega))) ?_
       refine R0 ?_
       refine WX.turn [19] 4 rfl (fun _ h => h) rfl ?_
       have r21 : (u4).size ≤ bd n := hq2.1
       have r22 : ((spec_PutEntry v (spec_l4Of u4) (1 + u10)).1).length ≤ bd (n + 4) := (okl hq8).1
       exact WX.iter (i - 1, p5, c4, (spec_PutEntry v (spec_l4Of u4) (1 + u10)).1, u11, u12) ⟨(by first | assumption | omega), (okl_mk (by omega) hfx3 : GoT.ok (n + 1) ((spec_PutEntry v (spec_l4Of u4) (1 + u10)).1 : List TableEntry)), hq6.2.1, hq6.2.2, (by omega), (by rw [v6]; rw [spec_l27Draw_L1]; simp only [h1, h1d, hu2, hu4, ct, cf, ↓reduceIte, Bool.false_eq_true])⟩ (by first | (dsimp only; omega) | omega) (.cons rfl (.cons rfl (.cons rfl (.cons rfl (.nil))))) (.cons rfl (.cons rfl (.cons rfl (.nil)))) .nil [0, 4] rfl
      ·skip
       refine TS.op 10 rfl (by kernel_rfl) ?_
       refine R0 ?_
       refine WX.back0 ?_
       refine TX.tail [9, 11] rfl rfl (by kernel_rfl) ?_
       refine R0 ?_
       refine WX.see rfl rfl rfl (fun _ hΓ => looks_arith rfl rfl rfl rfl (by unfold I64; first | omega | (simp only [List.length_take] at *; omega))) ?_
       refine R0 ?_
       refine WX.turn [19] 4 rfl (fun _ h => h) rfl ?_
       have r23 : (u4).size ≤ bd n := hq2.1
       have r24 : ((spec_PutEntry v (spec_l4Of u4) (1 + u10)).1).length ≤ bd (n + 4) := (okl hq8).1
       exact WX.iter (i - 1, p5, c4, (spec_PutEntry v (spec_l4Of u4) (1 + u10)).1, u11, u12) ⟨(by first | assumption | omega), (okl_mk (by omega) hfx3 : GoT.ok (n + 1) ((spec_PutEntry v (spec_l4Of u4) (1 + u10)).1 : List TableEntry)), hq6.2.1, hq6.2.2, (by omega), (by rw [v6]; rw [spec_l27Draw_L1]; simp only [h1, h1d, hu2, hu4, ct, cf, ↓reduceIte, Bool.false_eq_true])⟩ (by first | (dsimp only; omega) | omega) (.cons rfl (.cons rfl (.cons rfl (.cons rfl (.nil))))) (.cons rfl (.cons rfl (.cons rfl (.nil)))) .nil [0, 4] rfl
     ·skip
      refine TS.op 9 rfl (by kernel_rfl) ?_
      refine R0 ?_
      refine WX.back0 ?_
      refine TX.tail [8, 10, 11] rfl rfl (by kernel_rfl) ?_
      refine R0 ?_
      refine WX.see rfl rfl rfl (fun _ hΓ => looks_arith rfl rfl rfl rfl (by unfold I64; first | omega | (simp only [List.length_take] at *; omega))) ?_
      refine R0 ?_
      refine WX.turn [19] 4 rfl (fun _ h => h) rfl ?_
      have r25 : (u4).size ≤ bd n := hq2.1
      have r26 : ((spec_PutEntry v (spec_l4Of u4) (1 + u10)).1).length ≤ bd (n + 4) := (okl hq8).1
      exact WX.iter (i - 1, p5, c4, (spec_PutEntry v (spec_l4Of u4) (1 + u10)).1, u11, u12) ⟨(by first | assumption | omega), (okl_mk (by omega) hfx3 : GoT.ok (n + 1) ((spec_PutEntry v (spec_l4Of u4) (1 + u10)).1 : List TableEntry)), hq6.2.1, hq6.2.2, (by omega), (by rw [v6]; rw [spec_l27Draw_L1]; simp only [h1, h1d, hu2, hu4, ct, cf, ↓reduceIte, Bool.false_eq_true])⟩ (by first | (dsimp only; omega) | omega) (.cons rfl (.cons rfl (.cons rfl (.cons rfl (.nil))))) (.cons rfl (.cons rfl (.cons rfl (.nil)))) .nil [0, 4] rfl
  ·skip
   refine TS.op 2 rfl (by kernel_rfl) ?_
   refine R0 ?_
   refine WX.back0 ?_
   refine TX.all2 1 4 (by kernel_rfl) ?_ ?_
   ·skip
    refine TS.op 1 rfl (by kernel_rfl) ?_
    refine R0 ?_
    refine WX.back0 ?_
    refine TX.all1 4 (by kernel_rfl) ?_
    refine TS.op 4 rfl (by kernel_rfl) ?_
    obtain ⟨⟨u13, u14, u15⟩, hu5⟩ : ∃ r_, spec_l1Below c_b u5 u6 5 = r_ := ⟨_, rfl⟩
    refine WX.callP (ds := fun _ => [])  999 20 rfl (fun _ _ _ => All.nil) (fun _ f hf => by cases hf) rfl rfl rfl rfl rfl (fun _ => rfl) rfl (fun w G bs H hI hH hs hΓ => f35 w n (by omega) H hH (bs 999) c_b K0 M0 (hΓ.get 0 rfl) u5 u6 5 hs hokc_b hq2.2.1 hq2.2.2 (show I64 5 from (by unfold I64; omega)) u13 u14 u15 hu5) (fun _ => rfl) (fun _ => rfl) ?_
    rintro ⟨⟩ hq9
    have q7 := l1Below_rng c_b u5 u6 5
    rw [hu5] at q7
    try dsimp only at q7
    refine R0 ?_
    refine WX.back0 ?_
    refine TX.all1 5 (by kernel_rfl) ?_
    refine TS.op 5 rfl (by kernel_rfl) ?_
    have r27 : -9223372036854775808 ≤ u13 ∧ u13 ≤ 9223372036854775807 := hq9.1
    refine WX.see rfl rfl rfl (fun _ hΓ => looks_arith rfl rfl rfl rfl (by unfold I64; first | omega | (simp only [List.length_take] at *; omega))) ?_
    refine R0 ?_
    refine WX.back0 ?_
    refine TX.all1 6 (by kernel_rfl) ?_
    refine TS.callF 6 21 (fun _ _ h => GoT.ow_rd h) (fun _ f hf => GoT.fak f hf) rfl rfl rfl rfl rfl rfl (fun _ => rfl) rfl (fun w G bs hI hΓ => f50 w (n + 1) (by omega) v pv cv (hΓ.get 11 rfl) (spec_l4Of u4) p2 c1 (hΓ.get 9 rfl) (1 + u13) (okl_of v2) hq3 (show I64 (1 + u13) from (by unfold I64; omega))) (fun _ => rfl) (fun _ => rfl) ?_
    rintro ⟨p6, c5⟩ hq10
    have q8 := (put_spec v (spec_l4Of u4) (1 + u13)).len
    have hfx4 := (put_spec v (spec_l4Of u4) (1 + u13)).els (k := (n + 1)) v2.2 hq3 (show I64 (1 + u13) from (by unfold I64; omega))
    refine TX.all1 7 (by kernel_rfl) ?_
    refine TS.op 7 rfl (by kernel_rfl) ?_
    refine R0 ?_
    refine WX.back0 ?_
    refine TX.all2 8 9 (by kernel_rfl) ?_ ?_
    ·skip
     refine TS.op 8 rfl (by kernel_rfl) ?_
     refine R0 ?_
     refine WX.back0 ?_
     refine TX.all2 9 10 (by kernel_rfl) ?_ ?_
     ·skip
      refine TS.op 9 rfl (by kernel_rfl) ?_
      refine R0 ?_
      refine WX.back0 ?_
      refine TX.tail [10, 11] rfl rfl (by kernel_rfl) ?_
      refine R0 ?_
      refine WX.see rfl rfl rfl (fun _ hΓ => looks_arith rfl rfl rfl rfl (by unfold I64; first | omega | (simp only [List.length_take] at *; omega))) ?_
      refine R0 ?_
      refine WX.turn [22] 4 rfl (fun _ h => h) rfl ?_
      have r28 : (u4).size ≤ bd n := hq2.1
      have r29 : ((spec_PutEntry v (spec_l4Of u4) (1 + u13)).1).length ≤ bd (n + 4) := (okl hq10).1
      exact WX.iter (i - 1, p6, c5, (spec_PutEntry v (spec_l4Of u4) (1 + u13)).1, u14, u15) ⟨(by first | assumption | omega), (okl_mk (by omega) hfx4 : GoT.ok (n + 1) ((spec_PutEntry v (spec_l4Of u4) (1 + u13)).1 : List TableEntry)), hq9.2.1, hq9.2.2, (by omega), (by rw [v6]; rw [spec_l27Draw_L1]; simp only [h1, h1d, hu2, hu5, ct, cf, ↓reduceIte, Bool.false_eq_true])⟩ (by first | (dsimp only; omega) | omega) (.cons rfl (.cons rfl (.cons rfl (.cons rfl (.nil))))) (.cons rfl (.cons rfl (.cons rfl (.nil)))) .nil [0, 4] rfl
     ·skip
      refine TS.op 10 rfl (by kernel_rfl) ?_
      refine R0 ?_
      refine WX.back0 ?_
      refine TX.tail [9, 11] rfl rfl (by kernel_rfl) ?_
      refine R0 ?_
      refine WX.see rfl rfl rfl (fun _ hΓ => looks_arith rfl rfl rfl rfl (by unfold I64; first | omega | (simp only [List.length_take] at *; omega))) ?_
      refine R0 ?_
      refine WX.turn [22] 4 rfl (fun _ h => h) rfl ?_
      have r30 : (u4).size ≤ bd n := hq2.1
      have r31 : ((spec_PutEntry v (spec_l4Of u4) (1 + u13)).1).length ≤ bd (n + 4) := (okl hq10).1
      exact WX.iter (i - 1, p6, c5, (spec_PutEntry v (spec_l4Of u4) (1 + u13)).1, u14, u15) ⟨(by first | assumption | omega), (okl_mk (by omega) hfx4 : GoT.ok (n + 1) ((spec_PutEntry v (spec_l4Of u4) (1 + u13)).1 : List TableEntry)), hq9.2.1, hq9.2.2, (by omega), (by rw [v6]; rw [spec_l27Draw_L1]; simp only [h1, h1d, hu2, hu5, ct, cf, ↓reduceIte, Bool.false_eq_true])⟩ (by first | (dsimp only; omega) | omega) (.cons rfl (.cons rfl (.cons rfl (.cons rfl (.nil))))) (.cons rfl (.cons rfl (.cons rfl (.nil)))) .nil [0, 4] rfl
    ·skip
     refine TS.op 9 rfl (by kernel_rfl) ?_
     refine R0 ?_
     refine WX.back0 ?_
     refine TX.tail [8, 10, 11] rfl rfl (by kernel_rfl) ?_
     refine R0 ?_
     refine WX.see rfl rfl rfl (fun _ hΓ => looks_arith rfl rfl rfl rfl (by unfold I64; first | omega | (simp only [List.length_take] at *; omega))) ?_
     refine R0 ?_
     refine WX.turn [22] 4 rfl (fun _ h => h) rfl ?_
     have r32 : (u4).size ≤ bd n := hq2.1
     have r33 : ((spec_PutEntry v (spec_l4Of u4) (1 + u13)).1).length ≤ bd (n + 4) := (okl hq10).1
     exact WX.iter (i - 1, p6, c5, (spec_PutEntry v (spec_l4Of u4) (1 + u13)).1, u14, u15) ⟨(by first | assumption | omega), (okl_mk (by omega) hfx4 : GoT.ok (n + 1) ((spec_PutEntry v (spec_l4Of u4) (1 + u13)).1 : List TableEntry)), hq9.2.1, hq9.2.2, (by omega), (by rw [v6]; rw [spec_l27Draw_L1]; simp only [h1, h1d, hu2, hu5, ct, cf, ↓reduceIte, Bool.false_eq_true])⟩ (by first | (dsimp only; omega) | omega) (.cons rfl (.cons rfl (.cons rfl (.cons rfl (.nil))))) (.cons rfl (.cons rfl (.cons rfl (.nil)))) .nil [0, 4] rfl
   ·skip
    refine TS.op 4 rfl (by kernel_rfl) ?_
    obtain ⟨⟨u16, u17, u18⟩, hu6⟩ : ∃ r_, spec_l1Below c_b u5 u6 5 = r_ := ⟨_, rfl⟩
    refine WX.callP (ds := fun _ => [])  999 23 rfl (fun _ _ _ => All.nil) (fun _ f hf => by cases hf) rfl rfl rfl rfl rfl (fun _ => rfl) rfl (fun w G bs H hI hH hs hΓ => f35 w n (by omega) H hH (bs 999) c_b K0 M0 (hΓ.get 0 rfl) u5 u6 5 hs hokc_b hq2.2.1 hq2.2.2 (show I64 5 from (by unfold I64; omega)) u16 u17 u18 hu6) (fun _ => rfl) (fun _ => rfl) ?_
    rintro ⟨⟩ hq11
    have q9 := l1Below_rng c_b u5 u6 5
    rw [hu6] at q9
    try dsimp only at q9
    refine R0 ?_
    refine WX.back0 ?_
    refine TX.all2 1 5 (by kernel_rfl) ?_ ?_
    ·skip
     refine TS.op 1 rfl (by kernel_rfl) ?_
     refine R0 ?_
     refine WX.back0 ?_
     refine TX.all1 5 (by kernel_rfl) ?_
     refine TS.op 5 rfl (by kernel_rfl) ?_
     have r34 : -9223372036854775808 ≤ u16 ∧ u16 ≤ 9223372036854775807 := hq11.1
     refine WX.see rfl rfl rfl (fun _ hΓ => looks_arith rfl rfl rfl rfl (by unfold I64; first | omega | (simp only [List.length_take] at *; omega))) ?_
     refine R0 ?_
     refine WX.back0 ?_
     refine TX.all1 6 (by kernel_rfl) ?_
     refine TS.callF 6 24 (fun _ _ h => GoT.ow_rd h) (fun _ f hf => GoT.fak f hf) rfl rfl rfl rfl rfl rfl (fun _ => rfl) rfl (fun w G bs hI hΓ => f50 w (n + 1) (by omega) v pv cv (hΓ.get 11 rfl) (spec_l4Of u4) p2 c1 (hΓ.get 9 rfl) (1 + u16) (okl_of v2) hq3 (show I64 (1 + u16) from (by unfold I64; omega))) (fun _ => rfl) (fun _ => rfl) ?_
     rintro ⟨p7, c6⟩ hq12
     have q10 := (put_spec v (spec_l4Of u4) (1 + u16)).len
     have hfx5 := (put_spec v (spec_l4Of u4) (1 + u16)).els (k := (n + 1)) v2.2 hq3 (show I64 (1 + u16) from (by unfold I64; omega))
     refine TX.all1 7 (by kernel_rfl) ?_
     refine TS.op 7 rfl (by kernel_rfl) ?_
     refine R0 ?_
     refine WX.back0 ?_
     refine TX.all2 8 9 (by kernel_rfl) ?_ ?_
     ·skip
      refine TS.op 8 rfl (by kernel_rfl) ?_
      refine R0 ?_
      refine WX.back0 ?_
      refine TX.all2 9 10 (by kernel_rfl) ?_ ?_
      ·skip
       refine TS.op 9 rfl (by kernel_rfl) ?_
       refine R0 ?_
       refine WX.back0 ?_
       refine TX.tail [10, 11] rfl rfl (by kernel_rfl) ?_
       refine R0 ?_
       refine WX.see rfl rfl rfl (fun _ hΓ => looks_arith rfl rfl rfl rfl (by unfold I64; first | omega | (simp only [List.length_take] at *; omega))) ?_
       refine R0 ?_
       refine WX.turn [25] 4 rfl (fun _ h => h) rfl ?_
       have r35 : (u4).size ≤ bd n := hq2.1
       have r36 : ((spec_PutEntry v (spec_l4Of u4) (1 + u16)).1).length ≤ bd (n + 4) := (okl hq12).1
       exact WX.iter (i - 1, p7, c6, (spec_PutEntry v (spec_l4Of u4) (1 + u16)).1, u17, u18) ⟨(by first | assumption | omega), (okl_mk (by omega) hfx5 : GoT.ok (n + 1) ((spec_PutEntry v (spec_l4Of u4) (1 + u16)).1 : List TableEntry)), hq11.2.1, hq11.2.2, (by omega), (by rw [v6]; rw [spec_l27Draw_L1]; simp only [h1, h1d, hu2, hu6, ct, cf, ↓reduceIte, Bool.false_eq_true])⟩ (by first | (dsimp only; omega) | omega) (.cons rfl (.cons rfl (.cons rfl (.cons rfl (.nil))))) (.cons rfl (.cons rfl (.cons rfl (.nil)))) .nil [0, 4] rfl
      ·skip
       refine TS.op 10 rfl (by kernel_rfl) ?_
       refine R0 ?_
       refine WX.back0 ?_
       refine TX.tail [9, 11] rfl rfl (by kernel_rfl) ?_
       refine R0 ?_
       refine WX.see rfl rfl rfl (fun _ hΓ => looks_arith rfl rfl rfl rfl (by unfold I64; first | omega | (simp only [List.length_take] at *; omega))) ?_
       refine R0 ?_
       refine WX.turn [25] 4 rfl (fun _ h => h) rfl ?_
       have r37 : (u4).size ≤ bd n := hq2.1
       have r38 : ((spec_PutEntry v (spec_l4Of u4) (1 + u16)).1).length ≤ bd (n + 4) := (okl hq12).1
       exact WX.iter (i - 1, p7, c6, (spec_PutEntry v (spec_l4Of u4) (1 + u16)).1, u17, u18) ⟨(by first | assumption | omega), (okl_mk (by omega) hfx5 : GoT.ok (n + 1) ((spec_PutEntry v (spec_l4Of u4) (1 + u16)).1 : List TableEntry)), hq11.2.1, hq11.2.2, (by omega), (by rw [v6]; rw [spec_l27Draw_L1]; simp only [h1, h1d, hu2, hu6, ct, cf, ↓reduceIte, Bool.false_eq_true])⟩ (by first | (dsimp only; omega) | omega) (.cons rfl (.cons rfl (.cons rfl (.cons rfl (.nil))))) (.cons rfl (.cons rfl (.cons rfl (.nil)))) .nil [0, 4] rfl
     ·skip
      refine TS.op 9 rfl (by kernel_rfl) ?_
      refine R0 ?_
      refine WX.back0 ?_
      refine TX.tail [8, 10, 11] rfl rfl (by kernel_rfl) ?_
      refine R0 ?_
      refine WX.see rfl rfl rfl (fun _ hΓ => looks_arith rfl rfl rfl rfl (by unfold I64; first | omega | (simp only [List.length_take] at *; omega))) ?_
      refine R0 ?_
      refine WX.turn [25] 4 rfl (fun _ h => h) rfl ?_
      have r39 : (u4).size ≤ bd n := hq2.1
      have r40 : ((spec_PutEntry v (spec_l4Of u4) (1 + u16)).1).length ≤ bd (n + 4) := (okl hq12).1
      exact WX.iter (i - 1, p7, c6, (spec_PutEntry v (spec_l4Of u4) (1 + u16)).1, u17, u18) ⟨(by first | assumption | omega), (okl_mk (by omega) hfx5 : GoT.ok (n + 1) ((spec_PutEntry v (spec_l4Of u4) (1 + u16)).1 : List TableEntry)), hq11.2.1, hq11.2.2, (by omega), (by rw [v6]; rw [spec_l27Draw_L1]; simp only [h1, h1d, hu2, hu6, ct, cf, ↓reduceIte, Bool.false_eq_true])⟩ (by first | (dsimp only; omega) | omega) (.cons rfl (.cons rfl (.cons rfl (.cons rfl (.nil))))) (.cons rfl (.cons rfl (.cons rfl (.nil)))) .nil [0, 4] rfl
    ·skip
     refine TS.op 5 rfl (by kernel_rfl) ?_
     have r41 : -9223372036854775808 ≤ u16 ∧ u16 ≤ 9223372036854775807 := hq11.1
     refine WX.see rfl rfl rfl (fun _ hΓ => looks_arith rfl rfl rfl rfl (by unfold I64; first | omega | (simp only [List.length_take] at *; omega))) ?_
     refine R0 ?_
     refine WX.back0 ?_
     refine TX.all1 1 (by kernel_rfl) ?_
     refine TS.op 1 rfl (by kernel_rfl) ?_
     refine R0 ?_
     refine WX.back0 ?_
     refine TX.all1 6 (by kernel_rfl) ?_
     refine TS.callF 6 26 (fun _ _ h => GoT.ow_rd h) (fun _ f hf => GoT.fak f hf) rfl rfl rfl rfl rfl rfl (fun _ => rfl) rfl (fun w G bs hI hΓ => f50 w (n + 1) (by omega) v pv cv (hΓ.get 11 rfl) (spec_l4Of u4) p2 c1 (hΓ.get 9 rfl) (1 + u16) (okl_of v2) hq3 (show I64 (1 + u16) from (by unfold I64; omega))) (fun _ => rfl) (fun _ => rfl) ?_
     rintro ⟨p8, c7⟩ hq13
     have q11 := (put_spec v (spec_l4Of u4) (1 + u16)).len
     have hfx6 := (put_spec v (spec_l4Of u4) (1 + u16)).els (k := (n + 1)) v2.2 hq3 (show I64 (1 + u16) from (by unfold I64; omega))
     refine TX.all1 7 (by kernel_rfl) ?_
     refine TS.op 7 rfl (by kernel_rfl) ?_
     refine R0 ?_
     refine WX.back0 ?_
     refine TX.all2 8 9 (by kernel_rfl) ?_ ?_
     ·skip
      refine TS.op 8 rfl (by kernel_rfl) ?_
      refine R0 ?_
      refine WX.back0 ?_
      refine TX.all2 9 10 (by kernel_rfl) ?_ ?_
      ·skip
       refine TS.op 9 rfl (by kernel_rfl) ?_
       refine R0 ?_
       refine WX.back0 ?_
       refine TX.tail [10, 11] rfl rfl (by kernel_rfl) ?_
       refine R0 ?_
       refine WX.see rfl rfl rfl (fun _ hΓ => looks_arith rfl rfl rfl rfl (by unfold I64; first | omega | (simp only [List.length_take] at *; omega))) ?_
       refine R0 ?_
       refine WX.turn [27] 4 rfl (fun _ h => h) rfl ?_
       have r42 : (u4).size ≤ bd n := hq2.1
       have r43 : ((spec_PutEntry v (spec_l4Of u4) (1 + u16)).1).length ≤ bd (n + 4) := (okl hq13).1
       exact WX.iter (i - 1, p8, c7, (spec_PutEntry v (spec_l4Of u4) (1 + u16)).1, u17, u18) ⟨(by first | assumption | omega), (okl_mk (by omega) hfx6 : GoT.ok (n + 1) ((spec_PutEntry v (spec_l4Of u4) (1 + u16)).1 : List TableEntry)), hq11.2.1, hq11.2.2, (by omega), (by rw [v6]; rw [spec_l27Draw_L1]; simp only [h1, h1d, hu2, hu6, ct, cf, ↓reduceIte, Bool.false_eq_true])⟩ (by first | (dsimp only; omega) | omega) (.cons rfl (.cons rfl (.cons rfl (.cons rfl (.nil))))) (.cons rfl (.cons rfl (.cons rfl (.nil)))) .nil [0, 4] rfl
      ·skip
       refine TS.op 10 rfl (by kernel_rfl) ?_
       refine R0 ?_
       refine WX.back0 ?_
       refine TX.tail [9, 11] rfl rfl (by kernel_rfl) ?_
       refine R0 ?_
       refine WX.see rfl rfl rfl (fun _ hΓ => looks_arith rfl rfl rfl rfl (by unfold I64; first | omega | (simp only [List.length_take] at *; omega))) ?_
       refine R0 ?_
       refine WX.turn [27] 4 rfl (fun _ h => h) rfl ?_
       have r44 : (u4).size ≤ bd n := hq2.1
       have r45 : ((spec_PutEntry v (spec_l4Of u4) (1 + u16)).1).length ≤ bd (n + 4) := (okl hq13).1
       exact WX.iter (i - 1, p8, c7, (spec_PutEntry v (spec_l4Of u4) (1 + u16)).1, u17, u18) ⟨(by first | assumption | omega), (okl_mk (by omega) hfx6 : GoT.ok (n + 1) ((spec_PutEntry v (spec_l4Of u4) (1 + u16)).1 : List TableEntry)), hq11.2.1, hq11.2.2, (by omega), (by rw [v6]; rw [spec_l27Draw_L1]; simp only [h1, h1d, hu2, hu6, ct, cf, ↓reduceIte, Bool.false_eq_true])⟩ (by first | (dsimp only; omega) | omega) (.cons rfl (.cons rfl (.cons rfl (.cons rfl (.nil))))) (.cons rfl (.cons rfl (.cons rfl (.nil)))) .nil [0, 4] rfl
     ·skip
      refine TS.op 9 rfl (by kernel_rfl) ?_
      refine R0 ?_
      refine WX.back0 ?_
      refine TX.tail [8, 10, 11] rfl rfl (by kernel_rfl) ?_
      refine R0 ?_
      refine WX.see rfl rfl rfl (fun _ hΓ => looks_arith rfl rfl rfl rfl (by unfold I64; first | omega | (simp only [List.length_take] at *; omega))) ?_
      refine R0 ?_
      refine WX.turn [27] 4 rfl (fun _ h => h) rfl ?_
      have r46 : (u4).size ≤ bd n := hq2.1
      have r47 : ((spec_PutEntry v (spec_l4Of u4) (1 + u16)).1).length ≤ bd (n + 4) := (okl hq13).1
      exact WX.iter (i - 1, p8, c7, (spec_PutEntry v (spec_l4Of u4) (1 + u16)).1, u17, u18) ⟨(by first | assumption | omega), (okl_mk (by omega) hfx6 : GoT.ok (n + 1) ((spec_PutEntry v (spec_l4Of u4) (1 + u16)).1 : List TableEntry)), hq11.2.1, hq11.2.2, (by omega), (by rw [v6]; rw [spec_l27Draw_L1]; simp only [h1, h1d, hu2, hu6, ct, cf, ↓reduceIte, Bool.false_eq_true])⟩ (by first | (dsimp only; omega) | omega) (.cons rfl (.cons rfl (.cons rfl (.cons rfl (.nil))))) (.cons rfl (.cons rfl (.cons rfl (.nil)))) .nil [0, 4] rfl
  ·skip
   refine TS.op 4 rfl (by kernel_rfl) ?_
   obtain ⟨⟨u19, u20, u21⟩, hu7⟩ : ∃ r_, spec_l1Below c_b u5 u6 5 = r_ := ⟨_, rfl⟩
   refine WX.callP (ds := fun _ => [])  999 28 rfl (fun _ _ _ => All.nil) (fun _ f hf => by cases hf) rfl rfl rfl rfl rfl (fun _ => rfl) rfl (fun w G bs H hI hH hs hΓ => f35 w n (by omega) H hH (bs 999) c_b K0 M0 (hΓ.get 0 rfl) u5 u6 5 hs hokc_b hq2.2.1 hq2.2.2 (show I64 5 from (by unfold I64; omega)) u19 u20 u21 hu7) (fun _ => rfl) (fun _ => rfl) ?_
   rintro ⟨⟩ hq14
   have q12 := l1Below_rng c_b u5 u6 5
   rw [hu7] at q12
   try dsimp only at q12
   refine R0 ?_
   refine WX.back0 ?_
   refine TX.all3 1 2 5 (by kernel_rfl) ?_ ?_ ?_
   ·skip
    refine TS.op 1 rfl (by kernel_rfl) ?_
    refine R0 ?_
    refine WX.back0 ?_
    refine TX.all2 2 5 (by kernel_rfl) ?_ ?_
    ·skip
     refine TS.op 2 rfl (by kernel_rfl) ?_
     refine R0 ?_
     refine WX.back0 ?_
     refine TX.all1 5 (by kernel_rfl) ?_
     refine TS.op 5 rfl (by kernel_rfl) ?_
     have r48 : -9223372036854775808 ≤ u19 ∧ u19 ≤ 9223372036854775807 := hq14.1
     refine WX.see rfl rfl rfl (fun _ hΓ => looks_arith rfl rfl rfl rfl (by unfold I64; first | omega | (simp only [List.length_take] at *; omega))) ?_
     refine R0 ?_
     refine WX.back0 ?_
     refine TX.all1 6 (by kernel_rfl) ?_
     refine TS.callF 6 29 (fun _ _ h => GoT.ow_rd h) (fun _ f hf => GoT.fak f hf) rfl rfl rfl rfl rfl rfl (fun _ => rfl) rfl (fun w G bs hI hΓ => f50 w (n + 1) (by omega) v pv cv (hΓ.get 11 rfl) (spec_l4Of u4) p2 c1 (hΓ.get 9 rfl) (1 + u19) (okl_of v2) hq3 (show I64 (1 + u19) from (by unfold I64; omega))) (fun _ => rfl) (fun _ => rfl) ?_
     rintro ⟨p9, c8⟩ hq15
     have q13 := (put_spec v (spec_l4Of u4) (1 + u19)).len
     have hfx7 := (put_spec v (spec_l4Of u4) (1 + u19)).els (k := (n + 1)) v2.2 hq3 (show I64 (1 + u19) from (by unfold I64; omega))
     refine TX.all1 7 (by kernel_rfl) ?_
     refine TS.op 7 rfl (by kernel_rfl) ?_
     refine R0 ?_
     refine WX.back0 ?_
     refine TX.all2 8 9 (by kernel_rfl) ?_ ?_
     ·skip
      refine TS.op 8 rfl (by kernel_rfl) ?_
      refine R0 ?_
      refine WX.back0 ?_
      refine TX.all2 9 10 (by kernel_rfl) ?_ ?_
      ·skip
       refine TS.op 9 rfl (by kernel_rfl) ?_
       refine R0 ?_
       refine WX.back0 ?_
       refine TX.tail [10, 11] rfl rfl (by kernel_rfl) ?_
       refine R0 ?_
       refine WX.see rfl rfl rfl (fun _ hΓ => looks_arith rfl rfl rfl rfl (by unfold I64; first | omega | (simp only [List.length_take] at *; omega))) ?_
       refine R0 ?_
       refine WX.turn [30] 4 rfl (fun _ h => h) rfl ?_
       have r49 : (u4).size ≤ bd n := hq2.1
       have r50 : ((spec_PutEntry v (spec_l4Of u4) (1 + u19)).1).length ≤ bd (n + 4) := (okl hq15).1
       exact WX.iter (i - 1, p9, c8, (spec_PutEntry v (spec_l4Of u4) (1 + u19)).1, u20, u21) ⟨(by first | assumption | omega), (okl_mk (by omega) hfx7 : GoT.ok (n + 1) ((spec_PutEntry v (spec_l4Of u4) (1 + u19)).1 : List TableEntry)), hq14.2.1, hq14.2.2, (by omega), (by rw [v6]; rw [spec_l27Draw_L1]; simp only [h1, h1d, hu2, hu7, ct, cf, ↓reduceIte, Bool.false_eq_true])⟩ (by first | (dsimp only; omega) | omega) (.cons rfl (.cons rfl (.cons rfl (.cons rfl (.nil))))) (.cons rfl (.cons rfl (.cons rfl (.nil)))) .nil [0, 4] rfl
      ·skip
       refine TS.op 10 rfl (by kernel_rfl) ?_
       refine R0 ?_
       refine WX.back0 ?_
       refine TX.tail [9, 11] rfl rfl (by kernel_rfl) ?_
       refine R0 ?_
       refine WX.see rfl rfl rfl (fun _ hΓ => looks_arith rfl rfl rfl rfl (by unfold I64; first | omega | (simp only [List.length_take] at *; omega))) ?_
       refine R0 ?_
       refine WX.turn [30] 4 rfl (fun _ h => h) rfl ?_
       have r51 : (u4).size ≤ bd n := hq2.1
       have r52 : ((spec_PutEntry v (spec_l4Of u4) (1 + u19)).1).length ≤ bd (n + 4) := (okl hq15).1
       exact WX.iter (i - 1, p9, c8, (spec_PutEntry v (spec_l4Of u4) (1 + u19)).1, u20, u21) ⟨(by first | assumption | omega), (okl_mk (by omega) hfx7 : GoT.ok (n + 1) ((spec_PutEntry v (spec_l4Of u4) (1 + u19)).1 : List TableEntry)), hq14.2.1, hq14.2.2, (by omega), (by rw [v6]; rw [spec_l27Draw_L1]; simp only [h1, h1d, hu2, hu7, ct, cf, ↓reduceIte, Bool.false_eq_true])⟩ (by first | (dsimp only; omega) | omega) (.cons rfl (.cons rfl (.cons rfl (.cons rfl (.nil))))) (.cons rfl (.cons rfl (.cons rfl (.nil)))) .nil [0, 4] rfl
     ·skip
      refine TS.op 9 rfl (by kernel_rfl) ?_
      refine R0 ?_
      refine WX.back0 ?_
      refine TX.tail [8, 10, 11] rfl rfl (by kernel_rfl) ?_
      refine R0 ?_
      refine WX.see rfl rfl rfl (fun _ hΓ => looks_arith rfl rfl rfl rfl (by unfold I64; first | omega | (simp only [List.length_take] at *; omega))) ?_
      refine R0 ?_
      refine WX.turn [30] 4 rfl (fun _ h => h) rfl ?_
      have r53 : (u4).size ≤ bd n := hq2.1
      have r54 : ((spec_PutEntry v (spec_l4Of u4) (1 + u19)).1).length ≤ bd (n + 4) := (okl hq15).1
      exact WX.iter (i - 1, p9, c8, (spec_PutEntry v (spec_l4Of u4) (1 + u19)).1, u20, u21) ⟨(by first | assumption | omega), (okl_mk (by omega) hfx7 : GoT.ok (n + 1) ((spec_PutEntry v (spec_l4Of u4) (1 + u19)).1 : List TableEntry)), hq14.2.1, hq14.2.2, (by omega), (by rw [v6]; rw [spec_l27Draw_L1]; simp only [h1, h1d, hu2, hu7, ct, cf, ↓reduceIte, Bool.false_eq_true])⟩ (by first | (dsimp only; omega) | omega) (.cons rfl (.cons rfl (.cons rfl (.cons rfl (.nil))))) (.cons rfl (.cons rfl (.cons rfl (.nil)))) .nil [0, 4] rfl
    ·skip
     refine TS.op 5 rfl (by kernel_rfl) ?_
     have r55 : -9223372036854775808 ≤ u19 ∧ u19 ≤ 9223372036854775807 := hq14.1
     refine WX.see rfl rfl rfl (fun _ hΓ => looks_arith rfl rfl rfl rfl (by unfold I64; first | omega | (simp only [List.length_take] at *; omega))) ?_
     refine R0 ?_
     refine WX.back0 ?_
     refine TX.all1 2 (by kernel_rfl) ?_
     refine TS.op 2 rfl (by kernel_rfl) ?_
     refine R0 ?_
     refine WX.back0 ?_
     refine TX.all1 6 (by kernel_rfl) ?_
     refine TS.callF 6 31 (fun _ _ h => GoT.ow_rd h) (fun _ f hf => GoT.fak f hf) rfl rfl rfl rfl rfl rfl (fun _ => rfl) rfl (fun w G bs hI hΓ => f50 w (n + 1) (by omega) v pv cv (hΓ.get 11 rfl) (spec_l4Of u4) p2 c1 (hΓ.get 9 rfl) (1 + u19) (okl_of v2) hq3 (show I64 (1 + u19) from (by unfold I64; omega))) (fun _ => rfl) (fun _ => rfl) ?_
     rintro ⟨p10, c9⟩ hq16
     have q14 := (put_spec v (spec_l4Of u4) (1 + u19)).len
     have hfx8 := (put_spec v (spec_l4Of u4) (1 + u19)).els (k := (n + 1)) v2.2 hq3 (show I64 (1 + u19) from (by unfold I64; omega))
     refine TX.all1 7 (by kernel_rfl) ?_
     refine TS.op 7 rfl (by kernel_rfl) ?_
     refine R0 ?_
     refine WX.back0 ?_
     refine TX.all2 8 9 (by kernel_rfl) ?_ ?_
     ·skip
      refine TS.op 8 rfl (by kernel_rfl) ?_
      refine R0 ?_
      refine WX.back0 ?_
      refine TX.all2 9 10 (by kernel_rfl) ?_ ?_
      ·skip
       refine TS.op 9 rfl (by kernel_rfl) ?_
       refine R0 ?_
       refine WX.back0 ?_
       refine TX.tail [10, 11] rfl rfl (by kernel_rfl) ?_
       refine R0 ?_
       refine WX.see rfl rfl rfl (fun _ hΓ => looks_arith rfl rfl rfl rfl (by unfold I64; first | omega | (simp only [List.length_take] at *; omega))) ?_
       refine R0 ?_
       refine WX.turn [32] 4 rfl (fun _ h => h) rfl ?_
       have r56 : (u4).size ≤ bd n := hq2.1
       have r57 : ((spec_PutEntry v (spec_l4Of u4) (1 + u19)).1).length ≤ bd (n + 4) := (okl hq16).1
       exact WX.iter (i - 1, p10, c9, (spec_PutEntry v (spec_l4Of u4) (1 + u19)).1, u20, u21) ⟨(by first | assumption | omega), (okl_mk (by omega) hfx8 : GoT.ok (n + 1) ((spec_PutEntry v (spec_l4Of u4) (1 + u19)).1 : List TableEntry)), hq14.2.1, hq14.2.2, (by omega), (by rw [v6]; rw [spec_l27Draw_L1]; simp only [h1, h1d, hu2, hu7, ct, cf, ↓reduceIte, Bool.false_eq_true])⟩ (by first | (dsimp only; omega) | omega) (.cons rfl (.cons rfl (.cons rfl (.cons rfl (.nil))))) (.cons rfl (.cons rfl (.cons rfl (.nil)))) .nil [0, 4] rfl
      ·skip
       refine TS.op 10 rfl (by kernel_rfl) ?_
       refine R0 ?_
       refine WX.back0 ?_
       refine TX.tail [9, 11] rfl rfl (by kernel_rfl) ?_
       refine R0 ?_
       refine WX.see rfl rfl rfl (fun _ hΓ => looks_arith rfl rfl rfl rfl (by unfold I64; first | omega | (simp only [List.length_take] at *; omega))) ?_
       refine R0 ?_
       refine WX.turn [32] 4 rfl (fun _ h => h) rfl ?_
       have r58 : (u4).size ≤ bd n := hq2.1
       have r59 : ((spec_PutEntry v (spec_l4Of u4) (1 + u19)).1).length ≤ bd (n + 4) := (okl hq16).1
       exact WX.iter (i - 1, p10, c9, (spec_PutEntry v (spec_l4Of u4) (1 + u19)).1, u20, u21) ⟨(by first | assumption | omega), (okl_mk (by omega) hfx8 : GoT.ok (n + 1) ((spec_PutEntry v (spec_l4Of u4) (1 + u19)).1 : List TableEntry)), hq14.2.1, hq14.2.2, (by omega), (by rw [v6]; rw [spec_l27Draw_L1]; simp only [h1, h1d, hu2, hu7, ct, cf, ↓reduceIte, Bool.false_eq_true])⟩ (by first | (dsimp only; omega) | omega) (.cons rfl (.cons rfl (.cons rfl (.cons rfl (.nil))))) (.cons rfl (.cons rfl (.cons rfl (.nil)))) .nil [0, 4] rfl
     ·skip
      refine TS.op 9 rfl (by kernel_rfl) ?_
      refine R0 ?_
      refine WX.back0 ?_
      refine TX.tail [8, 10, 11] rfl rfl (by kernel_rfl) ?_
      refine R0 ?_
      refine WX.see rfl rfl rfl (fun _ hΓ => looks_arith rfl rfl rfl rfl (by unfold I64; first | omega | (simp only [List.length_take] at *; omega))) ?_
      refine R0 ?_
      refine WX.turn [32] 4 rfl (fun _ h => h) rfl ?_
      have r60 : (u4).size ≤ bd n := hq2.1
      have r61 : ((spec_PutEntry v (spec_l4Of u4) (1 + u19)).1).length ≤ bd (n + 4) := (okl hq16).1
      exact WX.iter (i - 1, p10, c9, (spec_PutEntry v (spec_l4Of u4) (1 + u19)).1, u20, u21) ⟨(by first | assumption | omega), (okl_mk (by omega) hfx8 : GoT.ok (n + 1) ((spec_PutEntry v (spec_l4Of u4) (1 + u19)).1 : List TableEntry)), hq14.2.1, hq14.2.2, (by omega), (by rw [v6]; rw [spec_l27Draw_L1]; simp only [h1, h1d, hu2, hu7, ct, cf, ↓reduceIte, Bool.false_eq_true])⟩ (by first | (dsimp only; omega) | omega) (.cons rfl (.cons rfl (.cons rfl (.cons rfl (.nil))))) (.cons rfl (.cons rfl (.cons rfl (.nil)))) .nil [0, 4] rfl
   ·skip
    refine TS.op 2 rfl (by kernel_rfl) ?_
    refine R0 ?_
    refine WX.back0 ?_
    refine TX.all2 1 5 (by kernel_rfl) ?_ ?_
    ·skip
     refine TS.op 1 rfl (by kernel_rfl) ?_
     refine R0 ?_
     refine WX.back0 ?_
     refine TX.all1 5 (by kernel_rfl) ?_
     refine TS.op 5 rfl (by kernel_rfl) ?_
     have r62 : -9223372036854775808 ≤ u19 ∧ u19 ≤ 9223372036854775807 := hq14.1
     refine WX.see rfl rfl rfl (fun _ hΓ => looks_arith rfl rfl rfl rfl (by unfold I64; first | omega | (simp only [List.length_take] at *; omega))) ?_
     refine R0 ?_
     refine WX.back0 ?_
     refine TX.all1 6 (by kernel_rfl) ?_
     refine TS.callF 6 33 (fun _ _ h => GoT.ow_rd h) (fun _ f hf => GoT.fak f hf) rfl rfl rfl rfl rfl rfl (fun _ => rfl) rfl (fun w G bs hI hΓ => f50 w (n + 1) (by omega) v pv cv (hΓ.get 11 rfl) (spec_l4Of u4) p2 c1 (hΓ.get 9 rfl) (1 + u19) (okl_of v2) hq3 (show I64 (1 + u19) from (by unfold I64; omega))) (fun _ => rfl) (fun _ => rfl) ?_
     rintro ⟨p11, c10⟩ hq17
     have q15 := (put_spec v (spec_l4Of u4) (1 + u19)).len
     have hfx9 := (put_spec v (spec_l4Of u4) (1 + u19)).els (k := (n + 1)) v2.2 hq3 (show I64 (1 + u19) from (by unfold I64; omega))
     refine TX.all1 7 (by kernel_rfl) ?_
     refine TS.op 7 rfl (by kernel_rfl) ?_
     refine R0 ?_
     refine WX.back0 ?_
     refine TX.all2 8 9 (by kernel_rfl) ?_ ?_
     ·skip
      refine TS.op 8 rfl (by kernel_rfl) ?_
      refine R0 ?_
      refine WX.back0 ?_
      refine TX.all2 9 10 (by kernel_rfl) ?_ ?_
      ·skip
       refine TS.op 9 rfl (by kernel_rfl) ?_
       refine R0 ?_
       refine WX.back0 ?_
       refine TX.tail [10, 11] rfl rfl (by kernel_rfl) ?_
       refine R0 ?_
       refine WX.see rfl rfl rfl (fun _ hΓ => looks_arith rfl rfl rfl rfl (by unfold I64; first | omega | (simp only [List.length_take] at *; omega))) ?_
       refine R0 ?_
       refine WX.turn [34] 4 rfl (fun _ h => h) rfl ?_
       have r63 : (u4).size ≤ bd n := hq2.1
       have r64 : ((spec_PutEntry v (spec_l4Of u4) (1 + u19)).1).length ≤ bd (n + 4) := (okl hq17).1
       exact WX.iter (i - 1, p11, c10, (spec_PutEntry v (spec_l4Of u4) (1 + u19)).1, u20, u21) ⟨(by first | assumption | omega), (okl_mk (by omega) hfx9 : GoT.ok (n + 1) ((spec_PutEntry v (spec_l4Of u4) (1 + u19)).1 : List TableEntry)), hq14.2.1, hq14.2.2, (by omega), (by rw [v6]; rw [spec_l27Draw_L1]; simp only [h1, h1d, hu2, hu7, ct, cf, ↓reduceIte, Bool.false_eq_true])⟩ (by first | (dsimp only; omega) | omega) (.cons rfl (.cons rfl (.cons rfl (.cons rfl (.nil))))) (.cons rfl (.cons rfl (.cons rfl (.nil)))) .nil [0, 4] rfl
      ·skip
       refine TS.op 10 rfl (by kernel_rfl) ?_
       refine R0 ?_
       refine WX.back0 ?_
       refine TX.tail [9, 11] rfl rfl (by kernel_rfl) ?_
       refine R0 ?_
       refine WX.see rfl rfl rfl (fun _ hΓ => looks_arith rfl rfl rfl rfl (by unfold I64; first | omega | (simp only [List.length_take] at *; omega))) ?_
       refine R0 ?_
       refine WX.turn [34] 4 rfl (fun _ h => h) rfl ?_
       have r65 : (u4).size ≤ bd n := hq2.1
       have r66 : ((spec_PutEntry v (spec_l4Of u4) (1 + u19)).1).length ≤ bd (n + 4) := (okl hq17).1
       exact WX.iter (i - 1, p11, c10, (spec_PutEntry v (spec_l4Of u4) (1 + u19)).1, u20, u21) ⟨(by first | assumption | omega), (okl_mk (by omega) hfx9 : GoT.ok (n + 1) ((spec_PutEntry v (spec_l4Of u4) (1 + u19)).1 : List TableEntry)), hq14.2.1, hq14.2.2, (by omega), (by rw [v6]; rw [spec_l27Draw_L1]; simp only [h1, h1d, hu2, hu7, ct, cf, ↓reduceIte, Bool.false_eq_true])⟩ (by first | (dsimp only; omega) | omega) (.cons rfl (.cons rfl (.cons rfl (.cons rfl (.nil))))) (.cons rfl (.cons rfl (.cons rfl (.nil)))) .nil [0, 4] rfl
     ·skip
      refine TS.op 9 rfl (by kernel_rfl) ?_
      refine R0 ?_
      refine WX.back0 ?_
      refine TX.tail [8, 10, 11] rfl rfl (by kernel_rfl) ?_
      refine R0 ?_
      refine WX.see rfl rfl rfl (fun _ hΓ => looks_arith rfl rfl rfl rfl (by unfold I64; first | omega | (simp only [List.length_take] at *; omega))) ?_
      refine R0 ?_
      refine WX.turn [34] 4 rfl (fun _ h => h) rfl ?_
      have r67 : (u4).size ≤ bd n := hq2.1
      have r68 : ((spec_PutEntry v (spec_l4Of u4) (1 + u19)).1).length ≤ bd (n + 4) := (okl hq17).1
      exact WX.iter (i - 1, p11, c10, (spec_PutEntry v (spec_l4Of u4) (1 + u19)).1, u20, u21) ⟨(by first | assumption | omega), (okl_mk (by omega) hfx9 : GoT.ok (n + 1) ((spec_PutEntry v (spec_l4Of u4) (1 + u19)).1 : List TableEntry)), hq14.2.1, hq14.2.2, (by omega), (by rw [v6]; rw [spec_l27Draw_L1]; simp only [h1, h1d, hu2, hu7, ct, cf, ↓reduceIte, Bool.false_eq_true])⟩ (by first | (dsimp only; omega) | omega) (.cons rfl (.cons rfl (.cons rfl (.cons rfl (.nil))))) (.cons rfl (.cons rfl (.cons rfl (.nil)))) .nil [0, 4] rfl
    ·skip
     refine TS.op 5 rfl (by kernel_rfl) ?_
     have r69 : -9223372036854775808 ≤ u19 ∧ u19 ≤ 9223372036854775807 := hq14.1
     refine WX.see rfl rfl rfl (fun _ hΓ => looks_arith rfl rfl rfl rfl (by unfold I64; first | omega | (simp only [List.length_take] at *; omega))) ?_
     refine R0 ?_
     refine WX.back0 ?_
     refine TX.all1 1 (by kernel_rfl) ?_
     refine TS.op 1 rfl (by kernel_rfl) ?_
     refine R0 ?_
     refine WX.back0 ?_
     refine TX.all1 6 (by kernel_rfl) ?_
     refine TS.callF 6 35 (fun _ _ h => GoT.ow_rd h) (fun _ f hf => GoT.fak f hf) rfl rfl rfl rfl rfl rfl (fun _ => rfl) rfl (fun w G bs hI hΓ => f50 w (n + 1) (by omega) v pv cv (hΓ.get 11 rfl) (spec_l4Of u4) p2 c1 (hΓ.get 9 rfl) (1 + u19) (okl_of v2) hq3 (show I64 (1 + u19) from (by unfold I64; omega))) (fun _ => rfl) (fun _ => rfl) ?_
     rintro ⟨p12, c11⟩ hq18
     have q16 := (put_spec v (spec_l4Of u4) (1 + u19)).len
     have hfx10 := (put_spec v (spec_l4Of u4) (1 + u19)).els (k := (n + 1)) v2.2 hq3 (show I64 (1 + u19) from (by unfold I64; omega))
     refine TX.all1 7 (by kernel_rfl) ?_
     refine TS.op 7 rfl (by kernel_rfl) ?_
     refine R0 ?_
     refine WX.back0 ?_
     refine TX.all2 8 9 (by kernel_rfl) ?_ ?_
     ·skip
      refine TS.op 8 rfl (by kernel_rfl) ?_
      refine R0 ?_
      refine WX.back0 ?_
      refine TX.all2 9 10 (by kernel_rfl) ?_ ?_
      ·skip
       refine TS.op 9 rfl (by kernel_rfl) ?_
       refine R0 ?_
       refine WX.back0 ?_
       refine TX.tail [10, 11] rfl rfl (by kernel_rfl) ?_
       refine R0 ?_
       refine WX.see rfl rfl rfl (fun _ hΓ => looks_arith rfl rfl rfl rfl (by unfold I64; first | omega | (simp only [List.length_take] at *; omega))) ?_
       refine R0 ?_
       refine WX.turn [36] 4 rfl (fun _ h => h) rfl ?_
       have r70 : (u4).size ≤ bd n := hq2.1
       have r71 : ((spec_PutEntry v (spec_l4Of u4) (1 + u19)).1).length ≤ bd (n + 4) := (okl hq18).1
       exact WX.iter (i - 1, p12, c11, (spec_PutEntry v (spec_l4Of u4) (1 + u19)).1, u20, u21) ⟨(by first | assumption | omega), (okl_mk (by omega) hfx10 : GoT.ok (n + 1) ((spec_PutEntry v (spec_l4Of u4) (1 + u19)).1 : List TableEntry)), hq14.2.1, hq14.2.2, (by omega), (by rw [v6]; rw [spec_l27Draw_L1]; simp only [h1, h1d, hu2, hu7, ct, cf, ↓reduceIte, Bool.false_eq_true])⟩ (by first | (dsimp only; omega) | omega) (.cons rfl (.cons rfl (.cons rfl (.cons rfl (.nil))))) (.cons rfl (.cons rfl (.cons rfl (.nil)))) .nil [0, 4] rfl
      ·skip
       refine TS.op 10 rfl (by kernel_rfl) ?_
       refine R0 ?_
       refine WX.back0 ?_
       refine TX.tail [9, 11] rfl rfl (by kernel_rfl) ?_
       refine R0 ?_
       refine WX.see rfl rfl rfl (fun _ hΓ => looks_arith rfl rfl rfl rfl (by unfold I64; first | omega | (simp only [List.length_take] at *; omega))) ?_
       refine R0 ?_
       refine WX.turn [36] 4 rfl (fun _ h => h) rfl ?_
       have r72 : (u4).size ≤ bd n := hq2.1
       have r73 : ((spec_PutEntry v (spec_l4Of u4) (1 + u19)).1).length ≤ bd (n + 4) := (okl hq18).1
       exact WX.iter (i - 1, p12, c11, (spec_PutEntry v (spec_l4Of u4) (1 + u19)).1, u20, u21) ⟨(by first | assumption | omega), (okl_mk (by omega) hfx10 : GoT.ok (n + 1) ((spec_PutEntry v (spec_l4Of u4) (1 + u19)).1 : List TableEntry)), hq14.2.1, hq14.2.2, (by omega), (by rw [v6]; rw [spec_l27Draw_L1]; simp only [h1, h1d, hu2, hu7, ct, cf, ↓reduceIte, Bool.false_eq_true])⟩ (by first | (dsimp only; omega) | omega) (.cons rfl (.cons rfl (.cons rfl (.cons rfl (.nil))))) (.cons rfl (.cons rfl (.cons rfl (.nil)))) .nil [0, 4] rfl
     ·skip
      refine TS.op 9 rfl (by kernel_rfl) ?_
      refine R0 ?_
      refine WX.back0 ?_
      refine TX.tail [8, 10, 11] rfl rfl (by kernel_rfl) ?_
      refine R0 ?_
      refine WX.see rfl rfl rfl (fun _ hΓ => looks_arith rfl rfl rfl rfl (by unfold I64; first | omega | (simp only [List.length_take] at *; omega))) ?_
      refine R0 ?_
      refine WX.turn [36] 4 rfl (fun _ h => h) rfl ?_
      have r74 : (u4).size ≤ bd n := hq2.1
      have r75 : ((spec_PutEntry v (spec_l4Of u4) (1 + u19)).1).length ≤ bd (n + 4) := (okl hq18).1
      exact WX.iter (i - 1, p12, c11, (spec_PutEntry v (spec_l4Of u4) (1 + u19)).1, u20, u21) ⟨(by first | assumption | omega), (okl_mk (by omega) hfx10 : GoT.ok (n + 1) ((spec_PutEntry v (spec_l4Of u4) (1 + u19)).1 : List TableEntry)), hq14.2.1, hq14.2.2, (by omega), (by rw [v6]; rw [spec_l27Draw_L1]; simp only [h1, h1d, hu2, hu7, ct, cf, ↓reduceIte, Bool.false_eq_true])⟩ (by first | (dsimp only; omega) | omega) (.cons rfl (.cons rfl (.cons rfl (.cons rfl (.nil))))) (.cons rfl (.cons rfl (.cons rfl (.nil)))) .nil [0, 4] rfl
   ·skip
    refine TS.op 5 rfl (by kernel_rfl) ?_
    have r76 : -9223372036854775808 ≤ u19 ∧ u19 ≤ 9223372036854775807 := hq14.1
    refine WX.see rfl rfl rfl (fun _ hΓ => looks_arith rfl rfl rfl rfl (by unfold I64; first | omega | (simp only [List.length_take] at *; omega))) ?_
    refine R0 ?_
    refine WX.back0 ?_
    refine TX.all2 1 2 (by kernel_rfl) ?_ ?_
    ·skip
     refine TS.op 1 rfl (by kernel_rfl) ?_
     refine R0 ?_
     refine WX.back0 ?_
     refine TX.all1 2 (by kernel_rfl) ?_
     refine TS.op 2 rfl (by kernel_rfl) ?_
     refine R0 ?_
     refine WX.back0 ?_
     refine TX.all1 6 (by kernel_rfl) ?_
     refine TS.callF 6 37 (fun _ _ h => GoT.ow_rd h) (fun _ f hf => GoT.fak f hf) rfl rfl rfl rfl rfl rfl (fun _ => rfl) rfl (fun w G bs hI hΓ => f50 w (n + 1) (by omega) v pv cv (hΓ.get 11 rfl) (spec_l4Of u4) p2 c1 (hΓ.get 9 rfl) (1 + u19) (okl_of v2) hq3 (show I64 (1 + u19) from (by unfold I64; omega))) (fun _ => rfl) (fun _ => rfl) ?_
     rintro ⟨p13, c12⟩ hq19
     have q17 := (put_spec v (spec_l4Of u4) (1 + u19)).len
     have hfx11 := (put_spec v (spec_l4Of u4) (1 + u19)).els (k := (n + 1)) v2.2 hq3 (show I64 (1 + u19) from (by unfold I64; omega))
     refine TX.all1 7 (by kernel_rfl) ?_
     refine TS.op 7 rfl (by kernel_rfl) ?_
     refine R0 ?_
     refine WX.back0 ?_
     refine TX.all2 8 9 (by kernel_rfl) ?_ ?_
     ·skip
      refine TS.op 8 rfl (by kernel_rfl) ?_
      refine R0 ?_
      refine WX.back0 ?_
      refine TX.all2 9 10 (by kernel_rfl) ?_ ?_
      ·skip
       refine TS.op 9 rfl (by kernel_rfl) ?_
       refine R0 ?_
       refine WX.back0 ?_
       refine TX.tail [10, 11] rfl rfl (by kernel_rfl) ?_
       refine R0 ?_
       refine WX.see rfl rfl rfl (fun _ hΓ => looks_arith rfl rfl rfl rfl (by unfold I64; first | omega | (simp only [List.length_take] at *; omega))) ?_
       refine R0 ?_
       refine WX.turn [38] 4 rfl (fun _ h => h) rfl ?_
       have r77 : (u4).size ≤ bd n := hq2.1
       have r78 : ((spec_PutEntry v (spec_l4Of u4) (1 + u19)).1).length ≤ bd (n + 4) := (okl hq19).1
       exact WX.iter (i - 1, p13, c12, (spec_PutEntry v (spec_l4Of u4) (1 + u19)).1, u20, u21) ⟨(by first | assumption | omega), (okl_mk (by omega) hfx11 : GoT.ok (n + 1) ((spec_PutEntry v (spec_l4Of u4) (1 + u19)).1 : List TableEntry)), hq14.2.1, hq14.2.2, (by omega), (by rw [v6]; rw [spec_l27Draw_L1]; simp only [h1, h1d, hu2, hu7, ct, cf, ↓reduceIte, Bool.false_eq_true])⟩ (by first | (dsimp only; omega) | omega) (.cons rfl (.cons rfl (.cons rfl (.cons rfl (.nil))))) (.cons rfl (.cons rfl (.cons rfl (.nil)))) .nil [0, 4] rfl
      ·skip
       refine TS.op 10 rfl (by kernel_rfl) ?_
       refine R0 ?_
       refine WX.back0 ?_
       refine TX.tail [9, 11] rfl rfl (by kernel_rfl) ?_
       refine R0 ?_
       refine WX.see rfl rfl rfl (fun _ hΓ => looks_arith rfl rfl rfl rfl (by unfold I64; first | omega | (simp only [List.length_take] at *; omega))) ?_
       refine R0 ?_
       refine WX.turn [38] 4 rfl (fun _ h => h) rfl ?_
       have r79 : (u4).size ≤ bd n := hq2.1
       have r80 : ((spec_PutEntry v (spec_l4Of u4) (1 + u19)).1).length ≤ bd (n + 4) := (okl hq19).1
       exact WX.iter (i - 1, p13, c12, (spec_PutEntry v (spec_l4Of u4) (1 + u19)).1, u20, u21) ⟨(by first | assumption | omega), (okl_mk (by omega) hfx11 : GoT.ok (n + 1) ((spec_PutEntry v (spec_l4Of u4) (1 + u19)).1 : List TableEntry)), hq14.2.1, hq14.2.2, (by omega), (by rw [v6]; rw [spec_l27Draw_L1]; simp only [h1, h1d, hu2, hu7, ct, cf, ↓reduceIte, Bool.false_eq_true])⟩ (by first | (dsimp only; omega) | omega) (.cons rfl (.cons rfl (.cons rfl (.cons rfl (.nil))))) (.cons rfl (.cons rfl (.cons rfl (.nil)))) .nil [0, 4] rfl
     ·skip
      refine TS.op 9 rfl (by kernel_rfl) ?_
      refine R0 ?_
      refine WX.back0 ?_
      refine TX.tail [8, 10, 11] rfl rfl (by kernel_rfl) ?_
      refine R0 ?_
      refine WX.see rfl rfl rfl (fun _ hΓ => looks_arith rfl rfl rfl rfl (by unfold I64; first | omega | (simp only [List.length_take] at *; omega))) ?_
      refine R0 ?_
      refine WX.turn [38] 4 rfl (fun _ h => h) rfl ?_
      have r81 : (u4).size ≤ bd n := hq2.1
      have r82 : ((spec_PutEntry v (spec_l4Of u4) (1 + u19)).1).length ≤ bd (n + 4) := (okl hq19).1
      exact WX.iter (i - 1, p13, c12, (spec_PutEntry v (spec_l4Of u4) (1 + u19)).1, u20, u21) ⟨(by first | assumption | omega), (okl_mk (by omega) hfx11 : GoT.ok (n + 1) ((spec_PutEntry v (spec_l4Of u4) (1 + u19)).1 : List TableEntry)), hq14.2.1, hq14.2.2, (by omega), (by rw [v6]; rw [spec_l27Draw_L1]; simp only [h1, h1d, hu2, hu7, ct, cf, ↓reduceIte, Bool.false_eq_true])⟩ (by first | (dsimp only; omega) | omega) (.cons rfl (.cons rfl (.cons rfl (.cons rfl (.nil))))) (.cons rfl (.cons rfl (.cons rfl (.nil)))) .nil [0, 4] rfl
    ·skip
     refine TS.op 2 rfl (by kernel_rfl) ?_
     refine R0 ?_
     refine WX.back0 ?_
     refine TX.all1 1 (by kernel_rfl) ?_
     refine TS.op 1 rfl (by kernel_rfl) ?_
     refine R0 ?_
     refine WX.back0 ?_
     refine TX.all1 6 (by kernel_rfl) ?_
     refine TS.callF 6 39 (fun _ _ h => GoT.ow_rd h) (fun _ f hf => GoT.fak f hf) rfl rfl rfl rfl rfl rfl (fun _ => rfl) rfl (fun w G bs hI hΓ => f50 w (n + 1) (by omega) v pv cv (hΓ.get 11 rfl) (spec_l4Of u4) p2 c1 (hΓ.get 9 rfl) (1 + u19) (okl_of v2) hq3 (show I64 (1 + u19) from (by unfold I64; omega))) (fun _ => rfl) (fun _ => rfl) ?_
     rintro ⟨p14, c13⟩ hq20
     have q18 := (put_spec v (spec_l4Of u4) (1 + u19)).len
     have hfx12 := (put_spec v (spec_l4Of u4) (1 + u19)).els (k := (n + 1)) v2.2 hq3 (show I64 (1 + u19) from (by unfold I64; omega))
     refine TX.all1 7 (by kernel_rfl) ?_
     refine TS.op 7 rfl (by kernel_rfl) ?_
     refine R0 ?_
     refine WX.back0 ?_
     refine TX.all2 8 9 (by kernel_rfl) ?_ ?_
     ·skip
      refine TS.op 8 rfl (by kernel_rfl) ?_
      refine R0 ?_
      refine WX.back0 ?_
      refine TX.all2 9 10 (by kernel_rfl) ?_ ?_
      ·skip
       refine TS.op 9 rfl (by kernel_rfl) ?_
       refine R0 ?_
       refine WX.back0 ?_
       refine TX.tail [10, 11] rfl rfl (by kernel_rfl) ?_
       refine R0 ?_
       refine WX.see rfl rfl rfl (fun _ hΓ => looks_arith rfl rfl rfl rfl (by unfold I64; first | omega | (simp only [List.length_take] at *; omega))) ?_
       refine R0 ?_
       refine WX.turn [40] 4 rfl (fun _ h => h) rfl ?_
       have r83 : (u4).size ≤ bd n := hq2.1
       have r84 : ((spec_PutEntry v (spec_l4Of u4) (1 + u19)).1).length ≤ bd (n + 4) := (okl hq20).1
       exact WX.iter (i - 1, p14, c13, (spec_PutEntry v (spec_l4Of u4) (1 + u19)).1, u20, u21) ⟨(by first | assumption | omega), (okl_mk (by omega) hfx12 : GoT.ok (n + 1) ((spec_PutEntry v (spec_l4Of u4) (1 + u19)).1 : List TableEntry)), hq14.2.1, hq14.2.2, (by omega), (by rw [v6]; rw [spec_l27Draw_L1]; simp only [h1, h1d, hu2, hu7, ct, cf, ↓reduceIte, Bool.false_eq_true])⟩ (by first | (dsimp only; omega) | omega) (.cons rfl (.cons rfl (.cons rfl (.cons rfl (.nil))))) (.cons rfl (.cons rfl (.cons rfl (.nil)))) .nil [0, 4] rfl
      ·skip
       refine TS.op 10 rfl (by kernel_rfl) ?_
       refine R0 ?_
       refine WX.back0 ?_
       refine TX.tail [9, 11] rfl rfl (by kernel_rfl) ?_
       refine R0 ?_
       refine WX.see rfl rfl rfl (fun _ hΓ => looks_arith rfl rfl rfl rfl (by unfold I64; first | omega | (simp only [List.length_take] at *; omega))) ?_
       refine R0 ?_
       refine WX.turn [40] 4 rfl (fun _ h => h) rfl ?_
       have r85 : (u4).size ≤ bd n := hq2.1
       have r86 : ((spec_PutEntry v (spec_l4Of u4) (1 + u19)).1).length ≤ bd (n + 4) := (okl hq20).1
       exact WX.iter (i - 1, p14, c13, (spec_PutEntry v (spec_l4Of u4) (1 + u19)).1, u20, u21) ⟨(by first | assumption | omega), (okl_mk (by omega) hfx12 : GoT.ok (n + 1) ((spec_PutEntry v (spec_l4Of u4) (1 + u19)).1 : List TableEntry)), hq14.2.1, hq14.2.2, (by omega), (by rw [v6]; rw [spec_l27Draw_L1]; simp only [h1, h1d, hu2, hu7, ct, cf, ↓reduceIte, Bool.false_eq_true])⟩ (by first | (dsimp only; omega) | omega) (.cons rfl (.cons rfl (.cons rfl (.cons rfl (.nil))))) (.cons rfl (.cons rfl (.cons rfl (.nil)))) .nil [0, 4] rfl
     ·skip
      refine TS.op 9 rfl (by kernel_rfl) ?_
      refine R0 ?_
      refine WX.back0 ?_
      refine TX.tail [8, 10, 11] rfl rfl (by kernel_rfl) ?_
      refine R0 ?_
      refine WX.see rfl rfl rfl (fun _ hΓ => looks_arith rfl rfl rfl rfl (by unfold I64; first | omega | (simp only [List.length_take] at *; omega))) ?_
      refine R0 ?_
      refine WX.turn [40] 4 rfl (fun _ h => h) rfl ?_
      have r87 : (u4).size ≤ bd n := hq2.1
      have r88 : ((spec_PutEntry v (spec_l4Of u4) (1 + u19)).1).length ≤ bd (n + 4) := (okl hq20).1
      exact WX.iter (i - 1, p14, c13, (spec_PutEntry v (spec_l4Of u4) (1 + u19)).1, u20, u21) ⟨(by first | assumption | omega), (okl_mk (by omega) hfx12 : GoT.ok (n + 1) ((spec_PutEntry v (spec_l4Of u4) (1 + u19)).1 : List TableEntry)), hq14.2.1, hq14.2.2, (by omega), (by rw [v6]; rw [spec_l27Draw_L1]; simp only [h1, h1d, hu2, hu7, ct, cf, ↓reduceIte, Bool.false_eq_true])⟩ (by first | (dsimp only; omega) | omega) (.cons rfl (.cons rfl (.cons rfl (.cons rfl (.nil))))) (.cons rfl (.cons rfl (.cons rfl (.nil)))) .nil [0, 4] rfl
 ·skip
  have h1d := B.df h1
  refine R0 ?_
  have hX1 : spec_l27Draw_L1 c_b u1 (([] : List TableEntry) : List TableEntry) u2 u3 = (i, ((v) : List TableEntry), u999_i, u999_h) := by rw [v6]; rw [spec_l27Draw_L1]; simp only [h1, h1d, ct, cf, ↓reduceIte, Bool.false_eq_true]
  have hP1 : spec_l27Draw c_b c_i c_h = (StateVector.mk v, u999_i, u999_h) := by simp only [spec_l27Draw, hu1, hX1, ct, cf]
  have hz1 := hP1.symm.trans hres
  obtain ⟨hz1, hz2⟩ := Prod.mk.inj hz1
  obtain ⟨hz2, hz3⟩ := Prod.mk.inj hz2
  subst hz1
  subst hz2
  subst hz3
  refine R1 ?_
  intro w1 G bs hI hΓ
  exact Post.ofL 999 [4] (pv, cv) hI hΓ rfl rfl rfl (by rw [hI.pin _ rfl]; first | done | rfl) (⟨(okl_of v2), ⟨v3, v4⟩⟩)
theorem f9 (w : World) (n : Nat) (hn : n + 4 ≤ 9) (code : (List UInt8)) (K0 : Option Addr) (M0 : Nat) (N0 : RdSl (hp w) K0 M0 code) (hokcode : GoT.ok n code) :
  Does Try.prog 9 #[.slice K0 ((code).length) M0] w emp (Post w emp (fun x : GoT.X (StateVector × StateVector × StateVector) => .tuple #[.agg ⟨GoT.sh ((spec_DrawVecs code).1 : StateVector) x.1⟩, .agg ⟨GoT.sh ((spec_DrawVecs code).2.1 : StateVector) x.2.1⟩, .agg ⟨GoT.sh ((spec_DrawVecs code).2.2 : StateVector) x.2.2⟩]) (fun x => GoT.oa (((spec_DrawVecs code).1, (spec_DrawVecs code).2.1, (spec_DrawVecs code).2.2) : StateVector × StateVector × StateVector) x) (GoT.ok (n + 1) ((spec_DrawVecs code).1 : StateVector) ∧ GoT.ok (n + 1) ((spec_DrawVecs code).2.1 : StateVector) ∧ GoT.ok (n + 1) ((spec_DrawVecs code).2.2 : StateVector))) := by
 have hbP := bd_pos n
 have hbS0 : bd (n + 1) = 4 * bd (n) := bd_succ (n := n) (by omega)
 have hbS1 : bd (n + 2) = 4 * bd (n + 1) := bd_succ (n := n + 1) (by omega)
 have hbS2 : bd (n + 3) = 4 * bd (n + 2) := bd_succ (n := n + 2) (by omega)
 have hbS3 : bd (n + 4) = 4 * bd (n + 3) := bd_succ (n := n + 3) (by omega)
 have hbB := bd_big (n := (n + 4)) (by omega)
 have hbM := bd_mono (show n ≤ n + 4 by omega)
 refine WX.enter (tt := tt) (Γ := [(0, MF.rs .stb K0 M0 code)]) Try.func9 rfl (by kernel_rfl) rfl (allS_cons rfl N0 allS_nil) ?_
 refine R0 ?_
 obtain ⟨⟨u1, u2⟩, hu1⟩ : ∃ r_, spec_l1New code = r_ := ⟨_, rfl⟩
 refine WX.callF (ds := fun _ => []) 1 (fun _ _ _ => All.nil) (fun _ f hf => by cases hf) rfl rfl rfl rfl rfl (fun _ => rfl) rfl (fun w G bs hI hΓ => f34 w n (by omega) code K0 M0 (hΓ.get 0 rfl) hokcode u1 u2 hu1) (fun _ => rfl) (fun _ => rfl) ?_
 rintro bn1 hq1
 refine WX.adopt 9 1 rfl rfl rfl ?_
 refine R0 ?_
 obtain ⟨⟨u3, u4, u5⟩, hu2⟩ : ∃ r_, spec_l27Draw code u1 u2 = r_ := ⟨_, rfl⟩
 refine WX.callP  9 2 rfl (fun _ _ h => GoT.ow_rd h) (fun _ f hf => GoT.fak f hf) rfl rfl rfl rfl rfl (fun _ => rfl) rfl (fun w G bs H hI hH hs hΓ => f36 w n (by omega) H hH (bs 9) code K0 M0 (hΓ.get 0 rfl) u1 u2 hs hokcode hq1.1 hq1.2 u3 u4 u5 hu2) (fun _ => rfl) (fun _ => rfl) ?_
 rintro ⟨p1, c1⟩ hq2
 have q1 := l27Draw_len code u1 u2
 rw [hu2] at q1
 try dsimp only at q1
 refine R0 ?_
 obtain ⟨⟨u6, u7, u8⟩, hu3⟩ : ∃ r_, spec_l27Draw code u4 u5 = r_ := ⟨_, rfl⟩
 refine WX.callP  9 4 rfl (fun _ _ h => GoT.ow_rd h) (fun _ f hf => GoT.fak f hf) rfl rfl rfl rfl rfl (fun _ => rfl) rfl (fun w G bs H hI hH hs hΓ => f36 w n (by omega) H hH (bs 9) code K0 M0 (hΓ.get 0 rfl) u4 u5 hs hokcode hq2.2.1 hq2.2.2 u6 u7 u8 hu3) (fun _ => rfl) (fun _ => rfl) ?_
 rintro ⟨p2, c2⟩ hq3
 have q2 := l27Draw_len code u4 u5
 rw [hu3] at q2
 try dsimp only at q2
 refine R0 ?_
 refine WX.draw [0, 1, 3, 4, 5, 6] mixed ?_
 intro bs G0 hΓ0
 refine DX.takes (fuel := 6) ttOk [(2, true)] (by kernel_rfl) rfl ?_
 refine DX.toTX ?_
 intro S_
 refine TX.all3 0 1 3 (by kernel_rfl) ?_ ?_ ?_
 ·skip
  refine TS.op 0 rfl (by kernel_rfl) ?_
  refine R0 ?_
  refine WX.back0 ?_
  refine TX.all2 1 3 (by kernel_rfl) ?_ ?_
  ·skip
   refine TS.op 1 rfl (by kernel_rfl) ?_
   refine R0 ?_
   refine WX.back0 ?_
   refine TX.tail [3, 4, 5, 6] rfl rfl (by kernel_rfl) ?_
   obtain ⟨⟨u9, u10, u11⟩, hu4⟩ : ∃ r_, spec_l27Draw code u7 u8 = r_ := ⟨_, rfl⟩
   refine WX.callP  9 6 rfl (fun _ _ h => GoT.ow_rd h) (fun _ f hf => GoT.fak f hf) rfl rfl rfl rfl rfl (fun _ => rfl) rfl (fun w G bs H hI hH hs hΓ => f36 w n (by omega) H hH (bs 9) code K0 M0 (hΓ.get 0 rfl) u7 u8 hs hokcode hq3.2.1 hq3.2.2 u9 u10 u11 hu4) (fun _ => rfl) (fun _ => rfl) ?_
   rintro ⟨p3, c3⟩ hq4
   have q3 := l27Draw_len code u7 u8
   rw [hu4] at q3
   try dsimp only at q3
   refine R0 ?_
   have hP1 : spec_DrawVecs code = (u3, u6, u9) := by simp only [spec_DrawVecs, hu1, hu2, hu3, hu4, ct, cf]
   refine R1 ?_
   intro w1 G bs hI hΓ
   rw [hP1]
   exact Post.of [3, 5, 7] ((p1, c1), (p2, c2), (p3, c3)) hI hΓ rfl rfl rfl (⟨hq2.1, ⟨hq3.1, hq4.1⟩⟩)
  ·skip
   refine TS.op 3 rfl (by kernel_rfl) ?_
   obtain ⟨⟨u12, u13, u14⟩, hu5⟩ : ∃ r_, spec_l27Draw code u7 u8 = r_ := ⟨_, rfl⟩
   refine WX.callP  9 8 rfl (fun _ _ h => GoT.ow_rd h) (fun _ f hf => GoT.fak f hf) rfl rfl rfl rfl rfl (fun _ => rfl) rfl (fun w G bs H hI hH hs hΓ => f36 w n (by omega) H hH (bs 9) code K0 M0 (hΓ.get 0 rfl) u7 u8 hs hokcode hq3.2.1 hq3.2.2 u12 u13 u14 hu5) (fun _ => rfl) (fun _ => rfl) ?_
   rintro ⟨p4, c4⟩ hq5
   have q4 := l27Draw_len code u7 u8
   rw [hu5] at q4
   try dsimp only at q4
   refine R0 ?_
   refine WX.back0 ?_
   refine TX.all2 1 4 (by kernel_rfl) ?_ ?_
   ·skip
    refine TS.op 1 rfl (by kernel_rfl) ?_
    refine R0 ?_
    refine WX.back0 ?_
    refine TX.tail [4, 5, 6] rfl rfl (by kernel_rfl) ?_
    refine R0 ?_
    have hP2 : spec_DrawVecs code = (u3, u6, u12) := by simp only [spec_DrawVecs, hu1, hu2, hu3, hu5, ct, cf]
    refine R1 ?_
    intro w1 G bs hI hΓ
    rw [hP2]
    exact Post.of [3, 5, 9] ((p1, c1), (p2, c2), (p4, c4)) hI hΓ rfl rfl rfl (⟨hq2.1, ⟨hq3.1, hq5.1⟩⟩)
   ·skip
    refine TS.op 4 rfl (by kernel_rfl) ?_
    refine R0 ?_
    refine WX.back0 ?_
    refine TX.tail [1, 5, 6] rfl rfl (by kernel_rfl) ?_
    refine R0 ?_
    have hP3 : spec_DrawVecs code = (u3, u6, u12) := by simp only [spec_DrawVecs, hu1, hu2, hu3, hu5, ct, cf]
    refine R1 ?_
    intro w1 G bs hI hΓ
    rw [hP3]
    exact Post.of [3, 5, 9] ((p1, c1), (p2, c2), (p4, c4)) hI hΓ rfl rfl rfl (⟨hq2.1, ⟨hq3.1, hq5.1⟩⟩)
 ·skip
  refine TS.op 1 rfl (by kernel_rfl) ?_
  refine R0 ?_
  refine WX.back0 ?_
  refine TX.all2 0 3 (by kernel_rfl) ?_ ?_
  ·skip
   refine TS.op 0 rfl (by kernel_rfl) ?_
   refine R0 ?_
   refine WX.back0 ?_
   refine TX.tail [3, 4, 5, 6] rfl rfl (by kernel_rfl) ?_
   obtain ⟨⟨u15, u16, u17⟩, hu6⟩ : ∃ r_, spec_l27Draw code u7 u8 = r_ := ⟨_, rfl⟩
   refine WX.callP  9 10 rfl (fun _ _ h => GoT.ow_rd h) (fun _ f hf => GoT.fak f hf) rfl rfl rfl rfl rfl (fun _ => rfl) rfl (fun w G bs H hI hH hs hΓ => f36 w n (by omega) H hH (bs 9) code K0 M0 (hΓ.get 0 rfl) u7 u8 hs hokcode hq3.2.1 hq3.2.2 u15 u16 u17 hu6) (fun _ => rfl) (fun _ => rfl) ?_
   rintro ⟨p5, c5⟩ hq6
   have q5 := l27Draw_len code u7 u8
   rw [hu6] at q5
   try dsimp only at q5
   refine R0 ?_
   have hP4 : spec_DrawVecs code = (u3, u6, u15) := by simp only [spec_DrawVecs, hu1, hu2, hu3, hu6, ct, cf]
   refine R1 ?_
   intro w1 G bs hI hΓ
   rw [hP4]
   exact Post.of [3, 5, 11] ((p1, c1), (p2, c2), (p5, c5)) hI hΓ rfl rfl rfl (⟨hq2.1, ⟨hq3.1, hq6.1⟩⟩)
  ·skip
   refine TS.op 3 rfl (by kernel_rfl) ?_
   obtain ⟨⟨u18, u19, u20⟩, hu7⟩ : ∃ r_, spec_l27Draw code u7 u8 = r_ := ⟨_, rfl⟩
   refine WX.callP  9 12 rfl (fun _ _ h => GoT.ow_rd h) (fun _ f hf => GoT.fak f hf) rfl rfl rfl rfl rfl (fun _ => rfl) rfl (fun w G bs H hI hH hs hΓ => f36 w n (by omega) H hH (bs 9) code K0 M0 (hΓ.get 0 rfl) u7 u8 hs hokcode hq3.2.1 hq3.2.2 u18 u19 u20 hu7) (fun _ => rfl) (fun _ => rfl) ?_
   rintro ⟨p6, c6⟩ hq7
   have q6 := l27Draw_len code u7 u8
   rw [hu7] at q6
   try dsimp only at q6
   refine R0 ?_
   refine WX.back0 ?_
   refine TX.tail [0, 4, 5, 6] rfl rfl (by kernel_rfl) ?_
   refine R0 ?_
   have hP5 : spec_DrawVecs code = (u3, u6, u18) := by simp only [spec_DrawVecs, hu1, hu2, hu3, hu7, ct, cf]
   refine R1 ?_
   intro w1 G bs hI hΓ
   rw [hP5]
   exact Post.of [3, 5, 13] ((p1, c1), (p2, c2), (p6, c6)) hI hΓ rfl rfl rfl (⟨hq2.1, ⟨hq3.1, hq7.1⟩⟩)
 ·skip
  refine TS.op 3 rfl (by kernel_rfl) ?_
  obtain ⟨⟨u21, u22, u23⟩, hu8⟩ : ∃ r_, spec_l27Draw code u7 u8 = r_ := ⟨_, rfl⟩
  refine WX.callP  9 14 rfl (fun _ _ h => GoT.ow_rd h) (fun _ f hf => GoT.fak f hf) rfl rfl rfl rfl rfl (fun _ => rfl) rfl (fun w G bs H hI hH hs hΓ => f36 w n (by omega) H hH (bs 9) code K0 M0 (hΓ.get 0 rfl) u7 u8 hs hokcode hq3.2.1 hq3.2.2 u21 u22 u23 hu8) (fun _ => rfl) (fun _ => rfl) ?_
  rintro ⟨p7, c7⟩ hq8
  have q7 := l27Draw_len code u7 u8
  rw [hu8] at q7
  try dsimp only at q7
  refine R0 ?_
  refine WX.back0 ?_
  refine TX.all2 0 1 (by kernel_rfl) ?_ ?_
  ·skip
   refine TS.op 0 rfl (by kernel_rfl) ?_
   refine R0 ?_
   refine WX.back0 ?_
   refine TX.all2 1 4 (by kernel_rfl) ?_ ?_
   ·skip
    refine TS.op 1 rfl (by kernel_rfl) ?_
    refine R0 ?_
    refine WX.back0 ?_
    refine TX.tail [4, 5, 6] rfl rfl (by kernel_rfl) ?_
    refine R0 ?_
    have hP6 : spec_DrawVecs code = (u3, u6, u21) := by simp only [spec_DrawVecs, hu1, hu2, hu3, hu8, ct, cf]
    refine R1 ?_
    intro w1 G bs hI hΓ
    rw [hP6]
    exact Post.of [3, 5, 15] ((p1, c1), (p2, c2), (p7, c7)) hI hΓ rfl rfl rfl (⟨hq2.1, ⟨hq3.1, hq8.1⟩⟩)
   ·skip
    refine TS.op 4 rfl (by kernel_rfl) ?_
    refine R0 ?_
    refine WX.back0 ?_
    refine TX.tail [1, 5, 6] rfl rfl (by kernel_rfl) ?_
    refine R0 ?_
    have hP7 : spec_DrawVecs code = (u3, u6, u21) := by simp only [spec_DrawVecs, hu1, hu2, hu3, hu8, ct, cf]
    refine R1 ?_
    intro w1 G bs hI hΓ
    rw [hP7]
    exact Post.of [3, 5, 15] ((p1, c1), (p2, c2), (p7, c7)) hI hΓ rfl rfl rfl (⟨hq2.1, ⟨hq3.1, hq8.1⟩⟩)
  ·skip
   refine TS.op 1 rfl (by kernel_rfl) ?_
   refine R0 ?_
   refine WX.back0 ?_
   refine TX.tail [0, 4, 5, 6] rfl rfl (by kernel_rfl) ?_
   refine R0 ?_
   have hP8 : spec_DrawVecs code = (u3, u6, u21) := by simp only [spec_DrawVecs, hu1, hu2, hu3, hu8, ct, cf]
   refine R1 ?_
   intro w1 G bs hI hΓ
   rw [hP8]
   exact Post.of [3, 5, 15] ((p1, c1), (p2, c2), (p7, c7)) hI hΓ rfl rfl rfl (⟨hq2.1, ⟨hq3.1, hq8.1⟩⟩)
theorem f38 (w : World) (n : Nat) (hn : n + 4 ≤ 9) (H : GH) (hH : Le H (hp w)) (bc_ : Nat) (c_b : (List UInt8)) (K0 : Option Addr) (M0 : Nat) (N0 : RdSl (cut (hp w) H) K0 M0 c_b) (c_i : Int) (c_h : Int) (hown : Sep H [MF.bx bc_ 80 [.slice K0 ((c_b).length) M0, .int .i64 (c_i), .int .i64 (c_h)]]) (hokc_b : GoT.ok n c_b) (hokc_i : NN c_i) (hokc_h : GoT.ok n c_h) (o0_ : StateVector) (o1_ : Int) (o2_ : Int) (hres : spec_l27Any c_b c_i c_h = (o0_, o1_, o2_)) :
  Does Try.prog 38 #[.pointer (some ⟨bc_, 0, none⟩)] w H (Post w H (fun x : GoT.X (StateVector) => .agg ⟨GoT.sh (o0_ : StateVector) x⟩) (fun x => MF.bx bc_ 80 [.slice K0 ((c_b).length) M0, .int .i64 (o1_), .int .i64 (o2_)] :: GoT.oa (o0_ : StateVector) x) (GoT.ok (n + 1) (o0_ : StateVector) ∧ NN (o1_) ∧ I64 (o2_))) := by
 have hbP := bd_pos n
 have hbS0 : bd (n + 1) = 4 * bd (n) := bd_succ (n := n) (by omega)
 have hbS1 : bd (n + 2) = 4 * bd (n + 1) := bd_succ (n := n + 1) (by omega)
 have hbS2 : bd (n + 3) = 4 * bd (n + 2) := bd_succ (n := n + 2) (by omega)
 have hbS3 : bd (n + 4) = 4 * bd (n + 3) := bd_succ (n := n + 3) (by omega)
 have hbB := bd_big (n := (n + 4)) (by omega)
 have hbM := bd_mono (show n ≤ n + 4 by omega)
 have hc_bz : (c_b).length ≤ bd n := (okl hokc_b).1
 refine WX.enterP (tt := tt) (Γ := [(0, MF.rs .stb K0 M0 c_b)]) 1 Try.func38 rfl (by kernel_rfl) rfl (allS_cons rfl N0 allS_nil) hH hown (fun f hf => by cases hf) rfl ?_
 refine R0 ?_
 obtain ⟨⟨u1, u2, u3⟩, hu1⟩ : ∃ r_, spec_l27Draw c_b c_i c_h = r_ := ⟨_, rfl⟩
 refine WX.callP  999 2 rfl (fun _ _ h => GoT.ow_rd h) (fun _ f hf => GoT.fak f hf) rfl rfl rfl rfl rfl (fun _ => rfl) rfl (fun w G bs H hI hH hs hΓ => f36 w n (by omega) H hH (bs 999) c_b K0 M0 (hΓ.get 0 rfl) c_i c_h hs hokc_b hokc_i hokc_h u1 u2 u3 hu1) (fun _ => rfl) (fun _ => rfl) ?_
 rintro ⟨p1, c1⟩ hq1
 have q1 := l27Draw_len c_b c_i c_h
 rw [hu1] at q1
 try dsimp only at q1
 refine R0 ?_
 obtain ⟨⟨u4, u5, u6⟩, hu2⟩ : ∃ r_, spec_l1Below c_b u2 u3 10 = r_ := ⟨_, rfl⟩
 refine WX.callP (ds := fun _ => [])  999 4 rfl (fun _ _ _ => All.nil) (fun _ f hf => by cases hf) rfl rfl rfl rfl rfl (fun _ => rfl) rfl (fun w G bs H hI hH hs hΓ => f35 w n (by omega) H hH (bs 999) c_b K0 M0 (hΓ.get 0 rfl) u2 u3 10 hs hokc_b hq1.2.1 hq1.2.2 (show I64 10 from (by unfold I64; omega)) u4 u5 u6 hu2) (fun _ => rfl) (fun _ => rfl) ?_
 rintro ⟨⟩ hq2
 have q2 := l1Below_rng c_b u2 u3 10
 rw [hu2] at q2
 try dsimp only at q2
 refine R0 ?_
 refine WX.cases 8 rfl (fun h1 => ?_) (fun h1 => ?_)
 ·skip
  have h1d := B.et h1
  refine R0 ?_
  refine WX.draw [1, 3, 6, 7, 9, 10, 11] mixed ?_
  intro bs G0 hΓ0
  refine DX.takes (fuel := 9) ttOk [(0, true), (2, true), (4, true)] (by kernel_rfl) rfl ?_
  refine DX.toTX ?_
  intro S_
  refine TX.all3 1 3 5 (by kernel_rfl) ?_ ?_ ?_
  ·skip
   refine TS.op 1 rfl (by kernel_rfl) ?_
   refine R0 ?_
   refine WX.back0 ?_
   refine TX.all2 3 5 (by kernel_rfl) ?_ ?_
   ·skip
    refine TS.op 3 rfl (by kernel_rfl) ?_
    obtain ⟨⟨u7, u8, u9⟩, hu3⟩ : ∃ r_, spec_l4Any c_b u5 u6 = r_ := ⟨_, rfl⟩
    refine WX.callP  999 5 rfl (fun _ _ h => GoT.ow_rd h) (fun _ f hf => GoT.fak f hf) rfl rfl rfl rfl rfl (fun _ => rfl) rfl (fun w G bs H hI hH hs hΓ => f67 w n (by omega) H hH (bs 999) c_b K0 M0 (hΓ.get 0 rfl) u5 u6 hs hokc_b hq2.2.1 hq2.2.2 u7 u8 u9 hu3) (fun _ => rfl) (fun _ => rfl) ?_
    rintro ⟨p2, c2⟩ hq3
    have q3 := l4Any_len c_b u5 u6
    rw [hu3] at q3
    try dsimp only at q3
    refine R0 ?_
    refine WX.back0 ?_
    refine TX.tail [5, 6, 7, 8, 9, 10, 11] rfl rfl (by kernel_rfl) ?_
    refine WX.bld ttOk rfl rfl rfl rfl rfl rfl rfl ?_
    intro p3
    refine WX.turn [] 7 rfl (fun h hs => one_sep (⟨(), _, emp, _, rfl, emp_le _, Le.refl _, emp_dj _, trivial, ⟨(), _, emp, _, rfl, emp_le _, Le.refl _, emp_dj _, trivial, ⟨(), _, emp, _, rfl, emp_le _, Le.refl _, emp_dj _, trivial, ⟨(), _, emp, _, rfl, emp_le _, Le.refl _, emp_dj _, trivial, ⟨(), _, emp, _, rfl, emp_le _, Le.refl _, emp_dj _, trivial, rfl⟩⟩⟩⟩⟩ : OwL _ _ ([0, 1, 1000, 1001, (-1)] : List Int))) (gs := [MF.ol [.int .i64 (0), .int .i64 (1), .int .i64 (1000), .int .i64 (1001), .int .i64 ((-1))] ([0, 1, 1000, 1001, (-1)] : List Int)]) rfl ?_
    refine WX.seal 15 7 8 rfl rfl rfl rfl rfl ?_
    obtain ⟨⟨u10, u11, u12⟩, hu4⟩ : ∃ r_, spec_l1Int c_b u8 u9 ([0, 1, 1000, 1001, (-1)]) = r_ := ⟨_, rfl⟩
    refine WX.callP (ds := fun _ => [])  999 10 rfl (fun _ _ _ => All.nil) (fun _ f hf => by cases hf) rfl rfl rfl rfl rfl (fun _ => rfl) rfl (fun w G bs H hI hH hs hΓ => f68 w n (by omega) H hH (bs 999) c_b K0 M0 (hΓ.get 0 rfl) u8 u9 ([0, 1, 1000, 1001, (-1)]) p3 5 (hΓ.get 8 rfl) hs hokc_b hq3.2.1 hq3.2.2 (by first | assumption | omega | (simp; done) | (simp; omega)) (okl_mk (by simp; omega) (all_cons (α := Int) (show I64 0 from (by unfold I64; omega)) (all_cons (α := Int) (show I64 1 from (by unfold I64; omega)) (all_cons (α := Int) (show I64 1000 from (by unfold I64; omega)) (all_cons (α := Int) (show I64 1001 from (by unfold I64; omega)) (all_cons (α := Int) (show I64 (-1) from (by unfold I64; omega)) (fun a ha => by cases ha)))))) : GoT.ok n ([0, 1, 1000, 1001, (-1)] : List Int)) u10 u11 u12 hu4) (fun _ => rfl) (fun _ => rfl) ?_
    rintro ⟨⟩ hq4
    refine R0 ?_
    refine WX.bld ttOk rfl rfl rfl rfl rfl rfl rfl ?_
    intro p4
    refine WX.opn (kk := 2) 501 3 11 rfl rfl rfl ?_
    intro xs1 hx1
    refine WX.turn [6] 12 rfl (fun h hs => ol_one (α := TableEntry) (a := (TableEntry.mk u7 u10)) (x := ((p2, c2), ())) hs) (gs := [MF.ol [.slice p2 ((u7.parts).length) c2, .int .i64 (u10)] ([(TableEntry.mk u7 u10)] : List TableEntry)]) rfl ?_
    have r1 : (u1.entries).length ≤ bd (n + 1) := (okl (ok_StateVector hq1.1)).1
    have r2 : -9223372036854775808 ≤ u10 ∧ u10 ≤ 9223372036854775807 := hq4.1
    refine WX.know (fun G hΓ => (hΓ.get 12 rfl : OwL _ _ _).rd.one) ?_
    intro ho1
    refine WX.appR1 501 18 ((u1.entries ++ [(TableEntry.mk u7 u10)]) : List TableEntry).length ttOk rfl rfl rfl rfl rfl rfl rfl rfl rfl rfl rfl rfl rfl ho1 (by simp) (by simp; omega) (by simp; omega) (fun _ _ => rfl) ?_
    intro p5 c3
    refine WX.turn [11, 12] 13 rfl (fun h hs => ol_app hs) (gs := [MF.ol (xs1 ++ [.slice p2 ((u7.parts).length) c2, .int .i64 (u10)]) ((u1.entries ++ [(TableEntry.mk u7 u10)]) : List TableEntry)]) rfl ?_
    refine R0 ?_
    refine WX.seal 501 13 14 rfl rfl rfl rfl rfl ?_
    have hP1 : spec_l27Any c_b c_i c_h = (StateVector.mk (u1.entries ++ [(TableEntry.mk u7 u10)]), u11, u12) := by simp only [spec_l27Any, hu1, hu2, h1, hu3, hu4, ct, cf]
    have hz1 := hP1.symm.trans hres
    obtain ⟨hz1, hz2⟩ := Prod.mk.inj hz1
    obtain ⟨hz2, hz3⟩ := Prod.mk.inj hz2
    subst hz1
    subst hz2
    subst hz3
    refine R1 ?_
    intro w1 G bs hI hΓ
    exact Post.ofL 999 [15] (p5, c3) hI hΓ rfl rfl rfl (by rw [hI.pin _ rfl]; first | done | rfl) (⟨(okl_mk (by simp; omega) (all_app (okl (ok_StateVector hq1.1)).2 (fun a ha => GoT.okm (by omega) ((all_cons (α := TableEntry) (And.intro hq3.1 hq4.1) (fun a ha => by cases ha)) a ha))) : GoT.ok (n + 1) ((u1.entries ++ [(TableEntry.mk u7 u10)]) : List TableEntry)), ⟨hq4.2.1, hq4.2.2⟩⟩)
   ·skip
    refine TS.op 5 rfl (by kernel_rfl) ?_
    refine WX.bld ttOk rfl rfl rfl rfl rfl rfl rfl ?_
    intro p6
    refine R0 ?_
    refine WX.back0 ?_
    refine TX.tail [3, 6, 7, 8, 9, 10, 11] rfl rfl (by kernel_rfl) ?_
    obtain ⟨⟨u13, u14, u15⟩, hu5⟩ : ∃ r_, spec_l4Any c_b u5 u6 = r_ := ⟨_, rfl⟩
    refine WX.callP  999 16 rfl (fun _ _ h => GoT.ow_rd h) (fun _ f hf => GoT.fak f hf) rfl rfl rfl rfl rfl (fun _ => rfl) rfl (fun w G bs H hI hH hs hΓ => f67 w n (by omega) H hH (bs 999) c_b K0 M0 (hΓ.get 0 rfl) u5 u6 hs hokc_b hq2.2.1 hq2.2.2 u13 u14 u15 hu5) (fun _ => rfl) (fun _ => rfl) ?_
    rintro ⟨p7, c4⟩ hq5
    have q4 := l4Any_len c_b u5 u6
    rw [hu5] at q4
    try dsimp only at q4
    refine WX.turn [] 18 rfl (fun h hs => one_sep (⟨(), _, emp, _, rfl, emp_le _, Le.refl _, emp_dj _, trivial, ⟨(), _, emp, _, rfl, emp_le _, Le.refl _, emp_dj _, trivial, ⟨(), _, emp, _, rfl, emp_le _, Le.refl _, emp_dj _, trivial, ⟨(), _, emp, _, rfl, emp_le _, Le.refl _, emp_dj _, trivial, ⟨(), _, emp, _, rfl, emp_le _, Le.refl _, emp_dj _, trivial, rfl⟩⟩⟩⟩⟩ : OwL _ _ ([0, 1, 1000, 1001, (-1)] : List Int))) (gs := [MF.ol [.int .i64 (0), .int .i64 (1), .int .i64 (1000), .int .i64 (1001), .int .i64 ((-1))] ([0, 1, 1000, 1001, (-1)] : List Int)]) rfl ?_
    refine WX.seal 15 18 19 rfl rfl rfl rfl rfl ?_
    obtain ⟨⟨u16, u17, u18⟩, hu6⟩ : ∃ r_, spec_l1Int c_b u14 u15 ([0, 1, 1000, 1001, (-1)]) = r_ := ⟨_, rfl⟩
    refine WX.callP (ds := fun _ => [])  999 21 rfl (fun _ _ _ => All.nil) (fun _ f hf => by cases hf) rfl rfl rfl rfl rfl (fun _ => rfl) rfl (fun w G bs H hI hH hs hΓ => f68 w n (by omega) H hH (bs 999) c_b K0 M0 (hΓ.get 0 rfl) u14 u15 ([0, 1, 1000, 1001, (-1)]) p6 5 (hΓ.get 19 rfl) hs hokc_b hq5.2.1 hq5.2.2 (by first | assumption | omega | (simp; done) | (simp; omega)) (okl_mk (by simp; omega) (all_cons (α := Int) (show I64 0 from (by unfold I64; omega)) (all_cons (α := Int) (show I64 1 from (by unfold I64; omega)) (all_cons (α := Int) (show I64 1000 from (by unfold I64; omega)) (all_cons (α := Int) (show I64 1001 from (by unfold I64; omega)) (all_cons (α := Int) (show I64 (-1) from (by unfold I64; omega)) (fun a ha => by cases ha)))))) : GoT.ok n ([0, 1, 1000, 1001, (-1)] : List Int)) u16 u17 u18 hu6) (fun _ => rfl) (fun _ => rfl) ?_
    rintro ⟨⟩ hq6
    refine R0 ?_
    refine WX.bld ttOk rfl rfl rfl rfl rfl rfl rfl ?_
    intro p8
    refine WX.opn (kk := 2) 502 3 22 rfl rfl rfl ?_
    intro xs2 hx2
    refine WX.turn [17] 23 rfl (fun h hs => ol_one (α := TableEntry) (a := (TableEntry.mk u13 u16)) (x := ((p7, c4), ())) hs) (gs := [MF.ol [.slice p7 ((u13.parts).length) c4, .int .i64 (u16)] ([(TableEntry.mk u13 u16)] : List TableEntry)]) rfl ?_
    have r3 : (u1.entries).length ≤ bd (n + 1) := (okl (ok_StateVector hq1.1)).1
    have r4 : -9223372036854775808 ≤ u16 ∧ u16 ≤ 9223372036854775807 := hq6.1
    refine WX.know (fun G hΓ => (hΓ.get 23 rfl : OwL _ _ _).rd.one) ?_
    intro ho2
    refine WX.appR1 502 18 ((u1.entries ++ [(TableEntry.mk u13 u16)]) : List TableEntry).length ttOk rfl rfl rfl rfl rfl rfl rfl rfl rfl rfl rfl rfl rfl ho2 (by simp) (by simp; omega) (by simp; omega) (fun _ _ => rfl) ?_
    intro p9 c5
    refine WX.turn [22, 23] 24 rfl (fun h hs => ol_app hs) (gs := [MF.ol (xs2 ++ [.slice p7 ((u13.parts).length) c4, .int .i64 (u16)]) ((u1.entries ++ [(TableEntry.mk u13 u16)]) : List TableEntry)]) rfl ?_
    refine R0 ?_
    refine WX.seal 502 24 25 rfl rfl rfl rfl rfl ?_
    have hP2 : spec_l27Any c_b c_i c_h = (StateVector.mk (u1.entries ++ [(TableEntry.mk u13 u16)]), u17, u18) := by simp only [spec_l27Any, hu1, hu2, h1, hu5, hu6, ct, cf]
    have hz1 := hP2.symm.trans hres
    obtain ⟨hz1, hz2⟩ := Prod.mk.inj hz1
    obtain ⟨hz2, hz3⟩ := Prod.mk.inj hz2
    subst hz1
    subst hz2
    subst hz3
    refine R1 ?_
    intro w1 G bs hI hΓ
    exact Post.ofL 999 [26] (p9, c5) hI hΓ rfl rfl rfl (by rw [hI.pin _ rfl]; first | done | rfl) (⟨(okl_mk (by simp; omega) (all_app (okl (ok_StateVector hq1.1)).2 (fun a ha => GoT.okm (by omega) ((all_cons (α := TableEntry) (And.intro hq5.1 hq6.1) (fun a ha => by cases ha)) a ha))) : GoT.ok (n + 1) ((u1.entries ++ [(TableEntry.mk u13 u16)]) : List TableEntry)), ⟨hq6.2.1, hq6.2.2⟩⟩)
  ·skip
   refine TS.op 3 rfl (by kernel_rfl) ?_
   obtain ⟨⟨u19, u20, u21⟩, hu7⟩ : ∃ r_, spec_l4Any c_b u5 u6 = r_ := ⟨_, rfl⟩
   refine WX.callP  999 27 rfl (fun _ _ h => GoT.ow_rd h) (fun _ f hf => GoT.fak f hf) rfl rfl rfl rfl rfl (fun _ => rfl) rfl (fun w G bs H hI hH hs hΓ => f67 w n (by omega) H hH (bs 999) c_b K0 M0 (hΓ.get 0 rfl) u5 u6 hs hokc_b hq2.2.1 hq2.2.2 u19 u20 u21 hu7) (fun _ => rfl) (fun _ => rfl) ?_
   rintro ⟨p10, c6⟩ hq7
   have q5 := l4Any_len c_b u5 u6
   rw [hu7] at q5
   try dsimp only at q5
   refine R0 ?_
   refine WX.back0 ?_
   refine TX.all2 1 5 (by kernel_rfl) ?_ ?_
   ·skip
    refine TS.op 1 rfl (by kernel_rfl) ?_
    refine R0 ?_
    refine WX.back0 ?_
    refine TX.tail [5, 6, 7, 8, 9, 10, 11] rfl rfl (by kernel_rfl) ?_
    refine WX.bld ttOk rfl rfl rfl rfl rfl rfl rfl ?_
    intro p11
    refine WX.turn [] 29 rfl (fun h hs => one_sep (⟨(), _, emp, _, rfl, emp_le _, Le.refl _, emp_dj _, trivial, ⟨(), _, emp, _, rfl, emp_le _, Le.refl _, emp_dj _, trivial, ⟨(), _, emp, _, rfl, emp_le _, Le.refl _, emp_dj _, trivial, ⟨(), _, emp, _, rfl, emp_le _, Le.refl _, emp_dj _, trivial, ⟨(), _, emp, _, rfl, emp_le _, Le.refl _, emp_dj _, trivial, rfl⟩⟩⟩⟩⟩ : OwL _ _ ([0, 1, 1000, 1001, (-1)] : List Int))) (gs := [MF.ol [.int .i64 (0), .int .i64 (1), .int .i64 (1000), .int .i64 (1001), .int .i64 ((-1))] ([0, 1, 1000, 1001, (-1)] : List Int)]) rfl ?_
    refine WX.seal 15 29 30 rfl rfl rfl rfl rfl ?_
    obtain ⟨⟨u22, u23, u24⟩, hu8⟩ : ∃ r_, spec_l1Int c_b u20 u21 ([0, 1, 1000, 1001, (-1)]) = r_ := ⟨_, rfl⟩
    refine WX.callP (ds := fun _ => [])  999 32 rfl (fun _ _ _ => All.nil) (fun _ f hf => by cases hf) rfl rfl rfl rfl rfl (fun _ => rfl) rfl (fun w G bs H hI hH hs hΓ => f68 w n (by omega) H hH (bs 999) c_b K0 M0 (hΓ.get 0 rfl) u20 u21 ([0, 1, 1000, 1001, (-1)]) p11 5 (hΓ.get 30 rfl) hs hokc_b hq7.2.1 hq7.2.2 (by first | assumption | omega | (simp; done) | (simp; omega)) (okl_mk (by simp; omega) (all_cons (α := Int) (show I64 0 from (by unfold I64; omega)) (all_cons (α := Int) (show I64 1 from (by unfold I64; omega)) (all_cons (α := Int) (show I64 1000 from (by unfold I64; omega)) (all_cons (α := Int) (show I64 1001 from (by unfold I64; omega)) (all_cons (α := Int) (show I64 (-1) from (by unfold I64; omega)) (fun a ha => by cases ha)))))) : GoT.ok n ([0, 1, 1000, 1001, (-1)] : List Int)) u22 u23 u24 hu8) (fun _ => rfl) (fun _ => rfl) ?_
    rintro ⟨⟩ hq8
    refine R0 ?_
    refine WX.bld ttOk rfl rfl rfl rfl rfl rfl rfl ?_
    intro p12
    refine WX.opn (kk := 2) 503 3 33 rfl rfl rfl ?_
    intro xs3 hx3
    refine WX.turn [28] 34 rfl (fun h hs => ol_one (α := TableEntry) (a := (TableEntry.mk u19 u22)) (x := ((p10, c6), ())) hs) (gs := [MF.ol [.slice p10 ((u19.parts).length) c6, .int .i64 (u22)] ([(TableEntry.mk u19 u22)] : List TableEntry)]) rfl ?_
    have r5 : (u1.entries).length ≤ bd (n + 1) := (okl (ok_StateVector hq1.1)).1
    have r6 : -9223372036854775808 ≤ u22 ∧ u22 ≤ 9223372036854775807 := hq8.1
    refine WX.know (fun G hΓ => (hΓ.get 34 rfl : OwL _ _ _).rd.one) ?_
    intro ho3
    refine WX.appR1 503 18 ((u1.entries ++ [(TableEntry.mk u19 u22)]) : List TableEntry).length ttOk rfl rfl rfl rfl rfl rfl rfl rfl rfl rfl rfl rfl rfl ho3 (by simp) (by simp; omega) (by simp; omega) (fun _ _ => rfl) ?_
    intro p13 c7
    refine WX.turn [33, 34] 35 rfl (fun h hs => ol_app hs) (gs := [MF.ol (xs3 ++ [.slice p10 ((u19.parts).length) c6, .int .i64 (u22)]) ((u1.entries ++ [(TableEntry.mk u19 u22)]) : List TableEntry)]) rfl ?_
    refine R0 ?_
    refine WX.seal 503 35 36 rfl rfl rfl rfl rfl ?_
    have hP3 : spec_l27Any c_b c_i c_h = (StateVector.mk (u1.entries ++ [(TableEntry.mk u19 u22)]), u23, u24) := by simp only [spec_l27Any, hu1, hu2, h1, hu7, hu8, ct, cf]
    have hz1 := hP3.symm.trans hres
    obtain ⟨hz1, hz2⟩ := Prod.mk.inj hz1
    obtain ⟨hz2, hz3⟩ := Prod.mk.inj hz2
    subst hz1
    subst hz2
    subst hz3
    refine R1 ?_
    intro w1 G bs hI hΓ
    exact Post.ofL 999 [37] (p13, c7) hI hΓ rfl rfl rfl (by rw [hI.pin _ rfl]; first | done | rfl) (⟨(okl_mk (by simp; omega) (all_app (okl (ok_StateVector hq1.1)).2 (fun a ha => GoT.okm (by omega) ((all_cons (α := TableEntry) (And.intro hq7.1 hq8.1) (fun a ha => by cases ha)) a ha))) : GoT.ok (n + 1) ((u1.entries ++ [(TableEntry.mk u19 u22)]) : List TableEntry)), ⟨hq8.2.1, hq8.2.2⟩⟩)
   ·skip
    refine TS.op 5 rfl (by kernel_rfl) ?_
    refine WX.bld ttOk rfl rfl rfl rfl rfl rfl rfl ?_
    intro p14
    refine R0 ?_
    refine WX.back0 ?_
    refine TX.all2 1 6 (by kernel_rfl) ?_ ?_
    ·skip
     refine TS.op 1 rfl (by kernel_rfl) ?_
     refine R0 ?_
     refine WX.back0 ?_
     refine TX.tail [6, 7, 8, 9, 10, 11] rfl rfl (by kernel_rfl) ?_
     refine WX.turn [] 38 rfl (fun h hs => one_sep (⟨(), _, emp, _, rfl, emp_le _, Le.refl _, emp_dj _, trivial, ⟨(), _, emp, _, rfl, emp_le _, Le.refl _, emp_dj _, trivial, ⟨(), _, emp, _, rfl, emp_le _, Le.refl _, emp_dj _, trivial, ⟨(), _, emp, _, rfl, emp_le _, Le.refl _, emp_dj _, trivial, ⟨(), _, emp, _, rfl, emp_le _, Le.refl _, emp_dj _, trivial, rfl⟩⟩⟩⟩⟩ : OwL _ _ ([0, 1, 1000, 1001, (-1)] : List Int))) (gs := [MF.ol [.int .i64 (0), .int .i64 (1), .int .i64 (1000), .int .i64 (1001), .int .i64 ((-1))] ([0, 1, 1000, 1001, (-1)] : List Int)]) rfl ?_
     refine WX.seal 15 38 39 rfl rfl rfl rfl rfl ?_
     obtain ⟨⟨u25, u26, u27⟩, hu9⟩ : ∃ r_, spec_l1Int c_b u20 u21 ([0, 1, 1000, 1001, (-1)]) = r_ := ⟨_, rfl⟩
     refine WX.callP (ds := fun _ => [])  999 41 rfl (fun _ _ _ => All.nil) (fun _ f hf => by cases hf) rfl rfl rfl rfl rfl (fun _ => rfl) rfl (fun w G bs H hI hH hs hΓ => f68 w n (by omega) H hH (bs 999) c_b K0 M0 (hΓ.get 0 rfl) u20 u21 ([0, 1, 1000, 1001, (-1)]) p14 5 (hΓ.get 39 rfl) hs hokc_b hq7.2.1 hq7.2.2 (by first | assumption | omega | (simp; done) | (simp; omega)) (okl_mk (by simp; omega) (all_cons (α := Int) (show I64 0 from (by unfold I64; omega)) (all_cons (α := Int) (show I64 1 from (by unfold I64; omega)) (all_cons (α := Int) (show I64 1000 from (by unfold I64; omega)) (all_cons (α := Int) (show I64 1001 from (by unfold I64; omega)) (all_cons (α := Int) (show I64 (-1) from (by unfold I64; omega)) (fun a ha => by cases ha)))))) : GoT.ok n ([0, 1, 1000, 1001, (-1)] : List Int)) u25 u26 u27 hu9) (fun _ => rfl) (fun _ => rfl) ?_
     rintro ⟨⟩ hq9
     refine R0 ?_
     refine WX.bld ttOk rfl rfl rfl rfl rfl rfl rfl ?_
     intro p15
     refine WX.opn (kk := 2) 504 3 42 rfl rfl rfl ?_
     intro xs4 hx4
     refine WX.turn [28] 43 rfl (fun h hs => ol_one (α := TableEntry) (a := (TableEntry.mk u19 u25)) (x := ((p10, c6), ())) hs) (gs := [MF.ol [.slice p10 ((u19.parts).length) c6, .int .i64 (u25)] ([(TableEntry.mk u19 u25)] : List TableEntry)]) rfl ?_
     have r7 : (u1.entries).length ≤ bd (n + 1) := (okl (ok_StateVector hq1.1)).1
     have r8 : -9223372036854775808 ≤ u25 ∧ u25 ≤ 9223372036854775807 := hq9.1
     refine WX.know (fun G hΓ => (hΓ.get 43 rfl : OwL _ _ _).rd.one) ?_
     intro ho4
     refine WX.appR1 504 18 ((u1.entries ++ [(TableEntry.mk u19 u25)]) : List TableEntry).length ttOk rfl rfl rfl rfl rfl rfl rfl rfl rfl rfl rfl rfl rfl ho4 (by simp) (by simp; omega) (by simp; omega) (fun _ _ => rfl) ?_
     intro p16 c8
     refine WX.turn [42, 43] 44 rfl (fun h hs => ol_app hs) (gs := [MF.ol (xs4 ++ [.slice p10 ((u19.parts).length) c6, .int .i64 (u25)]) ((u1.entries ++ [(TableEntry.mk u19 u25)]) : List TableEntry)]) rfl ?_
     refine R0 ?_
     refine WX.seal 504 44 45 rfl rfl rfl rfl rfl ?_
     have hP4 : spec_l27Any c_b c_i c_h = (StateVector.mk (u1.entries ++ [(TableEntry.mk u19 u25)]), u26, u27) := by simp only [spec_l27Any, hu1, hu2, h1, hu7, hu9, ct, cf]
     have hz1 := hP4.symm.trans hres
     obtain ⟨hz1, hz2⟩ := Prod.mk.inj hz1
     obtain ⟨hz2, hz3⟩ := Prod.mk.inj hz2
     subst hz1
     subst hz2
     subst hz3
     refine R1 ?_
     intro w1 G bs hI hΓ
     exact Post.ofL 999 [46] (p16, c8) hI hΓ rfl rfl rfl (by rw [hI.pin _ rfl]; first | done | rfl) (⟨(okl_mk (by simp; omega) (all_app (okl (ok_StateVector hq1.1)).2 (fun a ha => GoT.okm (by omega) ((all_cons (α := TableEntry) (And.intro hq7.1 hq9.1) (fun a ha => by cases ha)) a ha))) : GoT.ok (n + 1) ((u1.entries ++ [(TableEntry.mk u19 u25)]) : List TableEntry)), ⟨hq9.2.1, hq9.2.2⟩⟩)
    ·skip
     refine TS.op 6 rfl (by kernel_rfl) ?_
     refine WX.turn [] 47 rfl (fun h hs => one_sep (⟨(), _, emp, _, rfl, emp_le _, Le.refl _, emp_dj _, trivial, ⟨(), _, emp, _, rfl, emp_le _, Le.refl _, emp_dj _, trivial, ⟨(), _, emp, _, rfl, emp_le _, Le.refl _, emp_dj _, trivial, ⟨(), _, emp, _, rfl, emp_le _, Le.refl _, emp_dj _, trivial, ⟨(), _, emp, _, rfl, emp_le _, Le.refl _, emp_dj _, trivial, rfl⟩⟩⟩⟩⟩ : OwL _ _ ([0, 1, 1000, 1001, (-1)] : List Int))) (gs := [MF.ol [.int .i64 (0), .int .i64 (1), .int .i64 (1000), .int .i64 (1001), .int .i64 ((-1))] ([0, 1, 1000, 1001, (-1)] : List Int)]) rfl ?_
     refine WX.seal 15 47 48 rfl rfl rfl rfl rfl ?_
     obtain ⟨⟨u28, u29, u30⟩, hu10⟩ : ∃ r_, spec_l1Int c_b u20 u21 ([0, 1, 1000, 1001, (-1)]) = r_ := ⟨_, rfl⟩
     refine WX.callP (ds := fun _ => [])  999 50 rfl (fun _ _ _ => All.nil) (fun _ f hf => by cases hf) rfl rfl rfl rfl rfl (fun _ => rfl) rfl (fun w G bs H hI hH hs hΓ => f68 w n (by omega) H hH (bs 999) c_b K0 M0 (hΓ.get 0 rfl) u20 u21 ([0, 1, 1000, 1001, (-1)]) p14 5 (hΓ.get 48 rfl) hs hokc_b hq7.2.1 hq7.2.2 (by first | assumption | omega | (simp; done) | (simp; omega)) (okl_mk (by simp; omega) (all_cons (α := Int) (show I64 0 from (by unfold I64; omega)) (all_cons (α := Int) (show I64 1 from (by unfold I64; omega)) (all_cons (α := Int) (show I64 1000 from (by unfold I64; omega)) (all_cons (α := Int) (show I64 1001 from (by unfold I64; omega)) (all_cons (α := Int) (show I64 (-1) from (by unfold I64; omega)) (fun a ha => by cases ha)))))) : GoT.ok n ([0, 1, 1000, 1001, (-1)] : List Int)) u28 u29 u30 hu10) (fun _ => rfl) (fun _ => rfl) ?_
     rintro ⟨⟩ hq10
     refine R0 ?_
     refine WX.back0 ?_
     refine TX.all2 1 7 (by kernel_rfl) ?_ ?_
     ·skip
      refine TS.op 1 rfl (by kernel_rfl) ?_
      refine R0 ?_
      refine WX.back0 ?_
      refine TX.tail [7, 8, 9, 10, 11] rfl rfl (by kernel_rfl) ?_
      refine R0 ?_
      refine WX.bld ttOk rfl rfl rfl rfl rfl rfl rfl ?_
      intro p17
      refine WX.opn (kk := 2) 505 3 51 rfl rfl rfl ?_
      intro xs5 hx5
      refine WX.turn [28] 52 rfl (fun h hs => ol_one (α := TableEntry) (a := (TableEntry.mk u19 u28)) (x := ((p10, c6), ())) hs) (gs := [MF.ol [.slice p10 ((u19.parts).length) c6, .int .i64 (u28)] ([(TableEntry.mk u19 u28)] : List TableEntry)]) rfl ?_
      have r9 : (u1.entries).length ≤ bd (n + 1) := (okl (ok_StateVector hq1.1)).1
      have r10 : -9223372036854775808 ≤ u28 ∧ u28 ≤ 9223372036854775807 := hq10.1
      refine WX.know (fun G hΓ => (hΓ.get 52 rfl : OwL _ _ _).rd.one) ?_
      intro ho5
      refine WX.appR1 505 18 ((u1.entries ++ [(TableEntry.mk u19 u28)]) : List TableEntry).length ttOk rfl rfl rfl rfl rfl rfl rfl rfl rfl rfl rfl rfl rfl ho5 (by simp) (by simp; omega) (by simp; omega) (fun _ _ => rfl) ?_
      intro p18 c9
      refine WX.turn [51, 52] 53 rfl (fun h hs => ol_app hs) (gs := [MF.ol (xs5 ++ [.slice p10 ((u19.parts).length) c6, .int .i64 (u28)]) ((u1.entries ++ [(TableEntry.mk u19 u28)]) : List TableEntry)]) rfl ?_
      refine R0 ?_
      refine WX.seal 505 53 54 rfl rfl rfl rfl rfl ?_
      have hP5 : spec_l27Any c_b c_i c_h = (StateVector.mk (u1.entries ++ [(TableEntry.mk u19 u28)]), u29, u30) := by simp only [spec_l27Any, hu1, hu2, h1, hu7, hu10, ct, cf]
      have hz1 := hP5.symm.trans hres
      obtain ⟨hz1, hz2⟩ := Prod.mk.inj hz1
      obtain ⟨hz2, hz3⟩ := Prod.mk.inj hz2
      subst hz1
      subst hz2
      subst hz3
      refine R1 ?_
      intro w1 G bs hI hΓ
      exact Post.ofL 999 [55] (p18, c9) hI hΓ rfl rfl rfl (by rw [hI.pin _ rfl]; first | done | rfl) (⟨(okl_mk (by simp; omega) (all_app (okl (ok_StateVector hq1.1)).2 (fun a ha => GoT.okm (by omega) ((all_cons (α := TableEntry) (And.intro hq7.1 hq10.1) (fun a ha => by cases ha)) a ha))) : GoT.ok (n + 1) ((u1.entries ++ [(TableEntry.mk u19 u28)]) : List TableEntry)), ⟨hq10.2.1, hq10.2.2⟩⟩)
     ·skip
      refine TS.op 7 rfl (by kernel_rfl) ?_
      refine R0 ?_
      refine WX.back0 ?_
      refine TX.all2 1 8 (by kernel_rfl) ?_ ?_
      ·skip
       refine TS.op 1 rfl (by kernel_rfl) ?_
       refine R0 ?_
       refine WX.back0 ?_
       refine TX.tail [8, 9, 10, 11] rfl rfl (by kernel_rfl) ?_
       refine WX.bld ttOk rfl rfl rfl rfl rfl rfl rfl ?_
       intro p19
       refine WX.opn (kk := 2) 506 3 56 rfl rfl rfl ?_
       intro xs6 hx6
       refine WX.turn [28] 57 rfl (fun h hs => ol_one (α := TableEntry) (a := (TableEntry.mk u19 u28)) (x := ((p10, c6), ())) hs) (gs := [MF.ol [.slice p10 ((u19.parts).length) c6, .int .i64 (u28)] ([(TableEntry.mk u19 u28)] : List TableEntry)]) rfl ?_
       have r11 : (u1.entries).length ≤ bd (n + 1) := (okl (ok_StateVector hq1.1)).1
       have r12 : -9223372036854775808 ≤ u28 ∧ u28 ≤ 9223372036854775807 := hq10.1
       refine WX.know (fun G hΓ => (hΓ.get 57 rfl : OwL _ _ _).rd.one) ?_
       intro ho6
       refine WX.appR1 506 18 ((u1.entries ++ [(TableEntry.mk u19 u28)]) : List TableEntry).length ttOk rfl rfl rfl rfl rfl rfl rfl rfl rfl rfl rfl rfl rfl ho6 (by simp) (by simp; omega) (by simp; omega) (fun _ _ => rfl) ?_
       intro p20 c10
       refine WX.turn [56, 57] 58 rfl (fun h hs => ol_app hs) (gs := [MF.ol (xs6 ++ [.slice p10 ((u19.parts).length) c6, .int .i64 (u28)]) ((u1.entries ++ [(TableEntry.mk u19 u28)]) : List TableEntry)]) rfl ?_
       refine R0 ?_
       refine WX.seal 506 58 59 rfl rfl rfl rfl rfl ?_
       have hP6 : spec_l27Any c_b c_i c_h = (StateVector.mk (u1.entries ++ [(TableEntry.mk u19 u28)]), u29, u30) := by simp only [spec_l27Any, hu1, hu2, h1, hu7, hu10, ct, cf]
       have hz1 := hP6.symm.trans hres
       obtain ⟨hz1, hz2⟩ := Prod.mk.inj hz1
       obtain ⟨hz2, hz3⟩ := Prod.mk.inj hz2
       subst hz1
       subst hz2
       subst hz3
       refine R1 ?_
       intro w1 G bs hI hΓ
       exact Post.ofL 999 [60] (p20, c10) hI hΓ rfl rfl rfl (by rw [hI.pin _ rfl]; first | done | rfl) (⟨(okl_mk (by simp; omega) (all_app (okl (ok_StateVector hq1.1)).2 (fun a ha => GoT.okm (by omega) ((all_cons (α := TableEntry) (And.intro hq7.1 hq10.1) (fun a ha => by cases ha)) a ha))) : GoT.ok (n + 1) ((u1.entries ++ [(TableEntry.mk u19 u28)]) : List TableEntry)), ⟨hq10.2.1, hq10.2.2⟩⟩)
      ·skip
       refine TS.op 8 rfl (by kernel_rfl) ?_
       refine WX.bld ttOk rfl rfl rfl rfl rfl rfl rfl ?_
       intro p21
       refine R0 ?_
       refine WX.back0 ?_
       refine TX.tail [1, 9, 10, 11] rfl rfl (by kernel_rfl) ?_
       refine R0 ?_
       refine WX.opn (kk := 2) 507 3 61 rfl rfl rfl ?_
       intro xs7 hx7
       refine WX.turn [28] 62 rfl (fun h hs => ol_one (α := TableEntry) (a := (TableEntry.mk u19 u28)) (x := ((p10, c6), ())) hs) (gs := [MF.ol [.slice p10 ((u19.parts).length) c6, .int .i64 (u28)] ([(TableEntry.mk u19 u28)] : List TableEntry)]) rfl ?_
       have r13 : (u1.entries).length ≤ bd (n + 1) := (okl (ok_StateVector hq1.1)).1
       have r14 : -9223372036854775808 ≤ u28 ∧ u28 ≤ 9223372036854775807 := hq10.1
       refine WX.know (fun G hΓ => (hΓ.get 62 rfl : OwL _ _ _).rd.one) ?_
       intro ho7
       refine WX.appR1 507 18 ((u1.entries ++ [(TableEntry.mk u19 u28)]) : List TableEntry).length ttOk rfl rfl rfl rfl rfl rfl rfl rfl rfl rfl rfl rfl rfl ho7 (by simp) (by simp; omega) (by simp; omega) (fun _ _ => rfl) ?_
       intro p22 c11
       refine WX.turn [61, 62] 63 rfl (fun h hs => ol_app hs) (gs := [MF.ol (xs7 ++ [.slice p10 ((u19.parts).length) c6, .int .i64 (u28)]) ((u1.entries ++ [(TableEntry.mk u19 u28)]) : List TableEntry)]) rfl ?_
       refine R0 ?_
       refine WX.seal 507 63 64 rfl rfl rfl rfl rfl ?_
       have hP7 : spec_l27Any c_b c_i c_h = (StateVector.mk (u1.entries ++ [(TableEntry.mk u19 u28)]), u29, u30) := by simp only [spec_l27Any, hu1, hu2, h1, hu7, hu10, ct, cf]
       have hz1 := hP7.symm.trans hres
       obtain ⟨hz1, hz2⟩ := Prod.mk.inj hz1
       obtain ⟨hz2, hz3⟩ := Prod.mk.inj hz2
       subst hz1
       subst hz2
       subst hz3
       refine R1 ?_
       intro w1 G bs hI hΓ
       exact Post.ofL 999 [65] (p22, c11) hI hΓ rfl rfl rfl (by rw [hI.pin _ rfl]; first | done | rfl) (⟨(okl_mk (by simp; omega) (all_app (okl (ok_StateVector hq1.1)).2 (fun a ha => GoT.okm (by omega) ((all_cons (α := TableEntry) (And.intro hq7.1 hq10.1) (fun a ha => by cases ha)) a ha))) : GoT.ok (n + 1) ((u1.entries ++ [(TableEntry.mk u19 u28)]) : List TableEntry)), ⟨hq10.2.1, hq10.2.2⟩⟩)
  ·skip
   refine TS.op 5 rfl (by kernel_rfl) ?_
   refine WX.bld ttOk rfl rfl rfl rfl rfl rfl rfl ?_
   intro p23
   refine R0 ?_
   refine WX.back0 ?_
   refine TX.all2 1 3 (by kernel_rfl) ?_ ?_
   ·skip
    refine TS.op 1 rfl (by kernel_rfl) ?_
    refine R0 ?_
    refine WX.back0 ?_
    refine TX.tail [3, 6, 7, 8, 9, 10, 11] rfl rfl (by kernel_rfl) ?_
    obtain ⟨⟨u31, u32, u33⟩, hu11⟩ : ∃ r_, spec_l4Any c_b u5 u6 = r_ := ⟨_, rfl⟩
    refine WX.callP  999 66 rfl (fun _ _ h => GoT.ow_rd h) (fun _ f hf => GoT.fak f hf) rfl rfl rfl rfl rfl (fun _ => rfl) rfl (fun w G bs H hI hH hs hΓ => f67 w n (by omega) H hH (bs 999) c_b K0 M0 (hΓ.get 0 rfl) u5 u6 hs hokc_b hq2.2.1 hq2.2.2 u31 u32 u33 hu11) (fun _ => rfl) (fun _ => rfl) ?_
    rintro ⟨p24, c12⟩ hq11
    have q6 := l4Any_len c_b u5 u6
    rw [hu11] at q6
    try dsimp only at q6
    refine WX.turn [] 68 rfl (fun h hs => one_sep (⟨(), _, emp, _, rfl, emp_le _, Le.refl _, emp_dj _, trivial, ⟨(), _, emp, _, rfl, emp_le _, Le.refl _, emp_dj _, trivial, ⟨(), _, emp, _, rfl, emp_le _, Le.refl _, emp_dj _, trivial, ⟨(), _, emp, _, rfl, emp_le _, Le.refl _, emp_dj _, trivial, ⟨(), _, emp, _, rfl, emp_le _, Le.refl _, emp_dj _, trivial, rfl⟩⟩⟩⟩⟩ : OwL _ _ ([0, 1, 1000, 1001, (-1)] : List Int))) (gs := [MF.ol [.int .i64 (0), .int .i64 (1), .int .i64 (1000), .int .i64 (1001), .int .i64 ((-1))] ([0, 1, 1000, 1001, (-1)] : List Int)]) rfl ?_
    refine WX.seal 15 68 69 rfl rfl rfl rfl rfl ?_
    obtain ⟨⟨u34, u35, u36⟩, hu12⟩ : ∃ r_, spec_l1Int c_b u32 u33 ([0, 1, 1000, 1001, (-1)]) = r_ := ⟨_, rfl⟩
    refine WX.callP (ds := fun _ => [])  999 71 rfl (fun _ _ _ => All.nil) (fun _ f hf => by cases hf) rfl rfl rfl rfl rfl (fun _ => rfl) rfl (fun w G bs H hI hH hs hΓ => f68 w n (by omega) H hH (bs 999) c_b K0 M0 (hΓ.get 0 rfl) u32 u33 ([0, 1, 1000, 1001, (-1)]) p23 5 (hΓ.get 69 rfl) hs hokc_b hq11.2.1 hq11.2.2 (by first | assumption | omega | (simp; done) | (simp; omega)) (okl_mk (by simp; omega) (all_cons (α := Int) (show I64 0 from (by unfold I64; omega)) (all_cons (α := Int) (show I64 1 from (by unfold I64; omega)) (all_cons (α := Int) (show I64 1000 from (by unfold I64; omega)) (all_cons (α := Int) (show I64 1001 from (by unfold I64; omega)) (all_cons (α := Int) (show I64 (-1) from (by unfold I64; omega)) (fun a ha => by cases ha)))))) : GoT.ok n ([0, 1, 1000, 1001, (-1)] : List Int)) u34 u35 u36 hu12) (fun _ => rfl) (fun _ => rfl) ?_
    rintro ⟨⟩ hq12
    refine R0 ?_
    refine WX.bld ttOk rfl rfl rfl rfl rfl rfl rfl ?_
    intro p25
    refine WX.opn (kk := 2) 508 3 72 rfl rfl rfl ?_
    intro xs8 hx8
    refine WX.turn [67] 73 rfl (fun h hs => ol_one (α := TableEntry) (a := (TableEntry.mk u31 u34)) (x := ((p24, c12), ())) hs) (gs := [MF.ol [.slice p24 ((u31.parts).length) c12, .int .i64 (u34)] ([(TableEntry.mk u31 u34)] : List TableEntry)]) rfl ?_
    have r15 : (u1.entries).length ≤ bd (n + 1) := (okl (ok_StateVector hq1.1)).1
    have r16 : -9223372036854775808 ≤ u34 ∧ u34 ≤ 9223372036854775807 := hq12.1
    refine WX.know (fun G hΓ => (hΓ.get 73 rfl : OwL _ _ _).rd.one) ?_
    intro ho8
    refine WX.appR1 508 18 ((u1.entries ++ [(TableEntry.mk u31 u34)]) : List TableEntry).length ttOk rfl rfl rfl rfl rfl rfl rfl rfl rfl rfl rfl rfl rfl ho8 (by simp) (by simp; omega) (by simp; omega) (fun _ _ => rfl) ?_
    intro p26 c13
    refine WX.turn [72, 73] 74 rfl (fun h hs => ol_app hs) (gs := [MF.ol (xs8 ++ [.slice p24 ((u31.parts).length) c12, .int .i64 (u34)]) ((u1.entries ++ [(TableEntry.mk u31 u34)]) : List TableEntry)]) rfl ?_
    refine R0 ?_
    refine WX.seal 508 74 75 rfl rfl rfl rfl rfl ?_
    have hP8 : spec_l27Any c_b c_i c_h = (StateVector.mk (u1.entries ++ [(TableEntry.mk u31 u34)]), u35, u36) := by simp only [spec_l27Any, hu1, hu2, h1, hu11, hu12, ct, cf]
    have hz1 := hP8.symm.trans hres
    obtain ⟨hz1, hz2⟩ := Prod.mk.inj hz1
    obtain ⟨hz2, hz3⟩ := Prod.mk.inj hz2
    subst hz1
    subst hz2
    subst hz3
    refine R1 ?_
    intro w1 G bs hI hΓ
    exact Post.ofL 999 [76] (p26, c13) hI hΓ rfl rfl rfl (by rw [hI.pin _ rfl]; first | done | rfl) (⟨(okl_mk (by simp; omega) (all_app (okl (ok_StateVector hq1.1)).2 (fun a ha => GoT.okm (by omega) ((all_cons (α := TableEntry) (And.intro hq11.1 hq12.1) (fun a ha => by cases ha)) a ha))) : GoT.ok (n + 1) ((u1.entries ++ [(TableEntry.mk u31 u34)]) : List TableEntry)), ⟨hq12.2.1, hq12.2.2⟩⟩)
   ·skip
    refine TS.op 3 rfl (by kernel_rfl) ?_
    obtain ⟨⟨u37, u38, u39⟩, hu13⟩ : ∃ r_, spec_l4Any c_b u5 u6 = r_ := ⟨_, rfl⟩
    refine WX.callP  999 77 rfl (fun _ _ h => GoT.ow_rd h) (fun _ f hf => GoT.fak f hf) rfl rfl rfl rfl rfl (fun _ => rfl) rfl (fun w G bs H hI hH hs hΓ => f67 w n (by omega) H hH (bs 999) c_b K0 M0 (hΓ.get 0 rfl) u5 u6 hs hokc_b hq2.2.1 hq2.2.2 u37 u38 u39 hu13) (fun _ => rfl) (fun _ => rfl) ?_
    rintro ⟨p27, c14⟩ hq13
    have q7 := l4Any_len c_b u5 u6
    rw [hu13] at q7
    try dsimp only at q7
    refine R0 ?_
    refine WX.back0 ?_
    refine TX.all2 1 6 (by kernel_rfl) ?_ ?_
    ·skip
     refine TS.op 1 rfl (by kernel_rfl) ?_
     refine R0 ?_
     refine WX.back0 ?_
     refine TX.tail [6, 7, 8, 9, 10, 11] rfl rfl (by kernel_rfl) ?_
     refine WX.turn [] 79 rfl (fun h hs => one_sep (⟨(), _, emp, _, rfl, emp_le _, Le.refl _, emp_dj _, trivial, ⟨(), _, emp, _, rfl, emp_le _, Le.refl _, emp_dj _, trivial, ⟨(), _, emp, _, rfl, emp_le _, Le.refl _, emp_dj _, trivial, ⟨(), _, emp, _, rfl, emp_le _, Le.refl _, emp_dj _, trivial, ⟨(), _, emp, _, rfl, emp_le _, Le.refl _, emp_dj _, trivial, rfl⟩⟩⟩⟩⟩ : OwL _ _ ([0, 1, 1000, 1001, (-1)] : List Int))) (gs := [MF.ol [.int .i64 (0), .int .i64 (1), .int .i64 (1000), .int .i64 (1001), .int .i64 ((-1))] ([0, 1, 1000, 1001, (-1)] : List Int)]) rfl ?_
     refine WX.seal 15 79 80 rfl rfl rfl rfl rfl ?_
     obtain ⟨⟨u40, u41, u42⟩, hu14⟩ : ∃ r_, spec_l1Int c_b u38 u39 ([0, 1, 1000, 1001, (-1)]) = r_ := ⟨_, rfl⟩
     refine WX.callP (ds := fun _ => [])  999 82 rfl (fun _ _ _ => All.nil) (fun _ f hf => by cases hf) rfl rfl rfl rfl rfl (fun _ => rfl) rfl (fun w G bs H hI hH hs hΓ => f68 w n (by omega) H hH (bs 999) c_b K0 M0 (hΓ.get 0 rfl) u38 u39 ([0, 1, 1000, 1001, (-1)]) p23 5 (hΓ.get 80 rfl) hs hokc_b hq13.2.1 hq13.2.2 (by first | assumption | omega | (simp; done) | (simp; omega)) (okl_mk (by simp; omega) (all_cons (α := Int) (show I64 0 from (by unfold I64; omega)) (all_cons (α := Int) (show I64 1 from (by unfold I64; omega)) (all_cons (α := Int) (show I64 1000 from (by unfold I64; omega)) (all_cons (α := Int) (show I64 1001 from (by unfold I64; omega)) (all_cons (α := Int) (show I64 (-1) from (by unfold I64; omega)) (fun a ha => by cases ha)))))) : GoT.ok n ([0, 1, 1000, 1001, (-1)] : List Int)) u40 u41 u42 hu14) (fun _ => rfl) (fun _ => rfl) ?_
     rintro ⟨⟩ hq14
     refine R0 ?_
     refine WX.bld ttOk rfl rfl rfl rfl rfl rfl rfl ?_
     intro p28
     refine WX.opn (kk := 2) 509 3 83 rfl rfl rfl ?_
     intro xs9 hx9
     refine WX.turn [78] 84 rfl (fun h hs => ol_one (α := TableEntry) (a := (TableEntry.mk u37 u40)) (x := ((p27, c14), ())) hs) (gs := [MF.ol [.slice p27 ((u37.parts).length) c14, .int .i64 (u40)] ([(TableEntry.mk u37 u40)] : List TableEntry)]) rfl ?_
     have r17 : (u1.entries).length ≤ bd (n + 1) := (okl (ok_StateVector hq1.1)).1
     have r18 : -9223372036854775808 ≤ u40 ∧ u40 ≤ 9223372036854775807 := hq14.1
     refine WX.know (fun G hΓ => (hΓ.get 84 rfl : OwL _ _ _).rd.one) ?_
     intro ho9
     refine WX.appR1 509 18 ((u1.entries ++ [(TableEntry.mk u37 u40)]) : List TableEntry).length ttOk rfl rfl rfl rfl rfl rfl rfl rfl rfl rfl rfl rfl rfl ho9 (by simp) (by simp; omega) (by simp; omega) (fun _ _ => rfl) ?_
     intro p29 c15
     refine WX.turn [83, 84] 85 rfl (fun h hs => ol_app hs) (gs := [MF.ol (xs9 ++ [.slice p27 ((u37.parts).length) c14, .int .i64 (u40)]) ((u1.entries ++ [(TableEntry.mk u37 u40)]) : List TableEntry)]) rfl ?_
     refine R0 ?_
     refine WX.seal 509 85 86 rfl rfl rfl rfl rfl ?_
     have hP9 : spec_l27Any c_b c_i c_h = (StateVector.mk (u1.entries ++ [(TableEntry.mk u37 u40)]), u41, u42) := by simp only [spec_l27Any, hu1, hu2, h1, hu13, hu14, ct, cf]
     have hz1 := hP9.symm.trans hres
     obtain ⟨hz1, hz2⟩ := Prod.mk.inj hz1
     obtain ⟨hz2, hz3⟩ := Prod.mk.inj hz2
     subst hz1
     subst hz2
     subst hz3
     refine R1 ?_
     intro w1 G bs hI hΓ
     exact Post.ofL 999 [87] (p29, c15) hI hΓ rfl rfl rfl (by rw [hI.pin _ rfl]; first | done | rfl) (⟨(okl_mk (by simp; omega) (all_app (okl (ok_StateVector hq1.1)).2 (fun a ha => GoT.okm (by omega) ((all_cons (α := TableEntry) (And.intro hq13.1 hq14.1) (fun a ha => by cases ha)) a ha))) : GoT.ok (n + 1) ((u1.entries ++ [(TableEntry.mk u37 u40)]) : List TableEntry)), ⟨hq14.2.1, hq14.2.2⟩⟩)
    ·skip
     refine TS.op 6 rfl (by kernel_rfl) ?_
     refine WX.turn [] 88 rfl (fun h hs => one_sep (⟨(), _, emp, _, rfl, emp_le _, Le.refl _, emp_dj _, trivial, ⟨(), _, emp, _, rfl, emp_le _, Le.refl _, emp_dj _, trivial, ⟨(), _, emp, _, rfl, emp_le _, Le.refl _, emp_dj _, trivial, ⟨(), _, emp, _, rfl, emp_le _, Le.refl _, emp_dj _, trivial, ⟨(), _, emp, _, rfl, emp_le _, Le.refl _, emp_dj _, trivial, rfl⟩⟩⟩⟩⟩ : OwL _ _ ([0, 1, 1000, 1001, (-1)] : List Int))) (gs := [MF.ol [.int .i64 (0), .int .i64 (1), .int .i64 (1000), .int .i64 (1001), .int .i64 ((-1))] ([0, 1, 1000, 1001, (-1)] : List Int)]) rfl ?_
     refine WX.seal 15 88 89 rfl rfl rfl rfl rfl ?_
     obtain ⟨⟨u43, u44, u45⟩, hu15⟩ : ∃ r_, spec_l1Int c_b u38 u39 ([0, 1, 1000, 1001, (-1)]) = r_ := ⟨_, rfl⟩
     refine WX.callP (ds := fun _ => [])  999 91 rfl (fun _ _ _ => All.nil) (fun _ f hf => by cases hf) rfl rfl rfl rfl rfl (fun _ => rfl) rfl (fun w G bs H hI hH hs hΓ => f68 w n (by omega) H hH (bs 999) c_b K0 M0 (hΓ.get 0 rfl) u38 u39 ([0, 1, 1000, 1001, (-1)]) p23 5 (hΓ.get 89 rfl) hs hokc_b hq13.2.1 hq13.2.2 (by first | assumption | omega | (simp; done) | (simp; omega)) (okl_mk (by simp; omega) (all_cons (α := Int) (show I64 0 from (by unfold I64; omega)) (all_cons (α := Int) (show I64 1 from (by unfold I64; omega)) (all_cons (α := Int) (show I64 1000 from (by unfold I64; omega)) (all_cons (α := Int) (show I64 1001 from (by unfold I64; omega)) (all_cons (α := Int) (show I64 (-1) from (by unfold I64; omega)) (fun a ha => by cases ha)))))) : GoT.ok n ([0, 1, 1000, 1001, (-1)] : List Int)) u43 u44 u45 hu15) (fun _ => rfl) (fun _ => rfl) ?_
     rintro ⟨⟩ hq15
     refine R0 ?_
     refine WX.back0 ?_
     refine TX.all2 1 7 (by kernel_rfl) ?_ ?_
     ·skip
      refine TS.op 1 rfl (by kernel_rfl) ?_
      refine R0 ?_
      refine WX.back0 ?_
      refine TX.tail [7, 8, 9, 10, 11] rfl rfl (by kernel_rfl) ?_
      refine R0 ?_
      refine WX.bld ttOk rfl rfl rfl rfl rfl rfl rfl ?_
      intro p30
      refine WX.opn (kk := 2) 510 3 92 rfl rfl rfl ?_
      intro xs10 hx10
      refine WX.turn [78] 93 rfl (fun h hs => ol_one (α := TableEntry) (a := (TableEntry.mk u37 u43)) (x := ((p27, c14), ())) hs) (gs := [MF.ol [.slice p27 ((u37.parts).length) c14, .int .i64 (u43)] ([(TableEntry.mk u37 u43)] : List TableEntry)]) rfl ?_
      have r19 : (u1.entries).length ≤ bd (n + 1) := (okl (ok_StateVector hq1.1)).1
      have r20 : -9223372036854775808 ≤ u43 ∧ u43 ≤ 9223372036854775807 := hq15.1
      refine WX.know (fun G hΓ => (hΓ.get 93 rfl : OwL _ _ _).rd.one) ?_
      intro ho10
      refine WX.appR1 510 18 ((u1.entries ++ [(TableEntry.mk u37 u43)]) : List TableEntry).length ttOk rfl rfl rfl rfl rfl rfl rfl rfl rfl rfl rfl rfl rfl ho10 (by simp) (by simp; omega) (by simp; omega) (fun _ _ => rfl) ?_
      intro p31 c16
      refine WX.turn [92, 93] 94 rfl (fun h hs => ol_app hs) (gs := [MF.ol (xs10 ++ [.slice p27 ((u37.parts).length) c14, .int .i64 (u43)]) ((u1.entries ++ [(TableEntry.mk u37 u43)]) : List TableEntry)]) rfl ?_
      refine R0 ?_
      refine WX.seal 510 94 95 rfl rfl rfl rfl rfl ?_
      have hP10 : spec_l27Any c_b c_i c_h = (StateVector.mk (u1.entries ++ [(TableEntry.mk u37 u43)]), u44, u45) := by simp only [spec_l27Any, hu1, hu2, h1, hu13, hu15, ct, cf]
      have hz1 := hP10.symm.trans hres
      obtain ⟨hz1, hz2⟩ := Prod.mk.inj hz1
      obtain ⟨hz2, hz3⟩ := Prod.mk.inj hz2
      subst hz1
      subst hz2
      subst hz3
      refine R1 ?_
      intro w1 G bs hI hΓ
      exact Post.ofL 999 [96] (p31, c16) hI hΓ rfl rfl rfl (by rw [hI.pin _ rfl]; first | done | rfl) (⟨(okl_mk (by simp; omega) (all_app (okl (ok_StateVector hq1.1)).2 (fun a ha => GoT.okm (by omega) ((all_cons (α := TableEntry) (And.intro hq13.1 hq15.1) (fun a ha => by cases ha)) a ha))) : GoT.ok (n + 1) ((u1.entries ++ [(TableEntry.mk u37 u43)]) : List TableEntry)), ⟨hq15.2.1, hq15.2.2⟩⟩)
     ·skip
      refine TS.op 7 rfl (by kernel_rfl) ?_
      refine R0 ?_
      refine WX.back0 ?_
      refine TX.all2 1 8 (by kernel_rfl) ?_ ?_
      ·skip
       refine TS.op 1 rfl (by kernel_rfl) ?_
       refine R0 ?_
       refine WX.back0 ?_
       refine TX.tail [8, 9, 10, 11] rfl rfl (by kernel_rfl) ?_
       refine WX.bld ttOk rfl rfl rfl rfl rfl rfl rfl ?_
       intro p32
       refine WX.opn (kk := 2) 511 3 97 rfl rfl rfl ?_
       intro xs11 hx11
       refine WX.turn [78] 98 rfl (fun h hs => ol_one (α := TableEntry) (a := (TableEntry.mk u37 u43)) (x := ((p27, c14), ())) hs) (gs := [MF.ol [.slice p27 ((u37.parts).length) c14, .int .i64 (u43)] ([(TableEntry.mk u37 u43)] : List TableEntry)]) rfl ?_
       have r21 : (u1.entries).length ≤ bd (n + 1) := (okl (ok_StateVector hq1.1)).1
       have r22 : -9223372036854775808 ≤ u43 ∧ u43 ≤ 9223372036854775807 := hq15.1
       refine WX.know (fun G hΓ => (hΓ.get 98 rfl : OwL _ _ _).rd.one) ?_
       intro ho11
       refine WX.appR1 511 18 ((u1.entries ++ [(TableEntry.mk u37 u43)]) : List TableEntry).length ttOk rfl rfl rfl rfl rfl rfl rfl rfl rfl rfl rfl rfl rfl ho11 (by simp) (by simp; omega) (by simp; omega) (fun _ _ => rfl) ?_
       intro p33 c17
       refine WX.turn [97, 98] 99 rfl (fun h hs => ol_app hs) (gs := [MF.ol (xs11 ++ [.slice p27 ((u37.parts).length) c14, .int .i64 (u43)]) ((u1.entries ++ [(TableEntry.mk u37 u43)]) : List TableEntry)]) rfl ?_
       refine R0 ?_
       refine WX.seal 511 99 100 rfl rfl rfl rfl rfl ?_
       have hP11 : spec_l27Any c_b c_i c_h = (StateVector.mk (u1.entries ++ [(TableEntry.mk u37 u43)]), u44, u45) := by simp only [spec_l27Any, hu1, hu2, h1, hu13, hu15, ct, cf]
       have hz1 := hP11.symm.trans hres
       obtain ⟨hz1, hz2⟩ := Prod.mk.inj hz1
       obtain ⟨hz2, hz3⟩ := Prod.mk.inj hz2
       subst hz1
       subst hz2
       subst hz3
       refine R1 ?_
       intro w1 G bs hI hΓ
       exact Post.ofL 999 [101] (p33, c17) hI hΓ rfl rfl rfl (by rw [hI.pin _ rfl]; first | done | rfl) (⟨(okl_mk (by simp; omega) (all_app (okl (ok_StateVector hq1.1)).2 (fun a ha => GoT.okm (by omega) ((all_cons (α := TableEntry) (And.intro hq13.1 hq15.1) (fun a ha => by cases ha)) a ha))) : GoT.ok (n + 1) ((u1.entries ++ [(TableEntry.mk u37 u43)]) : List TableEntry)), ⟨hq15.2.1, hq15.2.2⟩⟩)
      ·skip
       refine TS.op 8 rfl (by kernel_rfl) ?_
       refine WX.bld ttOk rfl rfl rfl rfl rfl rfl rfl ?_
       intro p34
       refine R0 ?_
       refine WX.back0 ?_
       refine TX.tail [1, 9, 10, 11] rfl rfl (by kernel_rfl) ?_
       refine R0 ?_
       refine WX.opn (kk := 2) 512 3 102 rfl rfl rfl ?_
       intro xs12 hx12
       refine WX.turn [78] 103 rfl (fun h hs => ol_one (α := TableEntry) (a := (TableEntry.mk u37 u43)) (x := ((p27, c14), ())) hs) (gs := [MF.ol [.slice p27 ((u37.parts).length) c14, .int .i64 (u43)] ([(TableEntry.mk u37 u43)] : List TableEntry)]) rfl ?_
       have r23 : (u1.entries).length ≤ bd (n + 1) := (okl (ok_StateVector hq1.1)).1
       have r24 : -9223372036854775808 ≤ u43 ∧ u43 ≤ 9223372036854775807 := hq15.1
       refine WX.know (fun G hΓ => (hΓ.get 103 rfl : OwL _ _ _).rd.one) ?_
       intro ho12
       refine WX.appR1 512 18 ((u1.entries ++ [(TableEntry.mk u37 u43)]) : List TableEntry).length ttOk rfl rfl rfl rfl rfl rfl rfl rfl rfl rfl rfl rfl rfl ho12 (by simp) (by simp; omega) (by simp; omega) (fun _ _ => rfl) ?_
       intro p35 c18
       refine WX.turn [102, 103] 104 rfl (fun h hs => ol_app hs) (gs := [MF.ol (xs12 ++ [.slice p27 ((u37.parts).length) c14, .int .i64 (u43)]) ((u1.entries ++ [(TableEntry.mk u37 u43)]) : List TableEntry)]) rfl ?_
       refine R0 ?_
       refine WX.seal 512 104 105 rfl rfl rfl rfl rfl ?_
       have hP12 : spec_l27Any c_b c_i c_h = (StateVector.mk (u1.entries ++ [(TableEntry.mk u37 u43)]), u44, u45) := by simp only [spec_l27Any, hu1, hu2, h1, hu13, hu15, ct, cf]
       have hz1 := hP12.symm.trans hres
       obtain ⟨hz1, hz2⟩ := Prod.mk.inj hz1
       obtain ⟨hz2, hz3⟩ := Prod.mk.inj hz2
       subst hz1
       subst hz2
       subst hz3
       refine R1 ?_
       intro w1 G bs hI hΓ
       exact Post.ofL 999 [106] (p35, c18) hI hΓ rfl rfl rfl (by rw [hI.pin _ rfl]; first | done | rfl) (⟨(okl_mk (by simp; omega) (all_app (okl (ok_StateVector hq1.1)).2 (fun a ha => GoT.okm (by omega) ((all_cons (α := TableEntry) (And.intro hq13.1 hq15.1) (fun a ha => by cases ha)) a ha))) : GoT.ok (n + 1) ((u1.entries ++ [(TableEntry.mk u37 u43)]) : List TableEntry)), ⟨hq15.2.1, hq15.2.2⟩⟩)
 ·skip
  have h1d := B.ef h1
  refine R0 ?_
  refine WX.cases 21 rfl (fun h2 => ?_) (fun h2 => ?_)
  ·skip
   have h2d := B.et h2
   refine R0 ?_
   refine WX.draw [5, 6, 7] mixed ?_
   intro bs G0 hΓ0
   refine DX.takes (fuel := 4) ttOk [(0, true), (1, false), (2, true), (3, false)] (by kernel_rfl) rfl ?_
   refine DX.callF 4 107 (fun _ _ h => GoT.ow_rd h) (fun _ f hf => GoT.fak f hf) rfl (by kernel_rfl) rfl rfl rfl rfl rfl rfl (fun _ => rfl) rfl (fun w G bs hI hΓ => f49 w (n + 1) (by omega) u1.entries p1 c1 (hΓ.get 2 rfl) (ok_StateVector hq1.1)) (fun _ => rfl) (fun _ => rfl) ?_
   rintro ⟨p36, c19⟩ hq16
   have q8 := len_l6Copy u1.entries
   refine DX.tail2 [5, 6, 7] rfl rfl (by kernel_rfl) ?_
   refine WX.opn (kk := 2) 513 3 109 rfl rfl rfl ?_
   intro xs13 hx13
   refine WX.opn (kk := 2) 514 108 110 rfl rfl rfl ?_
   intro xs14 hx14
   have r25 : (u1.entries).length ≤ bd (n + 1) := (okl (ok_StateVector hq1.1)).1
   have r26 : (spec_l6Copy u1.entries).length ≤ bd (n + 1) := (okl hq16).1
   refine WX.know (fun G hΓ => (hΓ.get 110 rfl : OwL _ _ _).rd.one) ?_
   intro ho13
   refine WX.appR1 513 514 ((u1.entries ++ (spec_l6Copy u1.entries)) : List TableEntry).length ttOk rfl rfl rfl rfl rfl rfl rfl rfl rfl rfl rfl rfl rfl ho13 (by simp) (by simp; omega) (by simp; omega) (fun _ _ => rfl) ?_
   intro p37 c20
   refine WX.turn [109, 110] 111 rfl (fun h hs => ol_app hs) (gs := [MF.ol (xs13 ++ xs14) ((u1.entries ++ (spec_l6Copy u1.entries)) : List TableEntry)]) rfl ?_
   refine R0 ?_
   refine WX.seal 513 111 112 rfl rfl rfl rfl rfl ?_
   have hP13 : spec_l27Any c_b c_i c_h = (StateVector.mk (u1.entries ++ (spec_l6Copy u1.entries)), u5, u6) := by simp only [spec_l27Any, hu1, hu2, h1, h2, ct, cf]
   have hz1 := hP13.symm.trans hres
   obtain ⟨hz1, hz2⟩ := Prod.mk.inj hz1
   obtain ⟨hz2, hz3⟩ := Prod.mk.inj hz2
   subst hz1
   subst hz2
   subst hz3
   refine R1 ?_
   intro w1 G bs hI hΓ
   exact Post.ofL 999 [113] (p37, c20) hI hΓ rfl rfl rfl (by rw [hI.pin _ rfl]; first | done | rfl) (⟨(okl_mk (by simp; omega) (all_app (okl (ok_StateVector hq1.1)).2 (okl hq16).2) : GoT.ok (n + 1) ((u1.entries ++ (spec_l6Copy u1.entries)) : List TableEntry)), ⟨hq2.2.1, hq2.2.2⟩⟩)
  ·skip
   have h2d := B.ef h2
   refine R0 ?_
   have hP14 : spec_l27Any c_b c_i c_h = (u1, u5, u6) := by simp only [spec_l27Any, hu1, hu2, h1, h2, ct, cf]
   have hz1 := hP14.symm.trans hres
   obtain ⟨hz1, hz2⟩ := Prod.mk.inj hz1
   obtain ⟨hz2, hz3⟩ := Prod.mk.inj hz2
   subst hz1
   subst hz2
   subst hz3
   refine R1 ?_
   intro w1 G bs hI hΓ
   exact Post.ofL 999 [3] (p1, c1) hI hΓ rfl rfl rfl (by rw [hI.pin _ rfl]; first | done | rfl) (⟨hq1.1, ⟨hq2.2.1, hq2.2.2⟩⟩)
theorem f37 (w : World) (n : Nat) (hn : n + 4 ≤ 9) (code : (List UInt8)) (K0 : Option Addr) (M0 : Nat) (N0 : RdSl (hp w) K0 M0 code) (hokcode : GoT.ok n code) :
  Does Try.prog 37 #[.slice K0 ((code).length) M0] w emp (Post w emp (fun x : GoT.X (StateVector × StateVector) => .tuple #[.agg ⟨GoT.sh ((spec_l27Two code).1 : StateVector) x.1⟩, .agg ⟨GoT.sh ((spec_l27Two code).2 : StateVector) x.2⟩]) (fun x => GoT.oa (((spec_l27Two code).1, (spec_l27Two code).2) : StateVector × StateVector) x) (GoT.ok (n + 1) ((spec_l27Two code).1 : StateVector) ∧ GoT.ok (n + 1) ((spec_l27Two code).2 : StateVector))) := by
 have hbP := bd_pos n
 have hbS0 : bd (n + 1) = 4 * bd (n) := bd_succ (n := n) (by omega)
 have hbS1 : bd (n + 2) = 4 * bd (n + 1) := bd_succ (n := n + 1) (by omega)
 have hbS2 : bd (n + 3) = 4 * bd (n + 2) := bd_succ (n := n + 2) (by omega)
 have hbS3 : bd (n + 4) = 4 * bd (n + 3) := bd_succ (n := n + 3) (by omega)
 have hbB := bd_big (n := (n + 4)) (by omega)
 have hbM := bd_mono (show n ≤ n + 4 by omega)
 refine WX.enter (tt := tt) (Γ := [(0, MF.rs .stb K0 M0 code)]) Try.func37 rfl (by kernel_rfl) rfl (allS_cons rfl N0 allS_nil) ?_
 refine R0 ?_
 obtain ⟨⟨u1, u2⟩, hu1⟩ : ∃ r_, spec_l1New code = r_ := ⟨_, rfl⟩
 refine WX.callF (ds := fun _ => []) 1 (fun _ _ _ => All.nil) (fun _ f hf => by cases hf) rfl rfl rfl rfl rfl (fun _ => rfl) rfl (fun w G bs hI hΓ => f34 w n (by omega) code K0 M0 (hΓ.get 0 rfl) hokcode u1 u2 hu1) (fun _ => rfl) (fun _ => rfl) ?_
 rintro bn1 hq1
 refine WX.adopt 7 1 rfl rfl rfl ?_
 refine R0 ?_
 obtain ⟨⟨u3, u4, u5⟩, hu2⟩ : ∃ r_, spec_l27Any code u1 u2 = r_ := ⟨_, rfl⟩
 refine WX.callP  7 2 rfl (fun _ _ h => GoT.ow_rd h) (fun _ f hf => GoT.fak f hf) rfl rfl rfl rfl rfl (fun _ => rfl) rfl (fun w G bs H hI hH hs hΓ => f38 w n (by omega) H hH (bs 7) code K0 M0 (hΓ.get 0 rfl) u1 u2 hs hokcode hq1.1 hq1.2 u3 u4 u5 hu2) (fun _ => rfl) (fun _ => rfl) ?_
 rintro ⟨p1, c1⟩ hq2
 have q1 := l27Any_len code u1 u2
 rw [hu2] at q1
 try dsimp only at q1
 refine R0 ?_
 refine WX.draw [0, 2, 3, 4] mixed ?_
 intro bs G0 hΓ0
 refine DX.takes (fuel := 4) ttOk [(1, true)] (by kernel_rfl) rfl ?_
 refine DX.toTX ?_
 intro S_
 refine TX.all2 0 2 (by kernel_rfl) ?_ ?_
 ·skip
  refine TS.op 0 rfl (by kernel_rfl) ?_
  refine R0 ?_
  refine WX.back0 ?_
  refine TX.tail [2, 3, 4] rfl rfl (by kernel_rfl) ?_
  obtain ⟨⟨u6, u7, u8⟩, hu3⟩ : ∃ r_, spec_l27Any code u4 u5 = r_ := ⟨_, rfl⟩
  refine WX.callP  7 4 rfl (fun _ _ h => GoT.ow_rd h) (fun _ f hf => GoT.fak f hf) rfl rfl rfl rfl rfl (fun _ => rfl) rfl (fun w G bs H hI hH hs hΓ => f38 w n (by omega) H hH (bs 7) code K0 M0 (hΓ.get 0 rfl) u4 u5 hs hokcode hq2.2.1 hq2.2.2 u6 u7 u8 hu3) (fun _ => rfl) (fun _ => rfl) ?_
  rintro ⟨p2, c2⟩ hq3
  have q2 := l27Any_len code u4 u5
  rw [hu3] at q2
  try dsimp only at q2
  refine R0 ?_
  have hP1 : spec_l27Two code = (u3, u6) := by simp only [spec_l27Two, hu1, hu2, hu3, ct, cf]
  refine R1 ?_
  intro w1 G bs hI hΓ
  rw [hP1]
  exact Post.of [3, 5] ((p1, c1), (p2, c2)) hI hΓ rfl rfl rfl (⟨hq2.1, hq3.1⟩)
 ·skip
  refine TS.op 2 rfl (by kernel_rfl) ?_
  obtain ⟨⟨u9, u10, u11⟩, hu4⟩ : ∃ r_, spec_l27Any code u4 u5 = r_ := ⟨_, rfl⟩
  refine WX.callP  7 6 rfl (fun _ _ h => GoT.ow_rd h) (fun _ f hf => GoT.fak f hf) rfl rfl rfl rfl rfl (fun _ => rfl) rfl (fun w G bs H hI hH hs hΓ => f38 w n (by omega) H hH (bs 7) code K0 M0 (hΓ.get 0 rfl) u4 u5 hs hokcode hq2.2.1 hq2.2.2 u9 u10 u11 hu4) (fun _ => rfl) (fun _ => rfl) ?_
  rintro ⟨p3, c3⟩ hq4
  have q3 := l27Any_len code u4 u5
  rw [hu4] at q3
  try dsimp only at q3
  refine R0 ?_
  refine WX.back0 ?_
  refine TX.tail [0, 3, 4] rfl rfl (by kernel_rfl) ?_
  refine R0 ?_
  have hP2 : spec_l27Two code = (u3, u9) := by simp only [spec_l27Two, hu1, hu2, hu4, ct, cf]
  refine R1 ?_
  intro w1 G bs hI hΓ
  rw [hP2]
  exact Post.of [3, 7] ((p1, c1), (p3, c3)) hI hΓ rfl rfl rfl (⟨hq2.1, hq4.1⟩)
theorem f10 (w : World) (n : Nat) (hn : n + 4 ≤ 9) (code : (List UInt8)) (K0 : Option Addr) (M0 : Nat) (N0 : RdSl (hp w) K0 M0 code) (hokcode : GoT.ok n code) :
  Does Try.prog 10 #[.slice K0 ((code).length) M0] w emp (Post w emp (fun x : GoT.X (StateVector × StateVector) => .tuple #[.agg ⟨GoT.sh ((spec_DrawJoinVectors code).1 : StateVector) x.1⟩, .agg ⟨GoT.sh ((spec_DrawJoinVectors code).2 : StateVector) x.2⟩]) (fun x => GoT.oa (((spec_DrawJoinVectors code).1, (spec_DrawJoinVectors code).2) : StateVector × StateVector) x) (GoT.ok (n + 1) ((spec_DrawJoinVectors code).1 : StateVector) ∧ GoT.ok (n + 1) ((spec_DrawJoinVectors code).2 : StateVector))) := by
 have hbP := bd_pos n
 have hbS0 : bd (n + 1) = 4 * bd (n) := bd_succ (n := n) (by omega)
 have hbS1 : bd (n + 2) = 4 * bd (n + 1) := bd_succ (n := n + 1) (by omega)
 have hbS2 : bd (n + 3) = 4 * bd (n + 2) := bd_succ (n := n + 2) (by omega)
 have hbS3 : bd (n + 4) = 4 * bd (n + 3) := bd_succ (n := n + 3) (by omega)
 have hbB := bd_big (n := (n + 4)) (by omega)
 have hbM := bd_mono (show n ≤ n + 4 by omega)
 refine WX.enter (tt := tt) (Γ := [(0, MF.rs .stb K0 M0 code)]) Try.func10 rfl (by kernel_rfl) rfl (allS_cons rfl N0 allS_nil) ?_
 refine R0 ?_
 refine WX.callF 1 (fun _ _ h => GoT.ow_rd h) (fun _ f hf => GoT.fak f hf) rfl rfl rfl rfl rfl (fun _ => rfl) rfl (fun w G bs hI hΓ => f37 w n (by omega) code K0 M0 (hΓ.get 0 rfl) hokcode) (fun _ => rfl) (fun _ => rfl) ?_
 rintro ⟨⟨p1, c1⟩, ⟨p2, c2⟩⟩ hq1
 refine R0 ?_
 have hP1 : spec_DrawJoinVectors code = ((spec_l27Two code).1, (spec_l27Two code).2) := by simp only [spec_DrawJoinVectors, ct, cf]
 refine R1 ?_
 intro w1 G bs hI hΓ
 rw [hP1]
 exact Post.of [3, 4] ((p1, c1), (p2, c2)) hI hΓ rfl rfl rfl (⟨hq1.1, hq1.2⟩)
theorem f11 (w : World) (n : Nat) (hn : n + 5 ≤ 9) (code : (List UInt8)) (K0 : Option Addr) (M0 : Nat) (N0 : RdSl (hp w) K0 M0 code) (hokcode : GoT.ok n code) :
  Does Try.prog 11 #[.slice K0 ((code).length) M0] w emp (Post w emp (fun x : GoT.X (StateVector × StateVector) => .tuple #[.agg ⟨GoT.sh ((spec_DrawVectorLeq code).1 : StateVector) x.1⟩, .agg ⟨GoT.sh ((spec_DrawVectorLeq code).2 : StateVector) x.2⟩]) (fun x => GoT.oa (((spec_DrawVectorLeq code).1, (spec_DrawVectorLeq code).2) : StateVector × StateVector) x) (GoT.ok (n + 2) ((spec_DrawVectorLeq code).1 : StateVector) ∧ GoT.ok (n + 2) ((spec_DrawVectorLeq code).2 : StateVector))) := by
 have hbP := bd_pos n
 have hbS0 : bd (n + 1) = 4 * bd (n) := bd_succ (n := n) (by omega)
 have hbS1 : bd (n + 2) = 4 * bd (n + 1) := bd_succ (n := n + 1) (by omega)
 have hbS2 : bd (n + 3) = 4 * bd (n + 2) := bd_succ (n := n + 2) (by omega)
 have hbS3 : bd (n + 4) = 4 * bd (n + 3) := bd_succ (n := n + 3) (by omega)
 have hbS4 : bd (n + 5) = 4 * bd (n + 4) := bd_succ (n := n + 4) (by omega)
 have hbB := bd_big (n := (n + 5)) (by omega)
 have hbM := bd_mono (show n ≤ n + 5 by omega)
 refine WX.enter (tt := tt) (Γ := [(0, MF.rs .stb K0 M0 code)]) Try.func11 rfl (by kernel_rfl) rfl (allS_cons rfl N0 allS_nil) ?_
 refine R0 ?_
 refine WX.callF 1 (fun _ _ h => GoT.ow_rd h) (fun _ f hf => GoT.fak f hf) rfl rfl rfl rfl rfl (fun _ => rfl) rfl (fun w G bs hI hΓ => f37 w n (by omega) code K0 M0 (hΓ.get 0 rfl) hokcode) (fun _ => rfl) (fun _ => rfl) ?_
 rintro ⟨⟨p1, c1⟩, ⟨p2, c2⟩⟩ hq1
 refine R0 ?_
 have r1 := tmod_rng (((code).length : Nat) : Int) (show (0 : Int) < 2 by omega)
 refine WX.see rfl rfl rfl (fun _ hΓ => looks_rem rfl rfl rfl (by decide)) ?_
 refine R0 ?_
 refine WX.cases 14 rfl (fun h1 => ?_) (fun h1 => ?_)
 ·skip
  have h1d := B.et h1
  refine R0 ?_
  refine WX.draw [4, 5] mixed ?_
  intro bs G0 hΓ0
  refine DX.takes (fuel := 3) ttOk [(0, false), (1, false), (2, false)] (by kernel_rfl) rfl ?_
  refine DX.callF 3 5 (fun _ _ h => GoT.ow_rd h) (fun _ f hf => GoT.fak f hf) rfl (by kernel_rfl) rfl rfl rfl rfl rfl rfl (fun _ => rfl) rfl (fun w G bs hI hΓ => f20 w (n + 1) (by omega) ((spec_l27Two code).1) p1 c1 (hΓ.get 1 rfl) ((spec_l27Two code).2) p2 c2 (hΓ.get 2 rfl) hq1.1 hq1.2) (fun _ => rfl) (fun _ => rfl) ?_
  rintro ⟨p3, c3⟩ hq2
  refine DX.tail2 [4, 5] rfl rfl (by kernel_rfl) ?_
  refine R0 ?_
  have hP1 : spec_DrawVectorLeq code = ((spec_l27Two code).1, spec_JoinVectors ((spec_l27Two code).1) ((spec_l27Two code).2)) := by simp only [spec_DrawVectorLeq, h1, ct, cf]
  refine R1 ?_
  intro w1 G bs hI hΓ
  rw [hP1]
  exact Post.of [3, 6] ((p1, c1), (p3, c3)) hI hΓ rfl rfl rfl (⟨(GoT.okm (α := List TableEntry) (by omega) (ok_StateVector hq1.1)), hq2⟩)
 ·skip
  have h1d := B.ef h1
  refine R0 ?_
  refine WX.draw [0, 1, 2, 3] mixed ?_
  intro bs G0 hΓ0
  refine DX.toTX ?_
  intro S_
  refine TX.all2 0 1 (by kernel_rfl) ?_ ?_
  ·skip
   refine TS.op 0 rfl (by kernel_rfl) ?_
   refine R0 ?_
   refine WX.back0 ?_
   refine TX.all2 1 2 (by kernel_rfl) ?_ ?_
   ·skip
    refine TS.op 1 rfl (by kernel_rfl) ?_
    refine R0 ?_
    refine WX.back0 ?_
    refine TX.tail [2, 3] rfl rfl (by kernel_rfl) ?_
    refine R0 ?_
    have hP2 : spec_DrawVectorLeq code = ((spec_l27Two code).1, (spec_l27Two code).2) := by simp only [spec_DrawVectorLeq, h1, ct, cf]
    refine R1 ?_
    intro w1 G bs hI hΓ
    rw [hP2]
    exact Post.of [3, 4] ((p1, c1), (p2, c2)) hI hΓ rfl rfl rfl (⟨(GoT.okm (α := List TableEntry) (by omega) (ok_StateVector hq1.1)), (GoT.okm (α := List TableEntry) (by omega) (ok_StateVector hq1.2))⟩)
   ·skip
    refine TS.op 2 rfl (by kernel_rfl) ?_
    refine R0 ?_
    refine WX.back0 ?_
    refine TX.tail [1, 3] rfl rfl (by kernel_rfl) ?_
    refine R0 ?_
    have hP3 : spec_DrawVectorLeq code = ((spec_l27Two code).1, (spec_l27Two code).2) := by simp only [spec_DrawVectorLeq, h1, ct, cf]
    refine R1 ?_
    intro w1 G bs hI hΓ
    rw [hP3]
    exact Post.of [3, 4] ((p1, c1), (p2, c2)) hI hΓ rfl rfl rfl (⟨(GoT.okm (α := List TableEntry) (by omega) (ok_StateVector hq1.1)), (GoT.okm (α := List TableEntry) (by omega) (ok_StateVector hq1.2))⟩)
  ·skip
   refine TS.op 1 rfl (by kernel_rfl) ?_
   refine R0 ?_
   refine WX.back0 ?_
   refine TX.tail [0, 2, 3] rfl rfl (by kernel_rfl) ?_
   refine R0 ?_
   have hP4 : spec_DrawVectorLeq code = ((spec_l27Two code).1, (spec_l27Two code).2) := by simp only [spec_DrawVectorLeq, h1, ct, cf]
   refine R1 ?_
   intro w1 G bs hI hΓ
   rw [hP4]
   exact Post.of [3, 4] ((p1, c1), (p2, c2)) hI hΓ rfl rfl rfl (⟨(GoT.okm (α := List TableEntry) (by omega) (ok_StateVector hq1.1)), (GoT.okm (α := List TableEntry) (by omega) (ok_StateVector hq1.2))⟩)
theorem f12 (w : World) (n : Nat) (hn : n + 4 ≤ 9) (code : (List UInt8)) (K0 : Option Addr) (M0 : Nat) (N0 : RdSl (hp w) K0 M0 code) (hokcode : GoT.ok n code) :
  Does Try.prog 12 #[.slice K0 ((code).length) M0] w emp (Post w emp (fun x : GoT.X (StateVector × StateVector) => .tuple #[.agg ⟨GoT.sh ((spec_DrawNewerThan code).1 : StateVector) x.1⟩, .agg ⟨GoT.sh ((spec_DrawNewerThan code).2 : StateVector) x.2⟩]) (fun x => GoT.oa (((spec_DrawNewerThan code).1, (spec_DrawNewerThan code).2) : StateVector × StateVector) x) (GoT.ok (n + 1) ((spec_DrawNewerThan code).1 : StateVector) ∧ GoT.ok (n + 1) ((spec_DrawNewerThan code).2 : StateVector))) := by
 have hbP := bd_pos n
 have hbS0 : bd (n + 1) = 4 * bd (n) := bd_succ (n := n) (by omega)
 have hbS1 : bd (n + 2) = 4 * bd (n + 1) := bd_succ (n := n + 1) (by omega)
 have hbS2 : bd (n + 3) = 4 * bd (n + 2) := bd_succ (n := n + 2) (by omega)
 have hbS3 : bd (n + 4) = 4 * bd (n + 3) := bd_succ (n := n + 3) (by omega)
 have hbB := bd_big (n := (n + 4)) (by omega)
 have hbM := bd_mono (show n ≤ n + 4 by omega)
 refine WX.enter (tt := tt) (Γ := [(0, MF.rs .stb K0 M0 code)]) Try.func12 rfl (by kernel_rfl) rfl (allS_cons rfl N0 allS_nil) ?_
 refine R0 ?_
 refine WX.callF 1 (fun _ _ h => GoT.ow_rd h) (fun _ f hf => GoT.fak f hf) rfl rfl rfl rfl rfl (fun _ => rfl) rfl (fun w G bs hI hΓ => f37 w n (by omega) code K0 M0 (hΓ.get 0 rfl) hokcode) (fun _ => rfl) (fun _ => rfl) ?_
 rintro ⟨⟨p1, c1⟩, ⟨p2, c2⟩⟩ hq1
 refine R0 ?_
 have hP1 : spec_DrawNewerThan code = ((spec_l27Two code).1, (spec_l27Two code).2) := by simp only [spec_DrawNewerThan, ct, cf]
 refine R1 ?_
 intro w1 G bs hI hΓ
 rw [hP1]
 exact Post.of [3, 4] ((p1, c1), (p2, c2)) hI hΓ rfl rfl rfl (⟨hq1.1, hq1.2⟩)
theorem f13 (w : World) (n : Nat) (hn : n + 4 ≤ 9) (code : (List UInt8)) (K0 : Option Addr) (M0 : Nat) (N0 : RdSl (hp w) K0 M0 code) (hokcode : GoT.ok n code) :
  Does Try.prog 13 #[.slice K0 ((code).length) M0] w emp (Post w emp (fun x : GoT.X (StateVector) => .agg ⟨GoT.sh ((spec_DrawEncodeVector code) : StateVector) x⟩) (fun x => GoT.oa ((spec_DrawEncodeVector code) : StateVector) x) (GoT.ok (n + 1) ((spec_DrawEncodeVector code) : StateVector))) := by
 have hbP := bd_pos n
 have hbS0 : bd (n + 1) = 4 * bd (n) := bd_succ (n := n) (by omega)
 have hbS1 : bd (n + 2) = 4 * bd (n + 1) := bd_succ (n := n + 1) (by omega)
 have hbS2 : bd (n + 3) = 4 * bd (n + 2) := bd_succ (n := n + 2) (by omega)
 have hbS3 : bd (n + 4) = 4 * bd (n + 3) := bd_succ (n := n + 3) (by omega)
 have hbB := bd_big (n := (n + 4)) (by omega)
 have hbM := bd_mono (show n ≤ n + 4 by omega)
 refine WX.enter (tt := tt) (Γ := [(0, MF.rs .stb K0 M0 code)]) Try.func13 rfl (by kernel_rfl) rfl (allS_cons rfl N0 allS_nil) ?_
 refine R0 ?_
 obtain ⟨⟨u1, u2⟩, hu1⟩ : ∃ r_, spec_l1New code = r_ := ⟨_, rfl⟩
 refine WX.callF (ds := fun _ => []) 1 (fun _ _ _ => All.nil) (fun _ f hf => by cases hf) rfl rfl rfl rfl rfl (fun _ => rfl) rfl (fun w G bs hI hΓ => f34 w n (by omega) code K0 M0 (hΓ.get 0 rfl) hokcode u1 u2 hu1) (fun _ => rfl) (fun _ => rfl) ?_
 rintro bn1 hq1
 refine WX.adopt 5 1 rfl rfl rfl ?_
 refine R0 ?_
 obtain ⟨⟨u3, u4, u5⟩, hu2⟩ : ∃ r_, spec_l27Any code u1 u2 = r_ := ⟨_, rfl⟩
 refine WX.callP  5 2 rfl (fun _ _ h => GoT.ow_rd h) (fun _ f hf => GoT.fak f hf) rfl rfl rfl rfl rfl (fun _ => rfl) rfl (fun w G bs H hI hH hs hΓ => f38 w n (by omega) H hH (bs 5) code K0 M0 (hΓ.get 0 rfl) u1 u2 hs hokcode hq1.1 hq1.2 u3 u4 u5 hu2) (fun _ => rfl) (fun _ => rfl) ?_
 rintro ⟨p1, c1⟩ hq2
 have q1 := l27Any_len code u1 u2
 rw [hu2] at q1
 try dsimp only at q1
 refine R0 ?_
 have hP1 : spec_DrawEncodeVector code = u3 := by simp only [spec_DrawEncodeVector, hu1, hu2, ct, cf]
 refine R1 ?_
 intro w1 G bs hI hΓ
 rw [hP1]
 exact Post.of [3] (p1, c1) hI hΓ rfl rfl rfl hq2.1
theorem f14 (w : World) (n : Nat) (hn : n + 8 ≤ 9) (code : (List UInt8)) (K0 : Option Addr) (M0 : Nat) (N0 : RdSl (hp w) K0 M0 code) (hokcode : GoT.ok n code) :
  Does Try.prog 14 #[.slice K0 ((code).length) M0] w emp (Post w emp (fun x : GoT.X ((List UInt8)) => (GoT.sh ((spec_DrawDecodeVector code) : (List UInt8)) x).headD undef) (fun x => GoT.oa ((spec_DrawDecodeVector code) : (List UInt8)) x) (GoT.ok (n + 6) ((spec_DrawDecodeVector code) : (List UInt8)))) := by
 have hbP := bd_pos n
 have hbS0 : bd (n + 1) = 4 * bd (n) := bd_succ (n := n) (by omega)
 have hbS1 : bd (n + 2) = 4 * bd (n + 1) := bd_succ (n := n + 1) (by omega)
 have hbS2 : bd (n + 3) = 4 * bd (n + 2) := bd_succ (n := n + 2) (by omega)
 have hbS3 : bd (n + 4) = 4 * bd (n + 3) := bd_succ (n := n + 3) (by omega)
 have hbS4 : bd (n + 5) = 4 * bd (n + 4) := bd_succ (n := n + 4) (by omega)
 have hbS5 : bd (n + 6) = 4 * bd (n + 5) := bd_succ (n := n + 5) (by omega)
 have hbS6 : bd (n + 7) = 4 * bd (n + 6) := bd_succ (n := n + 6) (by omega)
 have hbS7 : bd (n + 8) = 4 * bd (n + 7) := bd_succ (n := n + 7) (by omega)
 have hbB := bd_big (n := (n + 8)) (by omega)
 have hbM := bd_mono (show n ≤ n + 8 by omega)
 refine WX.enter (tt := tt) (Γ := [(0, MF.rs .stb K0 M0 code)]) Try.func14 rfl (by kernel_rfl) rfl (allS_cons rfl N0 allS_nil) ?_
 refine R0 ?_
 obtain ⟨⟨u1, u2⟩, hu1⟩ : ∃ r_, spec_l1New code = r_ := ⟨_, rfl⟩
 refine WX.callF (ds := fun _ => []) 1 (fun _ _ _ => All.nil) (fun _ f hf => by cases hf) rfl rfl rfl rfl rfl (fun _ => rfl) rfl (fun w G bs hI hΓ => f34 w n (by omega) code K0 M0 (hΓ.get 0 rfl) hokcode u1 u2 hu1) (fun _ => rfl) (fun _ => rfl) ?_
 rintro bn1 hq1
 refine WX.adopt 5 1 rfl rfl rfl ?_
 refine R0 ?_
 obtain ⟨⟨u3, u4, u5⟩, hu2⟩ : ∃ r_, spec_l27Draw code u1 u2 = r_ := ⟨_, rfl⟩
 refine WX.callP  5 2 rfl (fun _ _ h => GoT.ow_rd h) (fun _ f hf => GoT.fak f hf) rfl rfl rfl rfl rfl (fun _ => rfl) rfl (fun w G bs H hI hH hs hΓ => f36 w n (by omega) H hH (bs 5) code K0 M0 (hΓ.get 0 rfl) u1 u2 hs hokcode hq1.1 hq1.2 u3 u4 u5 hu2) (fun _ => rfl) (fun _ => rfl) ?_
 rintro ⟨p1, c1⟩ hq2
 have q1 := l27Draw_len code u1 u2
 rw [hu2] at q1
 try dsimp only at q1
 refine WX.callF 4 (fun _ _ h => GoT.ow_rd h) (fun _ f hf => GoT.fak f hf) rfl rfl rfl rfl rfl (fun _ => rfl) rfl (fun w G bs hI hΓ => f27 w (n + 1) (by omega) u3 p1 c1 (hΓ.get 2 rfl) hq2.1) (fun _ => rfl) (fun _ => rfl) ?_
 rintro ⟨p2, c2⟩ hq3
 obtain ⟨⟨u6, u7, u8⟩, hu3⟩ : ∃ r_, spec_l1Bent code u4 u5 (spec_EncodeVector u3) = r_ := ⟨_, rfl⟩
 refine WX.callP  5 6 rfl (fun _ _ h => GoT.ow_rd h) (fun _ f hf => GoT.fak f hf) rfl rfl rfl rfl rfl (fun _ => rfl) rfl (fun w G bs H hI hH hs hΓ => f39 w (n + 5) (by omega) H hH (bs 5) code K0 M0 (hΓ.get 0 rfl) u4 u5 (spec_EncodeVector u3) p2 c2 (hΓ.get 4 rfl) hs (GoT.okm (α := List UInt8) (by omega) hokcode) hq2.2.1 hq2.2.2 hq3 u6 u7 u8 hu3) (fun _ => rfl) (fun _ => rfl) ?_
 rintro ⟨p3, c3⟩ hq4
 refine R0 ?_
 have hP1 : spec_DrawDecodeVector code = u6 := by simp only [spec_DrawDecodeVector, hu1, hu2, hu3, ct, cf]
 refine R1 ?_
 intro w1 G bs hI hΓ
 rw [hP1]
 exact Post.of [7] (p3, c3) hI hΓ rfl rfl rfl hq4.1
theorem f17 (w : World) (n : Nat) (hn : n + 4 ≤ 9) (code : (List UInt8)) (K0 : Option Addr) (M0 : Nat) (N0 : RdSl (hp w) K0 M0 code) (hokcode : GoT.ok n code) :
  Does Try.prog 17 #[.slice K0 ((code).length) M0] w emp (Post w emp (fun x : GoT.X (StateVector × Name) => .tuple #[.agg ⟨GoT.sh ((spec_DrawSeqOf code).1 : StateVector) x.1⟩, .agg ⟨GoT.sh ((spec_DrawSeqOf code).2 : Name) x.2⟩]) (fun x => GoT.oa (((spec_DrawSeqOf code).1, (spec_DrawSeqOf code).2) : StateVector × Name) x) (GoT.ok (n + 1) ((spec_DrawSeqOf code).1 : StateVector) ∧ GoT.ok (n + 1) ((spec_DrawSeqOf code).2 : Name))) := by
 have hbP := bd_pos n
 have hbS0 : bd (n + 1) = 4 * bd (n) := bd_succ (n := n) (by omega)
 have hbS1 : bd (n + 2) = 4 * bd (n + 1) := bd_succ (n := n + 1) (by omega)
 have hbS2 : bd (n + 3) = 4 * bd (n + 2) := bd_succ (n := n + 2) (by omega)
 have hbS3 : bd (n + 4) = 4 * bd (n + 3) := bd_succ (n := n + 3) (by omega)
 have hbB := bd_big (n := (n + 4)) (by omega)
 have hbM := bd_mono (show n ≤ n + 4 by omega)
 refine WX.enter (tt := tt) (Γ := [(0, MF.rs .stb K0 M0 code)]) Try.func17 rfl (by kernel_rfl) rfl (allS_cons rfl N0 allS_nil) ?_
 refine R0 ?_
 obtain ⟨⟨u1, u2⟩, hu1⟩ : ∃ r_, spec_l1New code = r_ := ⟨_, rfl⟩
 refine WX.callF (ds := fun _ => []) 1 (fun _ _ _ => All.nil) (fun _ f hf => by cases hf) rfl rfl rfl rfl rfl (fun _ => rfl) rfl (fun w G bs hI hΓ => f34 w n (by omega) code K0 M0 (hΓ.get 0 rfl) hokcode u1 u2 hu1) (fun _ => rfl) (fun _ => rfl) ?_
 rintro bn1 hq1
 refine WX.adopt 7 1 rfl rfl rfl ?_
 refine R0 ?_
 obtain ⟨⟨u3, u4, u5⟩, hu2⟩ : ∃ r_, spec_l27Any code u1 u2 = r_ := ⟨_, rfl⟩
 refine WX.callP  7 2 rfl (fun _ _ h => GoT.ow_rd h) (fun _ f hf => GoT.fak f hf) rfl rfl rfl rfl rfl (fun _ => rfl) rfl (fun w G bs H hI hH hs hΓ => f38 w n (by omega) H hH (bs 7) code K0 M0 (hΓ.get 0 rfl) u1 u2 hs hokcode hq1.1 hq1.2 u3 u4 u5 hu2) (fun _ => rfl) (fun _ => rfl) ?_
 rintro ⟨p1, c1⟩ hq2
 have q1 := l27Any_len code u1 u2
 rw [hu2] at q1
 try dsimp only at q1
 refine R0 ?_
 refine WX.draw [0, 3, 4, 5, 6] mixed ?_
 intro bs G0 hΓ0
 refine DX.takes (fuel := 6) ttOk [(1, true)] (by kernel_rfl) rfl ?_
 refine DX.toTX ?_
 intro S_
 refine TX.all2 0 2 (by kernel_rfl) ?_ ?_
 ·skip
  refine TS.op 0 rfl (by kernel_rfl) ?_
  refine R0 ?_
  refine WX.back0 ?_
  refine TX.all1 2 (by kernel_rfl) ?_
  refine TS.op 2 rfl (by kernel_rfl) ?_
  refine WX.bld ttOk rfl rfl rfl rfl rfl rfl rfl ?_
  intro p2
  refine R0 ?_
  refine WX.back0 ?_
  refine TX.all1 3 (by kernel_rfl) ?_
  refine TS.op 3 rfl (by kernel_rfl) ?_
  refine WX.turn [] 4 rfl (fun h hs => one_sep (⟨(), _, emp, _, rfl, emp_le _, Le.refl _, emp_dj _, trivial, ⟨(), _, emp, _, rfl, emp_le _, Le.refl _, emp_dj _, trivial, ⟨(), _, emp, _, rfl, emp_le _, Le.refl _, emp_dj _, trivial, rfl⟩⟩⟩ : OwL _ _ ([(⟨#[47, 97]⟩ : Str), (⟨#[47, 98]⟩ : Str), (⟨#[47, 122, 122]⟩ : Str)] : List Str))) (gs := [MF.ol [.string (⟨#[47, 97]⟩ : Str), .string (⟨#[47, 98]⟩ : Str), .string (⟨#[47, 122, 122]⟩ : Str)] ([(⟨#[47, 97]⟩ : Str), (⟨#[47, 98]⟩ : Str), (⟨#[47, 122, 122]⟩ : Str)] : List Str)]) rfl ?_
  refine WX.seal 12 4 5 rfl rfl rfl rfl rfl ?_
  have r1 : (⟨#[47, 97]⟩ : Str).size = 2 := rfl
  have r2 : (⟨#[47, 98]⟩ : Str).size = 2 := rfl
  have r3 : (⟨#[47, 122, 122]⟩ : Str).size = 3 := rfl
  obtain ⟨⟨u6, u7, u8⟩, hu3⟩ : ∃ r_, spec_l1Str code u4 u5 ([(⟨#[47, 97]⟩ : Str), (⟨#[47, 98]⟩ : Str), (⟨#[47, 122, 122]⟩ : Str)]) = r_ := ⟨_, rfl⟩
  refine WX.callP (ds := fun _ => [])  7 7 rfl (fun _ _ _ => All.nil) (fun _ f hf => by cases hf) rfl rfl rfl rfl rfl (fun _ => rfl) rfl (fun w G bs H hI hH hs hΓ => f45 w n (by omega) H hH (bs 7) code K0 M0 (hΓ.get 0 rfl) u4 u5 ([(⟨#[47, 97]⟩ : Str), (⟨#[47, 98]⟩ : Str), (⟨#[47, 122, 122]⟩ : Str)]) p2 3 (hΓ.get 5 rfl) hs hokcode hq2.2.1 hq2.2.2 (by first | assumption | omega | (simp; done) | (simp; omega)) (okl_mk (by simp; omega) (all_cons (α := Str) (Nat.le_trans (by decide) (bd_pos _)) (all_cons (α := Str) (Nat.le_trans (by decide) (bd_pos _)) (all_cons (α := Str) (Nat.le_trans (by decide) (bd_pos _)) (fun a ha => by cases ha)))) : GoT.ok n ([(⟨#[47, 97]⟩ : Str), (⟨#[47, 98]⟩ : Str), (⟨#[47, 122, 122]⟩ : Str)] : List Str)) u6 u7 u8 hu3) (fun _ => rfl) (fun _ => rfl) ?_
  rintro ⟨⟩ hq3
  refine R0 ?_
  refine WX.back0 ?_
  refine TX.all1 4 (by kernel_rfl) ?_
  refine TS.callF 4 8 (fun _ _ h => GoT.ow_rd h) (fun _ f hf => GoT.fak f hf) rfl rfl rfl rfl rfl rfl (fun _ => rfl) rfl (fun w G bs hI hΓ => f44 w n (by omega) u6 hq3.1) (fun _ => rfl) (fun _ => rfl) ?_
  rintro ⟨p3, c2⟩ hq4
  refine TX.tail [5, 6] rfl rfl (by kernel_rfl) ?_
  refine R0 ?_
  have hP1 : spec_DrawSeqOf code = (u3, spec_l4Of u6) := by simp only [spec_DrawSeqOf, hu1, hu2, hu3, ct, cf]
  refine R1 ?_
  intro w1 G bs hI hΓ
  rw [hP1]
  exact Post.of [3, 9] ((p1, c1), (p3, c2)) hI hΓ rfl rfl rfl (⟨hq2.1, hq4⟩)
 ·skip
  refine TS.op 2 rfl (by kernel_rfl) ?_
  refine WX.bld ttOk rfl rfl rfl rfl rfl rfl rfl ?_
  intro p4
  refine R0 ?_
  refine WX.back0 ?_
  refine TX.all2 0 3 (by kernel_rfl) ?_ ?_
  ·skip
   refine TS.op 0 rfl (by kernel_rfl) ?_
   refine R0 ?_
   refine WX.back0 ?_
   refine TX.all1 3 (by kernel_rfl) ?_
   refine TS.op 3 rfl (by kernel_rfl) ?_
   refine WX.turn [] 10 rfl (fun h hs => one_sep (⟨(), _, emp, _, rfl, emp_le _, Le.refl _, emp_dj _, trivial, ⟨(), _, emp, _, rfl, emp_le _, Le.refl _, emp_dj _, trivial, ⟨(), _, emp, _, rfl, emp_le _, Le.refl _, emp_dj _, trivial, rfl⟩⟩⟩ : OwL _ _ ([(⟨#[47, 97]⟩ : Str), (⟨#[47, 98]⟩ : Str), (⟨#[47, 122, 122]⟩ : Str)] : List Str))) (gs := [MF.ol [.string (⟨#[47, 97]⟩ : Str), .string (⟨#[47, 98]⟩ : Str), .string (⟨#[47, 122, 122]⟩ : Str)] ([(⟨#[47, 97]⟩ : Str), (⟨#[47, 98]⟩ : Str), (⟨#[47, 122, 122]⟩ : Str)] : List Str)]) rfl ?_
   refine WX.seal 12 10 11 rfl rfl rfl rfl rfl ?_
   have r4 : (⟨#[47, 97]⟩ : Str).size = 2 := rfl
   have r5 : (⟨#[47, 98]⟩ : Str).size = 2 := rfl
   have r6 : (⟨#[47, 122, 122]⟩ : Str).size = 3 := rfl
   obtain ⟨⟨u9, u10, u11⟩, hu4⟩ : ∃ r_, spec_l1Str code u4 u5 ([(⟨#[47, 97]⟩ : Str), (⟨#[47, 98]⟩ : Str), (⟨#[47, 122, 122]⟩ : Str)]) = r_ := ⟨_, rfl⟩
   refine WX.callP (ds := fun _ => [])  7 13 rfl (fun _ _ _ => All.nil) (fun _ f hf => by cases hf) rfl rfl rfl rfl rfl (fun _ => rfl) rfl (fun w G bs H hI hH hs hΓ => f45 w n (by omega) H hH (bs 7) code K0 M0 (hΓ.get 0 rfl) u4 u5 ([(⟨#[47, 97]⟩ : Str), (⟨#[47, 98]⟩ : Str), (⟨#[47, 122, 122]⟩ : Str)]) p4 3 (hΓ.get 11 rfl) hs hokcode hq2.2.1 hq2.2.2 (by first | assumption | omega | (simp; done) | (simp; omega)) (okl_mk (by simp; omega) (all_cons (α := Str) (Nat.le_trans (by decide) (bd_pos _)) (all_cons (α := Str) (Nat.le_trans (by decide) (bd_pos _)) (all_cons (α := Str) (Nat.le_trans (by decide) (bd_pos _)) (fun a ha => by cases ha)))) : GoT.ok n ([(⟨#[47, 97]⟩ : Str), (⟨#[47, 98]⟩ : Str), (⟨#[47, 122, 122]⟩ : Str)] : List Str)) u9 u10 u11 hu4) (fun _ => rfl) (fun _ => rfl) ?_
   rintro ⟨⟩ hq5
   refine R0 ?_
   refine WX.back0 ?_
   refine TX.all1 4 (by kernel_rfl) ?_
   refine TS.callF 4 14 (fun _ _ h => GoT.ow_rd h) (fun _ f hf => GoT.fak f hf) rfl rfl rfl rfl rfl rfl (fun _ => rfl) rfl (fun w G bs hI hΓ => f44 w n (by omega) u9 hq5.1) (fun _ => rfl) (fun _ => rfl) ?_
   rintro ⟨p5, c3⟩ hq6
   refine TX.tail [5, 6] rfl rfl (by kernel_rfl) ?_
   refine R0 ?_
   have hP2 : spec_DrawSeqOf code = (u3, spec_l4Of u9) := by simp only [spec_DrawSeqOf, hu1, hu2, hu4, ct, cf]
   refine R1 ?_
   intro w1 G bs hI hΓ
   rw [hP2]
   exact Post.of [3, 15] ((p1, c1), (p5, c3)) hI hΓ rfl rfl rfl (⟨hq2.1, hq6⟩)
  ·skip
   refine TS.op 3 rfl (by kernel_rfl) ?_
   refine WX.turn [] 16 rfl (fun h hs => one_sep (⟨(), _, emp, _, rfl, emp_le _, Le.refl _, emp_dj _, trivial, ⟨(), _, emp, _, rfl, emp_le _, Le.refl _, emp_dj _, trivial, ⟨(), _, emp, _, rfl, emp_le _, Le.refl _, emp_dj _, trivial, rfl⟩⟩⟩ : OwL _ _ ([(⟨#[47, 97]⟩ : Str), (⟨#[47, 98]⟩ : Str), (⟨#[47, 122, 122]⟩ : Str)] : List Str))) (gs := [MF.ol [.string (⟨#[47, 97]⟩ : Str), .string (⟨#[47, 98]⟩ : Str), .string (⟨#[47, 122, 122]⟩ : Str)] ([(⟨#[47, 97]⟩ : Str), (⟨#[47, 98]⟩ : Str), (⟨#[47, 122, 122]⟩ : Str)] : List Str)]) rfl ?_
   refine WX.seal 12 16 17 rfl rfl rfl rfl rfl ?_
   have r7 : (⟨#[47, 97]⟩ : Str).size = 2 := rfl
   have r8 : (⟨#[47, 98]⟩ : Str).size = 2 := rfl
   have r9 : (⟨#[47, 122, 122]⟩ : Str).size = 3 := rfl
   obtain ⟨⟨u12, u13, u14⟩, hu5⟩ : ∃ r_, spec_l1Str code u4 u5 ([(⟨#[47, 97]⟩ : Str), (⟨#[47, 98]⟩ : Str), (⟨#[47, 122, 122]⟩ : Str)]) = r_ := ⟨_, rfl⟩
   refine WX.callP (ds := fun _ => [])  7 19 rfl (fun _ _ _ => All.nil) (fun _ f hf => by cases hf) rfl rfl rfl rfl rfl (fun _ => rfl) rfl (fun w G bs H hI hH hs hΓ => f45 w n (by omega) H hH (bs 7) code K0 M0 (hΓ.get 0 rfl) u4 u5 ([(⟨#[47, 97]⟩ : Str), (⟨#[47, 98]⟩ : Str), (⟨#[47, 122, 122]⟩ : Str)]) p4 3 (hΓ.get 17 rfl) hs hokcode hq2.2.1 hq2.2.2 (by first | assumption | omega | (simp; done) | (simp; omega)) (okl_mk (by simp; omega) (all_cons (α := Str) (Nat.le_trans (by decide) (bd_pos _)) (all_cons (α := Str) (Nat.le_trans (by decide) (bd_pos _)) (all_cons (α := Str) (Nat.le_trans (by decide) (bd_pos _)) (fun a ha => by cases ha)))) : GoT.ok n ([(⟨#[47, 97]⟩ : Str), (⟨#[47, 98]⟩ : Str), (⟨#[47, 122, 122]⟩ : Str)] : List Str)) u12 u13 u14 hu5) (fun _ => rfl) (fun _ => rfl) ?_
   rintro ⟨⟩ hq7
   refine R0 ?_
   refine WX.back0 ?_
   refine TX.all2 0 4 (by kernel_rfl) ?_ ?_
   ·skip
    refine TS.op 0 rfl (by kernel_rfl) ?_
    refine R0 ?_
    refine WX.back0 ?_
    refine TX.all1 4 (by kernel_rfl) ?_
    refine TS.callF 4 20 (fun _ _ h => GoT.ow_rd h) (fun _ f hf => GoT.fak f hf) rfl rfl rfl rfl rfl rfl (fun _ => rfl) rfl (fun w G bs hI hΓ => f44 w n (by omega) u12 hq7.1) (fun _ => rfl) (fun _ => rfl) ?_
    rintro ⟨p6, c4⟩ hq8
    refine TX.tail [5, 6] rfl rfl (by kernel_rfl) ?_
    refine R0 ?_
    have hP3 : spec_DrawSeqOf code = (u3, spec_l4Of u12) := by simp only [spec_DrawSeqOf, hu1, hu2, hu5, ct, cf]
    refine R1 ?_
    intro w1 G bs hI hΓ
    rw [hP3]
    exact Post.of [3, 21] ((p1, c1), (p6, c4)) hI hΓ rfl rfl rfl (⟨hq2.1, hq8⟩)
   ·skip
    refine TS.callF 4 22 (fun _ _ h => GoT.ow_rd h) (fun _ f hf => GoT.fak f hf) rfl rfl rfl rfl rfl rfl (fun _ => rfl) rfl (fun w G bs hI hΓ => f44 w n (by omega) u12 hq7.1) (fun _ => rfl) (fun _ => rfl) ?_
    rintro ⟨p7, c5⟩ hq9
    refine TX.tail [0, 5, 6] rfl rfl (by kernel_rfl) ?_
    refine R0 ?_
    have hP4 : spec_DrawSeqOf code = (u3, spec_l4Of u12) := by simp only [spec_DrawSeqOf, hu1, hu2, hu5, ct, cf]
    refine R1 ?_
    intro w1 G bs hI hΓ
    rw [hP4]
    exact Post.of [3, 23] ((p1, c1), (p7, c5)) hI hΓ rfl rfl rfl (⟨hq2.1, hq9⟩)
theorem f52 (w : World) (n : Nat) (hn : n + 0 ≤ 9) (e_ : TableEntry) (K0 : Option Addr) (M0 : Nat) (N0 : RdSl (hp w) K0 M0 e_.name.parts) (a : StateVector) (ba : Addr) (ha : RdSl (hp w) (some ba) 1 [a]) (b : StateVector) (bb : Addr) (hb : RdSl (hp w) (some bb) 1 [b]) (hoke_ : GoT.ok n e_) (hoka : GoT.ok n a) (hokb : GoT.ok n b) :
  Does Try.prog 52 #[.agg #[.slice K0 ((e_.name.parts).length) M0, .int .i64 (e_.value)], .pointer (some ba), .pointer (some bb)] w emp (fun (rv : Value) (_ : World) => rv = .bool (impl_VectorLeq_c1 a b e_) ∧ True) := by
 have hbP := bd_pos n
 have hbB := bd_big (n := n) (by omega)
 refine WX.enter (tt := tt) (Γ := [(0, MF.rs .stb K0 M0 e_.name.parts), (1, MF.rs .stb (some ba) 1 ([a])), (2, MF.rs .stb (some bb) 1 ([b]))]) Try.func52 rfl (by kernel_rfl) rfl (allS_cons rfl N0 (allS_cons rfl ha (allS_cons rfl hb allS_nil))) ?_
 have ah : ([a] : List StateVector)[0]? = some a := rfl
 refine WX.slot 1 (y := .e (some ba) 0 1 0) rfl (fun _ => cap_eq) ?_
 have bh : ([b] : List StateVector)[0]? = some b := rfl
 refine WX.slot 2 (y := .e (some bb) 0 1 0) rfl (fun _ => cap_eq) ?_
 refine R0 ?_
 refine WX.draw [] mixed ?_
 intro bs G0 hΓ0
 refine DX.ldE 0 1 3 a ttOk hΓ0 (by kernel_rfl) rfl rfl rfl rfl rfl rfl rfl rfl ah (fun _ => rfl) (fun _ => rfl) ?_
 rintro ⟨p1, c1⟩
 refine DX.takes (fuel := 7) ttOk [(1, true), (2, false)] (by kernel_rfl) rfl ?_
 refine DX.ldE 4 2 4 b ttOk hΓ0 (by kernel_rfl) rfl rfl rfl rfl rfl rfl rfl rfl bh (fun _ => rfl) (fun _ => rfl) ?_
 rintro ⟨p2, c2⟩
 refine DX.takes (fuel := 4) ttOk [(5, true), (6, false)] (by kernel_rfl) rfl ?_
 refine DX.callV 3 rfl (by kernel_rfl) rfl rfl rfl rfl rfl rfl (fun _ => rfl) rfl (fun w G bs hI hΓ => f28 w n (by omega) a p1 c1 (hΓ.get 3 rfl) e_.name K0 M0 (hΓ.get 0 rfl) hoka ((ok_TableEntry hoke_).1)) ?_
 intro hq1
 refine DX.callV 7 rfl (by kernel_rfl) rfl rfl rfl rfl rfl rfl (fun _ => rfl) rfl (fun w G bs hI hΓ => f28 w n (by omega) b p2 c2 (hΓ.get 4 rfl) e_.name K0 M0 (hΓ.get 0 rfl) hokb ((ok_TableEntry hoke_).1)) ?_
 intro hq2
 refine DX.takes (fuel := 0) ttOk [(8, true), (9, true)] (by kernel_rfl) rfl ?_
 refine DX.tail2 [] rfl rfl (by kernel_rfl) ?_
 refine R0 ?_
 have hP1 : impl_VectorLeq_c1 a b e_ = (decide ((impl_SeqOf a e_.name) > (impl_SeqOf b e_.name))) := by simp only [impl_VectorLeq_c1, ct, cf]
 exact R3 hP1
theorem f21 (w : World) (n : Nat) (hn : n + 0 ≤ 9) (a : StateVector) (pa : Option Addr) (ca : Nat) (N0 : RdSl (hp w) pa ca a.entries) (b : StateVector) (pb : Option Addr) (cb : Nat) (N1 : RdSl (hp w) pb cb b.entries) (hoka : GoT.ok n a) (hokb : GoT.ok n b) :
  Does Try.prog 21 #[.agg #[.slice pa ((a.entries).length) ca], .agg #[.slice pb ((b.entries).length) cb]] w emp (fun (rv : Value) (_ : World) => rv = .bool (impl_VectorLeq a b) ∧ True) := by
 have hbP := bd_pos n
 have hbB := bd_big (n := n) (by omega)
 refine WX.enter (tt := tt) (Γ := [(0, MF.rs .stb pa ca a.entries), (1, MF.rs .stb pb cb b.entries)]) Try.func21 rfl (by kernel_rfl) rfl (allS_cons rfl N0 (allS_cons rfl N1 allS_nil)) ?_
 refine R0 ?_
 refine WX.callV rfl rfl rfl rfl rfl (fun _ => rfl) rfl (fun w G bs hI hΓ => f51 w n (by omega) a.entries pa ca (hΓ.get 0 rfl) 52 [Value.pointer (some ⟨bs 2, 0, none⟩), Value.pointer (some ⟨bs 3, 0, none⟩)] (fun e0_ => (impl_VectorLeq_c1 a b e0_)) (fun w1_ hb_ e0_ x0_ hk0_ hx0_ => f52 w1_ n (by omega) e0_ x0_.1.1 x0_.1.2 (hx0_ _ List.mem_cons_self) a ⟨bs 2, 0, none⟩ ((rd_box (α := StateVector) (a := a) (x := (pa, ca)) (hI.loc 2 _ rfl).1 (All.cons (hΓ.get 0 rfl : RdSl _ _ _ _) All.nil)).mono (kp_le hb_)) b ⟨bs 3, 0, none⟩ ((rd_box (α := StateVector) (a := b) (x := (pb, cb)) (hI.loc 3 _ rfl).1 (All.cons (hΓ.get 1 rfl : RdSl _ _ _ _) All.nil)).mono (kp_le hb_)) hk0_ hoka hokb) (ok_StateVector hoka)) ?_
 intro hq1
 refine R0 ?_
 have hP1 : impl_VectorLeq a b = (!(slices_ContainsFunc_TableEntry a.entries (fun e0_ => (impl_VectorLeq_c1 a b e0_)))) := by simp only [impl_VectorLeq, ct, cf]
 exact R3 hP1
theorem f22 (w : World) (n : Nat) (hn : n + 0 ≤ 9) (a : StateVector) (pa : Option Addr) (ca : Nat) (N0 : RdSl (hp w) pa ca a.entries) (b : StateVector) (pb : Option Addr) (cb : Nat) (N1 : RdSl (hp w) pb cb b.entries) (hoka : GoT.ok n a) (hokb : GoT.ok n b) :
  Does Try.prog 22 #[.agg #[.slice pa ((a.entries).length) ca], .agg #[.slice pb ((b.entries).length) cb]] w emp (fun (rv : Value) (_ : World) => rv = .bool (spec_VectorLeq a b) ∧ True) := by
 have hbP := bd_pos n
 have hbB := bd_big (n := n) (by omega)
 refine WX.enter (tt := tt) (Γ := [(0, MF.rs .stb pa ca a.entries), (1, MF.rs .stb pb cb b.entries)]) Try.func22 rfl (by kernel_rfl) rfl (allS_cons rfl N0 (allS_cons rfl N1 allS_nil)) ?_
 refine R0 ?_
 have r1 : (a.entries).length ≤ bd n := (okl (ok_StateVector hoka)).1
 refine WX.loop (ι := Nat) ⟨fun i => (i ≤ (a.entries).length) ∧ (spec_VectorLeq_L1 a b a.entries = spec_VectorLeq_L1 a b ((a.entries).drop i)), fun i => (a.entries).length - i, fun i => [(5, .v (.int .i64 (((i : Nat) : Int)))), (3, .p 3 0), (2, .p 2 0)], fun i => [(3, ⟨30, [.slice pb ((b.entries).length) cb]⟩), (2, ⟨30, [.slice pa ((a.entries).length) ca]⟩)], fun i => [], fun i => [(0, MF.rs .stb pa ca a.entries), (1, MF.rs .stb pb cb b.entries)]⟩ 0 ⟨(Nat.zero_le _), rfl⟩
  (.cons rfl (.cons rfl (.cons rfl (.nil)))) (.cons rfl (.cons rfl (.nil))) .nil [0, 1] rfl ?_
 rintro i hpre
 have hpre_ : (i ≤ (a.entries).length) ∧ (spec_VectorLeq_L1 a b a.entries = spec_VectorLeq_L1 a b ((a.entries).drop i)) := hpre
 clear hpre
 obtain ⟨v1, v2⟩ := hpre_
 refine R0 ?_
 refine WX.cases 10 rfl (fun h1 => ?_) (fun h1 => ?_)
 ·skip
  have h1d := B.dt h1
  have e1i : i < (a.entries).length := (by omega)
  obtain ⟨e1, e1h⟩ : ∃ e1, (a.entries)[i]? = some e1 := ⟨_, List.getElem?_eq_getElem e1i⟩
  have ok1 : GoT.ok n e1 := (okl (ok_StateVector hoka)).2 _ (List.mem_of_getElem? e1h)
  refine R0 ?_
  refine WX.draw [] mixed ?_
  intro bs G0 hΓ0
  refine DX.takes (fuel := 13) ttOk [(0, false), (1, true), (2, false), (3, true)] (by kernel_rfl) rfl ?_
  refine DX.idx 4 0 i ttOk hΓ0 (by kernel_rfl) rfl rfl rfl rfl rfl rfl rfl rfl rfl rfl rfl e1i ?_
  rintro ad1 rfl
  refine DX.takes (fuel := 11) ttOk [(5, true)] (by kernel_rfl) rfl ?_
  refine DX.ldE 6 0 2 e1 ttOk hΓ0 (by kernel_rfl) rfl rfl rfl rfl rfl rfl rfl rfl e1h (fun _ => rfl) (fun _ => rfl) ?_
  rintro ⟨⟨p1, c1⟩, ⟨⟩⟩
  refine DX.takes (fuel := 6) ttOk [(8, false), (9, true), (10, false), (11, true)] (by kernel_rfl) rfl ?_
  refine DX.idx 12 0 i ttOk hΓ0 (by kernel_rfl) rfl rfl rfl rfl rfl rfl rfl rfl rfl rfl rfl e1i ?_
  rintro ad2 ⟨⟩
  refine DX.takes (fuel := 4) ttOk [(13, true)] (by kernel_rfl) rfl ?_
  refine DX.ldE 14 0 3 e1 ttOk hΓ0 (by kernel_rfl) rfl rfl rfl rfl rfl rfl rfl rfl e1h (fun _ => rfl) (fun _ => rfl) ?_
  rintro ⟨⟨p2, c2⟩, ⟨⟩⟩
  refine DX.callV 7 rfl (by kernel_rfl) rfl rfl rfl rfl rfl rfl (fun _ => rfl) rfl (fun w G bs hI hΓ => f29 w n (by omega) a (some ad1) ca (hΓ.get 0 rfl) e1.name p1 c1 (hΓ.get 2 rfl) hoka ((ok_TableEntry ok1).1)) ?_
  intro hq1
  refine DX.callV 15 rfl (by kernel_rfl) rfl rfl rfl rfl rfl rfl (fun _ => rfl) rfl (fun w G bs hI hΓ => f29 w n (by omega) b pb cb (hΓ.get 1 rfl) e1.name p2 c2 (hΓ.get 3 rfl) hokb ((ok_TableEntry ok1).1)) ?_
  intro hq2
  refine DX.takes (fuel := 0) ttOk [(16, true)] (by kernel_rfl) rfl ?_
  refine DX.tail2 [] rfl rfl (by kernel_rfl) ?_
  refine R0 ?_
  refine WX.cases 29 rfl (fun h2 => ?_) (fun h2 => ?_)
  ·skip
   have h2d := B.dt h2
   refine R0 ?_
   have hP1 : spec_VectorLeq_L1 a b a.entries = (some false) := by rw [v2, drop_get e1h]; simp only [spec_VectorLeq_L1, h2, ct, cf]
   have hP2 : spec_VectorLeq a b = false := by simp only [spec_VectorLeq, hP1, ct, cf]
   exact R3 hP2
  ·skip
   have h2d := B.df h2
   refine R0 ?_
   refine WX.see rfl rfl rfl (fun _ hΓ => looks_arith rfl rfl rfl rfl (by unfold I64; first | omega | (simp only [List.length_take] at *; omega))) ?_
   refine R0 ?_
   exact WX.iter (i + 1) ⟨(by omega), (by rw [v2, drop_get e1h]; simp only [spec_VectorLeq_L1, h2, ct, cf])⟩ (by first | (dsimp only; omega) | omega) (.cons rfl (.cons rfl (.cons rfl (.nil)))) (.cons rfl (.cons rfl (.nil))) .nil [0, 1] rfl
 ·skip
  have h1d := B.df h1
  refine R0 ?_
  have hX1 : spec_VectorLeq_L1 a b a.entries = none := by rw [v2, List.drop_eq_nil_of_le (show (a.entries).length ≤ i by omega)]; simp only [spec_VectorLeq_L1, ct, cf]
  have hP3 : spec_VectorLeq a b = true := by simp only [spec_VectorLeq, hX1, ct, cf]
  exact R3 hP3
theorem f74 (w : World) (n : Nat) (hn : n + 0 ≤ 9) (a : (List Str)) (pa : Option Addr) (ca : Nat) (N0 : RdSl (hp w) pa ca a) (b : (List Str)) (pb : Option Addr) (cb : Nat) (N1 : RdSl (hp w) pb cb b) (hoka : GoT.ok n a) (hokb : GoT.ok n b) :
  Does Try.prog 74 #[.slice pa ((a).length) ca, .slice pb ((b).length) cb] w emp (fun (rv : Value) (_ : World) => rv = .bool (laws_sameTexts a b) ∧ True) := by
 have hbP := bd_pos n
 have hbB := bd_big (n := n) (by omega)
 refine WX.enter (tt := tt) (Γ := [(0, MF.rs .stb pa ca a), (1, MF.rs .stb pb cb b)]) Try.func74 rfl (by kernel_rfl) rfl (allS_cons rfl N0 (allS_cons rfl N1 allS_nil)) ?_
 refine R0 ?_
 refine WX.cases 10 rfl (fun h1 => ?_) (fun h1 => ?_)
 ·skip
  have h1d := B.nt' h1
  refine R0 ?_
  have hP1 : laws_sameTexts a b = false := by simp only [laws_sameTexts, h1, ct, cf]
  exact R3 hP1
 ·skip
  have h1d := B.nf' h1
  refine R0 ?_
  have r1 : (a).length ≤ bd n := (okl hoka).1
  refine WX.loop (ι := Nat) ⟨fun i => (i ≤ (a).length) ∧ (laws_sameTexts_L1 b a 0 = laws_sameTexts_L1 b ((a).drop i) i), fun i => (a).length - i, fun i => [(5, .v (.int .i64 (((i : Nat) : Int)))), (0, .v (.slice pa ((a).length) ca)), (1, .v (.slice pb ((b).length) cb))], fun i => [], fun i => [], fun i => [(0, MF.rs .stb pa ca a), (1, MF.rs .stb pb cb b)]⟩ 0 ⟨(Nat.zero_le _), rfl⟩
   (.cons rfl (.cons rfl (.cons rfl (.nil)))) .nil .nil [0, 1] rfl ?_
  rintro i hpre
  have hpre_ : (i ≤ (a).length) ∧ (laws_sameTexts_L1 b a 0 = laws_sameTexts_L1 b ((a).drop i) i) := hpre
  clear hpre
  obtain ⟨v1, v2⟩ := hpre_
  refine R0 ?_
  refine WX.cases 14 rfl (fun h2 => ?_) (fun h2 => ?_)
  ·skip
   have h2d := B.dt h2
   have e1i : i < (a).length := (by omega)
   obtain ⟨e1, e1h⟩ : ∃ e1, (a)[i]? = some e1 := ⟨_, List.getElem?_eq_getElem e1i⟩
   have ok1 : GoT.ok n e1 := (okl hoka).2 _ (List.mem_of_getElem? e1h)
   refine R0 ?_
   refine WX.draw [] mixed ?_
   intro bs G0 hΓ0
   refine DX.takes (fuel := 7) ttOk [(0, true), (1, true)] (by kernel_rfl) rfl ?_
   refine DX.idx 2 0 i ttOk hΓ0 (by kernel_rfl) rfl rfl rfl rfl rfl rfl rfl rfl rfl rfl rfl e1i ?_
   rintro ad1 rfl
   refine DX.ldE 3 0 2 e1 ttOk hΓ0 (by kernel_rfl) rfl rfl rfl rfl rfl rfl rfl rfl e1h (fun _ => rfl) (fun _ => rfl) ?_
   rintro ⟨⟩
   refine DX.takes (fuel := 3) ttOk [(4, true), (5, true)] (by kernel_rfl) rfl ?_
   have e2i : i < (b).length := (by first | assumption | omega)
   obtain ⟨e2, e2h⟩ : ∃ e2, (b)[i]? = some e2 := ⟨_, List.getElem?_eq_getElem e2i⟩
   have ok2 : GoT.ok n e2 := (okl hokb).2 _ (List.mem_of_getElem? e2h)
   refine DX.idx 6 1 i ttOk hΓ0 (by kernel_rfl) rfl rfl rfl rfl rfl rfl rfl rfl rfl rfl rfl e2i ?_
   rintro ad2 rfl
   refine DX.ldE 7 1 2 e2 ttOk hΓ0 (by kernel_rfl) rfl rfl rfl rfl rfl rfl rfl rfl e2h (fun _ => rfl) (fun _ => rfl) ?_
   rintro ⟨⟩
   refine DX.takes (fuel := 0) ttOk [(8, true)] (by kernel_rfl) rfl ?_
   refine DX.tail2 [] rfl rfl (by kernel_rfl) ?_
   refine R0 ?_
   refine WX.cases 25 rfl (fun h3 => ?_) (fun h3 => ?_)
   ·skip
    have h3d := B.ef (B.nt h3)
    refine R0 ?_
    have hP2 : laws_sameTexts_L1 b a 0 = (some false) := by rw [v2, drop_get e1h]; simp only [laws_sameTexts_L1, e2h, h3, ct, cf]
    have hP3 : laws_sameTexts a b = false := by simp only [laws_sameTexts, h1, hP2, ct, cf]
    exact R3 hP3
   ·skip
    have h3d := B.et (B.nf h3)
    refine R0 ?_
    refine WX.see rfl rfl rfl (fun _ hΓ => looks_arith rfl rfl rfl rfl (by unfold I64; first | omega | (simp only [List.length_take] at *; omega))) ?_
    refine R0 ?_
    exact WX.iter (i + 1) ⟨(by omega), (by rw [v2, drop_get e1h]; simp only [laws_sameTexts_L1, e2h, h3, ct, cf])⟩ (by first | (dsimp only; omega) | omega) (.cons rfl (.cons rfl (.cons rfl (.nil)))) .nil .nil [0, 1] rfl
  ·skip
   have h2d := B.df h2
   refine R0 ?_
   have hX1 : laws_sameTexts_L1 b a 0 = none := by rw [v2, List.drop_eq_nil_of_le (show (a).length ≤ i by omega)]; simp only [laws_sameTexts_L1, ct, cf]
   have hP4 : laws_sameTexts a b = true := by simp only [laws_sameTexts, h1, hX1, ct, cf]
   exact R3 hP4
theorem f46 (w : World) (n : Nat) (hn : n + 0 ≤ 9) (a : Name) (pa : Option Addr) (ca : Nat) (N0 : RdSl (hp w) pa ca a.parts) (b : Name) (pb : Option Addr) (cb : Nat) (N1 : RdSl (hp w) pb cb b.parts) (hoka : GoT.ok n a) (hokb : GoT.ok n b) :
  Does Try.prog 46 #[.agg #[.slice pa ((a.parts).length) ca], .agg #[.slice pb ((b.parts).length) cb]] w emp (fun (rv : Value) (_ : World) => rv = .bool (laws_sameName a b) ∧ True) := by
 have hbP := bd_pos n
 have hbB := bd_big (n := n) (by omega)
 refine WX.enter (tt := tt) (Γ := [(0, MF.rs .stb pa ca a.parts), (1, MF.rs .stb pb cb b.parts)]) Try.func46 rfl (by kernel_rfl) rfl (allS_cons rfl N0 (allS_cons rfl N1 allS_nil)) ?_
 refine R0 ?_
 refine WX.callV rfl rfl rfl rfl rfl (fun _ => rfl) rfl (fun w G bs hI hΓ => f74 w n (by omega) a.parts pa ca (hΓ.get 0 rfl) b.parts pb cb (hΓ.get 1 rfl) (ok_Name hoka) (ok_Name hokb)) ?_
 intro hq1
 refine R0 ?_
 have hP1 : laws_sameName a b = (laws_sameTexts a.parts b.parts) := by simp only [laws_sameName, ct, cf]
 exact R3 hP1
theorem f18 (w : World) (n : Nat) (hn : n + 0 ≤ 9) (a : (List TableEntry)) (pa : Option Addr) (ca : Nat) (N0 : RdSl (hp w) pa ca a) (b : (List TableEntry)) (pb : Option Addr) (cb : Nat) (N1 : RdSl (hp w) pb cb b) (hoka : GoT.ok n a) (hokb : GoT.ok n b) :
  Does Try.prog 18 #[.slice pa ((a).length) ca, .slice pb ((b).length) cb] w emp (fun (rv : Value) (_ : World) => rv = .bool (laws_sameRows a b) ∧ True) := by
 have hbP := bd_pos n
 have hbB := bd_big (n := n) (by omega)
 refine WX.enter (tt := tt) (Γ := [(0, MF.rs .stb pa ca a), (1, MF.rs .stb pb cb b)]) Try.func18 rfl (by kernel_rfl) rfl (allS_cons rfl N0 (allS_cons rfl N1 allS_nil)) ?_
 refine R0 ?_
 refine WX.cases 10 rfl (fun h1 => ?_) (fun h1 => ?_)
 ·skip
  have h1d := B.nt' h1
  refine R0 ?_
  have hP1 : laws_sameRows a b = false := by simp only [laws_sameRows, h1, ct, cf]
  exact R3 hP1
 ·skip
  have h1d := B.nf' h1
  refine R0 ?_
  have r1 : (a).length ≤ bd n := (okl hoka).1
  refine WX.loop (ι := Nat) ⟨fun i => (i ≤ (a).length) ∧ (laws_sameRows_L1 b a 0 = laws_sameRows_L1 b ((a).drop i) i), fun i => (a).length - i, fun i => [(5, .v (.int .i64 (((i : Nat) : Int)))), (0, .v (.slice pa ((a).length) ca)), (1, .v (.slice pb ((b).length) cb))], fun i => [], fun i => [], fun i => [(0, MF.rs .stb pa ca a), (1, MF.rs .stb pb cb b)]⟩ 0 ⟨(Nat.zero_le _), rfl⟩
   (.cons rfl (.cons rfl (.cons rfl (.nil)))) .nil .nil [0, 1] rfl ?_
  rintro i hpre
  have hpre_ : (i ≤ (a).length) ∧ (laws_sameRows_L1 b a 0 = laws_sameRows_L1 b ((a).drop i) i) := hpre
  clear hpre
  obtain ⟨v1, v2⟩ := hpre_
  refine R0 ?_
  refine WX.cases 14 rfl (fun h2 => ?_) (fun h2 => ?_)
  ·skip
   have h2d := B.dt h2
   have e1i : i < (a).length := (by omega)
   obtain ⟨e1, e1h⟩ : ∃ e1, (a)[i]? = some e1 := ⟨_, List.getElem?_eq_getElem e1i⟩
   have ok1 : GoT.ok n e1 := (okl hoka).2 _ (List.mem_of_getElem? e1h)
   refine R0 ?_
   refine WX.draw [] mixed ?_
   intro bs G0 hΓ0
   refine DX.takes (fuel := 23) ttOk [(0, true), (1, true)] (by kernel_rfl) rfl ?_
   refine DX.idx 2 0 i ttOk hΓ0 (by kernel_rfl) rfl rfl rfl rfl rfl rfl rfl rfl rfl rfl rfl e1i ?_
   rintro ad1 rfl
   refine DX.takes (fuel := 21) ttOk [(3, true)] (by kernel_rfl) rfl ?_
   refine DX.ldE 4 0 2 e1 ttOk hΓ0 (by kernel_rfl) rfl rfl rfl rfl rfl rfl rfl rfl e1h (fun _ => rfl) (fun _ => rfl) ?_
   rintro ⟨⟨p1, c1⟩, ⟨⟩⟩
   refine DX.takes (fuel := 18) ttOk [(5, true), (6, true)] (by kernel_rfl) rfl ?_
   have e2i : i < (b).length := (by first | assumption | omega)
   obtain ⟨e2, e2h⟩ : ∃ e2, (b)[i]? = some e2 := ⟨_, List.getElem?_eq_getElem e2i⟩
   have ok2 : GoT.ok n e2 := (okl hokb).2 _ (List.mem_of_getElem? e2h)
   refine DX.idx 7 1 i ttOk hΓ0 (by kernel_rfl) rfl rfl rfl rfl rfl rfl rfl rfl rfl rfl rfl e2i ?_
   rintro ad2 rfl
   refine DX.takes (fuel := 16) ttOk [(8, true)] (by kernel_rfl) rfl ?_
   refine DX.ldE 9 1 3 e2 ttOk hΓ0 (by kernel_rfl) rfl rfl rfl rfl rfl rfl rfl rfl e2h (fun _ => rfl) (fun _ => rfl) ?_
   rintro ⟨⟨p2, c2⟩, ⟨⟩⟩
   refine DX.takes (fuel := 13) ttOk [(10, true), (11, true)] (by kernel_rfl) rfl ?_
   refine DX.cases 28 rfl (fun h3 => ?_) (fun h3 => ?_)
   ·skip
    have h3d := B.nt' h3
    refine DX.takes (fuel := 0) ttOk [(12, true), (13, true), (14, true), (15, true), (16, true), (17, true), (18, true), (19, true), (20, true), (21, true), (22, true), (23, true), (24, true)] (by kernel_rfl) rfl ?_
    refine DX.tail2 [] rfl rfl (by kernel_rfl) ?_
    refine R0 ?_
    have hP2 : laws_sameRows_L1 b a 0 = (some false) := by rw [v2, drop_get e1h]; simp only [laws_sameRows_L1, e2h, h3, ct, cf]
    have hP3 : laws_sameRows a b = false := by simp only [laws_sameRows, h1, hP2, ct, cf]
    exact R3 hP3
   ·skip
    have h3d := B.nf' h3
    refine DX.takes (fuel := 11) ttOk [(12, true), (13, true)] (by kernel_rfl) rfl ?_
    refine DX.idx 14 0 i ttOk hΓ0 (by kernel_rfl) rfl rfl rfl rfl rfl rfl rfl rfl rfl rfl rfl e1i ?_
    rintro ad3 ⟨⟩
    refine DX.takes (fuel := 9) ttOk [(15, true)] (by kernel_rfl) rfl ?_
    refine DX.ldE 16 0 4 e1 ttOk hΓ0 (by kernel_rfl) rfl rfl rfl rfl rfl rfl rfl rfl e1h (fun _ => rfl) (fun _ => rfl) ?_
    rintro ⟨⟨p3, c3⟩, ⟨⟩⟩
    refine DX.takes (fuel := 6) ttOk [(17, true), (18, true)] (by kernel_rfl) rfl ?_
    refine DX.idx 19 1 i ttOk hΓ0 (by kernel_rfl) rfl rfl rfl rfl rfl rfl rfl rfl rfl rfl rfl e2i ?_
    rintro ad4 ⟨⟩
    refine DX.takes (fuel := 4) ttOk [(20, true)] (by kernel_rfl) rfl ?_
    refine DX.ldE 21 1 5 e2 ttOk hΓ0 (by kernel_rfl) rfl rfl rfl rfl rfl rfl rfl rfl e2h (fun _ => rfl) (fun _ => rfl) ?_
    rintro ⟨⟨p4, c4⟩, ⟨⟩⟩
    refine DX.callV 22 rfl (by kernel_rfl) rfl rfl rfl rfl rfl rfl (fun _ => rfl) rfl (fun w G bs hI hΓ => f46 w n (by omega) e1.name p3 c3 (hΓ.get 4 rfl) e2.name p4 c4 (hΓ.get 5 rfl) ((ok_TableEntry ok1).1) ((ok_TableEntry ok2).1)) ?_
    intro hq1
    refine DX.takes (fuel := 0) ttOk [(23, true), (24, true)] (by kernel_rfl) rfl ?_
    refine DX.tail2 [] rfl rfl (by kernel_rfl) ?_
    refine R0 ?_
    refine WX.cases 41 rfl (fun h4 => ?_) (fun h4 => ?_)
    ·skip
     have h4d := (B.nt h4)
     refine R0 ?_
     have hP4 : laws_sameRows_L1 b a 0 = (some false) := by rw [v2, drop_get e1h]; simp only [laws_sameRows_L1, e2h, h3, h4, ct, cf]
     have hP5 : laws_sameRows a b = false := by simp only [laws_sameRows, h1, hP4, ct, cf]
     exact R3 hP5
    ·skip
     have h4d := (B.nf h4)
     refine R0 ?_
     refine WX.see rfl rfl rfl (fun _ hΓ => looks_arith rfl rfl rfl rfl (by unfold I64; first | omega | (simp only [List.length_take] at *; omega))) ?_
     refine R0 ?_
     exact WX.iter (i + 1) ⟨(by omega), (by rw [v2, drop_get e1h]; simp only [laws_sameRows_L1, e2h, h3, h4, ct, cf])⟩ (by first | (dsimp only; omega) | omega) (.cons rfl (.cons rfl (.cons rfl (.nil)))) .nil .nil [0, 1] rfl
  ·skip
   have h2d := B.df h2
   refine R0 ?_
   have hX1 : laws_sameRows_L1 b a 0 = none := by rw [v2, List.drop_eq_nil_of_le (show (a).length ≤ i by omega)]; simp only [laws_sameRows_L1, ct, cf]
   have hP6 : laws_sameRows a b = true := by simp only [laws_sameRows, h1, hX1, ct, cf]
   exact R3 hP6
theorem f25 (w : World) (n : Nat) (hn : n + 0 ≤ 9) (a : (List UInt8)) (pa : Option Addr) (ca : Nat) (N0 : RdSl (hp w) pa ca a) (b : (List UInt8)) (pb : Option Addr) (cb : Nat) (N1 : RdSl (hp w) pb cb b) (hoka : GoT.ok n a) (hokb : GoT.ok n b) :
  Does Try.prog 25 #[.slice pa ((a).length) ca, .slice pb ((b).length) cb] w emp (fun (rv : Value) (_ : World) => rv = .bool (laws_same a b) ∧ True) := by
 have hbP := bd_pos n
 have hbB := bd_big (n := n) (by omega)
 refine WX.enter (tt := tt) (Γ := [(0, MF.rs .stb pa ca a), (1, MF.rs .stb pb cb b)]) Try.func25 rfl (by kernel_rfl) rfl (allS_cons rfl N0 (allS_cons rfl N1 allS_nil)) ?_
 refine R0 ?_
 refine WX.cases 10 rfl (fun h1 => ?_) (fun h1 => ?_)
 ·skip
  have h1d := B.nt' h1
  refine R0 ?_
  have hP1 : laws_same a b = false := by simp only [laws_same, h1, ct, cf]
  exact R3 hP1
 ·skip
  have h1d := B.nf' h1
  refine R0 ?_
  have r1 : (a).length ≤ bd n := (okl hoka).1
  refine WX.loop (ι := Nat) ⟨fun i => (i ≤ (a).length) ∧ (laws_same_L1 b a 0 = laws_same_L1 b ((a).drop i) i), fun i => (a).length - i, fun i => [(5, .v (.int .i64 (((i : Nat) : Int)))), (0, .v (.slice pa ((a).length) ca)), (1, .v (.slice pb ((b).length) cb))], fun i => [], fun i => [], fun i => [(0, MF.rs .stb pa ca a), (1, MF.rs .stb pb cb b)]⟩ 0 ⟨(Nat.zero_le _), rfl⟩
   (.cons rfl (.cons rfl (.cons rfl (.nil)))) .nil .nil [0, 1] rfl ?_
  rintro i hpre
  have hpre_ : (i ≤ (a).length) ∧ (laws_same_L1 b a 0 = laws_same_L1 b ((a).drop i) i) := hpre
  clear hpre
  obtain ⟨v1, v2⟩ := hpre_
  refine R0 ?_
  refine WX.cases 14 rfl (fun h2 => ?_) (fun h2 => ?_)
  ·skip
   have h2d := B.dt h2
   have e1i : i < (a).length := (by omega)
   obtain ⟨e1, e1h⟩ : ∃ e1, (a)[i]? = some e1 := ⟨_, List.getElem?_eq_getElem e1i⟩
   refine R0 ?_
   refine WX.draw [] mixed ?_
   intro bs G0 hΓ0
   refine DX.takes (fuel := 7) ttOk [(0, true), (1, true)] (by kernel_rfl) rfl ?_
   refine DX.idx 2 0 i ttOk hΓ0 (by kernel_rfl) rfl rfl rfl rfl rfl rfl rfl rfl rfl rfl rfl e1i ?_
   rintro ad1 rfl
   refine DX.ldE 3 0 2 e1 ttOk hΓ0 (by kernel_rfl) rfl rfl rfl rfl rfl rfl rfl rfl e1h (fun _ => rfl) (fun _ => rfl) ?_
   rintro ⟨⟩
   refine DX.takes (fuel := 3) ttOk [(4, true), (5, true)] (by kernel_rfl) rfl ?_
   have e2i : i < (b).length := (by first | assumption | omega)
   obtain ⟨e2, e2h⟩ : ∃ e2, (b)[i]? = some e2 := ⟨_, List.getElem?_eq_getElem e2i⟩
   refine DX.idx 6 1 i ttOk hΓ0 (by kernel_rfl) rfl rfl rfl rfl rfl rfl rfl rfl rfl rfl rfl e2i ?_
   rintro ad2 rfl
   refine DX.ldE 7 1 2 e2 ttOk hΓ0 (by kernel_rfl) rfl rfl rfl rfl rfl rfl rfl rfl e2h (fun _ => rfl) (fun _ => rfl) ?_
   rintro ⟨⟩
   refine DX.takes (fuel := 0) ttOk [(8, true)] (by kernel_rfl) rfl ?_
   refine DX.tail2 [] rfl rfl (by kernel_rfl) ?_
   refine R0 ?_
   refine WX.cases 25 rfl (fun h3 => ?_) (fun h3 => ?_)
   ·skip
    have h3d := B.nt' h3
    refine R0 ?_
    have hP2 : laws_same_L1 b a 0 = (some false) := by rw [v2, drop_get e1h]; simp only [laws_same_L1, e2h, h3, ct, cf]
    have hP3 : laws_same a b = false := by simp only [laws_same, h1, hP2, ct, cf]
    exact R3 hP3
   ·skip
    have h3d := B.nf' h3
    refine R0 ?_
    refine WX.see rfl rfl rfl (fun _ hΓ => looks_arith rfl rfl rfl rfl (by unfold I64; first | omega | (simp only [List.length_take] at *; omega))) ?_
    refine R0 ?_
    exact WX.iter (i + 1) ⟨(by omega), (by rw [v2, drop_get e1h]; simp only [laws_same_L1, e2h, h3, ct, cf])⟩ (by first | (dsimp only; omega) | omega) (.cons rfl (.cons rfl (.cons rfl (.nil)))) .nil .nil [0, 1] rfl
  ·skip
   have h2d := B.df h2
   refine R0 ?_
   have hX1 : laws_same_L1 b a 0 = none := by rw [v2, List.drop_eq_nil_of_le (show (a).length ≤ i by omega)]; simp only [laws_same_L1, ct, cf]
   have hP4 : laws_same a b = true := by simp only [laws_same, h1, hX1, ct, cf]
   exact R3 hP4
end Go.Proofs.Ytdimfabadjfkiaa

namespace Go.Stp
set_option linter.unusedVariables false
set_option linter.unusedSimpArgs false
theorem bent_len (c : List UInt8) (i h : Int) (b : List UInt8) : (spec_l1Bent c i h b).1.length ≤ b.length + 1 := by
  unfold spec_l1Bent
  rcases spec_l1Below c i h 6 with ⟨u1, u2, u3⟩
  dsimp only
  cases (u1 == 0)
  · simp only [cond_false]
    cases (u1 == 1)
    · simp only [cond_false]
      cases (u1 == 2)
      · simp only [cond_false]; omega
      · simp only [cond_true]
        rcases spec_l1Int c u2 u3 ([0, 1, 128, 255]) with ⟨x, y, z⟩
        simp only [List.length_append, List.length_cons, List.length_nil]; omega
    · simp only [cond_true]
      rcases spec_l1Below c u2 u3 (((b.length : Nat) : Int) + 1) with ⟨x, y, z⟩
      dsimp only
      rw [List.length_take]; omega
  · simp only [cond_true]
    cases decide (((b.length : Nat) : Int) > 0)
    · simp only [cond_false]; omega
    · simp only [cond_true]
      rcases spec_l1Below c u2 u3 ((b.length : Nat) : Int) with ⟨x, y, z⟩
      dsimp only
      rcases spec_l1Below c y z 256 with ⟨x2, y2, z2⟩
      dsimp only
      cases b[x.toNat]? with
      | none => exact Nat.zero_le _
      | some e => simp only [List.length_set]; omega
theorem len_specEVL : ∀ (l : List TableEntry) (b : List UInt8), (spec_EncodeVector_L1 l b).length ≤ b.length + 96 * l.length
  | [], b => by simp [spec_EncodeVector_L1]
  | e :: l, b => by
    simp only [spec_EncodeVector_L1, List.length_cons]
    have h1 := len_specEVL l (spec_AppendVarint (spec_AppendName b e.name) e.value)
    have h2 := len_specAV (spec_AppendName b e.name) e.value
    have h3 := len_specAN b e.name
    omega
theorem len_specEV (v : StateVector) : (spec_EncodeVector v).length ≤ 6 + 96 * v.entries.length := by
  unfold spec_EncodeVector
  cases (!(spec_ValidVector v))
  · simp only [cond_false]
    have h1 := len_specEVL v.entries (spec_AppendVarint [] ((v.entries.length : Nat) : Int))
    have h2 := len_specAV [] ((v.entries.length : Nat) : Int)
    simp only [List.length_nil] at h2
    omega
  · simp
theorem drawDec_len (code : List UInt8) : (spec_DrawDecodeVector code).length ≤ 400 := by
  unfold spec_DrawDecodeVector
  rcases spec_l1New code with ⟨a, b⟩
  dsimp only
  have h1 := l27Draw_len code a b
  rcases e : spec_l27Draw code a b with ⟨v, i, j⟩
  rw [e] at h1
  dsimp only at h1 ⊢
  have h2 := bent_len code i j (spec_EncodeVector v)
  have h3 := len_specEV v
  omega

def laws_FnVecs (code : (List UInt8)) : Bool :=
  bif (laws_big code) then
    true
  else
    bif (!(laws_sameRows ((impl_JoinVectors ((spec_DrawJoinVectors code).1) ((spec_DrawJoinVectors code).2)).entries) ((spec_JoinVectors ((spec_DrawJoinVectors code).1) ((spec_DrawJoinVectors code).2)).entries))) then
      false
    else
      bif (!((impl_VectorLeq ((spec_DrawVectorLeq code).1) ((spec_DrawVectorLeq code).2)) == (spec_VectorLeq ((spec_DrawVectorLeq code).1) ((spec_DrawVectorLeq code).2)))) then
        false
      else
        bif (!(laws_sameRows (impl_NewerThan ((spec_DrawNewerThan code).1) ((spec_DrawNewerThan code).2)) (spec_NewerThan ((spec_DrawNewerThan code).1) ((spec_DrawNewerThan code).2)))) then
          false
        else
          bif (!(laws_same (impl_EncodeVector (spec_DrawEncodeVector code)) (spec_EncodeVector (spec_DrawEncodeVector code)))) then
            false
          else
            bif (!(laws_sameRows ((impl_DecodeVector (spec_DrawDecodeVector code)).1.entries) ((spec_DecodeVector (spec_DrawDecodeVector code)).1.entries))) then
              false
            else
              bif (!(((impl_DecodeVector (spec_DrawDecodeVector code)).2) == ((spec_DecodeVector (spec_DrawDecodeVector code)).2))) then
                false
              else
                bif ((impl_SeqOf ((spec_DrawSeqOf code).1) ((spec_DrawSeqOf code).2)) != (spec_SeqOf ((spec_DrawSeqOf code).1) ((spec_DrawSeqOf code).2))) then
                  false
                else
                  bif ((impl_VectorSum (spec_DrawEncodeVector code)) != (spec_VectorSum (spec_DrawEncodeVector code))) then
                    false
                  else
                    bif (!((impl_ValidVector (spec_DrawEncodeVector code)) == (spec_ValidVector (spec_DrawEncodeVector code)))) then
                      false
                    else
                      bif (!(((impl_DecodeVector (impl_EncodeVector (spec_DrawEncodeVector code))).2) == (impl_ValidVector (spec_DrawEncodeVector code)))) then
                        false
                      else
                        bif (impl_DecodeVector (impl_EncodeVector (spec_DrawEncodeVector code))).2 then
                          bif (!(laws_sameRows ((impl_DecodeVector (impl_EncodeVector (spec_DrawEncodeVector code))).1.entries) ((spec_DrawEncodeVector code).entries))) then
                            false
                          else
                            bif (impl_DecodeVector (spec_DrawDecodeVector code)).2 then
                              bif (!(laws_same (impl_EncodeVector ((impl_DecodeVector (spec_DrawDecodeVector code)).1)) (spec_DrawDecodeVector code))) then
                                false
                              else
                                bif (laws_sameRows ((impl_JoinVectors (impl_JoinVectors ((spec_DrawVecs code).1) ((spec_DrawVecs code).2.1)) ((spec_DrawVecs code).2.2)).entries) ((impl_JoinVectors ((spec_DrawVecs code).1) (impl_JoinVectors ((spec_DrawVecs code).2.1) ((spec_DrawVecs code).2.2))).entries)) then
                                  bif (laws_sameRows ((impl_JoinVectors ((spec_DrawVecs code).1) ((spec_DrawVecs code).2.1)).entries) ((impl_JoinVectors ((spec_DrawVecs code).2.1) ((spec_DrawVecs code).1)).entries)) then
                                    bif (laws_sameRows ((impl_JoinVectors ((spec_DrawVecs code).1) ((spec_DrawVecs code).1)).entries) ((spec_DrawVecs code).1.entries)) then
                                      bif (impl_VectorLeq ((spec_DrawVecs code).1) (impl_JoinVectors ((spec_DrawVecs code).1) ((spec_DrawVecs code).2.1))) then
                                        bif (impl_VectorLeq ((spec_DrawVecs code).2.1) (impl_JoinVectors ((spec_DrawVecs code).1) ((spec_DrawVecs code).2.1))) then
                                          bif (impl_ValidVector (impl_JoinVectors ((spec_DrawVecs code).1) ((spec_DrawVecs code).2.1))) then
                                            bif ((impl_VectorLeq ((spec_DrawVecs code).1) ((spec_DrawVecs code).2.1)) == (laws_sameRows ((impl_JoinVectors ((spec_DrawVecs code).1) ((spec_DrawVecs code).2.1)).entries) ((spec_DrawVecs code).2.1.entries))) then
                                              ((((((impl_NewerThan ((spec_DrawVecs code).1) ((spec_DrawVecs code).2.1))).length : Nat) : Int) == 0) == (impl_VectorLeq ((spec_DrawVecs code).1) ((spec_DrawVecs code).2.1)))
                                            else
                                              false
                                          else
                                            false
                                        else
                                          false
                                      else
                                        false
                                    else
                                      false
                                  else
                                    false
                                else
                                  false
                            else
                              bif (laws_sameRows ((impl_JoinVectors (impl_JoinVectors ((spec_DrawVecs code).1) ((spec_DrawVecs code).2.1)) ((spec_DrawVecs code).2.2)).entries) ((impl_JoinVectors ((spec_DrawVecs code).1) (impl_JoinVectors ((spec_DrawVecs code).2.1) ((spec_DrawVecs code).2.2))).entries)) then
                                bif (laws_sameRows ((impl_JoinVectors ((spec_DrawVecs code).1) ((spec_DrawVecs code).2.1)).entries) ((impl_JoinVectors ((spec_DrawVecs code).2.1) ((spec_DrawVecs code).1)).entries)) then
                                  bif (laws_sameRows ((impl_JoinVectors ((spec_DrawVecs code).1) ((spec_DrawVecs code).1)).entries) ((spec_DrawVecs code).1.entries)) then
                                    bif (impl_VectorLeq ((spec_DrawVecs code).1) (impl_JoinVectors ((spec_DrawVecs code).1) ((spec_DrawVecs code).2.1))) then
                                      bif (impl_VectorLeq ((spec_DrawVecs code).2.1) (impl_JoinVectors ((spec_DrawVecs code).1) ((spec_DrawVecs code).2.1))) then
                                        bif (impl_ValidVector (impl_JoinVectors ((spec_DrawVecs code).1) ((spec_DrawVecs code).2.1))) then
                                          bif ((impl_VectorLeq ((spec_DrawVecs code).1) ((spec_DrawVecs code).2.1)) == (laws_sameRows ((impl_JoinVectors ((spec_DrawVecs code).1) ((spec_DrawVecs code).2.1)).entries) ((spec_DrawVecs code).2.1.entries))) then
                                            ((((((impl_NewerThan ((spec_DrawVecs code).1) ((spec_DrawVecs code).2.1))).length : Nat) : Int) == 0) == (impl_VectorLeq ((spec_DrawVecs code).1) ((spec_DrawVecs code).2.1)))
                                          else
                                            false
                                        else
                                          false
                                      else
                                        false
                                    else
                                      false
                                  else
                                    false
                                else
                                  false
                              else
                                false
                        else
                          bif (impl_DecodeVector (spec_DrawDecodeVector code)).2 then
                            bif (!(laws_same (impl_EncodeVector ((impl_DecodeVector (spec_DrawDecodeVector code)).1)) (spec_DrawDecodeVector code))) then
                              false
                            else
                              bif (laws_sameRows ((impl_JoinVectors (impl_JoinVectors ((spec_DrawVecs code).1) ((spec_DrawVecs code).2.1)) ((spec_DrawVecs code).2.2)).entries) ((impl_JoinVectors ((spec_DrawVecs code).1) (impl_JoinVectors ((spec_DrawVecs code).2.1) ((spec_DrawVecs code).2.2))).entries)) then
                                bif (laws_sameRows ((impl_JoinVectors ((spec_DrawVecs code).1) ((spec_DrawVecs code).2.1)).entries) ((impl_JoinVectors ((spec_DrawVecs code).2.1) ((spec_DrawVecs code).1)).entries)) then
                                  bif (laws_sameRows ((impl_JoinVectors ((spec_DrawVecs code).1) ((spec_DrawVecs code).1)).entries) ((spec_DrawVecs code).1.entries)) then
                                    bif (impl_VectorLeq ((spec_DrawVecs code).1) (impl_JoinVectors ((spec_DrawVecs code).1) ((spec_DrawVecs code).2.1))) then
                                      bif (impl_VectorLeq ((spec_DrawVecs code).2.1) (impl_JoinVectors ((spec_DrawVecs code).1) ((spec_DrawVecs code).2.1))) then
                                        bif (impl_ValidVector (impl_JoinVectors ((spec_DrawVecs code).1) ((spec_DrawVecs code).2.1))) then
                                          bif ((impl_VectorLeq ((spec_DrawVecs code).1) ((spec_DrawVecs code).2.1)) == (laws_sameRows ((impl_JoinVectors ((spec_DrawVecs code).1) ((spec_DrawVecs code).2.1)).entries) ((spec_DrawVecs code).2.1.entries))) then
                                            ((((((impl_NewerThan ((spec_DrawVecs code).1) ((spec_DrawVecs code).2.1))).length : Nat) : Int) == 0) == (impl_VectorLeq ((spec_DrawVecs code).1) ((spec_DrawVecs code).2.1)))
                                          else
                                            false
                                        else
                                          false
                                      else
                                        false
                                    else
                                      false
                                  else
                                    false
                                else
                                  false
                              else
                                false
                          else
                            bif (laws_sameRows ((impl_JoinVectors (impl_JoinVectors ((spec_DrawVecs code).1) ((spec_DrawVecs code).2.1)) ((spec_DrawVecs code).2.2)).entries) ((impl_JoinVectors ((spec_DrawVecs code).1) (impl_JoinVectors ((spec_DrawVecs code).2.1) ((spec_DrawVecs code).2.2))).entries)) then
                              bif (laws_sameRows ((impl_JoinVectors ((spec_DrawVecs code).1) ((spec_DrawVecs code).2.1)).entries) ((impl_JoinVectors ((spec_DrawVecs code).2.1) ((spec_DrawVecs code).1)).entries)) then
                                bif (laws_sameRows ((impl_JoinVectors ((spec_DrawVecs code).1) ((spec_DrawVecs code).1)).entries) ((spec_DrawVecs code).1.entries)) then
                                  bif (impl_VectorLeq ((spec_DrawVecs code).1) (impl_JoinVectors ((spec_DrawVecs code).1) ((spec_DrawVecs code).2.1))) then
                                    bif (impl_VectorLeq ((spec_DrawVecs code).2.1) (impl_JoinVectors ((spec_DrawVecs code).1) ((spec_DrawVecs code).2.1))) then
                                      bif (impl_ValidVector (impl_JoinVectors ((spec_DrawVecs code).1) ((spec_DrawVecs code).2.1))) then
                                        bif ((impl_VectorLeq ((spec_DrawVecs code).1) ((spec_DrawVecs code).2.1)) == (laws_sameRows ((impl_JoinVectors ((spec_DrawVecs code).1) ((spec_DrawVecs code).2.1)).entries) ((spec_DrawVecs code).2.1.entries))) then
                                          ((((((impl_NewerThan ((spec_DrawVecs code).1) ((spec_DrawVecs code).2.1))).length : Nat) : Int) == 0) == (impl_VectorLeq ((spec_DrawVecs code).1) ((spec_DrawVecs code).2.1)))
                                        else
                                          false
                                      else
                                        false
                                    else
                                      false
                                  else
                                    false
                                else
                                  false
                              else
                                false
                            else
                              false
end Go.Stp

namespace Go.Stp
def readyAt (ops : Array Oper) (listed : Array Bool) (i : Nat) : Bool :=
  !listed.getD i true && (match ops[i]? with | some o => o.after.all (fun e => !Region.binds .any e || listed.getD e.on false) | none => false)
theorem readyAt_mem {ops : Array Oper} {listed : Array Bool} {i : Nat} (h : readyAt ops listed i = true) : (Region.ready .any ops listed).contains i = true := by
  unfold readyAt at h
  rw [List.contains_iff_mem]
  unfold Region.ready
  rw [List.mem_filter, List.mem_range]
  cases ho : ops[i]? with
  | none => simp [ho] at h
  | some o =>
    refine ⟨(Array.getElem?_eq_some_iff.1 ho).1, ?_⟩
    simpa [ho] using h
def onB (o : Oper) (i : Nat) : Bool := o.after.any (fun e => Region.binds .any e && e.on == i)
def freeRow (ops : Array Oper) (i : Nat) (oi : Oper) : Nat → List Oper → Bool
  | _, [] => true
  | j, oj :: r => (j == i || onB oj i || onB oi j || oi.apart ops oj) && freeRow ops i oi (j + 1) r
def freeTab (ops : Array Oper) : Nat → List Oper → Bool
  | _, [] => true
  | i, oi :: r => freeRow ops i oi 0 ops.toList && freeTab ops (i + 1) r
def freeAll (ops : Array Oper) : Bool := Region.noSelect ops && freeTab ops 0 ops.toList
theorem freeRow_get {ops : Array Oper} {i : Nat} {oi : Oper} : ∀ {l : List Oper} {j k : Nat} {oj : Oper}, freeRow ops i oi j l = true → l[k]? = some oj → (j + k == i || onB oj i || onB oi (j + k) || oi.apart ops oj) = true
  | [], _, _, _, _, h => by simp at h
  | o :: r, j, k, oj, h, hk => by
    simp only [freeRow, Bool.and_eq_true] at h
    cases k with
    | zero => simp at hk; subst hk; simpa using h.1
    | succ k =>
      have := freeRow_get h.2 (show r[k]? = some oj by simpa using hk)
      rwa [Nat.add_assoc, Nat.add_comm 1 k] at this
theorem freeTab_get {ops : Array Oper} : ∀ {l : List Oper} {i k : Nat} {o : Oper}, freeTab ops i l = true → l[k]? = some o → freeRow ops (i + k) o 0 ops.toList = true
  | [], _, _, _, _, h => by simp at h
  | o :: r, i, k, oj, h, hk => by
    simp only [freeTab, Bool.and_eq_true] at h
    cases k with
    | zero => simp at hk; subst hk; simpa using h.1
    | succ k =>
      have := freeTab_get h.2 (show r[k]? = some oj by simpa using hk)
      rwa [Nat.add_assoc, Nat.add_comm 1 k] at this
theorem freeAll_free {ops : Array Oper} {listed : Array Bool} {i : Nat} (h : freeAll ops = true) (hr : readyAt ops listed i = true) : Region.free .any ops listed i = true := by
  simp only [freeAll, Bool.and_eq_true] at h
  simp only [readyAt, Bool.and_eq_true] at hr
  unfold Region.free
  cases ho : ops[i]? with
  | none => simp [ho] at hr
  | some oi =>
    simp only [ho] at hr
    rw [List.all_eq_true]
    intro j hj
    have hj' : j < ops.size := by simpa using hj
    have hoj : ops[j]? = some ops[j] := by simp [hj']
    have h1 := freeRow_get (freeTab_get h.2 (show ops.toList[i]? = some oi by simpa using ho)) (show ops.toList[j]? = some ops[j] by simp [hj'])
    simp only [Nat.zero_add] at h1
    simp only [hoj]
    cases hji : (j == i) with
    | true => simp
    | false =>
      simp only [hji, Bool.false_or]
      cases hl : listed.getD j true with
      | true => simp
      | false =>
        simp only [Bool.false_or]
        simp only [hji, Bool.false_or, Bool.or_eq_true] at h1
        rcases h1 with (h1 | h1) | h1
        · simp only [onB] at h1; simp [h1]
        · exfalso
          obtain ⟨e, he, hb⟩ := Array.any_eq_true'.1 h1
          simp only [Bool.and_eq_true, beq_iff_eq] at hb
          have h2 := Array.all_eq_true_iff_forall_mem.1 hr.2 e he
          simp only [hb.1, Bool.not_true, Bool.false_or, hb.2] at h2
          rw [Array.getD_eq_getD_getElem?] at hl h2
          cases hx : listed[j]? with
          | none => simp [hx] at h2
          | some b => simp [hx] at h2 hl; rw [h2] at hl; cases hl
        · simp [h1]
def takesR (ops : Array Oper) (tl : List Nat) : Array Bool → List (Nat × Bool) → Bool
  | _, [] => true
  | listed, (i, p) :: r => (readyAt ops listed i && (match p with | true => true | false => !tl.contains i && tl.all (fun j => listed.getD j true || waits ops j i))) && takesR ops tl (listed.setIfInBounds i true) r
theorem freeAll_mayP {ops : Array Oper} {listed : Array Bool} {i : Nat} (h : freeAll ops = true) (hr : readyAt ops listed i = true) : mayP ops listed i = true := by
  have h1 := freeAll_free h hr
  simp only [freeAll, Bool.and_eq_true] at h
  simp only [mayP, h.1, h1, readyAt_mem hr, Bool.and_self]
theorem takesB_of {ops : Array Oper} {tl : List Nat} (hs : freeAll ops = true) : ∀ {is : List (Nat × Bool)} {listed : Array Bool}, takesR ops tl listed is = true → takesB ops tl listed is = true
  | [], _, _ => rfl
  | (i, p) :: r, listed, h => by
    simp only [takesR, Bool.and_eq_true] at h
    obtain ⟨⟨h2, h3⟩, h4⟩ := h
    simp only [takesB, Bool.and_eq_true]
    refine ⟨?_, takesB_of hs h4⟩
    cases p with
    | true => exact freeAll_mayP hs h2
    | false =>
      simp only [Bool.and_eq_true] at h3
      simp only [mayB, freeAll_mayP hs h2, h3.1, h3.2, Bool.and_self]
def mayR (ops : Array Oper) (tl : List Nat) (listed : Array Bool) (i : Nat) : Bool := readyAt ops listed i && (!tl.contains i && tl.all (fun j => listed.getD j true || waits ops j i))
theorem mayB_of {ops : Array Oper} {tl : List Nat} {listed : Array Bool} {i : Nat} (hs : freeAll ops = true) (h : mayR ops tl listed i = true) : mayB ops tl listed i = true := by
  simp only [mayR, Bool.and_eq_true] at h
  simp only [mayB, freeAll_mayP hs h.1, h.2.1, h.2.2, Bool.and_self]
theorem DX.tab {C : Cx} {ops : Array Oper} {tl : List Nat} {s : List It} {bs : Nat → Nat} {G0 : GH} {fuel : Nat} {listed : Array Bool} {env : Env} {L : Locs} {R : Rows} {Γ : Facts} (h : freeAll ops = true)
    (k : freeAll ops = true → DX C ops tl s bs G0 fuel listed env L R Γ) : DX C ops tl s bs G0 fuel listed env L R Γ := k h
end Go.Stp

