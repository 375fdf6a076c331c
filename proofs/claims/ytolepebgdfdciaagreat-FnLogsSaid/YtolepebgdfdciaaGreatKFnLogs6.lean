/-
  What the proof of one law needs: rules of the program logic, functions as Lean functions, contracts. No condition but what each says. Written by a program (pack.py) out of my own texts.
-/
import Derived.Test.YtolepebgdfdciaaGreatKFnLogs5
namespace Go.Proofs.YtolepebgdfdciaaGreat
open Go.Stp
set_option linter.unusedVariables false
set_option linter.unusedSimpArgs false
theorem f245 (w : World) (n : Nat) (hn : n + 0 ≤ 9) (H : GH) (hH : Le H (hp w)) (bc_ : Nat) (c_b : (List UInt8)) (K0 : Option Addr) (M0 : Nat) (N0 : RdSl (cut (hp w) H) K0 M0 c_b) (c_i : Int) (c_h : Int) (hown : Sep H [MF.bx bc_ 182 [.slice K0 ((c_b).length) M0, .int .i64 (c_i), .int .i64 (c_h)]]) (hokc_b : GoT.ok n c_b) (hokc_i : NN c_i) (hokc_h : GoT.ok n c_h) (o0_ : Int) (o1_ : Int) (o2_ : Int) (hres : spec_l8Secret c_b c_i c_h = (o0_, o1_, o2_)) :
  Does Tryz.prog 245 #[.pointer (some ⟨bc_, 0, none⟩)] w H (Post w H (fun _ : Unit => .int .i64 (o0_)) (fun _ => [MF.bx bc_ 182 [.slice K0 ((c_b).length) M0, .int .i64 (o1_), .int .i64 (o2_)]]) (GoT.ok n (o0_ : Int) ∧ NN (o1_) ∧ I64 (o2_))) := by
 have hbP := bd_pos n
 have hbB := bd_big (n := n) (by omega)
 have hc_bz : (c_b).length ≤ bd n := (okl hokc_b).1
 refine WX.enterP (tt := tt) (Γ := [(0, MF.rs .stb K0 M0 c_b)]) 1 Tryz.func245 rfl (by kernel_rfl) rfl (allS_cons rfl N0 allS_nil) hH hown (fun f hf => by cases hf) rfl ?_
 refine R0 ?_
 obtain ⟨⟨u1, u2, u3⟩, hu1⟩ : ∃ r_, spec_l1Below c_b c_i c_h 5 = r_ := ⟨_, rfl⟩
 refine WX.callP (ds := fun _ => []) 999 2 rfl (fun _ _ _ => All.nil) (fun _ f hf => by cases hf) rfl rfl rfl rfl rfl (fun _ => rfl) rfl (fun w G bs H hI hH hs hΓ => f84 w n (by omega) H hH (bs 999) c_b K0 M0 (hΓ.get 0 rfl) c_i c_h 5 hs hokc_b hokc_i hokc_h (show I64 5 from (by unfold I64; omega)) u1 u2 u3 hu1) (fun _ => rfl) (fun _ => rfl) ?_
 rintro ⟨⟩ hq1
 have q1 := l1Below_rng c_b c_i c_h 5
 rw [hu1] at q1
 try dsimp only at q1
 have r1 : -9223372036854775808 ≤ u1 ∧ u1 ≤ 9223372036854775807 := hq1.1
 refine WX.see rfl rfl rfl (fun _ hΓ => looks_arith rfl rfl rfl rfl (by unfold I64; first | omega | (simp only [List.length_take] at *; omega))) ?_
 refine R0 ?_
 have hP1 : spec_l8Secret c_b c_i c_h = (100 + u1, u2, u3) := by simp only [spec_l8Secret, hu1, ct, cf]
 have hz1 := hP1.symm.trans hres
 obtain ⟨hz1, hz2⟩ := Prod.mk.inj hz1
 obtain ⟨hz2, hz3⟩ := Prod.mk.inj hz2
 subst hz1
 subst hz2
 subst hz3
 refine R1 ?_
 intro w1 G bs hI hΓ
 exact Post.ofL 999 [] () hI hΓ rfl rfl rfl (by rw [hI.pin _ rfl]; first | done | rfl) (⟨(show I64 (100 + u1) from (by unfold I64; omega)), ⟨hq1.2.1, hq1.2.2⟩⟩)
theorem f244 (w : World) (n : Nat) (hn : n + 7 ≤ 9) (secret : Int) (x_ : DataP) (K0 : Option Addr) (M0 : Nat) (N0 : RdSl (hp w) K0 M0 x_.name.parts) (K1 : Option Addr) (M1 : Nat) (N1 : RdSl (hp w) K1 M1 x_.content) (K2 : Option Addr) (M2 : Nat) (N2 : RdSl (hp w) K2 M2 x_.keyName.parts) (hoksecret : GoT.ok n secret) (hokx_ : GoT.ok n x_) :
  Does Tryz.prog 244 #[.int .i64 (secret), .agg #[.slice K0 ((x_.name.parts).length) M0, .slice K1 ((x_.content).length) M1, .slice K2 ((x_.keyName.parts).length) M2, .int .i64 (x_.freshUntil), .int .i64 (x_.signature)]] w emp (Post w emp (fun x : GoT.X (DataP) => .agg ⟨GoT.sh ((spec_SignData secret x_) : DataP) x⟩) (fun x => GoT.oa ((spec_SignData secret x_) : DataP) x) (GoT.ok n ((spec_SignData secret x_) : DataP))) := by
 have hbP := bd_pos n
 have hbS0 : bd (n + 1) = 4 * bd (n) := bd_succ (n := n) (by omega)
 have hbS1 : bd (n + 2) = 4 * bd (n + 1) := bd_succ (n := n + 1) (by omega)
 have hbS2 : bd (n + 3) = 4 * bd (n + 2) := bd_succ (n := n + 2) (by omega)
 have hbS3 : bd (n + 4) = 4 * bd (n + 3) := bd_succ (n := n + 3) (by omega)
 have hbS4 : bd (n + 5) = 4 * bd (n + 4) := bd_succ (n := n + 4) (by omega)
 have hbS5 : bd (n + 6) = 4 * bd (n + 5) := bd_succ (n := n + 5) (by omega)
 have hbS6 : bd (n + 7) = 4 * bd (n + 6) := bd_succ (n := n + 6) (by omega)
 have hbB := bd_big (n := (n + 7)) (by omega)
 have hbM := bd_mono (show n ≤ n + 7 by omega)
 refine WX.enter (tt := tt) (Γ := [(0, MF.rs .stb K0 M0 x_.name.parts), (1, MF.rs .stb K1 M1 x_.content), (2, MF.rs .stb K2 M2 x_.keyName.parts)]) Tryz.func244 rfl (by kernel_rfl) rfl (allS_cons rfl N0 (allS_cons rfl N1 (allS_cons rfl N2 allS_nil))) ?_
 refine R0 ?_
 refine WX.callF 3 (fun _ _ h => GoT.ow_rd h) (fun _ f hf => GoT.fak f hf) rfl rfl rfl rfl rfl (fun _ => rfl) rfl (fun w G bs hI hΓ => f83 w n (by omega) x_ K0 M0 (hΓ.get 0 rfl) K1 M1 (hΓ.get 1 rfl) K2 M2 (hΓ.get 2 rfl) hokx_) (fun _ => rfl) (fun _ => rfl) ?_
 rintro ⟨⟨p1, c1⟩, ⟨p2, c2⟩, ⟨p3, c3⟩, ⟨⟩, ⟨⟩⟩ hq1
 refine R0 ?_
 refine WX.callF 9 (fun _ _ h => GoT.ow_rd h) (fun _ f hf => GoT.fak f hf) rfl rfl rfl rfl rfl (fun _ => rfl) rfl (fun w G bs hI hΓ => f262 w n (by omega) x_ K0 M0 (hΓ.get 0 rfl) K1 M1 (hΓ.get 1 rfl) K2 M2 (hΓ.get 2 rfl) hokx_) (fun _ => rfl) (fun _ => rfl) ?_
 rintro ⟨p4, c4⟩ hq2
 refine WX.callV rfl rfl rfl rfl rfl (fun _ => rfl) rfl (fun w G bs hI hΓ => f261 w (n + 5) (by omega) secret (spec_SignedPortion x_) p4 c4 (hΓ.get 9 rfl) hoksecret hq2) ?_
 intro hq3
 refine R0 ?_
 have hP1 : spec_SignData secret x_ = (DataP.mk ((spec_l8Copy x_).name) ((spec_l8Copy x_).content) ((spec_l8Copy x_).keyName) ((spec_l8Copy x_).freshUntil) (spec_ComputeMAC secret (spec_SignedPortion x_))) := by simp only [spec_SignData, ct, cf]
 refine R1 ?_
 intro w1 G bs hI hΓ
 rw [hP1]
 exact Post.of [6, 7, 8] ((p1, c1), (p2, c2), (p3, c3), (), ()) hI hΓ rfl rfl rfl (And.intro (ok_DataP hq1).1 (And.intro (ok_DataP hq1).2.1 (And.intro (ok_DataP hq1).2.2.1 (And.intro (ok_DataP hq1).2.2.2.1 hq3))))
theorem f222 (w : World) (n : Nat) (hn : n + 8 ≤ 9) (H : GH) (hH : Le H (hp w)) (bc_ : Nat) (c_b : (List UInt8)) (K0 : Option Addr) (M0 : Nat) (N0 : RdSl (cut (hp w) H) K0 M0 c_b) (c_i : Int) (c_h : Int) (hown : Sep H [MF.bx bc_ 182 [.slice K0 ((c_b).length) M0, .int .i64 (c_i), .int .i64 (c_h)]]) (hokc_b : GoT.ok n c_b) (hokc_i : NN c_i) (hokc_h : GoT.ok n c_h) (o0_ : DataP) (o1_ : Int) (o2_ : Int) (hres : spec_l8Draw c_b c_i c_h = (o0_, o1_, o2_)) :
  Does Tryz.prog 222 #[.pointer (some ⟨bc_, 0, none⟩)] w H (Post w H (fun x : GoT.X (DataP) => .agg ⟨GoT.sh (o0_ : DataP) x⟩) (fun x => MF.bx bc_ 182 [.slice K0 ((c_b).length) M0, .int .i64 (o1_), .int .i64 (o2_)] :: GoT.oa (o0_ : DataP) x) (GoT.ok (n + 1) (o0_ : DataP) ∧ NN (o1_) ∧ I64 (o2_))) := by
 have hbP := bd_pos n
 have hbS0 : bd (n + 1) = 4 * bd (n) := bd_succ (n := n) (by omega)
 have hbS1 : bd (n + 2) = 4 * bd (n + 1) := bd_succ (n := n + 1) (by omega)
 have hbS2 : bd (n + 3) = 4 * bd (n + 2) := bd_succ (n := n + 2) (by omega)
 have hbS3 : bd (n + 4) = 4 * bd (n + 3) := bd_succ (n := n + 3) (by omega)
 have hbS4 : bd (n + 5) = 4 * bd (n + 4) := bd_succ (n := n + 4) (by omega)
 have hbS5 : bd (n + 6) = 4 * bd (n + 5) := bd_succ (n := n + 5) (by omega)
 have hbS6 : bd (n + 7) = 4 * bd (n + 6) := bd_succ (n := n + 6) (by omega)
 have hbS7 : bd (n + 8) = 4 * bd (n + 7) := bd_succ (n := n + 7) (by omega)
 have hbB := bd_big (n := (n + 8)) (by omega)
 have hbM := bd_mono (show n ≤ n + 8 by omega)
 have hc_bz : (c_b).length ≤ bd n := (okl hokc_b).1
 refine WX.enterP (tt := tt) (Γ := [(0, MF.rs .stb K0 M0 c_b)]) 1 Tryz.func222 rfl (by kernel_rfl) rfl (allS_cons rfl N0 allS_nil) hH hown (fun f hf => by cases hf) rfl ?_
 refine R0 ?_
 obtain ⟨⟨u1, u2, u3⟩, hu1⟩ : ∃ r_, spec_l4Name c_b c_i c_h = r_ := ⟨_, rfl⟩
 refine WX.callP 999 2 rfl (fun _ _ h => GoT.ow_rd h) (fun _ f hf => GoT.fak f hf) rfl rfl rfl rfl rfl (fun _ => rfl) rfl (fun w G bs H hI hH hs hΓ => f198 w n (by omega) H hH (bs 999) c_b K0 M0 (hΓ.get 0 rfl) c_i c_h hs hokc_b hokc_i hokc_h u1 u2 u3 hu1) (fun _ => rfl) (fun _ => rfl) ?_
 rintro ⟨p1, c1⟩ hq1
 have q1 := l4Name_len c_b c_i c_h
 rw [hu1] at q1
 try dsimp only at q1
 refine R0 ?_
 refine WX.cases 10 rfl (fun h1 => ?_) (fun h1 => ?_)
 ·skip
  have h1d := B.et h1
  refine R0 ?_
  refine WX.bld ttOk rfl rfl rfl rfl rfl rfl rfl ?_
  intro p2
  refine R0 ?_
  refine WX.turn [] 4 rfl (fun h hs => ol_one (α := Str) (a := (⟨#[97]⟩ : Str)) (x := ()) hs) (gs := [MF.ol [.string (⟨#[97]⟩ : Str)] ([(⟨#[97]⟩ : Str)] : List Str)]) rfl ?_
  refine WX.seal 11 4 5 rfl rfl rfl rfl rfl ?_
  refine WX.drawY [14] mixed rfl ?_
  intro bs G0 hΓ0
  refine DY.takes (fuel := 10) ttOk [(0, false), (1, true), (2, true), (5, true), (9, true)] (by kernel_rfl) rfl ?_
  refine DY.toTX ?_
  intro S_ hS_
  refine TX.toP ?_
  refine TXP.pend (PI.lit 6 19 3 9 [.string (⟨#[47, 107, 101, 121, 47, 97]⟩ : Str), .string (⟨#[47, 107, 101, 121, 47, 98]⟩ : Str), .string (⟨#[47, 97, 47, 107, 101, 121]⟩ : Str)] []) (lit_ok ttOk rfl rfl rfl rfl rfl rfl rfl) .nil rfl (by kernel_rfl) rfl ?_
  refine TXP.pend (PI.loc 13 4 ⟨32, [.slice none (0) 0, .slice none (0) 0, .slice none (0) 0, .int .i64 (0), .int .i64 (0)]⟩) (loc_ok ttOk rfl rfl rfl rfl rfl) .nil rfl (by kernel_rfl) rfl ?_
  obtain ⟨⟨u4, u5, u6⟩, hu2⟩ : ∃ r_, spec_l1Below c_b u2 u3 5 = r_ := ⟨_, rfl⟩
  refine TXP.callP (ds := fun _ => []) hS_ 3 7 ⟨_, rfl⟩ rfl (fun _ _ _ => All.nil) (fun _ f hf => by cases hf) (by kernel_rfl) (by kernel_rfl) rfl rfl rfl rfl rfl rfl rfl (fun _ => rfl) rfl (fun w G bs H hI hH hs hΓ => f84 w n (by omega) H hH (bs 999) c_b K0 M0 (hΓ.get 0 rfl) u2 u3 5 hs hokc_b hq1.2.1 hq1.2.2 (show I64 5 from (by unfold I64; omega)) u4 u5 u6 hu2) (fun _ => rfl) (fun _ => rfl) ?_
  rintro ⟨⟩ hq2
  have q2 := l1Below_rng c_b u2 u3 5
  rw [hu2] at q2
  try dsimp only at q2
  obtain ⟨⟨u7, u8, u9⟩, hu3⟩ : ∃ r_, spec_l1Bytes c_b u5 u6 u4 = r_ := ⟨_, rfl⟩
  refine TXP.callP hS_ 4 8 ⟨_, rfl⟩ rfl (fun _ _ h => GoT.ow_rd h) (fun _ f hf => GoT.fak f hf) (by kernel_rfl) (by kernel_rfl) rfl rfl rfl rfl rfl rfl rfl (fun _ => rfl) rfl (fun w G bs H hI hH hs hΓ => f106 w n (by omega) H hH (bs 999) c_b K0 M0 (hΓ.get 0 rfl) u5 u6 u4 hs hokc_b hq2.2.1 hq2.2.2 (by first | assumption | omega | (simp; done) | (simp; omega)) hq2.1 u7 u8 u9 hu3) (fun _ => rfl) (fun _ => rfl) ?_
  rintro ⟨p3, c2⟩ hq3
  have q3 := len_l1Bytes c_b u5 u6 u4
  rw [hu3] at q3
  try dsimp only at q3
  refine TXP.settleS (α := Str) (l := [(⟨#[47, 107, 101, 121, 47, 97]⟩ : Str), (⟨#[47, 107, 101, 121, 47, 98]⟩ : Str), (⟨#[47, 97, 47, 107, 101, 121]⟩ : Str)]) 1 10 rfl rfl rfl ⟨(), _, emp, _, rfl, emp_le _, Le.refl _, emp_dj _, trivial, ⟨(), _, emp, _, rfl, emp_le _, Le.refl _, emp_dj _, trivial, ⟨(), _, emp, _, rfl, emp_le _, Le.refl _, emp_dj _, trivial, rfl⟩⟩⟩ (by kernel_rfl) rfl ?_
  intro p4
  have r1 : (⟨#[47, 107, 101, 121, 47, 97]⟩ : Str).size = 6 := rfl
  have r2 : (⟨#[47, 107, 101, 121, 47, 98]⟩ : Str).size = 6 := rfl
  have r3 : (⟨#[47, 97, 47, 107, 101, 121]⟩ : Str).size = 6 := rfl
  obtain ⟨⟨u10, u11, u12⟩, hu4⟩ : ∃ r_, spec_l1Str c_b u8 u9 ([(⟨#[47, 107, 101, 121, 47, 97]⟩ : Str), (⟨#[47, 107, 101, 121, 47, 98]⟩ : Str), (⟨#[47, 97, 47, 107, 101, 121]⟩ : Str)] : List Str) = r_ := ⟨_, rfl⟩
  refine TXP.callP (ds := fun _ => []) hS_ 7 11 ⟨_, rfl⟩ rfl (fun _ _ _ => All.nil) (fun _ f hf => by cases hf) (by kernel_rfl) (by kernel_rfl) rfl rfl rfl rfl rfl rfl rfl (fun _ => rfl) rfl (fun w G bs H hI hH hs hΓ => f110 w n (by omega) H hH (bs 999) c_b K0 M0 (hΓ.get 0 rfl) u8 u9 ([(⟨#[47, 107, 101, 121, 47, 97]⟩ : Str), (⟨#[47, 107, 101, 121, 47, 98]⟩ : Str), (⟨#[47, 97, 47, 107, 101, 121]⟩ : Str)] : List Str) p4 3 (hΓ.get 10 rfl) hs hokc_b hq3.2.1 hq3.2.2 (by first | assumption | omega | (simp; done) | (simp; omega)) (okl_mk (by simp; omega) (all_cons (α := Str) (Nat.le_trans (by decide) (bd_pos n)) (all_cons (α := Str) (Nat.le_trans (by decide) (bd_pos n)) (all_cons (α := Str) (Nat.le_trans (by decide) (bd_pos n)) (fun a ha => by cases ha)))) : GoT.ok n (([(⟨#[47, 107, 101, 121, 47, 97]⟩ : Str), (⟨#[47, 107, 101, 121, 47, 98]⟩ : Str), (⟨#[47, 97, 47, 107, 101, 121]⟩ : Str)] : List Str) : List Str)) u10 u11 u12 hu4) (fun _ => rfl) (fun _ => rfl) ?_
  rintro ⟨⟩ hq4
  refine TXP.callF 8 12 (fun _ _ h => GoT.ow_rd h) (fun _ f hf => GoT.fak f hf) (by kernel_rfl) (by kernel_rfl) rfl rfl rfl rfl rfl rfl rfl (fun _ => rfl) rfl (fun w G bs hI hΓ => f109 w n (by omega) u10 hq4.1) (fun _ => rfl) (fun _ => rfl) ?_
  rintro ⟨p5, c3⟩ hq5
  obtain ⟨⟨u13, u14, u15⟩, hu5⟩ : ∃ r_, spec_l1Below c_b u11 u12 60 = r_ := ⟨_, rfl⟩
  refine TXP.callP (ds := fun _ => []) hS_ 10 14 ⟨_, rfl⟩ rfl (fun _ _ _ => All.nil) (fun _ f hf => by cases hf) (by kernel_rfl) (by kernel_rfl) rfl rfl rfl rfl rfl rfl rfl (fun _ => rfl) rfl (fun w G bs H hI hH hs hΓ => f84 w n (by omega) H hH (bs 999) c_b K0 M0 (hΓ.get 0 rfl) u11 u12 60 hs hokc_b hq4.2.1 hq4.2.2 (show I64 60 from (by unfold I64; omega)) u13 u14 u15 hu5) (fun _ => rfl) (fun _ => rfl) ?_
  rintro ⟨⟩ hq6
  have q4 := l1Below_rng c_b u11 u12 60
  rw [hu5] at q4
  try dsimp only at q4
  have r4 : -9223372036854775808 ≤ u13 ∧ u13 ≤ 9223372036854775807 := hq6.1
  refine TXP.seeP 11 (by kernel_rfl) rfl rfl rfl rfl rfl (looksP_arith rfl rfl rfl rfl (by unfold I64; first | omega | (simp only [List.length_take] at *; omega))) ?_
  refine TXP.takes (fuel := 1) ttOk [12] rfl (by kernel_rfl) rfl ?_
  refine TXP.settleL 0 rfl rfl (by kernel_rfl) rfl ?_
  refine TXP.done ?_
  refine TX.tail [14] rfl rfl (by kernel_rfl) ?_
  refine R0 ?_
  refine WX.drawY [4] mixed rfl ?_
  intro bs G0 hΓ0
  refine DY.takes (fuel := 3) ttOk [(0, true), (2, false)] (by kernel_rfl) rfl ?_
  refine DY.toTX ?_
  intro S_ hS_
  refine TX.all1 1 (by kernel_rfl) ?_
  obtain ⟨⟨u16, u17, u18⟩, hu6⟩ : ∃ r_, spec_l8Secret c_b u14 u15 = r_ := ⟨_, rfl⟩
  refine TS.callP (ds := fun _ => []) hS_ 1 15 ⟨_, rfl⟩ rfl (fun _ _ _ => All.nil) (fun _ f hf => by cases hf) rfl rfl rfl rfl rfl rfl (fun _ => rfl) rfl (fun w G bs H hI hH hs hΓ => f245 w n (by omega) H hH (bs 999) c_b K0 M0 (hΓ.get 0 rfl) u14 u15 hs hokc_b hq6.2.1 hq6.2.2 u16 u17 u18 hu6) (fun _ => rfl) (fun _ => rfl) ?_
  rintro ⟨⟩ hq7
  refine TX.all1 3 (by kernel_rfl) ?_
  have r5 : (⟨#[97]⟩ : Str).size = 1 := rfl
  refine TS.callF 3 16 (fun _ _ h => GoT.ow_rd h) (fun _ f hf => GoT.fak f hf) rfl rfl rfl rfl rfl rfl (fun _ => rfl) rfl (fun w G bs hI hΓ => f244 w (n + 1) (by omega) u16 (DataP.mk (Name.mk ([(⟨#[97]⟩ : Str)])) u7 (spec_l4Of u10) (40 + u13) 0) p2 1 (hΓ.get 5 rfl) p3 c2 (hΓ.get 8 rfl) p5 c3 (hΓ.get 12 rfl) hq7.1 (And.intro (okl_mk (by simp; omega) (fun a ha => GoT.okm (by omega) ((all_cons (α := Str) (Nat.le_trans (by decide) (bd_pos n)) (fun a ha => by cases ha)) a ha)) : GoT.ok (n + 1) ([(⟨#[97]⟩ : Str)] : List Str)) (And.intro (GoT.okm (α := List UInt8) (by omega) hq3.1) (And.intro hq5 (And.intro (show I64 (40 + u13) from (by unfold I64; omega)) (show I64 0 from (by unfold I64; omega))))))) (fun _ => rfl) (fun _ => rfl) ?_
  rintro ⟨⟨p6, c4⟩, ⟨p7, c5⟩, ⟨p8, c6⟩, ⟨⟩, ⟨⟩⟩ hq8
  refine TX.tail [4] rfl rfl (by kernel_rfl) ?_
  refine R0 ?_
  have hP1 : spec_l8Draw c_b c_i c_h = (spec_SignData u16 (DataP.mk (Name.mk ([(⟨#[97]⟩ : Str)])) u7 (spec_l4Of u10) (40 + u13) 0), u17, u18) := by simp only [spec_l8Draw, hu1, h1, hu2, hu3, hu4, hu5, hu6, ct, cf]
  have hz1 := hP1.symm.trans hres
  obtain ⟨hz1, hz2⟩ := Prod.mk.inj hz1
  obtain ⟨hz2, hz3⟩ := Prod.mk.inj hz2
  subst hz1
  subst hz2
  subst hz3
  refine R1 ?_
  intro w1 G bs hI hΓ
  exact Post.ofL 999 [19, 20, 21] ((p6, c4), (p7, c5), (p8, c6), (), ()) hI hΓ rfl rfl rfl (by rw [hI.pin _ rfl]; first | done | rfl) (⟨hq8, ⟨hq7.2.1, hq7.2.2⟩⟩)
 ·skip
  have h1d := B.ef h1
  refine R0 ?_
  refine WX.drawY [14] mixed rfl ?_
  intro bs G0 hΓ0
  refine DY.takes (fuel := 10) ttOk [(0, false), (1, true), (2, true), (5, true), (9, true)] (by kernel_rfl) rfl ?_
  refine DY.toTX ?_
  intro S_ hS_
  refine TX.toP ?_
  refine TXP.pend (PI.lit 6 19 3 9 [.string (⟨#[47, 107, 101, 121, 47, 97]⟩ : Str), .string (⟨#[47, 107, 101, 121, 47, 98]⟩ : Str), .string (⟨#[47, 97, 47, 107, 101, 121]⟩ : Str)] []) (lit_ok ttOk rfl rfl rfl rfl rfl rfl rfl) .nil rfl (by kernel_rfl) rfl ?_
  refine TXP.pend (PI.loc 13 4 ⟨32, [.slice none (0) 0, .slice none (0) 0, .slice none (0) 0, .int .i64 (0), .int .i64 (0)]⟩) (loc_ok ttOk rfl rfl rfl rfl rfl) .nil rfl (by kernel_rfl) rfl ?_
  obtain ⟨⟨u19, u20, u21⟩, hu7⟩ : ∃ r_, spec_l1Below c_b u2 u3 5 = r_ := ⟨_, rfl⟩
  refine TXP.callP (ds := fun _ => []) hS_ 3 22 ⟨_, rfl⟩ rfl (fun _ _ _ => All.nil) (fun _ f hf => by cases hf) (by kernel_rfl) (by kernel_rfl) rfl rfl rfl rfl rfl rfl rfl (fun _ => rfl) rfl (fun w G bs H hI hH hs hΓ => f84 w n (by omega) H hH (bs 999) c_b K0 M0 (hΓ.get 0 rfl) u2 u3 5 hs hokc_b hq1.2.1 hq1.2.2 (show I64 5 from (by unfold I64; omega)) u19 u20 u21 hu7) (fun _ => rfl) (fun _ => rfl) ?_
  rintro ⟨⟩ hq9
  have q5 := l1Below_rng c_b u2 u3 5
  rw [hu7] at q5
  try dsimp only at q5
  obtain ⟨⟨u22, u23, u24⟩, hu8⟩ : ∃ r_, spec_l1Bytes c_b u20 u21 u19 = r_ := ⟨_, rfl⟩
  refine TXP.callP hS_ 4 23 ⟨_, rfl⟩ rfl (fun _ _ h => GoT.ow_rd h) (fun _ f hf => GoT.fak f hf) (by kernel_rfl) (by kernel_rfl) rfl rfl rfl rfl rfl rfl rfl (fun _ => rfl) rfl (fun w G bs H hI hH hs hΓ => f106 w n (by omega) H hH (bs 999) c_b K0 M0 (hΓ.get 0 rfl) u20 u21 u19 hs hokc_b hq9.2.1 hq9.2.2 (by first | assumption | omega | (simp; done) | (simp; omega)) hq9.1 u22 u23 u24 hu8) (fun _ => rfl) (fun _ => rfl) ?_
  rintro ⟨p9, c7⟩ hq10
  have q6 := len_l1Bytes c_b u20 u21 u19
  rw [hu8] at q6
  try dsimp only at q6
  refine TXP.settleS (α := Str) (l := [(⟨#[47, 107, 101, 121, 47, 97]⟩ : Str), (⟨#[47, 107, 101, 121, 47, 98]⟩ : Str), (⟨#[47, 97, 47, 107, 101, 121]⟩ : Str)]) 1 25 rfl rfl rfl ⟨(), _, emp, _, rfl, emp_le _, Le.refl _, emp_dj _, trivial, ⟨(), _, emp, _, rfl, emp_le _, Le.refl _, emp_dj _, trivial, ⟨(), _, emp, _, rfl, emp_le _, Le.refl _, emp_dj _, trivial, rfl⟩⟩⟩ (by kernel_rfl) rfl ?_
  intro p10
  have r6 : (⟨#[47, 107, 101, 121, 47, 97]⟩ : Str).size = 6 := rfl
  have r7 : (⟨#[47, 107, 101, 121, 47, 98]⟩ : Str).size = 6 := rfl
  have r8 : (⟨#[47, 97, 47, 107, 101, 121]⟩ : Str).size = 6 := rfl
  obtain ⟨⟨u25, u26, u27⟩, hu9⟩ : ∃ r_, spec_l1Str c_b u23 u24 ([(⟨#[47, 107, 101, 121, 47, 97]⟩ : Str), (⟨#[47, 107, 101, 121, 47, 98]⟩ : Str), (⟨#[47, 97, 47, 107, 101, 121]⟩ : Str)] : List Str) = r_ := ⟨_, rfl⟩
  refine TXP.callP (ds := fun _ => []) hS_ 7 26 ⟨_, rfl⟩ rfl (fun _ _ _ => All.nil) (fun _ f hf => by cases hf) (by kernel_rfl) (by kernel_rfl) rfl rfl rfl rfl rfl rfl rfl (fun _ => rfl) rfl (fun w G bs H hI hH hs hΓ => f110 w n (by omega) H hH (bs 999) c_b K0 M0 (hΓ.get 0 rfl) u23 u24 ([(⟨#[47, 107, 101, 121, 47, 97]⟩ : Str), (⟨#[47, 107, 101, 121, 47, 98]⟩ : Str), (⟨#[47, 97, 47, 107, 101, 121]⟩ : Str)] : List Str) p10 3 (hΓ.get 25 rfl) hs hokc_b hq10.2.1 hq10.2.2 (by first | assumption | omega | (simp; done) | (simp; omega)) (okl_mk (by simp; omega) (all_cons (α := Str) (Nat.le_trans (by decide) (bd_pos n)) (all_cons (α := Str) (Nat.le_trans (by decide) (bd_pos n)) (all_cons (α := Str) (Nat.le_trans (by decide) (bd_pos n)) (fun a ha => by cases ha)))) : GoT.ok n (([(⟨#[47, 107, 101, 121, 47, 97]⟩ : Str), (⟨#[47, 107, 101, 121, 47, 98]⟩ : Str), (⟨#[47, 97, 47, 107, 101, 121]⟩ : Str)] : List Str) : List Str)) u25 u26 u27 hu9) (fun _ => rfl) (fun _ => rfl) ?_
  rintro ⟨⟩ hq11
  refine TXP.callF 8 27 (fun _ _ h => GoT.ow_rd h) (fun _ f hf => GoT.fak f hf) (by kernel_rfl) (by kernel_rfl) rfl rfl rfl rfl rfl rfl rfl (fun _ => rfl) rfl (fun w G bs hI hΓ => f109 w n (by omega) u25 hq11.1) (fun _ => rfl) (fun _ => rfl) ?_
  rintro ⟨p11, c8⟩ hq12
  obtain ⟨⟨u28, u29, u30⟩, hu10⟩ : ∃ r_, spec_l1Below c_b u26 u27 60 = r_ := ⟨_, rfl⟩
  refine TXP.callP (ds := fun _ => []) hS_ 10 29 ⟨_, rfl⟩ rfl (fun _ _ _ => All.nil) (fun _ f hf => by cases hf) (by kernel_rfl) (by kernel_rfl) rfl rfl rfl rfl rfl rfl rfl (fun _ => rfl) rfl (fun w G bs H hI hH hs hΓ => f84 w n (by omega) H hH (bs 999) c_b K0 M0 (hΓ.get 0 rfl) u26 u27 60 hs hokc_b hq11.2.1 hq11.2.2 (show I64 60 from (by unfold I64; omega)) u28 u29 u30 hu10) (fun _ => rfl) (fun _ => rfl) ?_
  rintro ⟨⟩ hq13
  have q7 := l1Below_rng c_b u26 u27 60
  rw [hu10] at q7
  try dsimp only at q7
  have r9 : -9223372036854775808 ≤ u28 ∧ u28 ≤ 9223372036854775807 := hq13.1
  refine TXP.seeP 11 (by kernel_rfl) rfl rfl rfl rfl rfl (looksP_arith rfl rfl rfl rfl (by unfold I64; first | omega | (simp only [List.length_take] at *; omega))) ?_
  refine TXP.takes (fuel := 1) ttOk [12] rfl (by kernel_rfl) rfl ?_
  refine TXP.settleL 0 rfl rfl (by kernel_rfl) rfl ?_
  refine TXP.done ?_
  refine TX.tail [14] rfl rfl (by kernel_rfl) ?_
  refine R0 ?_
  refine WX.drawY [4] mixed rfl ?_
  intro bs G0 hΓ0
  refine DY.takes (fuel := 3) ttOk [(0, true), (2, false)] (by kernel_rfl) rfl ?_
  refine DY.toTX ?_
  intro S_ hS_
  refine TX.all1 1 (by kernel_rfl) ?_
  obtain ⟨⟨u31, u32, u33⟩, hu11⟩ : ∃ r_, spec_l8Secret c_b u29 u30 = r_ := ⟨_, rfl⟩
  refine TS.callP (ds := fun _ => []) hS_ 1 30 ⟨_, rfl⟩ rfl (fun _ _ _ => All.nil) (fun _ f hf => by cases hf) rfl rfl rfl rfl rfl rfl (fun _ => rfl) rfl (fun w G bs H hI hH hs hΓ => f245 w n (by omega) H hH (bs 999) c_b K0 M0 (hΓ.get 0 rfl) u29 u30 hs hokc_b hq13.2.1 hq13.2.2 u31 u32 u33 hu11) (fun _ => rfl) (fun _ => rfl) ?_
  rintro ⟨⟩ hq14
  refine TX.all1 3 (by kernel_rfl) ?_
  refine TS.callF 3 31 (fun _ _ h => GoT.ow_rd h) (fun _ f hf => GoT.fak f hf) rfl rfl rfl rfl rfl rfl (fun _ => rfl) rfl (fun w G bs hI hΓ => f244 w (n + 1) (by omega) u31 (DataP.mk u1 u22 (spec_l4Of u25) (40 + u28) 0) p1 c1 (hΓ.get 2 rfl) p9 c7 (hΓ.get 23 rfl) p11 c8 (hΓ.get 27 rfl) hq14.1 (And.intro (GoT.okm (α := List Str) (by omega) (ok_Name hq1.1)) (And.intro (GoT.okm (α := List UInt8) (by omega) hq10.1) (And.intro hq12 (And.intro (show I64 (40 + u28) from (by unfold I64; omega)) (show I64 0 from (by unfold I64; omega))))))) (fun _ => rfl) (fun _ => rfl) ?_
  rintro ⟨⟨p12, c9⟩, ⟨p13, c10⟩, ⟨p14, c11⟩, ⟨⟩, ⟨⟩⟩ hq15
  refine TX.tail [4] rfl rfl (by kernel_rfl) ?_
  refine R0 ?_
  have hP2 : spec_l8Draw c_b c_i c_h = (spec_SignData u31 (DataP.mk u1 u22 (spec_l4Of u25) (40 + u28) 0), u32, u33) := by simp only [spec_l8Draw, hu1, h1, hu7, hu8, hu9, hu10, hu11, ct, cf]
  have hz1 := hP2.symm.trans hres
  obtain ⟨hz1, hz2⟩ := Prod.mk.inj hz1
  obtain ⟨hz2, hz3⟩ := Prod.mk.inj hz2
  subst hz1
  subst hz2
  subst hz3
  refine R1 ?_
  intro w1 G bs hI hΓ
  exact Post.ofL 999 [34, 35, 36] ((p12, c9), (p13, c10), (p14, c11), (), ()) hI hΓ rfl rfl rfl (by rw [hI.pin _ rfl]; first | done | rfl) (⟨hq15, ⟨hq14.2.1, hq14.2.2⟩⟩)
theorem f223 (w : World) (n : Nat) (hn : n + 0 ≤ 9) (H : GH) (hH : Le H (hp w)) (bc_ : Nat) (c_b : (List UInt8)) (K0 : Option Addr) (M0 : Nat) (N0 : RdSl (cut (hp w) H) K0 M0 c_b) (c_i : Int) (c_h : Int) (hown : Sep H [MF.bx bc_ 182 [.slice K0 ((c_b).length) M0, .int .i64 (c_i), .int .i64 (c_h)]]) (hokc_b : GoT.ok n c_b) (hokc_i : NN c_i) (hokc_h : GoT.ok n c_h) (o0_ : Int) (o1_ : Int) (o2_ : Int) (hres : spec_l3Word c_b c_i c_h = (o0_, o1_, o2_)) :
  Does Tryz.prog 223 #[.pointer (some ⟨bc_, 0, none⟩)] w H (Post w H (fun _ : Unit => .int .i64 (o0_)) (fun _ => [MF.bx bc_ 182 [.slice K0 ((c_b).length) M0, .int .i64 (o1_), .int .i64 (o2_)]]) (GoT.ok n (o0_ : Int) ∧ NN (o1_) ∧ I64 (o2_))) := by
 have hbP := bd_pos n
 have hbB := bd_big (n := n) (by omega)
 have hc_bz : (c_b).length ≤ bd n := (okl hokc_b).1
 refine WX.enterP (tt := tt) (Γ := [(0, MF.rs .stb K0 M0 c_b)]) 1 Tryz.func223 rfl (by kernel_rfl) rfl (allS_cons rfl N0 allS_nil) hH hown (fun f hf => by cases hf) rfl ?_
 refine R0 ?_
 obtain ⟨⟨u1, u2, u3⟩, hu1⟩ : ∃ r_, spec_l1Once c_b c_i c_h 10 = r_ := ⟨_, rfl⟩
 refine WX.callP (ds := fun _ => []) 999 2 rfl (fun _ _ _ => All.nil) (fun _ f hf => by cases hf) rfl rfl rfl rfl rfl (fun _ => rfl) rfl (fun w G bs H hI hH hs hΓ => f111 w n (by omega) H hH (bs 999) c_b K0 M0 (hΓ.get 0 rfl) c_i c_h 10 hs hokc_b hokc_i hokc_h (show I64 10 from (by unfold I64; omega)) u1 u2 u3 hu1) (fun _ => rfl) (fun _ => rfl) ?_
 rintro ⟨⟩ hq1
 refine R0 ?_
 refine WX.cases 4 rfl (fun h1 => ?_) (fun h1 => ?_)
 ·skip
  refine R0 ?_
  refine WX.bld ttOk rfl rfl rfl rfl rfl rfl rfl ?_
  intro p1
  refine WX.turn [] 3 rfl (fun h hs => one_sep (⟨(), _, emp, _, rfl, emp_le _, Le.refl _, emp_dj _, trivial, ⟨(), _, emp, _, rfl, emp_le _, Le.refl _, emp_dj _, trivial, ⟨(), _, emp, _, rfl, emp_le _, Le.refl _, emp_dj _, trivial, rfl⟩⟩⟩ : OwL _ _ ([(-1), 2147483647, 2147483648] : List Int))) (gs := [MF.ol [.int .i64 ((-1)), .int .i64 (2147483647), .int .i64 (2147483648)] ([(-1), 2147483647, 2147483648] : List Int)]) rfl ?_
  refine WX.seal 6 3 4 rfl rfl rfl rfl rfl ?_
  obtain ⟨⟨u4, u5, u6⟩, hu2⟩ : ∃ r_, spec_l1Int c_b u2 u3 ([(-1), 2147483647, 2147483648]) = r_ := ⟨_, rfl⟩
  refine WX.callP (ds := fun _ => []) 999 6 rfl (fun _ _ _ => All.nil) (fun _ f hf => by cases hf) rfl rfl rfl rfl rfl (fun _ => rfl) rfl (fun w G bs H hI hH hs hΓ => f107 w n (by omega) H hH (bs 999) c_b K0 M0 (hΓ.get 0 rfl) u2 u3 ([(-1), 2147483647, 2147483648]) p1 3 (hΓ.get 4 rfl) hs hokc_b hq1.1 hq1.2 (by first | assumption | omega | (simp; done) | (simp; omega)) (okl_mk (by simp; omega) (all_cons (α := Int) (show I64 (-1) from (by unfold I64; omega)) (all_cons (α := Int) (show I64 2147483647 from (by unfold I64; omega)) (all_cons (α := Int) (show I64 2147483648 from (by unfold I64; omega)) (fun a ha => by cases ha)))) : GoT.ok n ([(-1), 2147483647, 2147483648] : List Int)) u4 u5 u6 hu2) (fun _ => rfl) (fun _ => rfl) ?_
  rintro ⟨⟩ hq2
  refine R0 ?_
  have hP1 : spec_l3Word c_b c_i c_h = (u4, u5, u6) := by simp only [spec_l3Word, hu1, h1, hu2, ct, cf]
  have hz1 := hP1.symm.trans hres
  obtain ⟨hz1, hz2⟩ := Prod.mk.inj hz1
  obtain ⟨hz2, hz3⟩ := Prod.mk.inj hz2
  subst hz1
  subst hz2
  subst hz3
  refine R1 ?_
  intro w1 G bs hI hΓ
  exact Post.ofL 999 [] () hI hΓ rfl rfl rfl (by rw [hI.pin _ rfl]; first | done | rfl) (⟨hq2.1, ⟨hq2.2.1, hq2.2.2⟩⟩)
 ·skip
  refine R0 ?_
  obtain ⟨⟨u7, u8, u9⟩, hu3⟩ : ∃ r_, spec_l1Once c_b u2 u3 4 = r_ := ⟨_, rfl⟩
  refine WX.callP (ds := fun _ => []) 999 7 rfl (fun _ _ _ => All.nil) (fun _ f hf => by cases hf) rfl rfl rfl rfl rfl (fun _ => rfl) rfl (fun w G bs H hI hH hs hΓ => f111 w n (by omega) H hH (bs 999) c_b K0 M0 (hΓ.get 0 rfl) u2 u3 4 hs hokc_b hq1.1 hq1.2 (show I64 4 from (by unfold I64; omega)) u7 u8 u9 hu3) (fun _ => rfl) (fun _ => rfl) ?_
  rintro ⟨⟩ hq3
  refine R0 ?_
  refine WX.cases 9 rfl (fun h2 => ?_) (fun h2 => ?_)
  ·skip
   refine R0 ?_
   refine WX.bld ttOk rfl rfl rfl rfl rfl rfl rfl ?_
   intro p2
   refine WX.turn [] 8 rfl (fun h hs => one_sep (⟨(), _, emp, _, rfl, emp_le _, Le.refl _, emp_dj _, trivial, ⟨(), _, emp, _, rfl, emp_le _, Le.refl _, emp_dj _, trivial, ⟨(), _, emp, _, rfl, emp_le _, Le.refl _, emp_dj _, trivial, rfl⟩⟩⟩ : OwL _ _ ([0, 1, 2147483646] : List Int))) (gs := [MF.ol [.int .i64 (0), .int .i64 (1), .int .i64 (2147483646)] ([0, 1, 2147483646] : List Int)]) rfl ?_
   refine WX.seal 11 8 9 rfl rfl rfl rfl rfl ?_
   obtain ⟨⟨u10, u11, u12⟩, hu4⟩ : ∃ r_, spec_l1Int c_b u8 u9 ([0, 1, 2147483646]) = r_ := ⟨_, rfl⟩
   refine WX.callP (ds := fun _ => []) 999 11 rfl (fun _ _ _ => All.nil) (fun _ f hf => by cases hf) rfl rfl rfl rfl rfl (fun _ => rfl) rfl (fun w G bs H hI hH hs hΓ => f107 w n (by omega) H hH (bs 999) c_b K0 M0 (hΓ.get 0 rfl) u8 u9 ([0, 1, 2147483646]) p2 3 (hΓ.get 9 rfl) hs hokc_b hq3.1 hq3.2 (by first | assumption | omega | (simp; done) | (simp; omega)) (okl_mk (by simp; omega) (all_cons (α := Int) (show I64 0 from (by unfold I64; omega)) (all_cons (α := Int) (show I64 1 from (by unfold I64; omega)) (all_cons (α := Int) (show I64 2147483646 from (by unfold I64; omega)) (fun a ha => by cases ha)))) : GoT.ok n ([0, 1, 2147483646] : List Int)) u10 u11 u12 hu4) (fun _ => rfl) (fun _ => rfl) ?_
   rintro ⟨⟩ hq4
   refine R0 ?_
   have hP2 : spec_l3Word c_b c_i c_h = (u10, u11, u12) := by simp only [spec_l3Word, hu1, h1, hu3, h2, hu4, ct, cf]
   have hz1 := hP2.symm.trans hres
   obtain ⟨hz1, hz2⟩ := Prod.mk.inj hz1
   obtain ⟨hz2, hz3⟩ := Prod.mk.inj hz2
   subst hz1
   subst hz2
   subst hz3
   refine R1 ?_
   intro w1 G bs hI hΓ
   exact Post.ofL 999 [] () hI hΓ rfl rfl rfl (by rw [hI.pin _ rfl]; first | done | rfl) (⟨hq4.1, ⟨hq4.2.1, hq4.2.2⟩⟩)
  ·skip
   refine R0 ?_
   obtain ⟨⟨u13, u14, u15⟩, hu5⟩ : ∃ r_, spec_l1Below c_b u8 u9 1000000 = r_ := ⟨_, rfl⟩
   refine WX.callP (ds := fun _ => []) 999 12 rfl (fun _ _ _ => All.nil) (fun _ f hf => by cases hf) rfl rfl rfl rfl rfl (fun _ => rfl) rfl (fun w G bs H hI hH hs hΓ => f84 w n (by omega) H hH (bs 999) c_b K0 M0 (hΓ.get 0 rfl) u8 u9 1000000 hs hokc_b hq3.1 hq3.2 (show I64 1000000 from (by unfold I64; omega)) u13 u14 u15 hu5) (fun _ => rfl) (fun _ => rfl) ?_
   rintro ⟨⟩ hq5
   have q1 := l1Below_rng c_b u8 u9 1000000
   rw [hu5] at q1
   try dsimp only at q1
   refine R0 ?_
   obtain ⟨⟨u16, u17, u18⟩, hu6⟩ : ∃ r_, spec_l1Below c_b u14 u15 2000 = r_ := ⟨_, rfl⟩
   refine WX.callP (ds := fun _ => []) 999 13 rfl (fun _ _ _ => All.nil) (fun _ f hf => by cases hf) rfl rfl rfl rfl rfl (fun _ => rfl) rfl (fun w G bs H hI hH hs hΓ => f84 w n (by omega) H hH (bs 999) c_b K0 M0 (hΓ.get 0 rfl) u14 u15 2000 hs hokc_b hq5.2.1 hq5.2.2 (show I64 2000 from (by unfold I64; omega)) u16 u17 u18 hu6) (fun _ => rfl) (fun _ => rfl) ?_
   rintro ⟨⟩ hq6
   have q2 := l1Below_rng c_b u14 u15 2000
   rw [hu6] at q2
   try dsimp only at q2
   refine WX.see rfl rfl rfl (fun _ hΓ => looks_wrap rfl rfl rfl rfl) ?_
   refine R0 ?_
   have hP3 : spec_l3Word c_b c_i c_h = (IntKind.i64.wrap (u13 * u16), u17, u18) := by simp only [spec_l3Word, hu1, h1, hu3, h2, hu5, hu6, ct, cf]
   have hz1 := hP3.symm.trans hres
   obtain ⟨hz1, hz2⟩ := Prod.mk.inj hz1
   obtain ⟨hz2, hz3⟩ := Prod.mk.inj hz2
   subst hz1
   subst hz2
   subst hz3
   refine R1 ?_
   intro w1 G bs hI hΓ
   exact Post.ofL 999 [] () hI hΓ rfl rfl rfl (by rw [hI.pin _ rfl]; first | done | rfl) (⟨(i64_wrap _), ⟨hq6.2.1, hq6.2.2⟩⟩)
theorem f171 (w : World) (n : Nat) (hn : n + 8 ≤ 9) (H : GH) (hH : Le H (hp w)) (bc_ : Nat) (c_b : (List UInt8)) (K0 : Option Addr) (M0 : Nat) (N0 : RdSl (cut (hp w) H) K0 M0 c_b) (c_i : Int) (c_h : Int) (hown : Sep H [MF.bx bc_ 182 [.slice K0 ((c_b).length) M0, .int .i64 (c_i), .int .i64 (c_h)]]) (hokc_b : GoT.ok n c_b) (hokc_i : NN c_i) (hokc_h : GoT.ok n c_h) (o0_ : DataP) (o1_ : Int) (o2_ : Int) (hres : spec_l8Any c_b c_i c_h = (o0_, o1_, o2_)) :
  Does Tryz.prog 171 #[.pointer (some ⟨bc_, 0, none⟩)] w H (Post w H (fun x : GoT.X (DataP) => .agg ⟨GoT.sh (o0_ : DataP) x⟩) (fun x => MF.bx bc_ 182 [.slice K0 ((c_b).length) M0, .int .i64 (o1_), .int .i64 (o2_)] :: GoT.oa (o0_ : DataP) x) (GoT.ok (n + 1) (o0_ : DataP) ∧ NN (o1_) ∧ I64 (o2_))) := by
 have hbP := bd_pos n
 have hbS0 : bd (n + 1) = 4 * bd (n) := bd_succ (n := n) (by omega)
 have hbS1 : bd (n + 2) = 4 * bd (n + 1) := bd_succ (n := n + 1) (by omega)
 have hbS2 : bd (n + 3) = 4 * bd (n + 2) := bd_succ (n := n + 2) (by omega)
 have hbS3 : bd (n + 4) = 4 * bd (n + 3) := bd_succ (n := n + 3) (by omega)
 have hbS4 : bd (n + 5) = 4 * bd (n + 4) := bd_succ (n := n + 4) (by omega)
 have hbS5 : bd (n + 6) = 4 * bd (n + 5) := bd_succ (n := n + 5) (by omega)
 have hbS6 : bd (n + 7) = 4 * bd (n + 6) := bd_succ (n := n + 6) (by omega)
 have hbS7 : bd (n + 8) = 4 * bd (n + 7) := bd_succ (n := n + 7) (by omega)
 have hbB := bd_big (n := (n + 8)) (by omega)
 have hbM := bd_mono (show n ≤ n + 8 by omega)
 have hc_bz : (c_b).length ≤ bd n := (okl hokc_b).1
 refine WX.enterP (tt := tt) (Γ := [(0, MF.rs .stb K0 M0 c_b)]) 1 Tryz.func171 rfl (by kernel_rfl) rfl (allS_cons rfl N0 allS_nil) hH hown (fun f hf => by cases hf) rfl ?_
 refine R0 ?_
 obtain ⟨⟨u1, u2, u3⟩, hu1⟩ : ∃ r_, spec_l8Draw c_b c_i c_h = r_ := ⟨_, rfl⟩
 refine WX.callP 999 2 rfl (fun _ _ h => GoT.ow_rd h) (fun _ f hf => GoT.fak f hf) rfl rfl rfl rfl rfl (fun _ => rfl) rfl (fun w G bs H hI hH hs hΓ => f222 w n (by omega) H hH (bs 999) c_b K0 M0 (hΓ.get 0 rfl) c_i c_h hs hokc_b hokc_i hokc_h u1 u2 u3 hu1) (fun _ => rfl) (fun _ => rfl) ?_
 rintro ⟨⟨p1, c1⟩, ⟨p2, c2⟩, ⟨p3, c3⟩, ⟨⟩, ⟨⟩⟩ hq1
 refine R0 ?_
 obtain ⟨⟨u4, u5, u6⟩, hu2⟩ : ∃ r_, spec_l1Below c_b u2 u3 12 = r_ := ⟨_, rfl⟩
 refine WX.callP (ds := fun _ => []) 999 8 rfl (fun _ _ _ => All.nil) (fun _ f hf => by cases hf) rfl rfl rfl rfl rfl (fun _ => rfl) rfl (fun w G bs H hI hH hs hΓ => f84 w n (by omega) H hH (bs 999) c_b K0 M0 (hΓ.get 0 rfl) u2 u3 12 hs hokc_b hq1.2.1 hq1.2.2 (show I64 12 from (by unfold I64; omega)) u4 u5 u6 hu2) (fun _ => rfl) (fun _ => rfl) ?_
 rintro ⟨⟩ hq2
 have q1 := l1Below_rng c_b u2 u3 12
 rw [hu2] at q1
 try dsimp only at q1
 refine R0 ?_
 refine WX.cases 8 rfl (fun h1 => ?_) (fun h1 => ?_)
 ·skip
  have h1d := B.et h1
  refine R0 ?_
  obtain ⟨⟨u7, u8, u9⟩, hu3⟩ : ∃ r_, spec_l4Any c_b u5 u6 = r_ := ⟨_, rfl⟩
  refine WX.callP 999 9 rfl (fun _ _ h => GoT.ow_rd h) (fun _ f hf => GoT.fak f hf) rfl rfl rfl rfl rfl (fun _ => rfl) rfl (fun w G bs H hI hH hs hΓ => f123 w n (by omega) H hH (bs 999) c_b K0 M0 (hΓ.get 0 rfl) u5 u6 hs hokc_b hq2.2.1 hq2.2.2 u7 u8 u9 hu3) (fun _ => rfl) (fun _ => rfl) ?_
  rintro ⟨p4, c4⟩ hq3
  have q2 := l4Any_len c_b u5 u6
  rw [hu3] at q2
  try dsimp only at q2
  refine R0 ?_
  have hP1 : spec_l8Any c_b c_i c_h = (DataP.mk u7 u1.content u1.keyName u1.freshUntil u1.signature, u8, u9) := by simp only [spec_l8Any, hu1, hu2, h1, hu3, ct, cf]
  have hz1 := hP1.symm.trans hres
  obtain ⟨hz1, hz2⟩ := Prod.mk.inj hz1
  obtain ⟨hz2, hz3⟩ := Prod.mk.inj hz2
  subst hz1
  subst hz2
  subst hz3
  refine R1 ?_
  intro w1 G bs hI hΓ
  exact Post.ofL 999 [10, 6, 7] ((p4, c4), (p2, c2), (p3, c3), (), ()) hI hΓ rfl rfl rfl (by rw [hI.pin _ rfl]; first | done | rfl) (⟨(And.intro (GoT.okm (α := List Str) (by omega) (ok_Name hq3.1)) (And.intro (ok_DataP hq1.1).2.1 (And.intro (ok_DataP hq1.1).2.2.1 (And.intro (ok_DataP hq1.1).2.2.2.1 (ok_DataP hq1.1).2.2.2.2)))), ⟨hq3.2.1, hq3.2.2⟩⟩)
 ·skip
  have h1d := B.ef h1
  refine R0 ?_
  refine WX.cases 13 rfl (fun h2 => ?_) (fun h2 => ?_)
  ·skip
   have h2d := B.et h2
   refine R0 ?_
   obtain ⟨⟨u10, u11, u12⟩, hu4⟩ : ∃ r_, spec_l4Any c_b u5 u6 = r_ := ⟨_, rfl⟩
   refine WX.callP 999 11 rfl (fun _ _ h => GoT.ow_rd h) (fun _ f hf => GoT.fak f hf) rfl rfl rfl rfl rfl (fun _ => rfl) rfl (fun w G bs H hI hH hs hΓ => f123 w n (by omega) H hH (bs 999) c_b K0 M0 (hΓ.get 0 rfl) u5 u6 hs hokc_b hq2.2.1 hq2.2.2 u10 u11 u12 hu4) (fun _ => rfl) (fun _ => rfl) ?_
   rintro ⟨p5, c5⟩ hq4
   have q3 := l4Any_len c_b u5 u6
   rw [hu4] at q3
   try dsimp only at q3
   refine R0 ?_
   have hP2 : spec_l8Any c_b c_i c_h = (DataP.mk u1.name u1.content u10 u1.freshUntil u1.signature, u11, u12) := by simp only [spec_l8Any, hu1, hu2, h1, h2, hu4, ct, cf]
   have hz1 := hP2.symm.trans hres
   obtain ⟨hz1, hz2⟩ := Prod.mk.inj hz1
   obtain ⟨hz2, hz3⟩ := Prod.mk.inj hz2
   subst hz1
   subst hz2
   subst hz3
   refine R1 ?_
   intro w1 G bs hI hΓ
   exact Post.ofL 999 [5, 6, 12] ((p1, c1), (p2, c2), (p5, c5), (), ()) hI hΓ rfl rfl rfl (by rw [hI.pin _ rfl]; first | done | rfl) (⟨(And.intro (ok_DataP hq1.1).1 (And.intro (ok_DataP hq1.1).2.1 (And.intro (GoT.okm (α := List Str) (by omega) (ok_Name hq4.1)) (And.intro (ok_DataP hq1.1).2.2.2.1 (ok_DataP hq1.1).2.2.2.2)))), ⟨hq4.2.1, hq4.2.2⟩⟩)
  ·skip
   have h2d := B.ef h2
   refine R0 ?_
   refine WX.cases 18 rfl (fun h3 => ?_) (fun h3 => ?_)
   ·skip
    have h3d := B.et h3
    refine R0 ?_
    refine WX.bld ttOk rfl rfl rfl rfl rfl rfl rfl ?_
    intro p6
    refine WX.turn [] 13 rfl (fun h hs => one_sep (⟨(), _, emp, _, rfl, emp_le _, Le.refl _, emp_dj _, trivial, ⟨(), _, emp, _, rfl, emp_le _, Le.refl _, emp_dj _, trivial, ⟨(), _, emp, _, rfl, emp_le _, Le.refl _, emp_dj _, trivial, rfl⟩⟩⟩ : OwL _ _ ([(-1), 100000, 100001] : List Int))) (gs := [MF.ol [.int .i64 ((-1)), .int .i64 (100000), .int .i64 (100001)] ([(-1), 100000, 100001] : List Int)]) rfl ?_
    refine WX.seal 21 13 14 rfl rfl rfl rfl rfl ?_
    obtain ⟨⟨u13, u14, u15⟩, hu5⟩ : ∃ r_, spec_l1Int c_b u5 u6 ([(-1), 100000, 100001]) = r_ := ⟨_, rfl⟩
    refine WX.callP (ds := fun _ => []) 999 16 rfl (fun _ _ _ => All.nil) (fun _ f hf => by cases hf) rfl rfl rfl rfl rfl (fun _ => rfl) rfl (fun w G bs H hI hH hs hΓ => f107 w n (by omega) H hH (bs 999) c_b K0 M0 (hΓ.get 0 rfl) u5 u6 ([(-1), 100000, 100001]) p6 3 (hΓ.get 14 rfl) hs hokc_b hq2.2.1 hq2.2.2 (by first | assumption | omega | (simp; done) | (simp; omega)) (okl_mk (by simp; omega) (all_cons (α := Int) (show I64 (-1) from (by unfold I64; omega)) (all_cons (α := Int) (show I64 100000 from (by unfold I64; omega)) (all_cons (α := Int) (show I64 100001 from (by unfold I64; omega)) (fun a ha => by cases ha)))) : GoT.ok n ([(-1), 100000, 100001] : List Int)) u13 u14 u15 hu5) (fun _ => rfl) (fun _ => rfl) ?_
    rintro ⟨⟩ hq5
    refine R0 ?_
    have hP3 : spec_l8Any c_b c_i c_h = (DataP.mk u1.name u1.content u1.keyName u13 u1.signature, u14, u15) := by simp only [spec_l8Any, hu1, hu2, h1, h2, h3, hu5, ct, cf]
    have hz1 := hP3.symm.trans hres
    obtain ⟨hz1, hz2⟩ := Prod.mk.inj hz1
    obtain ⟨hz2, hz3⟩ := Prod.mk.inj hz2
    subst hz1
    subst hz2
    subst hz3
    refine R1 ?_
    intro w1 G bs hI hΓ
    exact Post.ofL 999 [5, 6, 7] ((p1, c1), (p2, c2), (p3, c3), (), ()) hI hΓ rfl rfl rfl (by rw [hI.pin _ rfl]; first | done | rfl) (⟨(And.intro (ok_DataP hq1.1).1 (And.intro (ok_DataP hq1.1).2.1 (And.intro (ok_DataP hq1.1).2.2.1 (And.intro hq5.1 (ok_DataP hq1.1).2.2.2.2)))), ⟨hq5.2.1, hq5.2.2⟩⟩)
   ·skip
    have h3d := B.ef h3
    refine R0 ?_
    refine WX.cases 24 rfl (fun h4 => ?_) (fun h4 => ?_)
    ·skip
     have h4d := B.et h4
     refine R0 ?_
     obtain ⟨⟨u16, u17, u18⟩, hu6⟩ : ∃ r_, spec_l3Word c_b u5 u6 = r_ := ⟨_, rfl⟩
     refine WX.callP (ds := fun _ => []) 999 17 rfl (fun _ _ _ => All.nil) (fun _ f hf => by cases hf) rfl rfl rfl rfl rfl (fun _ => rfl) rfl (fun w G bs H hI hH hs hΓ => f223 w n (by omega) H hH (bs 999) c_b K0 M0 (hΓ.get 0 rfl) u5 u6 hs hokc_b hq2.2.1 hq2.2.2 u16 u17 u18 hu6) (fun _ => rfl) (fun _ => rfl) ?_
     rintro ⟨⟩ hq6
     refine R0 ?_
     have hP4 : spec_l8Any c_b c_i c_h = (DataP.mk u1.name u1.content u1.keyName u1.freshUntil u16, u17, u18) := by simp only [spec_l8Any, hu1, hu2, h1, h2, h3, h4, hu6, ct, cf]
     have hz1 := hP4.symm.trans hres
     obtain ⟨hz1, hz2⟩ := Prod.mk.inj hz1
     obtain ⟨hz2, hz3⟩ := Prod.mk.inj hz2
     subst hz1
     subst hz2
     subst hz3
     refine R1 ?_
     intro w1 G bs hI hΓ
     exact Post.ofL 999 [5, 6, 7] ((p1, c1), (p2, c2), (p3, c3), (), ()) hI hΓ rfl rfl rfl (by rw [hI.pin _ rfl]; first | done | rfl) (⟨(And.intro (ok_DataP hq1.1).1 (And.intro (ok_DataP hq1.1).2.1 (And.intro (ok_DataP hq1.1).2.2.1 (And.intro (ok_DataP hq1.1).2.2.2.1 hq6.1)))), ⟨hq6.2.1, hq6.2.2⟩⟩)
    ·skip
     have h4d := B.ef h4
     refine R0 ?_
     refine WX.cases 29 rfl (fun h5 => ?_) (fun h5 => ?_)
     ·skip
      have h5d := B.et h5
      refine R0 ?_
      obtain ⟨⟨u19, u20, u21⟩, hu7⟩ : ∃ r_, spec_l1Below c_b u5 u6 3 = r_ := ⟨_, rfl⟩
      refine WX.callP (ds := fun _ => []) 999 18 rfl (fun _ _ _ => All.nil) (fun _ f hf => by cases hf) rfl rfl rfl rfl rfl (fun _ => rfl) rfl (fun w G bs H hI hH hs hΓ => f84 w n (by omega) H hH (bs 999) c_b K0 M0 (hΓ.get 0 rfl) u5 u6 3 hs hokc_b hq2.2.1 hq2.2.2 (show I64 3 from (by unfold I64; omega)) u19 u20 u21 hu7) (fun _ => rfl) (fun _ => rfl) ?_
      rintro ⟨⟩ hq7
      have q4 := l1Below_rng c_b u5 u6 3
      rw [hu7] at q4
      try dsimp only at q4
      have r1 : -9223372036854775808 ≤ u19 ∧ u19 ≤ 9223372036854775807 := hq7.1
      refine WX.see rfl rfl rfl (fun _ hΓ => looks_arith rfl rfl rfl rfl (by unfold I64; first | omega | (simp only [List.length_take] at *; omega))) ?_
      refine WX.slot 33 (y := .v (.int .i64 (((59 + u19).toNat : Nat) : Int))) rfl (fun _ => congrArg (Value.int .i64) (show 59 + u19 = (((59 + u19).toNat : Nat) : Int) from by omega)) ?_
      refine WX.mkS ((59 + u19).toNat) ttOk rfl rfl rfl rfl rfl rfl rfl (by omega) (by omega) rfl ?_
      intro p7
      refine WX.free 19 (MF.ol (zrep ((59 + u19).toNat) [.int .u8 (((0 : UInt8)).toNat : Nat)]) ((List.replicate ((59 + u19).toNat) (0 : UInt8)) : List UInt8)) (ol_zrep (α := UInt8) (z0 := (0 : UInt8)) (x0 := ()) rfl trivial _) ?_
      refine R0 ?_
      refine WX.seal 34 19 20 rfl rfl (show (59 + u19).toNat = ((List.replicate ((59 + u19).toNat) (0 : UInt8))).length from by simp) rfl rfl ?_
      refine WX.respL (show ([(3, ⟨32, [.slice p1 ((u1.name.parts).length) c1, .slice p7 ((59 + u19).toNat) ((59 + u19).toNat), .slice p3 ((u1.keyName.parts).length) c3, .int .i64 (u1.freshUntil), .int .i64 (u1.signature)]⟩), (2, ⟨32, [.slice p1 ((u1.name.parts).length) c1, .slice p7 ((59 + u19).toNat) ((59 + u19).toNat), .slice p3 ((u1.keyName.parts).length) c3, .int .i64 (u1.freshUntil), .int .i64 (u1.signature)]⟩), (999, ⟨182, [.slice K0 ((c_b).length) M0, .int .i64 (u20), .int .i64 (u21)]⟩)] : Locs) = [(3, ⟨32, [.slice p1 ((u1.name.parts).length) c1, .slice p7 (((List.replicate ((59 + u19).toNat) (0 : UInt8))).length) ((59 + u19).toNat), .slice p3 ((u1.keyName.parts).length) c3, .int .i64 (u1.freshUntil), .int .i64 (u1.signature)]⟩), (2, ⟨32, [.slice p1 ((u1.name.parts).length) c1, .slice p7 (((List.replicate ((59 + u19).toNat) (0 : UInt8))).length) ((59 + u19).toNat), .slice p3 ((u1.keyName.parts).length) c3, .int .i64 (u1.freshUntil), .int .i64 (u1.signature)]⟩), (999, ⟨182, [.slice K0 ((c_b).length) M0, .int .i64 (u20), .int .i64 (u21)]⟩)] from by simp only [List.length_replicate]) ?_
      refine WX.slot 34 (y := .v (.slice p7 ((List.replicate ((59 + u19).toNat) (0 : UInt8))).length ((59 + u19).toNat))) rfl (fun _ => by show (Value.slice p7 ((59 + u19).toNat) ((59 + u19).toNat) : Value) = Value.slice p7 ((List.replicate ((59 + u19).toNat) (0 : UInt8))).length ((59 + u19).toNat); exact congrArg (fun z_ : Nat => (Value.slice p7 z_ ((59 + u19).toNat) : Value)) (show (59 + u19).toNat = ((List.replicate ((59 + u19).toNat) (0 : UInt8))).length from by simp)) ?_
      have hP5 : spec_l8Any c_b c_i c_h = (DataP.mk u1.name (List.replicate ((59 + u19).toNat) (0 : UInt8)) u1.keyName u1.freshUntil u1.signature, u20, u21) := by simp only [spec_l8Any, hu1, hu2, h1, h2, h3, h4, h5, hu7, ct, cf]
      have hz1 := hP5.symm.trans hres
      obtain ⟨hz1, hz2⟩ := Prod.mk.inj hz1
      obtain ⟨hz2, hz3⟩ := Prod.mk.inj hz2
      subst hz1
      subst hz2
      subst hz3
      refine R1 ?_
      intro w1 G bs hI hΓ
      exact Post.ofL 999 [5, 21, 7] ((p1, c1), (p7, ((59 + u19).toNat)), (p3, c3), (), ()) hI hΓ rfl rfl rfl (by rw [hI.pin _ rfl]; first | done | rfl) (⟨(And.intro (ok_DataP hq1.1).1 (And.intro (okl_mk (by simp; omega) (fun _ _ => trivial) : GoT.ok (n + 1) ((List.replicate ((59 + u19).toNat) (0 : UInt8)) : List UInt8)) (And.intro (ok_DataP hq1.1).2.2.1 (And.intro (ok_DataP hq1.1).2.2.2.1 (ok_DataP hq1.1).2.2.2.2)))), ⟨hq7.2.1, hq7.2.2⟩⟩)
     ·skip
      have h5d := B.ef h5
      refine R0 ?_
      have hP6 : spec_l8Any c_b c_i c_h = (u1, u5, u6) := by simp only [spec_l8Any, hu1, hu2, h1, h2, h3, h4, h5, ct, cf]
      have hz1 := hP6.symm.trans hres
      obtain ⟨hz1, hz2⟩ := Prod.mk.inj hz1
      obtain ⟨hz2, hz3⟩ := Prod.mk.inj hz2
      subst hz1
      subst hz2
      subst hz3
      refine R1 ?_
      intro w1 G bs hI hΓ
      exact Post.ofL 999 [5, 6, 7] ((p1, c1), (p2, c2), (p3, c3), (), ()) hI hΓ rfl rfl rfl (by rw [hI.pin _ rfl]; first | done | rfl) (⟨hq1.1, ⟨hq2.2.1, hq2.2.2⟩⟩)
end Go.Proofs.YtolepebgdfdciaaGreat

namespace Go.Stp
set_option linter.unusedVariables false
set_option linter.unusedSimpArgs false
def slices_IndexFunc_Data_L1 (fq : DataP → Bool) : List DataP → Nat → Option (Int)
  | [], i => none
  | e1 :: rest_, i =>
    bif fq e1 then
      (some ((i : Nat) : Int))
    else
      slices_IndexFunc_Data_L1 fq rest_ (i + 1)
def slices_IndexFunc_Data (s : (List DataP)) (fq : DataP → Bool) : Int :=
  match slices_IndexFunc_Data_L1 fq s 0 with
    | some r_ => r_
    | none =>
      (-1)
def slices_DeleteFunc_Data (s : List DataP) (delq : DataP → Bool) : List DataP := s.filter fun a => !delq a
end Go.Stp

namespace Go.Proofs.YtolepebgdfdciaaGreat
open Go.Stp
set_option linter.unusedVariables false
set_option linter.unusedSimpArgs false
theorem f173 (w : World) (n : Nat) (hn : n + 0 ≤ 9) (s : (List DataP)) (ps : Option Addr) (cs : Nat) (N0 : RdSl (hp w) ps cs s) (fg : FuncId) (fc : List Value) (fq : DataP → Bool) (ff : ∀ w1, Kp emp w w1 → ∀ (e0 : DataP) (x0 : GoT.X DataP), GoT.ok n e0 → All (hp w1) (GoT.fa .der e0 x0) → Does Tryz.prog fg ([Value.agg ⟨GoT.sh e0 x0⟩] ++ fc).toArray w1 emp (fun rv _ => rv = .bool (fq e0) ∧ True)) (hoks : GoT.ok n s) :
  Does Tryz.prog 173 #[.slice ps ((s).length) cs, .func (.func fg) #[] fc.toArray] w emp (fun (rv : Value) (_ : World) => rv = .int .i64 ((slices_IndexFunc_Data s fq)) ∧ GoT.ok n ((slices_IndexFunc_Data s fq) : Int)) := by
 have hbP := bd_pos n
 have hbB := bd_big (n := n) (by omega)
 refine WX.enter (tt := tt) (Γ := [(0, MF.rs .stb ps cs s)]) Tryz.func173 rfl (by kernel_rfl) rfl (allS_cons rfl N0 allS_nil) ?_
 refine R0 ?_
 have r1 : (s).length ≤ bd n := (okl hoks).1
 refine WX.loop (ι := Nat) ⟨fun i => (i ≤ (s).length) ∧ (slices_IndexFunc_Data_L1 fq s 0 = slices_IndexFunc_Data_L1 fq ((s).drop i) i), fun i => (s).length - i, fun i => [(8, .v (.int .i64 (((i : Nat) : Int)))), (7, .v (.int .i64 ((((s).length : Nat) : Int)))), (0, .v (.slice ps ((s).length) cs)), (1, .v (.func (.func fg) #[] fc.toArray))], fun i => [], fun i => [], fun i => [(0, MF.rs .stb ps cs s)]⟩ 0 ⟨(Nat.zero_le _), rfl⟩
  (.cons rfl (.cons rfl (.cons rfl (.cons rfl (.nil))))) .nil .nil [0] rfl ?_
 rintro i hpre
 have hpre_ : (i ≤ (s).length) ∧ (slices_IndexFunc_Data_L1 fq s 0 = slices_IndexFunc_Data_L1 fq ((s).drop i) i) := hpre
 clear hpre
 obtain ⟨v1, v2⟩ := hpre_
 refine R0 ?_
 refine WX.cases 9 rfl (fun h1 => ?_) (fun h1 => ?_)
 ·skip
  have h1d := B.dt h1
  have e1i : i < (s).length := (by omega)
  obtain ⟨e1, e1h⟩ : ∃ e1, (s)[i]? = some e1 := ⟨_, List.getElem?_eq_getElem e1i⟩
  have ok1 : GoT.ok n e1 := (okl hoks).2 _ (List.mem_of_getElem? e1h)
  refine R0 ?_
  refine WX.idx 0 i ttOk rfl rfl rfl rfl rfl rfl rfl rfl rfl rfl e1i ?_
  rintro ad1 rfl
  refine WX.ldE 0 1 e1 ttOk rfl rfl rfl rfl rfl rfl rfl rfl e1h (fun _ => rfl) (fun _ => rfl) ?_
  rintro ⟨⟨p1, c1⟩, ⟨p2, c2⟩, ⟨p3, c3⟩, ⟨⟩, ⟨⟩⟩
  refine WX.callV rfl rfl rfl rfl rfl (fun _ => rfl) rfl (fun w G bs hI hΓ => ff w hI.keep e1 ((p1, c1), (p2, c2), (p3, c3), (), ()) ok1 (All.cons (hΓ.get 1 rfl : RdSl _ _ _ _) (All.cons (hΓ.get 2 rfl : RdSl _ _ _ _) (All.cons (hΓ.get 3 rfl : RdSl _ _ _ _) All.nil)))) ?_
  intro hq1
  refine R0 ?_
  refine WX.cases 16 rfl (fun h2 => ?_) (fun h2 => ?_)
  ·skip
   refine R0 ?_
   have hP1 : slices_IndexFunc_Data_L1 fq s 0 = (some ((i : Nat) : Int)) := by rw [v2, drop_get e1h]; simp only [slices_IndexFunc_Data_L1, h2, ct, cf]
   have hP2 : slices_IndexFunc_Data s fq = ((i : Nat) : Int) := by simp only [slices_IndexFunc_Data, hP1, ct, cf]
   refine R1 ?_
   intro w1 G bs hI hΓ
   rw [hP2]
   exact ⟨rfl, (show I64 ((i : Nat) : Int) from (by unfold I64; omega))⟩
  ·skip
   refine R0 ?_
   refine WX.see rfl rfl rfl (fun _ hΓ => looks_arith rfl rfl rfl rfl (by unfold I64; first | omega | (simp only [List.length_take] at *; omega))) ?_
   refine R0 ?_
   exact WX.iter (i + 1) ⟨(by omega), (by rw [v2, drop_get e1h]; simp only [slices_IndexFunc_Data_L1, h2, ct, cf])⟩ (by first | (dsimp only; omega) | omega) (.cons rfl (.cons rfl (.cons rfl (.cons rfl (.nil))))) .nil .nil [0] rfl
 ·skip
  have h1d := B.df h1
  refine R0 ?_
  have hX1 : slices_IndexFunc_Data_L1 fq s 0 = none := by rw [v2, List.drop_eq_nil_of_le (show (s).length ≤ i by omega)]; simp only [slices_IndexFunc_Data_L1, ct, cf]
  have hP3 : slices_IndexFunc_Data s fq = (-1) := by simp only [slices_IndexFunc_Data, hX1, ct, cf]
  refine R1 ?_
  intro w1 G bs hI hΓ
  rw [hP3]
  exact ⟨rfl, (show I64 (-1) from (by unfold I64; omega))⟩
theorem ixN_slices_IndexFunc_Data (f : DataP → Bool) : ∀ (l : List DataP) (i : Nat), slices_IndexFunc_Data_L1 f l i = none → ∀ a ∈ l, f a = false
  | [], i, h, a, ha => by cases ha
  | x :: l, i, h, a, ha => by
    simp only [slices_IndexFunc_Data_L1] at h
    cases hx : f x
    · rw [hx, cond_false] at h
      rcases List.mem_cons.1 ha with rfl | ha
      · exact hx
      · exact ixN_slices_IndexFunc_Data f l (i + 1) h a ha
    · rw [hx, cond_true] at h; cases h
theorem ixS_slices_IndexFunc_Data (f : DataP → Bool) : ∀ (l : List DataP) (i : Nat) (j : Int), slices_IndexFunc_Data_L1 f l i = some j → ∃ m a, j = ((i + m : Nat) : Int) ∧ l[m]? = some a ∧ f a = true ∧ ∀ b ∈ l.take m, f b = false
  | [], i, j, h => by cases h
  | x :: l, i, j, h => by
    simp only [slices_IndexFunc_Data_L1] at h
    cases hx : f x
    · rw [hx, cond_false] at h
      obtain ⟨m, a, h1, h2, h3, h4⟩ := ixS_slices_IndexFunc_Data f l (i + 1) j h
      refine ⟨m + 1, a, by rw [h1]; congr 1; omega, by simpa using h2, h3, fun b hb => ?_⟩
      rw [List.take_succ_cons] at hb
      rcases List.mem_cons.1 hb with rfl | hb
      · exact hx
      · exact h4 b hb
    · rw [hx, cond_true] at h
      cases h
      exact ⟨0, x, rfl, rfl, hx, fun b hb => by simp at hb⟩
theorem ixE_slices_IndexFunc_Data {f : DataP → Bool} {l : List DataP} (h : slices_IndexFunc_Data l f = -1) : ∀ a ∈ l, f a = false := by
  unfold slices_IndexFunc_Data at h
  cases hx : slices_IndexFunc_Data_L1 f l 0 with
  | none => exact ixN_slices_IndexFunc_Data f l 0 hx
  | some j =>
    obtain ⟨m, a, h1, _⟩ := ixS_slices_IndexFunc_Data f l 0 j hx
    rw [hx] at h
    have : j = -1 := h
    omega
theorem ixT_slices_IndexFunc_Data {f : DataP → Bool} {l : List DataP} (h : ¬ slices_IndexFunc_Data l f = -1) : ∃ (m : Nat) (a : DataP), slices_IndexFunc_Data l f = (m : Int) ∧ l[m]? = some a ∧ f a = true ∧ ∀ b ∈ l.take m, f b = false := by
  unfold slices_IndexFunc_Data at h ⊢
  cases hx : slices_IndexFunc_Data_L1 f l 0 with
  | none => rw [hx] at h; exact absurd rfl h
  | some j =>
    obtain ⟨m, a, h1, h2⟩ := ixS_slices_IndexFunc_Data f l 0 j hx
    exact ⟨m, a, by rw [h1, Nat.zero_add], h2⟩
theorem len_slices_DeleteFunc_Data (s : List DataP) (delq : DataP → Bool) : (slices_DeleteFunc_Data s delq).length ≤ s.length := List.length_filter_le _ _
theorem ok_slices_DeleteFunc_Data {n : Nat} {s : List DataP} (delq : DataP → Bool) (h : GoT.ok n s) : GoT.ok n (slices_DeleteFunc_Data s delq) :=
  okl_mk (Nat.le_trans (List.length_filter_le _ _) (okl h).1) (fun a ha => (okl h).2 a (List.mem_filter.1 ha).1)
theorem f92 (w : World) (n : Nat) (hn : n + 0 ≤ 9) (H : GH) (hH : Le H (hp w)) (s : List DataP) (ps : Option Addr) (cs : Nat) (delg : FuncId) (delc : List Value) (delq : DataP → Bool) (delf : ∀ w1, Kp H w w1 → ∀ (e0 : DataP) (x0 : GoT.X DataP), GoT.ok n e0 → All (hp w1) (GoT.fa .der e0 x0) → Does Tryz.prog delg ([Value.agg ⟨GoT.sh e0 x0⟩] ++ delc).toArray w1 emp (fun rv _ => rv = .bool (delq e0) ∧ True)) (hown : Sep H (GoT.oa s (ps, cs))) (hoks : GoT.ok n s) :
    Does Tryz.prog 92 #[.slice ps ((s).length) cs, .func (.func delg) #[] delc.toArray] w H (Post w H (fun x : GoT.X (List DataP) => (GoT.sh ((slices_DeleteFunc_Data s delq) : List DataP) x).headD undef) (fun x => GoT.oa ((slices_DeleteFunc_Data s delq) : List DataP) x) (GoT.ok n ((slices_DeleteFunc_Data s delq) : List DataP))) := by
  have hbP := bd_pos n
  have hbB := bd_big (n := n) (by omega)
  have r1 : (s).length ≤ bd n := (okl hoks).1
  refine WX.enterM (tt := tt) (Γ := []) 0 Tryz.func92 rfl (by kernel_rfl) rfl allS_nil hH hown (fun f hf => GoT.oak f hf) rfl ?_
  refine R0 ?_
  refine WX.der 1 (MF.rs .der ps cs s) rfl (fun _ hΓ => (hΓ.get 0 rfl : OwSl _ _ _ _).rd) ?_
  refine WX.know (fun G hΓ => (hΓ.get 1 rfl : RdSl _ _ _ _).1) ?_
  intro hcap
  refine WX.callV rfl rfl rfl rfl rfl (fun _ => rfl) rfl (fun w G bs hI hΓ => f173 w n (by omega) s ps cs (hΓ.get 1 rfl) delg delc delq (fun w1_ hb_ => delf w1_ (hI.keep.lent hb_)) hoks) ?_
  intro hq1
  refine R0 ?_
  refine WX.cases 12 rfl (fun h1 => ?_) (fun h1 => ?_)
  · have hN := ixE_slices_IndexFunc_Data (B.et h1)
    have hP : slices_DeleteFunc_Data s delq = s := List.filter_eq_self.2 (fun b hb => by simp [hN b hb])
    refine R0 ?_
    refine R1 ?_
    intro w1 G bs hI hΓ
    rw [hP]
    exact Post.of [0] (ps, cs) hI hΓ rfl rfl rfl hoks
  · obtain ⟨i0, a0, hi0, ha0, hf0, hb0⟩ := ixT_slices_IndexFunc_Data (B.ef h1)
    have hi0l := (List.getElem?_eq_some_iff.1 ha0).1
    refine WX.slot 5 (y := .v (.int .i64 ((i0 : Nat) : Int))) rfl (fun _ => by rw [hi0]) ?_
    refine WX.opn (kk := 5) 501 0 2 rfl rfl rfl ?_
    intro xs0 hx0
    refine R0 ?_
    refine WX.see rfl rfl rfl (fun _ hΓ => looks_arith rfl rfl rfl rfl (by unfold I64; omega)) ?_
    refine R0 ?_
    refine WX.loop (ι := Nat × Nat × List Value) ⟨fun | (i, j, xs) => DelInv delq s xs0 i j xs, fun | (i, j, xs) => (s).length - j, fun | (i, j, xs) => [(5, .v (.int .i64 ((i : Nat) : Int))), (6, .v (.int .i64 ((j : Nat) : Int))), (0, .v (.slice ps ((s).length) cs)), (1, .v (.func (.func delg) #[] delc.toArray))], fun | (i, j, xs) => [], fun | (i, j, xs) => [(501, ⟨5, ps, (s).length, cs, xs⟩)], fun | (i, j, xs) => [(2, MF.ol xs0 s)]⟩ (i0, i0 + 1, xs0) (DelInv.start hx0 ha0 hf0 hb0)
      (.cons rfl (.cons rfl (.cons rfl (.cons rfl (.nil))))) .nil (.cons rfl .nil) [2] rfl ?_
    rintro ⟨i, j, xs⟩ hpre
    have v1 : DelInv delq s xs0 i j xs := hpre
    clear hpre
    have v1i := v1.ij
    have v1j := v1.jn
    refine R0 ?_
    refine WX.cases 19 rfl (fun h2 => ?_) (fun h2 => ?_)
    · have h2d := B.dt h2
      have hjl : j < (s).length := by omega
      have hil : i < (s).length := by omega
      obtain ⟨e1, e1h⟩ : ∃ e1, (s)[j]? = some e1 := ⟨_, List.getElem?_eq_getElem hjl⟩
      have ok1 : GoT.ok n e1 := (okl hoks).2 _ (List.mem_of_getElem? e1h)
      refine R0 ?_
      refine WX.idxR 501 j ttOk rfl rfl rfl rfl rfl rfl rfl rfl rfl hjl ?_
      rintro ad1 rfl
      refine WX.ldW (xs0 := xs0) 501 3 e1 ttOk rfl rfl rfl rfl rfl rfl rfl rfl rfl hjl (fun G hΓ => (hΓ.get 2 rfl : OwL _ _ _).rd) e1h (fun q => v1.rest _ (Nat.le_add_right _ _)) (fun _ => rfl) (fun _ => rfl) ?_
      rintro ⟨⟨p1, c1⟩, ⟨p2, c2⟩, ⟨p3, c3⟩, ⟨⟩, ⟨⟩⟩ hx1
      refine R0 ?_
      refine WX.callV rfl rfl rfl rfl rfl (fun _ => rfl) rfl (fun w G bs hI hΓ => delf w hI.keep e1 ((p1, c1), (p2, c2), (p3, c3), (), ()) ok1 (All.cons (hΓ.get 3 rfl : RdSl _ _ _ _) (All.cons (hΓ.get 4 rfl : RdSl _ _ _ _) (All.cons (hΓ.get 5 rfl : RdSl _ _ _ _) All.nil)))) ?_
      intro hq2
      refine R0 ?_
      refine WX.cases 29 rfl (fun h3 => ?_) (fun h3 => ?_)
      · refine R0 ?_
        refine WX.idxR 501 i ttOk rfl rfl rfl rfl rfl rfl rfl rfl rfl hil ?_
        rintro ad2 ⟨⟩
        refine WX.stR 501 ttOk rfl rfl rfl rfl rfl rfl rfl rfl rfl rfl rfl rfl rfl hil rfl rfl rfl ?_
        refine R0 ?_
        refine WX.see rfl rfl rfl (fun _ hΓ => looks_arith rfl rfl rfl rfl (by unfold I64; omega)) ?_
        refine R0 ?_
        refine WX.see rfl rfl rfl (fun _ hΓ => looks_arith rfl rfl rfl rfl (by unfold I64; omega)) ?_
        refine R0 ?_
        exact WX.iter (i + 1, j + 1, _) (DelInv.keep hx0 v1 e1h (B.nt h3) rfl hx1) (by dsimp only; omega) (.cons rfl (.cons rfl (.cons rfl (.cons rfl (.nil))))) .nil (.cons rfl .nil) [2] rfl
      · refine R0 ?_
        refine WX.see rfl rfl rfl (fun _ hΓ => looks_arith rfl rfl rfl rfl (by unfold I64; omega)) ?_
        refine R0 ?_
        exact WX.iter (i, j + 1, xs) (v1.skip e1h (B.nf h3)) (by dsimp only; omega) (.cons rfl (.cons rfl (.cons rfl (.cons rfl (.nil))))) .nil (.cons rfl .nil) [2] rfl
    · have h2d := B.df h2
      obtain ⟨d1, d2⟩ := v1.done (by omega)
      refine R0 ?_
      refine WX.see rfl rfl rfl (fun _ hΓ => looks_slL i ttOk rfl rfl rfl rfl rfl (show i ≤ (s).length by omega)) ?_
      refine WX.clr 501 i ttOk rfl rfl rfl rfl rfl rfl rfl rfl (show i ≤ (s).length by omega) rfl ?_
      refine R0 ?_
      refine WX.see rfl rfl rfl (fun _ hΓ => looks_slH i ttOk rfl rfl rfl rfl rfl (show i ≤ cs by omega)) ?_
      refine R0 ?_
      refine WX.turn [2] 3 rfl (fun h hs => by rw [show xs.take (i * 5) = keepC 5 delq s xs0 from d1]; exact one_sep (OwL.keep delq (sep_one hs : OwL _ _ _))) (gs := [MF.ol (xs.take (i * 5)) (slices_DeleteFunc_Data s delq)]) rfl ?_
      refine WX.seal 501 3 4 rfl rfl (show i = (slices_DeleteFunc_Data s delq).length from d2) rfl rfl ?_
      refine WX.slot 4 (y := .v (.slice ps (slices_DeleteFunc_Data s delq).length cs)) rfl (fun _ => by rw [show i = (slices_DeleteFunc_Data s delq).length from d2]) ?_
      refine R1 ?_
      intro w1 G bs hI hΓ
      exact Post.of [5] (ps, cs) hI hΓ rfl rfl rfl (ok_slices_DeleteFunc_Data delq hoks)
end Go.Proofs.YtolepebgdfdciaaGreat

namespace Go.Stp
set_option linter.unusedVariables false
set_option linter.unusedSimpArgs false
def impl_Replay_c1 (r : Record) (x_ : DataP) : Bool :=
  (impl_EqualNames x_.name r.data.name)
def impl_Replay_L1 : List Record → (List DataP) → (List DataP)
  | [], out => ((out) : List DataP)
  | e1 :: rest_, out =>
    bif (e1.kind != 1) then
      bif (e1.kind != 2) then
        impl_Replay_L1 rest_ ((out) : List DataP)
      else
        bif (e1.kind == 1) then
          impl_Replay_L1 rest_ ((((slices_DeleteFunc_Data out (fun e0_ => (impl_Replay_c1 e1 e0_))) ++ [(impl_copyData e1.data)])) : List DataP)
        else
          impl_Replay_L1 rest_ (((slices_DeleteFunc_Data out (fun e0_ => (impl_Replay_c1 e1 e0_)))) : List DataP)
    else
      bif (e1.kind == 1) then
        impl_Replay_L1 rest_ ((((slices_DeleteFunc_Data out (fun e0_ => (impl_Replay_c1 e1 e0_))) ++ [(impl_copyData e1.data)])) : List DataP)
      else
        impl_Replay_L1 rest_ (((slices_DeleteFunc_Data out (fun e0_ => (impl_Replay_c1 e1 e0_)))) : List DataP)
def impl_Replay (l : (List Record)) : (List DataP) :=
  match impl_Replay_L1 l ([] : List DataP) with
    | out =>
      out
def spec_l16Find_L1 (n_ : Name) : List DataP → Nat → Option (Int)
  | [], i => none
  | e1 :: rest_, i =>
    bif (spec_EqualNames e1.name n_) then
      (some ((i : Nat) : Int))
    else
      spec_l16Find_L1 n_ rest_ (i + 1)
def spec_l16Find (l : (List DataP)) (n_ : Name) : Int :=
  match spec_l16Find_L1 n_ l 0 with
    | some r_ => r_
    | none =>
      (-1)
def spec_Replay_L1 : List Record → (List DataP) → (List DataP)
  | [], out => ((out) : List DataP)
  | e1 :: rest_, out =>
    bif (e1.kind != 1) then
      bif (e1.kind != 2) then
        spec_Replay_L1 rest_ ((out) : List DataP)
      else
        bif decide ((spec_l16Find out e1.data.name) ≥ 0) then
          bif (e1.kind == 1) then
            spec_Replay_L1 rest_ (((((List.take (Int.toNat (spec_l16Find out e1.data.name)) out) ++ (List.drop (Int.toNat ((spec_l16Find out e1.data.name) + 1)) out)) ++ [(spec_l8Copy e1.data)])) : List DataP)
          else
            spec_Replay_L1 rest_ ((((List.take (Int.toNat (spec_l16Find out e1.data.name)) out) ++ (List.drop (Int.toNat ((spec_l16Find out e1.data.name) + 1)) out))) : List DataP)
        else
          bif (e1.kind == 1) then
            spec_Replay_L1 rest_ (((out ++ [(spec_l8Copy e1.data)])) : List DataP)
          else
            spec_Replay_L1 rest_ ((out) : List DataP)
    else
      bif decide ((spec_l16Find out e1.data.name) ≥ 0) then
        bif (e1.kind == 1) then
          spec_Replay_L1 rest_ (((((List.take (Int.toNat (spec_l16Find out e1.data.name)) out) ++ (List.drop (Int.toNat ((spec_l16Find out e1.data.name) + 1)) out)) ++ [(spec_l8Copy e1.data)])) : List DataP)
        else
          spec_Replay_L1 rest_ ((((List.take (Int.toNat (spec_l16Find out e1.data.name)) out) ++ (List.drop (Int.toNat ((spec_l16Find out e1.data.name) + 1)) out))) : List DataP)
      else
        bif (e1.kind == 1) then
          spec_Replay_L1 rest_ (((out ++ [(spec_l8Copy e1.data)])) : List DataP)
        else
          spec_Replay_L1 rest_ ((out) : List DataP)
def spec_Replay (l : (List Record)) : (List DataP) :=
  match spec_Replay_L1 l ([] : List DataP) with
    | out =>
      out
def impl_LogContents (l : Log) : (List DataP) :=
  (impl_Replay (impl_allRecords l))
def spec_LogContents (l : Log) : (List DataP) :=
  (spec_Replay ((spec_l29Recs l.durable) ++ l.volatile))
end Go.Stp

namespace Go.Proofs.YtolepebgdfdciaaGreat
open Go.Stp
set_option linter.unusedVariables false
set_option linter.unusedSimpArgs false
theorem f93 (w : World) (n : Nat) (hn : n + 0 ≤ 9) (x_ : DataP) (K0 : Option Addr) (M0 : Nat) (N0 : RdSl (hp w) K0 M0 x_.name.parts) (K1 : Option Addr) (M1 : Nat) (N1 : RdSl (hp w) K1 M1 x_.content) (K2 : Option Addr) (M2 : Nat) (N2 : RdSl (hp w) K2 M2 x_.keyName.parts) (r : Record) (br : Addr) (hr : RdSl (hp w) (some br) 1 [r]) (hokx_ : GoT.ok n x_) (hokr : GoT.ok n r) :
  Does Tryz.prog 93 #[.agg #[.slice K0 ((x_.name.parts).length) M0, .slice K1 ((x_.content).length) M1, .slice K2 ((x_.keyName.parts).length) M2, .int .i64 (x_.freshUntil), .int .i64 (x_.signature)], .pointer (some br)] w emp (fun (rv : Value) (_ : World) => rv = .bool (impl_Replay_c1 r x_) ∧ True) := by
 have hbP := bd_pos n
 have hbB := bd_big (n := n) (by omega)
 refine WX.enter (tt := tt) (Γ := [(0, MF.rs .stb K0 M0 x_.name.parts), (1, MF.rs .stb K1 M1 x_.content), (2, MF.rs .stb K2 M2 x_.keyName.parts), (3, MF.rs .stb (some br) 1 ([r]))]) Tryz.func93 rfl (by kernel_rfl) rfl (allS_cons rfl N0 (allS_cons rfl N1 (allS_cons rfl N2 (allS_cons rfl hr allS_nil)))) ?_
 have rh : ([r] : List Record)[0]? = some r := rfl
 refine WX.slot 1 (y := .e (some br) 0 6 0) rfl (fun _ => cap_eq) ?_
 refine R0 ?_
 refine WX.ldE 3 4 r ttOk rfl rfl rfl rfl rfl rfl rfl rfl rh (fun _ => rfl) (fun _ => rfl) ?_
 rintro ⟨⟨⟩, ⟨⟨p1, c1⟩, ⟨p2, c2⟩, ⟨p3, c3⟩, ⟨⟩, ⟨⟩⟩⟩
 refine WX.callV rfl rfl rfl rfl rfl (fun _ => rfl) rfl (fun w G bs hI hΓ => f94 w n (by omega) x_.name K0 M0 (hΓ.get 0 rfl) r.data.name p1 c1 (hΓ.get 4 rfl) ((ok_DataP hokx_).1) ((ok_DataP (ok_Record hokr).2).1)) ?_
 intro hq1
 refine R0 ?_
 have hP1 : impl_Replay_c1 r x_ = (impl_EqualNames x_.name r.data.name) := by simp only [impl_Replay_c1, ct, cf]
 exact R3 hP1
theorem f21 (w : World) (n : Nat) (hn : n + 0 ≤ 9) (l : (List Record)) (pl : Option Addr) (cl : Nat) (N0 : RdSl (hp w) pl cl l) (hokl : GoT.ok n l) :
  Does Tryz.prog 21 #[.slice pl ((l).length) cl] w emp (Post w emp (fun x : GoT.X ((List DataP)) => (GoT.sh ((impl_Replay l) : (List DataP)) x).headD undef) (fun x => GoT.oa ((impl_Replay l) : (List DataP)) x) (GoT.ok n ((impl_Replay l) : (List DataP)))) := by
 have hbP := bd_pos n
 have hbB := bd_big (n := n) (by omega)
 refine WX.enter (tt := tt) (Γ := [(0, MF.rs .stb pl cl l)]) Tryz.func21 rfl (by kernel_rfl) rfl (allS_cons rfl N0 allS_nil) ?_
 refine R0 ?_
 refine WX.bld ttOk rfl rfl rfl rfl rfl rfl rfl ?_
 intro p1
 refine R0 ?_
 refine WX.free 1 (MF.ol [] ([] : List DataP)) rfl ?_
 refine WX.seal 6 1 2 rfl rfl rfl rfl rfl ?_
 have r1 : (l).length ≤ bd n := (okl hokl).1
 refine WX.loop (ι := (Option Addr) × Nat × (List DataP) × Nat) ⟨fun | (pout, cout, out, i) => (i ≤ (l).length) ∧ (out.length ≤ bd n ∧ ∀ z_ ∈ out, GoT.ok n z_) ∧ (out.length ≤ i) ∧ (impl_Replay_L1 l ([] : List DataP) = impl_Replay_L1 ((l).drop i) out), fun | (pout, cout, out, i) => (l).length - i, fun | (pout, cout, out, i) => [(3, .v (.slice pout ((out).length) cout)), (9, .v (.int .i64 (((i : Nat) : Int)))), (8, .v (.int .i64 ((((l).length : Nat) : Int)))), (7, .v (.slice pl ((l).length) cl))], fun | (pout, cout, out, i) => [], fun | (pout, cout, out, i) => [], fun | (pout, cout, out, i) => [(0, MF.rs .stb pl cl l), (3, MF.os pout cout out)]⟩ (p1, 0, ([] : List DataP), 0) ⟨(Nat.zero_le _), (okl_mk (Nat.zero_le _) (fun a ha => by cases ha) : GoT.ok n ([] : List DataP)), (by simp), rfl⟩
  (.cons rfl (.cons rfl (.cons rfl (.cons rfl (.nil))))) .nil .nil [0, 3] rfl ?_
 rintro ⟨pout, cout, out, i⟩ hpre
 have hpre_ : (i ≤ (l).length) ∧ (out.length ≤ bd n ∧ ∀ z_ ∈ out, GoT.ok n z_) ∧ (out.length ≤ i) ∧ (impl_Replay_L1 l ([] : List DataP) = impl_Replay_L1 ((l).drop i) out) := hpre
 clear hpre
 obtain ⟨v1, v2, v3, v4⟩ := hpre_
 have v2L := v2.1
 refine R0 ?_
 refine WX.cases 10 rfl (fun h1 => ?_) (fun h1 => ?_)
 ·skip
  have h1d := B.dt h1
  have e1i : i < (l).length := (by omega)
  obtain ⟨e1, e1h⟩ : ∃ e1, (l)[i]? = some e1 := ⟨_, List.getElem?_eq_getElem e1i⟩
  have ok1 : GoT.ok n e1 := (okl hokl).2 _ (List.mem_of_getElem? e1h)
  refine R0 ?_
  refine WX.idx 0 i ttOk rfl rfl rfl rfl rfl rfl rfl rfl rfl rfl e1i ?_
  rintro ad1 rfl
  refine WX.ldE 0 4 e1 ttOk rfl rfl rfl rfl rfl rfl rfl rfl e1h (fun _ => rfl) (fun _ => rfl) ?_
  rintro ⟨⟨⟩, ⟨⟨p2, c1⟩, ⟨p3, c2⟩, ⟨p4, c3⟩, ⟨⟩, ⟨⟩⟩⟩
  refine R0 ?_
  refine WX.cases 16 rfl (fun h2 => ?_) (fun h2 => ?_)
  ·skip
   have h2d := B.nt' h2
   refine R0 ?_
   refine WX.cases 20 rfl (fun h3 => ?_) (fun h3 => ?_)
   ·skip
    have h3d := B.nt' h3
    refine R0 ?_
    refine WX.see rfl rfl rfl (fun _ hΓ => looks_arith rfl rfl rfl rfl (by unfold I64; first | omega | (simp only [List.length_take] at *; omega))) ?_
    refine R0 ?_
    exact WX.iter (pout, cout, out, i + 1) ⟨(by omega), (okl_of v2), (by first | assumption | omega | (simp; omega)), (by rw [v4, drop_get e1h]; simp only [impl_Replay_L1, h2, h3, ct, cf])⟩ (by first | (dsimp only; omega) | omega) (.cons rfl (.cons rfl (.cons rfl (.cons rfl (.nil))))) .nil .nil [0, 3] rfl
   ·skip
    have h3d := B.nf' h3
    refine R0 ?_
    refine WX.callN [3] 7 rfl (fun _ _ h => GoT.ow_rd h) (fun _ f hf => GoT.fak f hf) rfl rfl rfl rfl rfl (fun _ => rfl) rfl (fun w G bs H hI hHG hH hs hΓ => f92 w n (by omega) H hH out pout cout 93 [Value.pointer (some ⟨bs 5, 0, none⟩)] (fun e0_ => (impl_Replay_c1 e1 e0_)) (fun w1_ hb_ e0_ x0_ hk0_ hx0_ => f93 w1_ n (by omega) e0_ x0_.1.1 x0_.1.2 (hx0_ _ List.mem_cons_self) x0_.2.1.1 x0_.2.1.2 (hx0_ (MF.rs .der x0_.2.1.1 x0_.2.1.2 e0_.content) (by simp [GoT.fa])) x0_.2.2.1.1 x0_.2.2.1.2 (hx0_ (MF.rs .der x0_.2.2.1.1 x0_.2.2.1.2 e0_.keyName.parts) (by simp [GoT.fa])) e1 ⟨bs 5, 0, none⟩ (rd_boxH (α := Record) (a := e1) (x := ((), ((p2, c1), (p3, c2), (p4, c3), (), ()))) hI rfl hHG (All.cons (hΓ.get 4 rfl : RdSl _ _ _ _) (All.cons (hΓ.get 5 rfl : RdSl _ _ _ _) (All.cons (hΓ.get 6 rfl : RdSl _ _ _ _) All.nil))) hb_) hk0_ ok1) hs (okl_of v2)) (fun _ => rfl) (fun _ => rfl) ?_
    rintro ⟨p5, c4⟩ hq1
    have q1 := len_slices_DeleteFunc_Data out (fun e0_ => (impl_Replay_c1 e1 e0_))
    refine R0 ?_
    refine WX.cases 26 rfl (fun h4 => ?_) (fun h4 => ?_)
    ·skip
     have h4d := B.et h4
     refine R0 ?_
     refine WX.callF 9 (fun _ _ h => GoT.ow_rd h) (fun _ f hf => GoT.fak f hf) rfl rfl rfl rfl rfl (fun _ => rfl) rfl (fun w G bs hI hΓ => f81 w n (by omega) e1.data p2 c1 (hΓ.get 4 rfl) p3 c2 (hΓ.get 5 rfl) p4 c3 (hΓ.get 6 rfl) ((ok_Record ok1).2)) (fun _ => rfl) (fun _ => rfl) ?_
     rintro ⟨⟨p6, c5⟩, ⟨p7, c6⟩, ⟨p8, c7⟩, ⟨⟩, ⟨⟩⟩ hq2
     refine WX.bld ttOk rfl rfl rfl rfl rfl rfl rfl ?_
     intro p9
     refine WX.opn (kk := 5) 501 8 15 rfl rfl rfl ?_
     intro xs1 hx1
     refine WX.turn [12, 13, 14] 16 rfl (fun h hs => ol_one (α := DataP) (a := (impl_copyData e1.data)) (x := ((p6, c5), (p7, c6), (p8, c7), (), ())) hs) (gs := [MF.ol [.slice p6 (((impl_copyData e1.data).name.parts).length) c5, .slice p7 (((impl_copyData e1.data).content).length) c6, .slice p8 (((impl_copyData e1.data).keyName.parts).length) c7, .int .i64 ((impl_copyData e1.data).freshUntil), .int .i64 ((impl_copyData e1.data).signature)] ([(impl_copyData e1.data)] : List DataP)]) rfl ?_
     have r2 : (slices_DeleteFunc_Data out (fun e0_ => (impl_Replay_c1 e1 e0_))).length ≤ bd n := (okl hq1).1
     refine WX.know (fun G hΓ => (hΓ.get 16 rfl : OwL _ _ _).rd.one) ?_
     intro ho1
     refine WX.appR1 501 31 (((slices_DeleteFunc_Data out (fun e0_ => (impl_Replay_c1 e1 e0_))) ++ [(impl_copyData e1.data)]) : List DataP).length ttOk rfl rfl rfl rfl rfl rfl rfl rfl rfl rfl rfl rfl rfl ho1 (by simp) (by simp; omega) (by simp; omega) (fun _ _ => rfl) ?_
     intro p10 c8
     refine WX.turn [15, 16] 17 rfl (fun h hs => ol_app hs) (gs := [MF.ol (xs1 ++ [.slice p6 (((impl_copyData e1.data).name.parts).length) c5, .slice p7 (((impl_copyData e1.data).content).length) c6, .slice p8 (((impl_copyData e1.data).keyName.parts).length) c7, .int .i64 ((impl_copyData e1.data).freshUntil), .int .i64 ((impl_copyData e1.data).signature)]) (((slices_DeleteFunc_Data out (fun e0_ => (impl_Replay_c1 e1 e0_))) ++ [(impl_copyData e1.data)]) : List DataP)]) rfl ?_
     refine R0 ?_
     refine WX.see rfl rfl rfl (fun _ hΓ => looks_arith rfl rfl rfl rfl (by unfold I64; first | omega | (simp only [List.length_take] at *; omega))) ?_
     refine R0 ?_
     refine WX.seal 501 17 18 rfl rfl rfl rfl rfl ?_
     refine WX.turn [19] 3 rfl (fun _ h => h) rfl ?_
     exact WX.iter (p10, c8, ((slices_DeleteFunc_Data out (fun e0_ => (impl_Replay_c1 e1 e0_))) ++ [(impl_copyData e1.data)]), i + 1) ⟨(by omega), (okl_mk (by simp; omega) (all_app (okl hq1).2 (all_cons (α := DataP) hq2 (fun a ha => by cases ha))) : GoT.ok n (((slices_DeleteFunc_Data out (fun e0_ => (impl_Replay_c1 e1 e0_))) ++ [(impl_copyData e1.data)]) : List DataP)), (by first | assumption | omega | (simp; omega)), (by rw [v4, drop_get e1h]; simp only [impl_Replay_L1, h2, h3, h4, ct, cf])⟩ (by first | (dsimp only; omega) | omega) (.cons rfl (.cons rfl (.cons rfl (.cons rfl (.nil))))) .nil .nil [0, 3] rfl
    ·skip
     have h4d := B.ef h4
     refine R0 ?_
     refine WX.see rfl rfl rfl (fun _ hΓ => looks_arith rfl rfl rfl rfl (by unfold I64; first | omega | (simp only [List.length_take] at *; omega))) ?_
     refine R0 ?_
     refine WX.turn [8] 3 rfl (fun _ h => h) rfl ?_
     exact WX.iter (p5, c4, (slices_DeleteFunc_Data out (fun e0_ => (impl_Replay_c1 e1 e0_))), i + 1) ⟨(by omega), hq1, (by first | assumption | omega | (simp; omega)), (by rw [v4, drop_get e1h]; simp only [impl_Replay_L1, h2, h3, h4, ct, cf])⟩ (by first | (dsimp only; omega) | omega) (.cons rfl (.cons rfl (.cons rfl (.cons rfl (.nil))))) .nil .nil [0, 3] rfl
  ·skip
   have h2d := B.nf' h2
   refine R0 ?_
   refine WX.callN [3] 20 rfl (fun _ _ h => GoT.ow_rd h) (fun _ f hf => GoT.fak f hf) rfl rfl rfl rfl rfl (fun _ => rfl) rfl (fun w G bs H hI hHG hH hs hΓ => f92 w n (by omega) H hH out pout cout 93 [Value.pointer (some ⟨bs 5, 0, none⟩)] (fun e0_ => (impl_Replay_c1 e1 e0_)) (fun w1_ hb_ e0_ x0_ hk0_ hx0_ => f93 w1_ n (by omega) e0_ x0_.1.1 x0_.1.2 (hx0_ _ List.mem_cons_self) x0_.2.1.1 x0_.2.1.2 (hx0_ (MF.rs .der x0_.2.1.1 x0_.2.1.2 e0_.content) (by simp [GoT.fa])) x0_.2.2.1.1 x0_.2.2.1.2 (hx0_ (MF.rs .der x0_.2.2.1.1 x0_.2.2.1.2 e0_.keyName.parts) (by simp [GoT.fa])) e1 ⟨bs 5, 0, none⟩ (rd_boxH (α := Record) (a := e1) (x := ((), ((p2, c1), (p3, c2), (p4, c3), (), ()))) hI rfl hHG (All.cons (hΓ.get 4 rfl : RdSl _ _ _ _) (All.cons (hΓ.get 5 rfl : RdSl _ _ _ _) (All.cons (hΓ.get 6 rfl : RdSl _ _ _ _) All.nil))) hb_) hk0_ ok1) hs (okl_of v2)) (fun _ => rfl) (fun _ => rfl) ?_
   rintro ⟨p11, c9⟩ hq3
   have q2 := len_slices_DeleteFunc_Data out (fun e0_ => (impl_Replay_c1 e1 e0_))
   refine R0 ?_
   refine WX.cases 26 rfl (fun h5 => ?_) (fun h5 => ?_)
   ·skip
    have h5d := B.et h5
    refine R0 ?_
    refine WX.callF 22 (fun _ _ h => GoT.ow_rd h) (fun _ f hf => GoT.fak f hf) rfl rfl rfl rfl rfl (fun _ => rfl) rfl (fun w G bs hI hΓ => f81 w n (by omega) e1.data p2 c1 (hΓ.get 4 rfl) p3 c2 (hΓ.get 5 rfl) p4 c3 (hΓ.get 6 rfl) ((ok_Record ok1).2)) (fun _ => rfl) (fun _ => rfl) ?_
    rintro ⟨⟨p12, c10⟩, ⟨p13, c11⟩, ⟨p14, c12⟩, ⟨⟩, ⟨⟩⟩ hq4
    refine WX.bld ttOk rfl rfl rfl rfl rfl rfl rfl ?_
    intro p15
    refine WX.opn (kk := 5) 502 21 28 rfl rfl rfl ?_
    intro xs2 hx2
    refine WX.turn [25, 26, 27] 29 rfl (fun h hs => ol_one (α := DataP) (a := (impl_copyData e1.data)) (x := ((p12, c10), (p13, c11), (p14, c12), (), ())) hs) (gs := [MF.ol [.slice p12 (((impl_copyData e1.data).name.parts).length) c10, .slice p13 (((impl_copyData e1.data).content).length) c11, .slice p14 (((impl_copyData e1.data).keyName.parts).length) c12, .int .i64 ((impl_copyData e1.data).freshUntil), .int .i64 ((impl_copyData e1.data).signature)] ([(impl_copyData e1.data)] : List DataP)]) rfl ?_
    have r3 : (slices_DeleteFunc_Data out (fun e0_ => (impl_Replay_c1 e1 e0_))).length ≤ bd n := (okl hq3).1
    refine WX.know (fun G hΓ => (hΓ.get 29 rfl : OwL _ _ _).rd.one) ?_
    intro ho2
    refine WX.appR1 502 31 (((slices_DeleteFunc_Data out (fun e0_ => (impl_Replay_c1 e1 e0_))) ++ [(impl_copyData e1.data)]) : List DataP).length ttOk rfl rfl rfl rfl rfl rfl rfl rfl rfl rfl rfl rfl rfl ho2 (by simp) (by simp; omega) (by simp; omega) (fun _ _ => rfl) ?_
    intro p16 c13
    refine WX.turn [28, 29] 30 rfl (fun h hs => ol_app hs) (gs := [MF.ol (xs2 ++ [.slice p12 (((impl_copyData e1.data).name.parts).length) c10, .slice p13 (((impl_copyData e1.data).content).length) c11, .slice p14 (((impl_copyData e1.data).keyName.parts).length) c12, .int .i64 ((impl_copyData e1.data).freshUntil), .int .i64 ((impl_copyData e1.data).signature)]) (((slices_DeleteFunc_Data out (fun e0_ => (impl_Replay_c1 e1 e0_))) ++ [(impl_copyData e1.data)]) : List DataP)]) rfl ?_
    refine R0 ?_
    refine WX.see rfl rfl rfl (fun _ hΓ => looks_arith rfl rfl rfl rfl (by unfold I64; first | omega | (simp only [List.length_take] at *; omega))) ?_
    refine R0 ?_
    refine WX.seal 502 30 31 rfl rfl rfl rfl rfl ?_
    refine WX.turn [32] 3 rfl (fun _ h => h) rfl ?_
    exact WX.iter (p16, c13, ((slices_DeleteFunc_Data out (fun e0_ => (impl_Replay_c1 e1 e0_))) ++ [(impl_copyData e1.data)]), i + 1) ⟨(by omega), (okl_mk (by simp; omega) (all_app (okl hq3).2 (all_cons (α := DataP) hq4 (fun a ha => by cases ha))) : GoT.ok n (((slices_DeleteFunc_Data out (fun e0_ => (impl_Replay_c1 e1 e0_))) ++ [(impl_copyData e1.data)]) : List DataP)), (by first | assumption | omega | (simp; omega)), (by rw [v4, drop_get e1h]; simp only [impl_Replay_L1, h2, h5, ct, cf])⟩ (by first | (dsimp only; omega) | omega) (.cons rfl (.cons rfl (.cons rfl (.cons rfl (.nil))))) .nil .nil [0, 3] rfl
   ·skip
    have h5d := B.ef h5
    refine R0 ?_
    refine WX.see rfl rfl rfl (fun _ hΓ => looks_arith rfl rfl rfl rfl (by unfold I64; first | omega | (simp only [List.length_take] at *; omega))) ?_
    refine R0 ?_
    refine WX.turn [21] 3 rfl (fun _ h => h) rfl ?_
    exact WX.iter (p11, c9, (slices_DeleteFunc_Data out (fun e0_ => (impl_Replay_c1 e1 e0_))), i + 1) ⟨(by omega), hq3, (by first | assumption | omega | (simp; omega)), (by rw [v4, drop_get e1h]; simp only [impl_Replay_L1, h2, h5, ct, cf])⟩ (by first | (dsimp only; omega) | omega) (.cons rfl (.cons rfl (.cons rfl (.cons rfl (.nil))))) .nil .nil [0, 3] rfl
 ·skip
  have h1d := B.df h1
  refine R0 ?_
  have hX1 : impl_Replay_L1 l ([] : List DataP) = ((out) : List DataP) := by rw [v4, List.drop_eq_nil_of_le (show (l).length ≤ i by omega)]; simp only [impl_Replay_L1, ct, cf]
  have hP1 : impl_Replay l = out := by simp only [impl_Replay, hX1, ct, cf]
  refine R1 ?_
  intro w1 G bs hI hΓ
  rw [hP1]
  exact Post.of [3] (pout, cout) hI hΓ rfl rfl rfl (okl_of v2)
theorem f95 (w : World) (n : Nat) (hn : n + 0 ≤ 9) (l : (List DataP)) (pl : Option Addr) (cl : Nat) (N0 : RdSl (hp w) pl cl l) (n_ : Name) (K1 : Option Addr) (M1 : Nat) (N1 : RdSl (hp w) K1 M1 n_.parts) (hokl : GoT.ok n l) (hokn_ : GoT.ok n n_) :
  Does Tryz.prog 95 #[.slice pl ((l).length) cl, .agg #[.slice K1 ((n_.parts).length) M1]] w emp (fun (rv : Value) (_ : World) => rv = .int .i64 ((spec_l16Find l n_)) ∧ GoT.ok n ((spec_l16Find l n_) : Int)) := by
 have hbP := bd_pos n
 have hbB := bd_big (n := n) (by omega)
 refine WX.enter (tt := tt) (Γ := [(0, MF.rs .stb pl cl l), (1, MF.rs .stb K1 M1 n_.parts)]) Tryz.func95 rfl (by kernel_rfl) rfl (allS_cons rfl N0 (allS_cons rfl N1 allS_nil)) ?_
 refine R0 ?_
 have r1 : (l).length ≤ bd n := (okl hokl).1
 refine WX.loop (ι := Nat) ⟨fun i => (i ≤ (l).length) ∧ (spec_l16Find_L1 n_ l 0 = spec_l16Find_L1 n_ ((l).drop i) i), fun i => (l).length - i, fun i => [(5, .v (.int .i64 (((i : Nat) : Int)))), (3, .p 3 0), (0, .v (.slice pl ((l).length) cl))], fun i => [(3, ⟨30, [.slice K1 ((n_.parts).length) M1]⟩)], fun i => [], fun i => [(0, MF.rs .stb pl cl l), (1, MF.rs .stb K1 M1 n_.parts)]⟩ 0 ⟨(Nat.zero_le _), rfl⟩
  (.cons rfl (.cons rfl (.cons rfl (.nil)))) (.cons rfl (.nil)) .nil [0, 1] rfl ?_
 rintro i hpre
 have hpre_ : (i ≤ (l).length) ∧ (spec_l16Find_L1 n_ l 0 = spec_l16Find_L1 n_ ((l).drop i) i) := hpre
 clear hpre
 obtain ⟨v1, v2⟩ := hpre_
 refine R0 ?_
 refine WX.cases 9 rfl (fun h1 => ?_) (fun h1 => ?_)
 ·skip
  have h1d := B.dt h1
  have e1i : i < (l).length := (by omega)
  obtain ⟨e1, e1h⟩ : ∃ e1, (l)[i]? = some e1 := ⟨_, List.getElem?_eq_getElem e1i⟩
  have ok1 : GoT.ok n e1 := (okl hokl).2 _ (List.mem_of_getElem? e1h)
  refine R0 ?_
  refine WX.draw [] mixed ?_
  intro bs G0 hΓ0
  refine DX.takes (fuel := 5) ttOk [(0, true), (1, true)] (by kernel_rfl) rfl ?_
  refine DX.idx 2 0 i ttOk hΓ0 (by kernel_rfl) rfl rfl rfl rfl rfl rfl rfl rfl rfl rfl rfl e1i ?_
  rintro ad1 rfl
  refine DX.takes (fuel := 3) ttOk [(3, true)] (by kernel_rfl) rfl ?_
  refine DX.ldE 4 0 2 e1 ttOk hΓ0 (by kernel_rfl) rfl rfl rfl rfl rfl rfl rfl rfl e1h (fun _ => rfl) (fun _ => rfl) ?_
  rintro ⟨⟨p1, c1⟩, ⟨p2, c2⟩, ⟨p3, c3⟩, ⟨⟩, ⟨⟩⟩
  refine DX.takes (fuel := 1) ttOk [(5, false)] (by kernel_rfl) rfl ?_
  refine DX.callV 6 rfl (by kernel_rfl) rfl rfl rfl rfl rfl rfl (fun _ => rfl) rfl (fun w G bs hI hΓ => f146 w n (by omega) e1.name p1 c1 (hΓ.get 2 rfl) n_ K1 M1 (hΓ.get 1 rfl) ((ok_DataP ok1).1) hokn_) ?_
  intro hq1
  refine DX.tail2 [] rfl rfl (by kernel_rfl) ?_
  refine R0 ?_
  refine WX.cases 18 rfl (fun h2 => ?_) (fun h2 => ?_)
  ·skip
   refine R0 ?_
   have hP1 : spec_l16Find_L1 n_ l 0 = (some ((i : Nat) : Int)) := by rw [v2, drop_get e1h]; simp only [spec_l16Find_L1, h2, ct, cf]
   have hP2 : spec_l16Find l n_ = ((i : Nat) : Int) := by simp only [spec_l16Find, hP1, ct, cf]
   refine R1 ?_
   intro w1 G bs hI hΓ
   rw [hP2]
   exact ⟨rfl, (show I64 ((i : Nat) : Int) from (by unfold I64; omega))⟩
  ·skip
   refine R0 ?_
   refine WX.see rfl rfl rfl (fun _ hΓ => looks_arith rfl rfl rfl rfl (by unfold I64; first | omega | (simp only [List.length_take] at *; omega))) ?_
   refine R0 ?_
   exact WX.iter (i + 1) ⟨(by omega), (by rw [v2, drop_get e1h]; simp only [spec_l16Find_L1, h2, ct, cf])⟩ (by first | (dsimp only; omega) | omega) (.cons rfl (.cons rfl (.cons rfl (.nil)))) (.cons rfl (.nil)) .nil [0, 1] rfl
 ·skip
  have h1d := B.df h1
  refine R0 ?_
  have hX1 : spec_l16Find_L1 n_ l 0 = none := by rw [v2, List.drop_eq_nil_of_le (show (l).length ≤ i by omega)]; simp only [spec_l16Find_L1, ct, cf]
  have hP3 : spec_l16Find l n_ = (-1) := by simp only [spec_l16Find, hX1, ct, cf]
  refine R1 ?_
  intro w1 G bs hI hΓ
  rw [hP3]
  exact ⟨rfl, (show I64 (-1) from (by unfold I64; omega))⟩
theorem lt_l16L (n_ : Name) : ∀ (l : List DataP) (i : Nat) (j : Int), spec_l16Find_L1 n_ l i = some j → j < ((i + l.length : Nat) : Int)
  | [], i, j, h => by cases h
  | x :: l, i, j, h => by
    simp only [spec_l16Find_L1] at h
    cases hx : spec_EqualNames x.name n_
    · rw [hx, cond_false] at h
      have := lt_l16L n_ l (i + 1) j h
      simp only [List.length_cons]; omega
    · rw [hx, cond_true] at h
      cases h
      simp only [List.length_cons]; omega
theorem lt_l16Find (l : List DataP) (n_ : Name) : spec_l16Find l n_ < ((l.length : Nat) : Int) := by
  unfold spec_l16Find
  cases h : spec_l16Find_L1 n_ l 0 with
  | none => show (-1 : Int) < _; omega
  | some j => have := lt_l16L n_ l 0 j h; show j < _; omega
theorem f22 (w : World) (n : Nat) (hn : n + 0 ≤ 9) (l : (List Record)) (pl : Option Addr) (cl : Nat) (N0 : RdSl (hp w) pl cl l) (hokl : GoT.ok n l) :
  Does Tryz.prog 22 #[.slice pl ((l).length) cl] w emp (Post w emp (fun x : GoT.X ((List DataP)) => (GoT.sh ((spec_Replay l) : (List DataP)) x).headD undef) (fun x => GoT.oa ((spec_Replay l) : (List DataP)) x) (GoT.ok n ((spec_Replay l) : (List DataP)))) := by
 have hbP := bd_pos n
 have hbB := bd_big (n := n) (by omega)
 refine WX.enter (tt := tt) (Γ := [(0, MF.rs .stb pl cl l)]) Tryz.func22 rfl (by kernel_rfl) rfl (allS_cons rfl N0 allS_nil) ?_
 refine R0 ?_
 refine WX.bld ttOk rfl rfl rfl rfl rfl rfl rfl ?_
 intro p1
 refine R0 ?_
 refine WX.free 1 (MF.ol [] ([] : List DataP)) rfl ?_
 refine WX.seal 7 1 2 rfl rfl rfl rfl rfl ?_
 have r1 : (l).length ≤ bd n := (okl hokl).1
 refine WX.loop (ι := (Option Addr) × Nat × (List DataP) × Nat) ⟨fun | (pout, cout, out, i) => (i ≤ (l).length) ∧ (out.length ≤ bd n ∧ ∀ z_ ∈ out, GoT.ok n z_) ∧ (out.length ≤ i) ∧ (spec_Replay_L1 l ([] : List DataP) = spec_Replay_L1 ((l).drop i) out), fun | (pout, cout, out, i) => (l).length - i, fun | (pout, cout, out, i) => [(3, .v (.slice pout ((out).length) cout)), (4, .v (.int .i64 (((i : Nat) : Int)))), (0, .v (.slice pl ((l).length) cl))], fun | (pout, cout, out, i) => [], fun | (pout, cout, out, i) => [], fun | (pout, cout, out, i) => [(0, MF.rs .stb pl cl l), (3, MF.os pout cout out)]⟩ (p1, 0, ([] : List DataP), 0) ⟨(Nat.zero_le _), (okl_mk (Nat.zero_le _) (fun a ha => by cases ha) : GoT.ok n ([] : List DataP)), (by simp), rfl⟩
  (.cons rfl (.cons rfl (.cons rfl (.nil)))) .nil .nil [0, 3] rfl ?_
 rintro ⟨pout, cout, out, i⟩ hpre
 have hpre_ : (i ≤ (l).length) ∧ (out.length ≤ bd n ∧ ∀ z_ ∈ out, GoT.ok n z_) ∧ (out.length ≤ i) ∧ (spec_Replay_L1 l ([] : List DataP) = spec_Replay_L1 ((l).drop i) out) := hpre
 clear hpre
 obtain ⟨v1, v2, v3, v4⟩ := hpre_
 have v2L := v2.1
 refine R0 ?_
 refine WX.cases 11 rfl (fun h1 => ?_) (fun h1 => ?_)
 ·skip
  have h1d := B.dt h1
  have e1i : i < (l).length := (by omega)
  obtain ⟨e1, e1h⟩ : ∃ e1, (l)[i]? = some e1 := ⟨_, List.getElem?_eq_getElem e1i⟩
  have ok1 : GoT.ok n e1 := (okl hokl).2 _ (List.mem_of_getElem? e1h)
  refine R0 ?_
  refine WX.idx 0 i ttOk rfl rfl rfl rfl rfl rfl rfl rfl rfl rfl e1i ?_
  rintro ad1 rfl
  refine R0 ?_
  refine WX.ldE 0 4 e1 ttOk rfl rfl rfl rfl rfl rfl rfl rfl e1h (fun _ => rfl) (fun _ => rfl) ?_
  rintro ⟨⟨⟩, ⟨⟨p2, c1⟩, ⟨p3, c2⟩, ⟨p4, c3⟩, ⟨⟩, ⟨⟩⟩⟩
  refine R0 ?_
  refine WX.cases 20 rfl (fun h2 => ?_) (fun h2 => ?_)
  ·skip
   have h2d := B.nt' h2
   refine R0 ?_
   refine WX.idx 0 i ttOk rfl rfl rfl rfl rfl rfl rfl rfl rfl rfl e1i ?_
   rintro ad2 ⟨⟩
   refine R0 ?_
   refine WX.ldE 0 7 e1 ttOk rfl rfl rfl rfl rfl rfl rfl rfl e1h (fun _ => rfl) (fun _ => rfl) ?_
   rintro ⟨⟨⟩, ⟨⟨p5, c4⟩, ⟨p6, c5⟩, ⟨p7, c6⟩, ⟨⟩, ⟨⟩⟩⟩
   refine R0 ?_
   refine WX.cases 27 rfl (fun h3 => ?_) (fun h3 => ?_)
   ·skip
    have h3d := B.nt' h3
    refine R0 ?_
    refine WX.see rfl rfl rfl (fun _ hΓ => looks_arith rfl rfl rfl rfl (by unfold I64; first | omega | (simp only [List.length_take] at *; omega))) ?_
    refine R0 ?_
    exact WX.iter (pout, cout, out, i + 1) ⟨(by omega), (okl_of v2), (by first | assumption | omega | (simp; omega)), (by rw [v4, drop_get e1h]; simp only [spec_Replay_L1, h2, h3, ct, cf])⟩ (by first | (dsimp only; omega) | omega) (.cons rfl (.cons rfl (.cons rfl (.nil)))) .nil .nil [0, 3] rfl
   ·skip
    have h3d := B.nf' h3
    refine R0 ?_
    refine WX.idx 0 i ttOk rfl rfl rfl rfl rfl rfl rfl rfl rfl rfl e1i ?_
    rintro ad3 ⟨⟩
    refine R0 ?_
    refine WX.ldE 0 10 e1 ttOk rfl rfl rfl rfl rfl rfl rfl rfl e1h (fun _ => rfl) (fun _ => rfl) ?_
    rintro ⟨⟨⟩, ⟨⟨p8, c7⟩, ⟨p9, c8⟩, ⟨p10, c9⟩, ⟨⟩, ⟨⟩⟩⟩
    refine WX.der 13 (MF.rs .der pout cout out) rfl (fun _ hΓ => (hΓ.get 3 rfl : OwSl _ _ _ _).rd) ?_
    refine WX.callV rfl rfl rfl rfl rfl (fun _ => rfl) rfl (fun w G bs hI hΓ => f95 w n (by omega) out pout cout (hΓ.get 13 rfl) e1.data.name p8 c7 (hΓ.get 10 rfl) (okl_of v2) ((ok_DataP (ok_Record ok1).2).1)) ?_
    intro hq1
    have q1 := lt_l16Find out e1.data.name
    refine R0 ?_
    refine WX.cases 37 rfl (fun h4 => ?_) (fun h4 => ?_)
    ·skip
     have h4d := B.dt h4
     refine R0 ?_
     refine WX.opn (kk := 5) 501 3 14 rfl rfl rfl ?_
     intro xs1 hx1
     refine WX.cap 501 rfl ?_
     intro hcap1
     refine WX.know (fun G hΓ => (hΓ.get 14 rfl : OwL _ _ _).rd.one) ?_
     intro hone1
     refine WX.draw [4, 9, 10] mixed ?_
     intro bs G0 hΓ0
     refine DX.takes (fuel := 9) ttOk [(1, true), (2, true)] (by kernel_rfl) rfl ?_
     have r2 : -9223372036854775808 ≤ (spec_l16Find out e1.data.name) ∧ (spec_l16Find out e1.data.name) ≤ 9223372036854775807 := hq1
     refine DX.seeP 3 (by kernel_rfl) rfl rfl rfl rfl (looksP_slH (Int.toNat (spec_l16Find out e1.data.name)) ttOk rfl rfl rfl rfl (show (spec_l16Find out e1.data.name) = (((Int.toNat (spec_l16Find out e1.data.name)) : Nat) : Int) from (by omega)) (Nat.le_trans (show (Int.toNat (spec_l16Find out e1.data.name)) ≤ (out).length from (by omega)) hcap1)) ?_
     refine DX.takes (fuel := 6) ttOk [(5, true), (6, true)] (by kernel_rfl) rfl ?_
     refine DX.seeP 7 (by kernel_rfl) rfl rfl rfl rfl (looksP_arith rfl rfl rfl rfl (by unfold I64; first | omega | (simp only [List.length_take] at *; omega))) ?_
     refine DX.seeP 8 (by kernel_rfl) rfl rfl rfl rfl (looksP_slL (Int.toNat ((spec_l16Find out e1.data.name) + 1)) ttOk rfl rfl rfl rfl (show (spec_l16Find out e1.data.name) + 1 = (((Int.toNat ((spec_l16Find out e1.data.name) + 1)) : Nat) : Int) from (by omega)) (show (Int.toNat ((spec_l16Find out e1.data.name) + 1)) ≤ (out).length from (by omega))) ?_
     refine DX.tail2 [0, 4, 9, 10] rfl rfl (by kernel_rfl) ?_
     refine WX.bld ttOk rfl rfl rfl rfl rfl rfl rfl ?_
     intro p11
     refine WX.free 15 (MF.ol [] ([] : List DataP)) rfl ?_
     refine WX.appPre 38 501 (Int.toNat (spec_l16Find out e1.data.name)) ((List.take (Int.toNat (spec_l16Find out e1.data.name)) out) : List DataP).length ttOk rfl rfl rfl rfl rfl rfl rfl rfl rfl rfl rfl rfl rfl hone1 (show (Int.toNat (spec_l16Find out e1.data.name)) ≤ (out).length from (by omega)) (by have z_ := (show (Int.toNat (spec_l16Find out e1.data.name)) ≤ (out).length from (by omega)); first | (simp; done) | (simp only [List.length_append, List.length_cons, List.length_nil, List.length_take, List.length_drop, List.length_set]; omega) | (simp; omega)) (by first | assumption | omega | (simp; omega)) (by first | assumption | omega | (simp; omega)) (fun _ _ => rfl) ?_
     intro p12 c10
     refine WX.turn [14] 16 rfl (fun h hs => ol_split (Int.toNat (spec_l16Find out e1.data.name)) (show (Int.toNat (spec_l16Find out e1.data.name)) ≤ (out).length from (by omega)) hs) (gs := [MF.ol (List.take ((Int.toNat (spec_l16Find out e1.data.name)) * 5) xs1) (List.take (Int.toNat (spec_l16Find out e1.data.name)) out), MF.ol (List.drop ((Int.toNat (spec_l16Find out e1.data.name)) * 5) xs1) (List.drop (Int.toNat (spec_l16Find out e1.data.name)) out)]) rfl ?_
     refine WX.turn [15, 16] 18 rfl (fun h hs => ol_app hs) (gs := [MF.ol ([] ++ (List.take ((Int.toNat (spec_l16Find out e1.data.name)) * 5) xs1)) ((List.take (Int.toNat (spec_l16Find out e1.data.name)) out) : List DataP)]) rfl ?_
     refine WX.appSuf 38 501 (Int.toNat ((spec_l16Find out e1.data.name) + 1)) (((List.take (Int.toNat (spec_l16Find out e1.data.name)) out) ++ (List.drop (Int.toNat ((spec_l16Find out e1.data.name) + 1)) out)) : List DataP).length ttOk rfl rfl rfl rfl rfl rfl rfl rfl rfl rfl rfl rfl rfl hone1 (show (Int.toNat ((spec_l16Find out e1.data.name) + 1)) ≤ (out).length from (by omega)) (by have z_ := (show (Int.toNat ((spec_l16Find out e1.data.name) + 1)) ≤ (out).length from (by omega)); first | (simp; done) | (simp only [List.length_append, List.length_cons, List.length_nil, List.length_take, List.length_drop, List.length_set]; omega) | (simp; omega)) (by first | assumption | omega | (simp; omega)) (by first | assumption | omega | (simp; omega)) (fun _ _ => rfl) ?_
     intro p13 c11
     refine WX.turn [17] 19 rfl (fun h hs => ol_drop (show (Int.toNat (spec_l16Find out e1.data.name)) ≤ (Int.toNat ((spec_l16Find out e1.data.name) + 1)) by omega) (show (Int.toNat ((spec_l16Find out e1.data.name) + 1)) ≤ (out).length from (by omega)) hs) (gs := [MF.ol (List.drop ((Int.toNat ((spec_l16Find out e1.data.name) + 1)) * 5) xs1) (List.drop (Int.toNat ((spec_l16Find out e1.data.name) + 1)) out)]) rfl ?_
     refine WX.turn [18, 19] 20 rfl (fun h hs => ol_app hs) (gs := [MF.ol (([] ++ (List.take ((Int.toNat (spec_l16Find out e1.data.name)) * 5) xs1)) ++ (List.drop ((Int.toNat ((spec_l16Find out e1.data.name) + 1)) * 5) xs1)) (((List.take (Int.toNat (spec_l16Find out e1.data.name)) out) ++ (List.drop (Int.toNat ((spec_l16Find out e1.data.name) + 1)) out)) : List DataP)]) rfl ?_
     refine R0 ?_
     refine WX.idx 0 i ttOk rfl rfl rfl rfl rfl rfl rfl rfl rfl rfl e1i ?_
     rintro ad4 ⟨⟩
     refine R0 ?_
     refine WX.ldE 0 21 e1 ttOk rfl rfl rfl rfl rfl rfl rfl rfl e1h (fun _ => rfl) (fun _ => rfl) ?_
     rintro ⟨⟨⟩, ⟨⟨p14, c12⟩, ⟨p15, c13⟩, ⟨p16, c14⟩, ⟨⟩, ⟨⟩⟩⟩
     refine R0 ?_
     refine WX.cases 53 rfl (fun h5 => ?_) (fun h5 => ?_)
     ·skip
      have h5d := B.et h5
      refine R0 ?_
      refine WX.idx 0 i ttOk rfl rfl rfl rfl rfl rfl rfl rfl rfl rfl e1i ?_
      rintro ad5 ⟨⟩
      refine R0 ?_
      refine WX.ldE 0 24 e1 ttOk rfl rfl rfl rfl rfl rfl rfl rfl e1h (fun _ => rfl) (fun _ => rfl) ?_
      rintro ⟨⟨⟩, ⟨⟨p17, c15⟩, ⟨p18, c16⟩, ⟨p19, c17⟩, ⟨⟩, ⟨⟩⟩⟩
      refine WX.callF 27 (fun _ _ h => GoT.ow_rd h) (fun _ f hf => GoT.fak f hf) rfl rfl rfl rfl rfl (fun _ => rfl) rfl (fun w G bs hI hΓ => f83 w n (by omega) e1.data p17 c15 (hΓ.get 24 rfl) p18 c16 (hΓ.get 25 rfl) p19 c17 (hΓ.get 26 rfl) ((ok_Record ok1).2)) (fun _ => rfl) (fun _ => rfl) ?_
      rintro ⟨⟨p20, c18⟩, ⟨p21, c19⟩, ⟨p22, c20⟩, ⟨⟩, ⟨⟩⟩ hq2
      refine R0 ?_
      refine WX.bld ttOk rfl rfl rfl rfl rfl rfl rfl ?_
      intro p23
      refine WX.turn [30, 31, 32] 33 rfl (fun h hs => ol_one (α := DataP) (a := (spec_l8Copy e1.data)) (x := ((p20, c18), (p21, c19), (p22, c20), (), ())) hs) (gs := [MF.ol [.slice p20 (((spec_l8Copy e1.data).name.parts).length) c18, .slice p21 (((spec_l8Copy e1.data).content).length) c19, .slice p22 (((spec_l8Copy e1.data).keyName.parts).length) c20, .int .i64 ((spec_l8Copy e1.data).freshUntil), .int .i64 ((spec_l8Copy e1.data).signature)] ([(spec_l8Copy e1.data)] : List DataP)]) rfl ?_
      refine WX.know (fun G hΓ => (hΓ.get 33 rfl : OwL _ _ _).rd.one) ?_
      intro ho1
      refine WX.appR1 38 62 ((((List.take (Int.toNat (spec_l16Find out e1.data.name)) out) ++ (List.drop (Int.toNat ((spec_l16Find out e1.data.name) + 1)) out)) ++ [(spec_l8Copy e1.data)]) : List DataP).length ttOk rfl rfl rfl rfl rfl rfl rfl rfl rfl rfl rfl rfl rfl ho1 (by first | (simp; done) | omega | (simp only [List.length_append, List.length_cons, List.length_nil, List.length_take, List.length_drop, List.length_set]; omega) | (simp; omega)) (by first | assumption | omega | (simp; omega)) (by first | assumption | omega | (simp; omega)) (fun _ _ => rfl) ?_
      intro p24 c21
      refine WX.turn [20, 33] 34 rfl (fun h hs => ol_app hs) (gs := [MF.ol ((([] ++ (List.take ((Int.toNat (spec_l16Find out e1.data.name)) * 5) xs1)) ++ (List.drop ((Int.toNat ((spec_l16Find out e1.data.name) + 1)) * 5) xs1)) ++ [.slice p20 (((spec_l8Copy e1.data).name.parts).length) c18, .slice p21 (((spec_l8Copy e1.data).content).length) c19, .slice p22 (((spec_l8Copy e1.data).keyName.parts).length) c20, .int .i64 ((spec_l8Copy e1.data).freshUntil), .int .i64 ((spec_l8Copy e1.data).signature)]) ((((List.take (Int.toNat (spec_l16Find out e1.data.name)) out) ++ (List.drop (Int.toNat ((spec_l16Find out e1.data.name) + 1)) out)) ++ [(spec_l8Copy e1.data)]) : List DataP)]) rfl ?_
      refine R0 ?_
      refine WX.see rfl rfl rfl (fun _ hΓ => looks_arith rfl rfl rfl rfl (by unfold I64; first | omega | (simp only [List.length_take] at *; omega))) ?_
      refine R0 ?_
      refine WX.seal 38 34 35 rfl rfl rfl rfl rfl ?_
      refine WX.turn [36] 3 rfl (fun _ h => h) rfl ?_
      exact WX.iter (p24, c21, (((List.take (Int.toNat (spec_l16Find out e1.data.name)) out) ++ (List.drop (Int.toNat ((spec_l16Find out e1.data.name) + 1)) out)) ++ [(spec_l8Copy e1.data)]), i + 1) ⟨(by omega), (okl_mk (by first | assumption | omega | (simp; omega)) (all_app (all_app (fun a ha => v2.2 a (List.mem_of_mem_take ha)) (fun a ha => v2.2 a (List.mem_of_mem_drop ha))) (all_cons (α := DataP) hq2 (fun a ha => by cases ha))) : GoT.ok n ((((List.take (Int.toNat (spec_l16Find out e1.data.name)) out) ++ (List.drop (Int.toNat ((spec_l16Find out e1.data.name) + 1)) out)) ++ [(spec_l8Copy e1.data)]) : List DataP)), (by first | assumption | omega | (simp; omega)), (by rw [v4, drop_get e1h]; simp only [spec_Replay_L1, h2, h3, h4, h5, ct, cf])⟩ (by first | (dsimp only; omega) | omega) (.cons rfl (.cons rfl (.cons rfl (.nil)))) .nil .nil [0, 3] rfl
     ·skip
      have h5d := B.ef h5
      refine R0 ?_
      refine WX.see rfl rfl rfl (fun _ hΓ => looks_arith rfl rfl rfl rfl (by unfold I64; first | omega | (simp only [List.length_take] at *; omega))) ?_
      refine R0 ?_
      refine WX.seal 38 20 37 rfl rfl rfl rfl rfl ?_
      refine WX.turn [38] 3 rfl (fun _ h => h) rfl ?_
      exact WX.iter (p13, c11, ((List.take (Int.toNat (spec_l16Find out e1.data.name)) out) ++ (List.drop (Int.toNat ((spec_l16Find out e1.data.name) + 1)) out)), i + 1) ⟨(by omega), (okl_mk (by first | assumption | omega | (simp; omega)) (all_app (fun a ha => v2.2 a (List.mem_of_mem_take ha)) (fun a ha => v2.2 a (List.mem_of_mem_drop ha))) : GoT.ok n (((List.take (Int.toNat (spec_l16Find out e1.data.name)) out) ++ (List.drop (Int.toNat ((spec_l16Find out e1.data.name) + 1)) out)) : List DataP)), (by first | assumption | omega | (simp; omega)), (by rw [v4, drop_get e1h]; simp only [spec_Replay_L1, h2, h3, h4, h5, ct, cf])⟩ (by first | (dsimp only; omega) | omega) (.cons rfl (.cons rfl (.cons rfl (.nil)))) .nil .nil [0, 3] rfl
    ·skip
     have h4d := B.df h4
     refine R0 ?_
     refine WX.idx 0 i ttOk rfl rfl rfl rfl rfl rfl rfl rfl rfl rfl e1i ?_
     rintro ad6 ⟨⟩
     refine R0 ?_
     refine WX.ldE 0 39 e1 ttOk rfl rfl rfl rfl rfl rfl rfl rfl e1h (fun _ => rfl) (fun _ => rfl) ?_
     rintro ⟨⟨⟩, ⟨⟨p25, c22⟩, ⟨p26, c23⟩, ⟨p27, c24⟩, ⟨⟩, ⟨⟩⟩⟩
     refine R0 ?_
     refine WX.cases 53 rfl (fun h6 => ?_) (fun h6 => ?_)
     ·skip
      have h6d := B.et h6
      refine R0 ?_
      refine WX.idx 0 i ttOk rfl rfl rfl rfl rfl rfl rfl rfl rfl rfl e1i ?_
      rintro ad7 ⟨⟩
      refine R0 ?_
      refine WX.ldE 0 42 e1 ttOk rfl rfl rfl rfl rfl rfl rfl rfl e1h (fun _ => rfl) (fun _ => rfl) ?_
      rintro ⟨⟨⟩, ⟨⟨p28, c25⟩, ⟨p29, c26⟩, ⟨p30, c27⟩, ⟨⟩, ⟨⟩⟩⟩
      refine WX.callF 45 (fun _ _ h => GoT.ow_rd h) (fun _ f hf => GoT.fak f hf) rfl rfl rfl rfl rfl (fun _ => rfl) rfl (fun w G bs hI hΓ => f83 w n (by omega) e1.data p28 c25 (hΓ.get 42 rfl) p29 c26 (hΓ.get 43 rfl) p30 c27 (hΓ.get 44 rfl) ((ok_Record ok1).2)) (fun _ => rfl) (fun _ => rfl) ?_
      rintro ⟨⟨p31, c28⟩, ⟨p32, c29⟩, ⟨p33, c30⟩, ⟨⟩, ⟨⟩⟩ hq3
      refine R0 ?_
      refine WX.bld ttOk rfl rfl rfl rfl rfl rfl rfl ?_
      intro p34
      refine WX.opn (kk := 5) 502 3 51 rfl rfl rfl ?_
      intro xs2 hx2
      refine WX.turn [48, 49, 50] 52 rfl (fun h hs => ol_one (α := DataP) (a := (spec_l8Copy e1.data)) (x := ((p31, c28), (p32, c29), (p33, c30), (), ())) hs) (gs := [MF.ol [.slice p31 (((spec_l8Copy e1.data).name.parts).length) c28, .slice p32 (((spec_l8Copy e1.data).content).length) c29, .slice p33 (((spec_l8Copy e1.data).keyName.parts).length) c30, .int .i64 ((spec_l8Copy e1.data).freshUntil), .int .i64 ((spec_l8Copy e1.data).signature)] ([(spec_l8Copy e1.data)] : List DataP)]) rfl ?_
      refine WX.know (fun G hΓ => (hΓ.get 52 rfl : OwL _ _ _).rd.one) ?_
      intro ho2
      refine WX.appR1 502 62 ((out ++ [(spec_l8Copy e1.data)]) : List DataP).length ttOk rfl rfl rfl rfl rfl rfl rfl rfl rfl rfl rfl rfl rfl ho2 (by simp) (by simp; omega) (by simp; omega) (fun _ _ => rfl) ?_
      intro p35 c31
      refine WX.turn [51, 52] 53 rfl (fun h hs => ol_app hs) (gs := [MF.ol (xs2 ++ [.slice p31 (((spec_l8Copy e1.data).name.parts).length) c28, .slice p32 (((spec_l8Copy e1.data).content).length) c29, .slice p33 (((spec_l8Copy e1.data).keyName.parts).length) c30, .int .i64 ((spec_l8Copy e1.data).freshUntil), .int .i64 ((spec_l8Copy e1.data).signature)]) ((out ++ [(spec_l8Copy e1.data)]) : List DataP)]) rfl ?_
      refine R0 ?_
      refine WX.see rfl rfl rfl (fun _ hΓ => looks_arith rfl rfl rfl rfl (by unfold I64; first | omega | (simp only [List.length_take] at *; omega))) ?_
      refine R0 ?_
      refine WX.seal 502 53 54 rfl rfl rfl rfl rfl ?_
      refine WX.turn [55] 3 rfl (fun _ h => h) rfl ?_
      exact WX.iter (p35, c31, (out ++ [(spec_l8Copy e1.data)]), i + 1) ⟨(by omega), (okl_mk (by simp; omega) (all_app v2.2 (all_cons (α := DataP) hq3 (fun a ha => by cases ha))) : GoT.ok n ((out ++ [(spec_l8Copy e1.data)]) : List DataP)), (by first | assumption | omega | (simp; omega)), (by rw [v4, drop_get e1h]; simp only [spec_Replay_L1, h2, h3, h4, h6, ct, cf])⟩ (by first | (dsimp only; omega) | omega) (.cons rfl (.cons rfl (.cons rfl (.nil)))) .nil .nil [0, 3] rfl
     ·skip
      have h6d := B.ef h6
      refine R0 ?_
      refine WX.see rfl rfl rfl (fun _ hΓ => looks_arith rfl rfl rfl rfl (by unfold I64; first | omega | (simp only [List.length_take] at *; omega))) ?_
      refine R0 ?_
      exact WX.iter (pout, cout, out, i + 1) ⟨(by omega), (okl_of v2), (by first | assumption | omega | (simp; omega)), (by rw [v4, drop_get e1h]; simp only [spec_Replay_L1, h2, h3, h4, h6, ct, cf])⟩ (by first | (dsimp only; omega) | omega) (.cons rfl (.cons rfl (.cons rfl (.nil)))) .nil .nil [0, 3] rfl
  ·skip
   have h2d := B.nf' h2
   refine R0 ?_
   refine WX.idx 0 i ttOk rfl rfl rfl rfl rfl rfl rfl rfl rfl rfl e1i ?_
   rintro ad8 ⟨⟩
   refine R0 ?_
   refine WX.ldE 0 56 e1 ttOk rfl rfl rfl rfl rfl rfl rfl rfl e1h (fun _ => rfl) (fun _ => rfl) ?_
   rintro ⟨⟨⟩, ⟨⟨p36, c32⟩, ⟨p37, c33⟩, ⟨p38, c34⟩, ⟨⟩, ⟨⟩⟩⟩
   refine WX.der 59 (MF.rs .der pout cout out) rfl (fun _ hΓ => (hΓ.get 3 rfl : OwSl _ _ _ _).rd) ?_
   refine WX.callV rfl rfl rfl rfl rfl (fun _ => rfl) rfl (fun w G bs hI hΓ => f95 w n (by omega) out pout cout (hΓ.get 59 rfl) e1.data.name p36 c32 (hΓ.get 56 rfl) (okl_of v2) ((ok_DataP (ok_Record ok1).2).1)) ?_
   intro hq4
   have q2 := lt_l16Find out e1.data.name
   refine R0 ?_
   refine WX.cases 37 rfl (fun h7 => ?_) (fun h7 => ?_)
   ·skip
    have h7d := B.dt h7
    refine R0 ?_
    refine WX.opn (kk := 5) 503 3 60 rfl rfl rfl ?_
    intro xs3 hx3
    refine WX.cap 503 rfl ?_
    intro hcap2
    refine WX.know (fun G hΓ => (hΓ.get 60 rfl : OwL _ _ _).rd.one) ?_
    intro hone2
    refine WX.draw [4, 9, 10] mixed ?_
    intro bs G0 hΓ0
    refine DX.takes (fuel := 9) ttOk [(1, true), (2, true)] (by kernel_rfl) rfl ?_
    have r3 : -9223372036854775808 ≤ (spec_l16Find out e1.data.name) ∧ (spec_l16Find out e1.data.name) ≤ 9223372036854775807 := hq4
    refine DX.seeP 3 (by kernel_rfl) rfl rfl rfl rfl (looksP_slH (Int.toNat (spec_l16Find out e1.data.name)) ttOk rfl rfl rfl rfl (show (spec_l16Find out e1.data.name) = (((Int.toNat (spec_l16Find out e1.data.name)) : Nat) : Int) from (by omega)) (Nat.le_trans (show (Int.toNat (spec_l16Find out e1.data.name)) ≤ (out).length from (by omega)) hcap2)) ?_
    refine DX.takes (fuel := 6) ttOk [(5, true), (6, true)] (by kernel_rfl) rfl ?_
    refine DX.seeP 7 (by kernel_rfl) rfl rfl rfl rfl (looksP_arith rfl rfl rfl rfl (by unfold I64; first | omega | (simp only [List.length_take] at *; omega))) ?_
    refine DX.seeP 8 (by kernel_rfl) rfl rfl rfl rfl (looksP_slL (Int.toNat ((spec_l16Find out e1.data.name) + 1)) ttOk rfl rfl rfl rfl (show (spec_l16Find out e1.data.name) + 1 = (((Int.toNat ((spec_l16Find out e1.data.name) + 1)) : Nat) : Int) from (by omega)) (show (Int.toNat ((spec_l16Find out e1.data.name) + 1)) ≤ (out).length from (by omega))) ?_
    refine DX.tail2 [0, 4, 9, 10] rfl rfl (by kernel_rfl) ?_
    refine WX.bld ttOk rfl rfl rfl rfl rfl rfl rfl ?_
    intro p39
    refine WX.free 61 (MF.ol [] ([] : List DataP)) rfl ?_
    refine WX.appPre 38 503 (Int.toNat (spec_l16Find out e1.data.name)) ((List.take (Int.toNat (spec_l16Find out e1.data.name)) out) : List DataP).length ttOk rfl rfl rfl rfl rfl rfl rfl rfl rfl rfl rfl rfl rfl hone2 (show (Int.toNat (spec_l16Find out e1.data.name)) ≤ (out).length from (by omega)) (by have z_ := (show (Int.toNat (spec_l16Find out e1.data.name)) ≤ (out).length from (by omega)); first | (simp; done) | (simp only [List.length_append, List.length_cons, List.length_nil, List.length_take, List.length_drop, List.length_set]; omega) | (simp; omega)) (by first | assumption | omega | (simp; omega)) (by first | assumption | omega | (simp; omega)) (fun _ _ => rfl) ?_
    intro p40 c35
    refine WX.turn [60] 62 rfl (fun h hs => ol_split (Int.toNat (spec_l16Find out e1.data.name)) (show (Int.toNat (spec_l16Find out e1.data.name)) ≤ (out).length from (by omega)) hs) (gs := [MF.ol (List.take ((Int.toNat (spec_l16Find out e1.data.name)) * 5) xs3) (List.take (Int.toNat (spec_l16Find out e1.data.name)) out), MF.ol (List.drop ((Int.toNat (spec_l16Find out e1.data.name)) * 5) xs3) (List.drop (Int.toNat (spec_l16Find out e1.data.name)) out)]) rfl ?_
    refine WX.turn [61, 62] 64 rfl (fun h hs => ol_app hs) (gs := [MF.ol ([] ++ (List.take ((Int.toNat (spec_l16Find out e1.data.name)) * 5) xs3)) ((List.take (Int.toNat (spec_l16Find out e1.data.name)) out) : List DataP)]) rfl ?_
    refine WX.appSuf 38 503 (Int.toNat ((spec_l16Find out e1.data.name) + 1)) (((List.take (Int.toNat (spec_l16Find out e1.data.name)) out) ++ (List.drop (Int.toNat ((spec_l16Find out e1.data.name) + 1)) out)) : List DataP).length ttOk rfl rfl rfl rfl rfl rfl rfl rfl rfl rfl rfl rfl rfl hone2 (show (Int.toNat ((spec_l16Find out e1.data.name) + 1)) ≤ (out).length from (by omega)) (by have z_ := (show (Int.toNat ((spec_l16Find out e1.data.name) + 1)) ≤ (out).length from (by omega)); first | (simp; done) | (simp only [List.length_append, List.length_cons, List.length_nil, List.length_take, List.length_drop, List.length_set]; omega) | (simp; omega)) (by first | assumption | omega | (simp; omega)) (by first | assumption | omega | (simp; omega)) (fun _ _ => rfl) ?_
    intro p41 c36
    refine WX.turn [63] 65 rfl (fun h hs => ol_drop (show (Int.toNat (spec_l16Find out e1.data.name)) ≤ (Int.toNat ((spec_l16Find out e1.data.name) + 1)) by omega) (show (Int.toNat ((spec_l16Find out e1.data.name) + 1)) ≤ (out).length from (by omega)) hs) (gs := [MF.ol (List.drop ((Int.toNat ((spec_l16Find out e1.data.name) + 1)) * 5) xs3) (List.drop (Int.toNat ((spec_l16Find out e1.data.name) + 1)) out)]) rfl ?_
    refine WX.turn [64, 65] 66 rfl (fun h hs => ol_app hs) (gs := [MF.ol (([] ++ (List.take ((Int.toNat (spec_l16Find out e1.data.name)) * 5) xs3)) ++ (List.drop ((Int.toNat ((spec_l16Find out e1.data.name) + 1)) * 5) xs3)) (((List.take (Int.toNat (spec_l16Find out e1.data.name)) out) ++ (List.drop (Int.toNat ((spec_l16Find out e1.data.name) + 1)) out)) : List DataP)]) rfl ?_
    refine R0 ?_
    refine WX.idx 0 i ttOk rfl rfl rfl rfl rfl rfl rfl rfl rfl rfl e1i ?_
    rintro ad9 ⟨⟩
    refine R0 ?_
    refine WX.ldE 0 67 e1 ttOk rfl rfl rfl rfl rfl rfl rfl rfl e1h (fun _ => rfl) (fun _ => rfl) ?_
    rintro ⟨⟨⟩, ⟨⟨p42, c37⟩, ⟨p43, c38⟩, ⟨p44, c39⟩, ⟨⟩, ⟨⟩⟩⟩
    refine R0 ?_
    refine WX.cases 53 rfl (fun h8 => ?_) (fun h8 => ?_)
    ·skip
     have h8d := B.et h8
     refine R0 ?_
     refine WX.idx 0 i ttOk rfl rfl rfl rfl rfl rfl rfl rfl rfl rfl e1i ?_
     rintro ad10 ⟨⟩
     refine R0 ?_
     refine WX.ldE 0 70 e1 ttOk rfl rfl rfl rfl rfl rfl rfl rfl e1h (fun _ => rfl) (fun _ => rfl) ?_
     rintro ⟨⟨⟩, ⟨⟨p45, c40⟩, ⟨p46, c41⟩, ⟨p47, c42⟩, ⟨⟩, ⟨⟩⟩⟩
     refine WX.callF 73 (fun _ _ h => GoT.ow_rd h) (fun _ f hf => GoT.fak f hf) rfl rfl rfl rfl rfl (fun _ => rfl) rfl (fun w G bs hI hΓ => f83 w n (by omega) e1.data p45 c40 (hΓ.get 70 rfl) p46 c41 (hΓ.get 71 rfl) p47 c42 (hΓ.get 72 rfl) ((ok_Record ok1).2)) (fun _ => rfl) (fun _ => rfl) ?_
     rintro ⟨⟨p48, c43⟩, ⟨p49, c44⟩, ⟨p50, c45⟩, ⟨⟩, ⟨⟩⟩ hq5
     refine R0 ?_
     refine WX.bld ttOk rfl rfl rfl rfl rfl rfl rfl ?_
     intro p51
     refine WX.turn [76, 77, 78] 79 rfl (fun h hs => ol_one (α := DataP) (a := (spec_l8Copy e1.data)) (x := ((p48, c43), (p49, c44), (p50, c45), (), ())) hs) (gs := [MF.ol [.slice p48 (((spec_l8Copy e1.data).name.parts).length) c43, .slice p49 (((spec_l8Copy e1.data).content).length) c44, .slice p50 (((spec_l8Copy e1.data).keyName.parts).length) c45, .int .i64 ((spec_l8Copy e1.data).freshUntil), .int .i64 ((spec_l8Copy e1.data).signature)] ([(spec_l8Copy e1.data)] : List DataP)]) rfl ?_
     refine WX.know (fun G hΓ => (hΓ.get 79 rfl : OwL _ _ _).rd.one) ?_
     intro ho3
     refine WX.appR1 38 62 ((((List.take (Int.toNat (spec_l16Find out e1.data.name)) out) ++ (List.drop (Int.toNat ((spec_l16Find out e1.data.name) + 1)) out)) ++ [(spec_l8Copy e1.data)]) : List DataP).length ttOk rfl rfl rfl rfl rfl rfl rfl rfl rfl rfl rfl rfl rfl ho3 (by first | (simp; done) | omega | (simp only [List.length_append, List.length_cons, List.length_nil, List.length_take, List.length_drop, List.length_set]; omega) | (simp; omega)) (by first | assumption | omega | (simp; omega)) (by first | assumption | omega | (simp; omega)) (fun _ _ => rfl) ?_
     intro p52 c46
     refine WX.turn [66, 79] 80 rfl (fun h hs => ol_app hs) (gs := [MF.ol ((([] ++ (List.take ((Int.toNat (spec_l16Find out e1.data.name)) * 5) xs3)) ++ (List.drop ((Int.toNat ((spec_l16Find out e1.data.name) + 1)) * 5) xs3)) ++ [.slice p48 (((spec_l8Copy e1.data).name.parts).length) c43, .slice p49 (((spec_l8Copy e1.data).content).length) c44, .slice p50 (((spec_l8Copy e1.data).keyName.parts).length) c45, .int .i64 ((spec_l8Copy e1.data).freshUntil), .int .i64 ((spec_l8Copy e1.data).signature)]) ((((List.take (Int.toNat (spec_l16Find out e1.data.name)) out) ++ (List.drop (Int.toNat ((spec_l16Find out e1.data.name) + 1)) out)) ++ [(spec_l8Copy e1.data)]) : List DataP)]) rfl ?_
     refine R0 ?_
     refine WX.see rfl rfl rfl (fun _ hΓ => looks_arith rfl rfl rfl rfl (by unfold I64; first | omega | (simp only [List.length_take] at *; omega))) ?_
     refine R0 ?_
     refine WX.seal 38 80 81 rfl rfl rfl rfl rfl ?_
     refine WX.turn [82] 3 rfl (fun _ h => h) rfl ?_
     exact WX.iter (p52, c46, (((List.take (Int.toNat (spec_l16Find out e1.data.name)) out) ++ (List.drop (Int.toNat ((spec_l16Find out e1.data.name) + 1)) out)) ++ [(spec_l8Copy e1.data)]), i + 1) ⟨(by omega), (okl_mk (by first | assumption | omega | (simp; omega)) (all_app (all_app (fun a ha => v2.2 a (List.mem_of_mem_take ha)) (fun a ha => v2.2 a (List.mem_of_mem_drop ha))) (all_cons (α := DataP) hq5 (fun a ha => by cases ha))) : GoT.ok n ((((List.take (Int.toNat (spec_l16Find out e1.data.name)) out) ++ (List.drop (Int.toNat ((spec_l16Find out e1.data.name) + 1)) out)) ++ [(spec_l8Copy e1.data)]) : List DataP)), (by first | assumption | omega | (simp; omega)), (by rw [v4, drop_get e1h]; simp only [spec_Replay_L1, h2, h7, h8, ct, cf])⟩ (by first | (dsimp only; omega) | omega) (.cons rfl (.cons rfl (.cons rfl (.nil)))) .nil .nil [0, 3] rfl
    ·skip
     have h8d := B.ef h8
     refine R0 ?_
     refine WX.see rfl rfl rfl (fun _ hΓ => looks_arith rfl rfl rfl rfl (by unfold I64; first | omega | (simp only [List.length_take] at *; omega))) ?_
     refine R0 ?_
     refine WX.seal 38 66 83 rfl rfl rfl rfl rfl ?_
     refine WX.turn [84] 3 rfl (fun _ h => h) rfl ?_
     exact WX.iter (p41, c36, ((List.take (Int.toNat (spec_l16Find out e1.data.name)) out) ++ (List.drop (Int.toNat ((spec_l16Find out e1.data.name) + 1)) out)), i + 1) ⟨(by omega), (okl_mk (by first | assumption | omega | (simp; omega)) (all_app (fun a ha => v2.2 a (List.mem_of_mem_take ha)) (fun a ha => v2.2 a (List.mem_of_mem_drop ha))) : GoT.ok n (((List.take (Int.toNat (spec_l16Find out e1.data.name)) out) ++ (List.drop (Int.toNat ((spec_l16Find out e1.data.name) + 1)) out)) : List DataP)), (by first | assumption | omega | (simp; omega)), (by rw [v4, drop_get e1h]; simp only [spec_Replay_L1, h2, h7, h8, ct, cf])⟩ (by first | (dsimp only; omega) | omega) (.cons rfl (.cons rfl (.cons rfl (.nil)))) .nil .nil [0, 3] rfl
   ·skip
    have h7d := B.df h7
    refine R0 ?_
    refine WX.idx 0 i ttOk rfl rfl rfl rfl rfl rfl rfl rfl rfl rfl e1i ?_
    rintro ad11 ⟨⟩
    refine R0 ?_
    refine WX.ldE 0 85 e1 ttOk rfl rfl rfl rfl rfl rfl rfl rfl e1h (fun _ => rfl) (fun _ => rfl) ?_
    rintro ⟨⟨⟩, ⟨⟨p53, c47⟩, ⟨p54, c48⟩, ⟨p55, c49⟩, ⟨⟩, ⟨⟩⟩⟩
    refine R0 ?_
    refine WX.cases 53 rfl (fun h9 => ?_) (fun h9 => ?_)
    ·skip
     have h9d := B.et h9
     refine R0 ?_
     refine WX.idx 0 i ttOk rfl rfl rfl rfl rfl rfl rfl rfl rfl rfl e1i ?_
     rintro ad12 ⟨⟩
     refine R0 ?_
     refine WX.ldE 0 88 e1 ttOk rfl rfl rfl rfl rfl rfl rfl rfl e1h (fun _ => rfl) (fun _ => rfl) ?_
     rintro ⟨⟨⟩, ⟨⟨p56, c50⟩, ⟨p57, c51⟩, ⟨p58, c52⟩, ⟨⟩, ⟨⟩⟩⟩
     refine WX.callF 91 (fun _ _ h => GoT.ow_rd h) (fun _ f hf => GoT.fak f hf) rfl rfl rfl rfl rfl (fun _ => rfl) rfl (fun w G bs hI hΓ => f83 w n (by omega) e1.data p56 c50 (hΓ.get 88 rfl) p57 c51 (hΓ.get 89 rfl) p58 c52 (hΓ.get 90 rfl) ((ok_Record ok1).2)) (fun _ => rfl) (fun _ => rfl) ?_
     rintro ⟨⟨p59, c53⟩, ⟨p60, c54⟩, ⟨p61, c55⟩, ⟨⟩, ⟨⟩⟩ hq6
     refine R0 ?_
     refine WX.bld ttOk rfl rfl rfl rfl rfl rfl rfl ?_
     intro p62
     refine WX.opn (kk := 5) 504 3 97 rfl rfl rfl ?_
     intro xs4 hx4
     refine WX.turn [94, 95, 96] 98 rfl (fun h hs => ol_one (α := DataP) (a := (spec_l8Copy e1.data)) (x := ((p59, c53), (p60, c54), (p61, c55), (), ())) hs) (gs := [MF.ol [.slice p59 (((spec_l8Copy e1.data).name.parts).length) c53, .slice p60 (((spec_l8Copy e1.data).content).length) c54, .slice p61 (((spec_l8Copy e1.data).keyName.parts).length) c55, .int .i64 ((spec_l8Copy e1.data).freshUntil), .int .i64 ((spec_l8Copy e1.data).signature)] ([(spec_l8Copy e1.data)] : List DataP)]) rfl ?_
     refine WX.know (fun G hΓ => (hΓ.get 98 rfl : OwL _ _ _).rd.one) ?_
     intro ho4
     refine WX.appR1 504 62 ((out ++ [(spec_l8Copy e1.data)]) : List DataP).length ttOk rfl rfl rfl rfl rfl rfl rfl rfl rfl rfl rfl rfl rfl ho4 (by simp) (by simp; omega) (by simp; omega) (fun _ _ => rfl) ?_
     intro p63 c56
     refine WX.turn [97, 98] 99 rfl (fun h hs => ol_app hs) (gs := [MF.ol (xs4 ++ [.slice p59 (((spec_l8Copy e1.data).name.parts).length) c53, .slice p60 (((spec_l8Copy e1.data).content).length) c54, .slice p61 (((spec_l8Copy e1.data).keyName.parts).length) c55, .int .i64 ((spec_l8Copy e1.data).freshUntil), .int .i64 ((spec_l8Copy e1.data).signature)]) ((out ++ [(spec_l8Copy e1.data)]) : List DataP)]) rfl ?_
     refine R0 ?_
     refine WX.see rfl rfl rfl (fun _ hΓ => looks_arith rfl rfl rfl rfl (by unfold I64; first | omega | (simp only [List.length_take] at *; omega))) ?_
     refine R0 ?_
     refine WX.seal 504 99 100 rfl rfl rfl rfl rfl ?_
     refine WX.turn [101] 3 rfl (fun _ h => h) rfl ?_
     exact WX.iter (p63, c56, (out ++ [(spec_l8Copy e1.data)]), i + 1) ⟨(by omega), (okl_mk (by simp; omega) (all_app v2.2 (all_cons (α := DataP) hq6 (fun a ha => by cases ha))) : GoT.ok n ((out ++ [(spec_l8Copy e1.data)]) : List DataP)), (by first | assumption | omega | (simp; omega)), (by rw [v4, drop_get e1h]; simp only [spec_Replay_L1, h2, h7, h9, ct, cf])⟩ (by first | (dsimp only; omega) | omega) (.cons rfl (.cons rfl (.cons rfl (.nil)))) .nil .nil [0, 3] rfl
    ·skip
     have h9d := B.ef h9
     refine R0 ?_
     refine WX.see rfl rfl rfl (fun _ hΓ => looks_arith rfl rfl rfl rfl (by unfold I64; first | omega | (simp only [List.length_take] at *; omega))) ?_
     refine R0 ?_
     exact WX.iter (pout, cout, out, i + 1) ⟨(by omega), (okl_of v2), (by first | assumption | omega | (simp; omega)), (by rw [v4, drop_get e1h]; simp only [spec_Replay_L1, h2, h7, h9, ct, cf])⟩ (by first | (dsimp only; omega) | omega) (.cons rfl (.cons rfl (.cons rfl (.nil)))) .nil .nil [0, 3] rfl
 ·skip
  have h1d := B.df h1
  refine R0 ?_
  have hX1 : spec_Replay_L1 l ([] : List DataP) = ((out) : List DataP) := by rw [v4, List.drop_eq_nil_of_le (show (l).length ≤ i by omega)]; simp only [spec_Replay_L1, ct, cf]
  have hP1 : spec_Replay l = out := by simp only [spec_Replay, hX1, ct, cf]
  refine R1 ?_
  intro w1 G bs hI hΓ
  rw [hP1]
  exact Post.of [3] (pout, cout) hI hΓ rfl rfl rfl (okl_of v2)
theorem f23 (w : World) (n : Nat) (hn : n + 1 ≤ 9) (l : Log) (K0 : Option Addr) (M0 : Nat) (N0 : RdSl (hp w) K0 M0 l.durable) (K1 : Option Addr) (M1 : Nat) (N1 : RdSl (hp w) K1 M1 l.volatile) (hokl : GoT.ok n l) :
  Does Tryz.prog 23 #[.agg #[.slice K0 ((l.durable).length) M0, .slice K1 ((l.volatile).length) M1]] w emp (Post w emp (fun x : GoT.X ((List DataP)) => (GoT.sh ((impl_LogContents l) : (List DataP)) x).headD undef) (fun x => GoT.oa ((impl_LogContents l) : (List DataP)) x) (GoT.ok (n + 1) ((impl_LogContents l) : (List DataP)))) := by
 have hbP := bd_pos n
 have hbS0 : bd (n + 1) = 4 * bd (n) := bd_succ (n := n) (by omega)
 have hbB := bd_big (n := (n + 1)) (by omega)
 have hbM := bd_mono (show n ≤ n + 1 by omega)
 refine WX.enter (tt := tt) (Γ := [(0, MF.rs .stb K0 M0 l.durable), (1, MF.rs .stb K1 M1 l.volatile)]) Tryz.func23 rfl (by kernel_rfl) rfl (allS_cons rfl N0 (allS_cons rfl N1 allS_nil)) ?_
 refine R0 ?_
 refine WX.callF 2 (fun _ _ h => GoT.ow_rd h) (fun _ f hf => GoT.fak f hf) rfl rfl rfl rfl rfl (fun _ => rfl) rfl (fun w G bs hI hΓ => f90 w n (by omega) l K0 M0 (hΓ.get 0 rfl) K1 M1 (hΓ.get 1 rfl) hokl) (fun _ => rfl) (fun _ => rfl) ?_
 rintro ⟨p1, c1⟩ hq1
 refine WX.callF 4 (fun _ _ h => GoT.ow_rd h) (fun _ f hf => GoT.fak f hf) rfl rfl rfl rfl rfl (fun _ => rfl) rfl (fun w G bs hI hΓ => f21 w (n + 1) (by omega) (impl_allRecords l) p1 c1 (hΓ.get 2 rfl) hq1) (fun _ => rfl) (fun _ => rfl) ?_
 rintro ⟨p2, c2⟩ hq2
 refine R0 ?_
 have hP1 : impl_LogContents l = (impl_Replay (impl_allRecords l)) := by simp only [impl_LogContents, ct, cf]
 refine R1 ?_
 intro w1 G bs hI hΓ
 rw [hP1]
 exact Post.of [5] (p2, c2) hI hΓ rfl rfl rfl hq2
theorem f24 (w : World) (n : Nat) (hn : n + 1 ≤ 9) (l : Log) (K0 : Option Addr) (M0 : Nat) (N0 : RdSl (hp w) K0 M0 l.durable) (K1 : Option Addr) (M1 : Nat) (N1 : RdSl (hp w) K1 M1 l.volatile) (hokl : GoT.ok n l) :
  Does Tryz.prog 24 #[.agg #[.slice K0 ((l.durable).length) M0, .slice K1 ((l.volatile).length) M1]] w emp (Post w emp (fun x : GoT.X ((List DataP)) => (GoT.sh ((spec_LogContents l) : (List DataP)) x).headD undef) (fun x => GoT.oa ((spec_LogContents l) : (List DataP)) x) (GoT.ok (n + 1) ((spec_LogContents l) : (List DataP)))) := by
 have hbP := bd_pos n
 have hbS0 : bd (n + 1) = 4 * bd (n) := bd_succ (n := n) (by omega)
 have hbB := bd_big (n := (n + 1)) (by omega)
 have hbM := bd_mono (show n ≤ n + 1 by omega)
 refine WX.enter (tt := tt) (Γ := [(0, MF.rs .stb K0 M0 l.durable), (1, MF.rs .stb K1 M1 l.volatile)]) Tryz.func24 rfl (by kernel_rfl) rfl (allS_cons rfl N0 (allS_cons rfl N1 allS_nil)) ?_
 refine R0 ?_
 refine WX.draw [5, 6, 7] mixed ?_
 intro bs G0 hΓ0
 refine DX.takes (fuel := 4) ttOk [(0, true), (1, false), (3, true), (4, false)] (by kernel_rfl) rfl ?_
 refine DX.callF 2 2 (fun _ _ h => GoT.ow_rd h) (fun _ f hf => GoT.fak f hf) rfl (by kernel_rfl) rfl rfl rfl rfl rfl rfl (fun _ => rfl) rfl (fun w G bs hI hΓ => f89 w n (by omega) l.durable K0 M0 (hΓ.get 0 rfl) ((ok_Log hokl).1)) (fun _ => rfl) (fun _ => rfl) ?_
 rintro ⟨p1, c1⟩ hq1
 refine DX.tail2 [5, 6, 7] rfl rfl (by kernel_rfl) ?_
 refine WX.opn (kk := 6) 501 3 4 rfl rfl rfl ?_
 intro xs1 hx1
 have r1 : (l.durable).length ≤ bd n := (okl (ok_Log hokl).1).1
 have r2 : (l.volatile).length ≤ bd n := (okl (ok_Log hokl).2).1
 have r3 : (spec_l29Recs l.durable).length ≤ bd n := (okl hq1).1
 refine WX.appS 501 1 5 (((spec_l29Recs l.durable) ++ l.volatile) : List Record).length ttOk rfl rfl rfl rfl rfl rfl rfl rfl rfl rfl rfl rfl rfl (by simp) (by simp; omega) (by simp; omega) (fun _ _ _ => rfl) ?_
 intro ys1 p2 c2
 refine WX.freeze [4] 6 (MF.rl .stb xs1 ((spec_l29Recs l.durable) : List Record)) rfl rfl (fun h hs => (sep_one hs : OwL _ _ _).rd) ?_
 refine WX.stb2 7 (MF.rl .stb (xs1 ++ ys1) (((spec_l29Recs l.durable) ++ l.volatile) : List Record)) rfl 6 5 rfl rfl rfl rfl (fun G a b => RdL.append (b : RdL _ _ _) (a : RdL _ _ _)) ?_
 refine WX.sealS 501 7 8 rfl rfl rfl rfl rfl ?_
 refine WX.callF 9 (fun _ _ h => GoT.ow_rd h) (fun _ f hf => GoT.fak f hf) rfl rfl rfl rfl rfl (fun _ => rfl) rfl (fun w G bs hI hΓ => f22 w (n + 1) (by omega) ((spec_l29Recs l.durable) ++ l.volatile) p2 c2 (hΓ.get 8 rfl) (okl_mk (by simp; omega) (all_app (fun a ha => GoT.okm (by omega) ((okl hq1).2 a ha)) (fun a ha => GoT.okm (by omega) ((okl (ok_Log hokl).2).2 a ha))) : GoT.ok (n + 1) (((spec_l29Recs l.durable) ++ l.volatile) : List Record))) (fun _ => rfl) (fun _ => rfl) ?_
 rintro ⟨p3, c3⟩ hq2
 refine R0 ?_
 have hP1 : spec_LogContents l = (spec_Replay ((spec_l29Recs l.durable) ++ l.volatile)) := by simp only [spec_LogContents, ct, cf]
 refine R1 ?_
 intro w1 G bs hI hΓ
 rw [hP1]
 exact Post.of [10] (p3, c3) hI hΓ rfl rfl rfl hq2
end Go.Proofs.YtolepebgdfdciaaGreat

namespace Go.Stp
set_option linter.unusedVariables false
set_option linter.unusedSimpArgs false
def impl_CompactLog_L1 : List DataP → (List Record) → (List Record)
  | [], out => ((out) : List Record)
  | e1 :: rest_, out =>
    impl_CompactLog_L1 rest_ (((out ++ [(Record.mk 1 e1)])) : List Record)
def impl_CompactLog (l : Log) : Log :=
  match impl_CompactLog_L1 (impl_LogContents l) ([] : List Record) with
    | out =>
      (Log.mk out ([]))
def spec_CompactLog_L1 : List DataP → (List Record) → (List Record)
  | [], out => ((out) : List Record)
  | e1 :: rest_, out =>
    spec_CompactLog_L1 rest_ (((out ++ [(Record.mk 1 e1)])) : List Record)
def spec_CompactLog (l : Log) : Log :=
  match spec_CompactLog_L1 (spec_LogContents l) ([] : List Record) with
    | out =>
      (Log.mk out ([]))
def impl_AppendRecord (l : Log) (r : Record) : Log × Bool :=
  bif (!(impl_ValidLog (Log.mk ((impl_copyLog l).durable) ((impl_copyLog l).volatile ++ [(Record.mk r.kind (impl_copyData r.data))])))) then
    ((impl_copyLog l), false)
  else
    ((Log.mk ((impl_copyLog l).durable) ((impl_copyLog l).volatile ++ [(Record.mk r.kind (impl_copyData r.data))])), true)
def spec_AppendRecord (l : Log) (r : Record) : Log × Bool :=
  bif (!(spec_ValidLog (Log.mk ((spec_l29Copy l).durable) ((spec_l29Copy l).volatile ++ [(Record.mk r.kind (spec_l8Copy r.data))])))) then
    ((spec_l29Copy l), false)
  else
    ((Log.mk ((spec_l29Copy l).durable) ((spec_l29Copy l).volatile ++ [(Record.mk r.kind (spec_l8Copy r.data))])), true)
end Go.Stp

namespace Go.Proofs.YtolepebgdfdciaaGreat
open Go.Stp
set_option linter.unusedVariables false
set_option linter.unusedSimpArgs false
theorem f25 (w : World) (n : Nat) (hn : n + 1 ≤ 9) (l : Log) (K0 : Option Addr) (M0 : Nat) (N0 : RdSl (hp w) K0 M0 l.durable) (K1 : Option Addr) (M1 : Nat) (N1 : RdSl (hp w) K1 M1 l.volatile) (hokl : GoT.ok n l) :
  Does Tryz.prog 25 #[.agg #[.slice K0 ((l.durable).length) M0, .slice K1 ((l.volatile).length) M1]] w emp (Post w emp (fun x : GoT.X (Log) => .agg ⟨GoT.sh ((impl_CompactLog l) : Log) x⟩) (fun x => GoT.oa ((impl_CompactLog l) : Log) x) (GoT.ok (n + 1) ((impl_CompactLog l) : Log))) := by
 have hbP := bd_pos n
 have hbS0 : bd (n + 1) = 4 * bd (n) := bd_succ (n := n) (by omega)
 have hbB := bd_big (n := (n + 1)) (by omega)
 have hbM := bd_mono (show n ≤ n + 1 by omega)
 refine WX.enter (tt := tt) (Γ := [(0, MF.rs .stb K0 M0 l.durable), (1, MF.rs .stb K1 M1 l.volatile)]) Tryz.func25 rfl (by kernel_rfl) rfl (allS_cons rfl N0 (allS_cons rfl N1 allS_nil)) ?_
 refine R0 ?_
 refine WX.callF 2 (fun _ _ h => GoT.ow_rd h) (fun _ f hf => GoT.fak f hf) rfl rfl rfl rfl rfl (fun _ => rfl) rfl (fun w G bs hI hΓ => f23 w n (by omega) l K0 M0 (hΓ.get 0 rfl) K1 M1 (hΓ.get 1 rfl) hokl) (fun _ => rfl) (fun _ => rfl) ?_
 rintro ⟨p1, c1⟩ hq1
 refine R0 ?_
 refine WX.row0 501 6 none rfl ?_
 refine WX.free 4 (MF.ol [] ([] : List Record)) rfl ?_
 refine WX.opn (kk := 5) 502 3 5 rfl rfl rfl ?_
 intro xs1 hx1
 have r1 : (impl_LogContents l).length ≤ bd (n + 1) := (okl hq1).1
 refine WX.loop (ι := Nat × (Option Addr) × Nat × (List Value) × (List Record)) ⟨fun | (i, pout, cout, xsout, out) => (i ≤ ((impl_LogContents l)).length) ∧ (∀ z_ ∈ out, GoT.ok (n + 1) z_) ∧ (out.length ≤ i) ∧ (impl_CompactLog_L1 (impl_LogContents l) ([] : List Record) = impl_CompactLog_L1 (((impl_LogContents l)).drop i) out), fun | (i, pout, cout, xsout, out) => ((impl_LogContents l)).length - i, fun | (i, pout, cout, xsout, out) => [(10, .v (.int .i64 (((i : Nat) : Int)))), (9, .v (.int .i64 (((((impl_LogContents l)).length : Nat) : Int)))), (8, .v (.slice p1 (((impl_LogContents l)).length) c1)), (3, .p 3 0), (2, .p 2 0)], fun | (i, pout, cout, xsout, out) => [(3, ⟨26, [.slice pout ((out).length) cout, .slice none (0) 0]⟩), (2, ⟨26, [.slice none (0) 0, .slice none (0) 0]⟩)], fun | (i, pout, cout, xsout, out) => [(502, ⟨5, p1, ((impl_LogContents l)).length, c1, xs1⟩), (501, ⟨6, pout, (out).length, cout, xsout⟩)], fun | (i, pout, cout, xsout, out) => [(0, MF.rs .stb K0 M0 l.durable), (1, MF.rs .stb K1 M1 l.volatile), (4, MF.ol xsout (out : List Record)), (5, MF.ol (List.drop (i * 5) xs1) ((List.drop i (impl_LogContents l)) : List DataP))]⟩ (0, none, 0, [], ([] : List Record)) ⟨(Nat.zero_le _), (fun a ha => by cases ha), (by simp), rfl⟩
  (.cons rfl (.cons rfl (.cons rfl (.cons rfl (.cons rfl (.nil)))))) (.cons rfl (.cons rfl (.nil))) (.cons rfl (.cons rfl (.nil))) [0, 1, 4, 5] rfl ?_
 rintro ⟨i, pout, cout, xsout, out⟩ hpre
 have hpre_ : (i ≤ ((impl_LogContents l)).length) ∧ (∀ z_ ∈ out, GoT.ok (n + 1) z_) ∧ (out.length ≤ i) ∧ (impl_CompactLog_L1 (impl_LogContents l) ([] : List Record) = impl_CompactLog_L1 (((impl_LogContents l)).drop i) out) := hpre
 clear hpre
 obtain ⟨v1, v2, v3, v4⟩ := hpre_
 refine R0 ?_
 refine WX.cases 11 rfl (fun h1 => ?_) (fun h1 => ?_)
 ·skip
  have h1d := B.dt h1
  have e1i : i < ((impl_LogContents l)).length := (by omega)
  obtain ⟨e1, e1h⟩ : ∃ e1, ((impl_LogContents l))[i]? = some e1 := ⟨_, List.getElem?_eq_getElem e1i⟩
  have ok1 : GoT.ok (n + 1) e1 := (okl hq1).2 _ (List.mem_of_getElem? e1h)
  refine R0 ?_
  have hr1 : i < ((impl_LogContents l)).length := (by first | assumption | omega)
  refine WX.idxR 502 i ttOk rfl rfl rfl rfl rfl rfl rfl rfl rfl hr1 ?_
  rintro ad1 rfl
  refine WX.ldM 502 5 6 e1 ttOk rfl rfl rfl rfl rfl rfl rfl rfl rfl hr1 rfl e1h (fun _ => rfl) (fun _ => rfl) ?_
  rintro ⟨⟨p2, c2⟩, ⟨p3, c3⟩, ⟨p4, c4⟩, ⟨⟩, ⟨⟩⟩ hx2
  refine R0 ?_
  refine WX.bld ttOk rfl rfl rfl rfl rfl rfl rfl ?_
  intro p5
  refine WX.turn [9, 10, 11] 13 rfl (fun h hs => ol_one (α := Record) (a := (Record.mk 1 e1)) (x := ((), ((p2, c2), (p3, c3), (p4, c4), (), ()))) hs) (gs := [MF.ol [.int .i64 (1), .slice p2 ((e1.name.parts).length) c2, .slice p3 ((e1.content).length) c3, .slice p4 ((e1.keyName.parts).length) c4, .int .i64 (e1.freshUntil), .int .i64 (e1.signature)] ([(Record.mk 1 e1)] : List Record)]) rfl ?_
  refine WX.know (fun G hΓ => (hΓ.get 13 rfl : OwL _ _ _).rd.one) ?_
  intro ho1
  refine WX.appR1 501 18 ((out ++ [(Record.mk 1 e1)]) : List Record).length ttOk rfl rfl rfl rfl rfl rfl rfl rfl rfl rfl rfl rfl rfl ho1 (by simp) (by simp; omega) (by simp; omega) (fun _ _ => rfl) ?_
  intro p6 c5
  refine WX.turn [4, 13] 14 rfl (fun h hs => ol_app hs) (gs := [MF.ol (xsout ++ [.int .i64 (1), .slice p2 ((e1.name.parts).length) c2, .slice p3 ((e1.content).length) c3, .slice p4 ((e1.keyName.parts).length) c4, .int .i64 (e1.freshUntil), .int .i64 (e1.signature)]) ((out ++ [(Record.mk 1 e1)]) : List Record)]) rfl ?_
  refine R0 ?_
  refine WX.see rfl rfl rfl (fun _ hΓ => looks_arith rfl rfl rfl rfl (by unfold I64; first | omega | (simp only [List.length_take] at *; omega))) ?_
  refine R0 ?_
  refine WX.turn [14] 4 rfl (fun _ h => h) rfl ?_
  refine WX.turn [12] 5 rfl (fun _ h => h) rfl ?_
  exact WX.iter (i + 1, p6, c5, (xsout ++ [.int .i64 (1), .slice p2 ((e1.name.parts).length) c2, .slice p3 ((e1.content).length) c3, .slice p4 ((e1.keyName.parts).length) c4, .int .i64 (e1.freshUntil), .int .i64 (e1.signature)]), ((out ++ [(Record.mk 1 e1)]) : List Record)) ⟨(by omega), (all_app v2 (all_cons (α := Record) (And.intro (show I64 1 from (by unfold I64; omega)) ok1) (fun a ha => by cases ha))), (by first | assumption | omega | (simp; omega)), (by rw [v4, drop_get e1h]; simp only [impl_CompactLog_L1, ct, cf])⟩ (by first | (dsimp only; omega) | omega) (.cons rfl (.cons rfl (.cons rfl (.cons rfl (.cons rfl (.nil)))))) (.cons rfl (.cons rfl (.nil))) (.cons rfl (.cons rfl (.nil))) [0, 1, 4, 5] rfl
 ·skip
  have h1d := B.df h1
  refine R0 ?_
  have hX1 : impl_CompactLog_L1 (impl_LogContents l) ([] : List Record) = ((out) : List Record) := by rw [v4, List.drop_eq_nil_of_le (show ((impl_LogContents l)).length ≤ i by omega)]; simp only [impl_CompactLog_L1, ct, cf]
  refine WX.seal 501 4 15 rfl rfl rfl rfl rfl ?_
  refine WX.free 17 (MF.os none 0 ([] : List Record)) (owSl_nil _ _) ?_
  have hP1 : impl_CompactLog l = (Log.mk out ([])) := by simp only [impl_CompactLog, hX1, ct, cf]
  refine R1 ?_
  intro w1 G bs hI hΓ
  rw [hP1]
  exact Post.of [16, 17] ((pout, cout), (none, 0)) hI hΓ rfl rfl rfl (And.intro (okl_mk (by omega) v2 : GoT.ok (n + 1) (out : List Record)) (ok_nil (α := Record)))
theorem f26 (w : World) (n : Nat) (hn : n + 1 ≤ 9) (l : Log) (K0 : Option Addr) (M0 : Nat) (N0 : RdSl (hp w) K0 M0 l.durable) (K1 : Option Addr) (M1 : Nat) (N1 : RdSl (hp w) K1 M1 l.volatile) (hokl : GoT.ok n l) :
  Does Tryz.prog 26 #[.agg #[.slice K0 ((l.durable).length) M0, .slice K1 ((l.volatile).length) M1]] w emp (Post w emp (fun x : GoT.X (Log) => .agg ⟨GoT.sh ((spec_CompactLog l) : Log) x⟩) (fun x => GoT.oa ((spec_CompactLog l) : Log) x) (GoT.ok (n + 1) ((spec_CompactLog l) : Log))) := by
 have hbP := bd_pos n
 have hbS0 : bd (n + 1) = 4 * bd (n) := bd_succ (n := n) (by omega)
 have hbB := bd_big (n := (n + 1)) (by omega)
 have hbM := bd_mono (show n ≤ n + 1 by omega)
 refine WX.enter (tt := tt) (Γ := [(0, MF.rs .stb K0 M0 l.durable), (1, MF.rs .stb K1 M1 l.volatile)]) Tryz.func26 rfl (by kernel_rfl) rfl (allS_cons rfl N0 (allS_cons rfl N1 allS_nil)) ?_
 refine R0 ?_
 refine WX.callF 2 (fun _ _ h => GoT.ow_rd h) (fun _ f hf => GoT.fak f hf) rfl rfl rfl rfl rfl (fun _ => rfl) rfl (fun w G bs hI hΓ => f24 w n (by omega) l K0 M0 (hΓ.get 0 rfl) K1 M1 (hΓ.get 1 rfl) hokl) (fun _ => rfl) (fun _ => rfl) ?_
 rintro ⟨p1, c1⟩ hq1
 refine R0 ?_
 refine WX.row0 501 6 none rfl ?_
 refine WX.free 4 (MF.ol [] ([] : List Record)) rfl ?_
 refine WX.opn (kk := 5) 502 3 5 rfl rfl rfl ?_
 intro xs1 hx1
 have r1 : (spec_LogContents l).length ≤ bd (n + 1) := (okl hq1).1
 refine WX.loop (ι := Nat × (Option Addr) × Nat × (List Value) × (List Record)) ⟨fun | (i, pout, cout, xsout, out) => (i ≤ ((spec_LogContents l)).length) ∧ (∀ z_ ∈ out, GoT.ok (n + 1) z_) ∧ (out.length ≤ i) ∧ (spec_CompactLog_L1 (spec_LogContents l) ([] : List Record) = spec_CompactLog_L1 (((spec_LogContents l)).drop i) out), fun | (i, pout, cout, xsout, out) => ((spec_LogContents l)).length - i, fun | (i, pout, cout, xsout, out) => [(5, .v (.int .i64 (((i : Nat) : Int)))), (4, .v (.slice p1 (((spec_LogContents l)).length) c1)), (3, .p 3 0), (2, .p 2 0)], fun | (i, pout, cout, xsout, out) => [(3, ⟨26, [.slice pout ((out).length) cout, .slice none (0) 0]⟩), (2, ⟨26, [.slice none (0) 0, .slice none (0) 0]⟩)], fun | (i, pout, cout, xsout, out) => [(502, ⟨5, p1, ((spec_LogContents l)).length, c1, xs1⟩), (501, ⟨6, pout, (out).length, cout, xsout⟩)], fun | (i, pout, cout, xsout, out) => [(0, MF.rs .stb K0 M0 l.durable), (1, MF.rs .stb K1 M1 l.volatile), (4, MF.ol xsout (out : List Record)), (5, MF.ol (List.drop (i * 5) xs1) ((List.drop i (spec_LogContents l)) : List DataP))]⟩ (0, none, 0, [], ([] : List Record)) ⟨(Nat.zero_le _), (fun a ha => by cases ha), (by simp), rfl⟩
  (.cons rfl (.cons rfl (.cons rfl (.cons rfl (.nil))))) (.cons rfl (.cons rfl (.nil))) (.cons rfl (.cons rfl (.nil))) [0, 1, 4, 5] rfl ?_
 rintro ⟨i, pout, cout, xsout, out⟩ hpre
 have hpre_ : (i ≤ ((spec_LogContents l)).length) ∧ (∀ z_ ∈ out, GoT.ok (n + 1) z_) ∧ (out.length ≤ i) ∧ (spec_CompactLog_L1 (spec_LogContents l) ([] : List Record) = spec_CompactLog_L1 (((spec_LogContents l)).drop i) out) := hpre
 clear hpre
 obtain ⟨v1, v2, v3, v4⟩ := hpre_
 refine R0 ?_
 refine WX.cases 12 rfl (fun h1 => ?_) (fun h1 => ?_)
 ·skip
  have h1d := B.dt h1
  have e1i : i < ((spec_LogContents l)).length := (by omega)
  obtain ⟨e1, e1h⟩ : ∃ e1, ((spec_LogContents l))[i]? = some e1 := ⟨_, List.getElem?_eq_getElem e1i⟩
  have ok1 : GoT.ok (n + 1) e1 := (okl hq1).2 _ (List.mem_of_getElem? e1h)
  refine R0 ?_
  refine WX.ptrR 502 rfl (show 0 < ((spec_LogContents l)).length by omega) ?_
  rintro ad1 rfl
  refine WX.takeE (i := i) 502 5 6 e1 rfl rfl e1h (fun _ => rfl) ?_
  rintro ⟨⟨p2, c2⟩, ⟨p3, c3⟩, ⟨p4, c4⟩, ⟨⟩, ⟨⟩⟩ hx2
  refine WX.draw [8, 9, 10] mixed ?_
  intro bs G0 hΓ0
  refine DX.takes (fuel := 7) ttOk [(0, true), (1, false), (2, true), (3, true)] (by kernel_rfl) rfl ?_
  have hr1 : i < ((spec_LogContents l)).length := (by first | assumption | omega)
  refine DX.seeP 4 (by kernel_rfl) rfl rfl rfl rfl (looksP_idx i ttOk rfl rfl rfl rfl rfl hr1) ?_
  refine DX.see 5 (by kernel_rfl) rfl rfl rfl rfl (looks_ldK 502 e1 ((p2, c2), (p3, c3), (p4, c4), (), ()) ttOk rfl rfl rfl rfl rfl hr1 hx2 rfl) ?_
  refine DX.takes (fuel := 4) ttOk [(6, true)] (by kernel_rfl) rfl ?_
  refine DX.tail2 [7, 8, 9, 10] rfl rfl (by kernel_rfl) ?_
  refine WX.bld ttOk rfl rfl rfl rfl rfl rfl rfl ?_
  intro p5
  refine WX.turn [9, 10, 11] 13 rfl (fun h hs => ol_one (α := Record) (a := (Record.mk 1 e1)) (x := ((), ((p2, c2), (p3, c3), (p4, c4), (), ()))) hs) (gs := [MF.ol [.int .i64 (1), .slice p2 ((e1.name.parts).length) c2, .slice p3 ((e1.content).length) c3, .slice p4 ((e1.keyName.parts).length) c4, .int .i64 (e1.freshUntil), .int .i64 (e1.signature)] ([(Record.mk 1 e1)] : List Record)]) rfl ?_
  refine WX.know (fun G hΓ => (hΓ.get 13 rfl : OwL _ _ _).rd.one) ?_
  intro ho1
  refine WX.appR1 501 22 ((out ++ [(Record.mk 1 e1)]) : List Record).length ttOk rfl rfl rfl rfl rfl rfl rfl rfl rfl rfl rfl rfl rfl ho1 (by simp) (by simp; omega) (by simp; omega) (fun _ _ => rfl) ?_
  intro p6 c5
  refine WX.turn [4, 13] 14 rfl (fun h hs => ol_app hs) (gs := [MF.ol (xsout ++ [.int .i64 (1), .slice p2 ((e1.name.parts).length) c2, .slice p3 ((e1.content).length) c3, .slice p4 ((e1.keyName.parts).length) c4, .int .i64 (e1.freshUntil), .int .i64 (e1.signature)]) ((out ++ [(Record.mk 1 e1)]) : List Record)]) rfl ?_
  refine R0 ?_
  refine WX.see rfl rfl rfl (fun _ hΓ => looks_arith rfl rfl rfl rfl (by unfold I64; first | omega | (simp only [List.length_take] at *; omega))) ?_
  refine R0 ?_
  refine WX.turn [14] 4 rfl (fun _ h => h) rfl ?_
  refine WX.turn [12] 5 rfl (fun _ h => h) rfl ?_
  exact WX.iter (i + 1, p6, c5, (xsout ++ [.int .i64 (1), .slice p2 ((e1.name.parts).length) c2, .slice p3 ((e1.content).length) c3, .slice p4 ((e1.keyName.parts).length) c4, .int .i64 (e1.freshUntil), .int .i64 (e1.signature)]), ((out ++ [(Record.mk 1 e1)]) : List Record)) ⟨(by omega), (all_app v2 (all_cons (α := Record) (And.intro (show I64 1 from (by unfold I64; omega)) ok1) (fun a ha => by cases ha))), (by first | assumption | omega | (simp; omega)), (by rw [v4, drop_get e1h]; simp only [spec_CompactLog_L1, ct, cf])⟩ (by first | (dsimp only; omega) | omega) (.cons rfl (.cons rfl (.cons rfl (.cons rfl (.nil))))) (.cons rfl (.cons rfl (.nil))) (.cons rfl (.cons rfl (.nil))) [0, 1, 4, 5] rfl
 ·skip
  have h1d := B.df h1
  refine R0 ?_
  have hX1 : spec_CompactLog_L1 (spec_LogContents l) ([] : List Record) = ((out) : List Record) := by rw [v4, List.drop_eq_nil_of_le (show ((spec_LogContents l)).length ≤ i by omega)]; simp only [spec_CompactLog_L1, ct, cf]
  refine WX.seal 501 4 15 rfl rfl rfl rfl rfl ?_
  refine WX.free 17 (MF.os none 0 ([] : List Record)) (owSl_nil _ _) ?_
  have hP1 : spec_CompactLog l = (Log.mk out ([])) := by simp only [spec_CompactLog, hX1, ct, cf]
  refine R1 ?_
  intro w1 G bs hI hΓ
  rw [hP1]
  exact Post.of [16, 17] ((pout, cout), (none, 0)) hI hΓ rfl rfl rfl (And.intro (okl_mk (by omega) v2 : GoT.ok (n + 1) (out : List Record)) (ok_nil (α := Record)))
theorem f9 (w : World) (n : Nat) (hn : n + 1 ≤ 9) (l : Log) (K0 : Option Addr) (M0 : Nat) (N0 : RdSl (hp w) K0 M0 l.durable) (K1 : Option Addr) (M1 : Nat) (N1 : RdSl (hp w) K1 M1 l.volatile) (r : Record) (K2 : Option Addr) (M2 : Nat) (N2 : RdSl (hp w) K2 M2 r.data.name.parts) (K3 : Option Addr) (M3 : Nat) (N3 : RdSl (hp w) K3 M3 r.data.content) (K4 : Option Addr) (M4 : Nat) (N4 : RdSl (hp w) K4 M4 r.data.keyName.parts) (hokl : GoT.ok n l) (hokr : GoT.ok n r) :
  Does Tryz.prog 9 #[.agg #[.slice K0 ((l.durable).length) M0, .slice K1 ((l.volatile).length) M1], .agg #[.int .i64 (r.kind), .slice K2 ((r.data.name.parts).length) M2, .slice K3 ((r.data.content).length) M3, .slice K4 ((r.data.keyName.parts).length) M4, .int .i64 (r.data.freshUntil), .int .i64 (r.data.signature)]] w emp (Post w emp (fun x : GoT.X (Log) => .tuple #[.agg ⟨GoT.sh ((impl_AppendRecord l r).1 : Log) x⟩, .bool ((impl_AppendRecord l r).2)]) (fun x => GoT.oa ((impl_AppendRecord l r).1 : Log) x) (GoT.ok (n + 1) ((impl_AppendRecord l r).1 : Log))) := by
 have hbP := bd_pos n
 have hbS0 : bd (n + 1) = 4 * bd (n) := bd_succ (n := n) (by omega)
 have hbB := bd_big (n := (n + 1)) (by omega)
 have hbM := bd_mono (show n ≤ n + 1 by omega)
 refine WX.enter (tt := tt) (Γ := [(0, MF.rs .stb K0 M0 l.durable), (1, MF.rs .stb K1 M1 l.volatile), (2, MF.rs .stb K2 M2 r.data.name.parts), (3, MF.rs .stb K3 M3 r.data.content), (4, MF.rs .stb K4 M4 r.data.keyName.parts)]) Tryz.func9 rfl (by kernel_rfl) rfl (allS_cons rfl N0 (allS_cons rfl N1 (allS_cons rfl N2 (allS_cons rfl N3 (allS_cons rfl N4 allS_nil))))) ?_
 refine R0 ?_
 refine WX.callF 5 (fun _ _ h => GoT.ow_rd h) (fun _ f hf => GoT.fak f hf) rfl rfl rfl rfl rfl (fun _ => rfl) rfl (fun w G bs hI hΓ => f80 w n (by omega) l K0 M0 (hΓ.get 0 rfl) K1 M1 (hΓ.get 1 rfl) hokl) (fun _ => rfl) (fun _ => rfl) ?_
 rintro ⟨⟨p1, c1⟩, ⟨p2, c2⟩⟩ hq1
 refine R0 ?_
 refine WX.draw [9, 10, 11] mixed ?_
 intro bs G0 hΓ0
 refine DX.takes (fuel := 6) ttOk [(0, true), (1, false), (2, true), (3, false), (4, true), (5, false)] (by kernel_rfl) rfl ?_
 refine DX.callF 6 9 (fun _ _ h => GoT.ow_rd h) (fun _ f hf => GoT.fak f hf) rfl (by kernel_rfl) rfl rfl rfl rfl rfl rfl (fun _ => rfl) rfl (fun w G bs hI hΓ => f81 w n (by omega) r.data K2 M2 (hΓ.get 2 rfl) K3 M3 (hΓ.get 3 rfl) K4 M4 (hΓ.get 4 rfl) ((ok_Record hokr).2)) (fun _ => rfl) (fun _ => rfl) ?_
 rintro ⟨⟨p3, c3⟩, ⟨p4, c4⟩, ⟨p5, c5⟩, ⟨⟩, ⟨⟩⟩ hq2
 refine DX.takes (fuel := 4) ttOk [(7, true)] (by kernel_rfl) rfl ?_
 refine DX.tail2 [8, 9, 10, 11] rfl rfl (by kernel_rfl) ?_
 refine WX.bld ttOk rfl rfl rfl rfl rfl rfl rfl ?_
 intro p6
 refine WX.opn (kk := 6) 501 8 15 rfl rfl rfl ?_
 intro xs1 hx1
 refine WX.turn [12, 13, 14] 16 rfl (fun h hs => ol_one (α := Record) (a := (Record.mk r.kind (impl_copyData r.data))) (x := ((), ((p3, c3), (p4, c4), (p5, c5), (), ()))) hs) (gs := [MF.ol [.int .i64 (r.kind), .slice p3 (((impl_copyData r.data).name.parts).length) c3, .slice p4 (((impl_copyData r.data).content).length) c4, .slice p5 (((impl_copyData r.data).keyName.parts).length) c5, .int .i64 ((impl_copyData r.data).freshUntil), .int .i64 ((impl_copyData r.data).signature)] ([(Record.mk r.kind (impl_copyData r.data))] : List Record)]) rfl ?_
 have r1 : -9223372036854775808 ≤ r.kind ∧ r.kind ≤ 9223372036854775807 := (ok_Record hokr).1
 have r2 : ((impl_copyLog l).volatile).length ≤ bd n := (okl (ok_Log hq1).2).1
 refine WX.know (fun G hΓ => (hΓ.get 16 rfl : OwL _ _ _).rd.one) ?_
 intro ho1
 refine WX.appR1 501 17 (((impl_copyLog l).volatile ++ [(Record.mk r.kind (impl_copyData r.data))]) : List Record).length ttOk rfl rfl rfl rfl rfl rfl rfl rfl rfl rfl rfl rfl rfl ho1 (by simp) (by simp; omega) (by simp; omega) (fun _ _ => rfl) ?_
 intro p7 c6
 refine WX.turn [15, 16] 17 rfl (fun h hs => ol_app hs) (gs := [MF.ol (xs1 ++ [.int .i64 (r.kind), .slice p3 (((impl_copyData r.data).name.parts).length) c3, .slice p4 (((impl_copyData r.data).content).length) c4, .slice p5 (((impl_copyData r.data).keyName.parts).length) c5, .int .i64 ((impl_copyData r.data).freshUntil), .int .i64 ((impl_copyData r.data).signature)]) (((impl_copyLog l).volatile ++ [(Record.mk r.kind (impl_copyData r.data))]) : List Record)]) rfl ?_
 refine R0 ?_
 refine WX.seal 501 17 18 rfl rfl rfl rfl rfl ?_
 refine WX.der 20 (MF.rs .der p1 c1 ((impl_copyLog l).durable)) rfl (fun _ hΓ => (hΓ.get 7 rfl : OwSl _ _ _ _).rd) ?_
 refine WX.callV rfl rfl rfl rfl rfl (fun _ => rfl) rfl (fun w G bs hI hΓ => f29 w (n + 1) (by omega) (Log.mk ((impl_copyLog l).durable) ((impl_copyLog l).volatile ++ [(Record.mk r.kind (impl_copyData r.data))])) p1 c1 (hΓ.get 20 rfl) p7 c6 (hΓ.get 18 rfl) (And.intro (GoT.okm (α := List Record) (by omega) (ok_Log hq1).1) (okl_mk (by simp; omega) (fun a ha => GoT.okm (show n ≤ (n + 1) by omega) ((all_app (okl (ok_Log hq1).2).2 (all_cons (α := Record) (And.intro (ok_Record hokr).1 hq2) (fun a ha => by cases ha))) a ha)) : GoT.ok (n + 1) (((impl_copyLog l).volatile ++ [(Record.mk r.kind (impl_copyData r.data))]) : List Record)))) ?_
 intro hq3
 refine R0 ?_
 refine WX.cases 22 rfl (fun h1 => ?_) (fun h1 => ?_)
 ·skip
  have h1d := (B.nt h1)
  refine R0 ?_
  refine WX.callF 21 (fun _ _ h => GoT.ow_rd h) (fun _ f hf => GoT.fak f hf) rfl rfl rfl rfl rfl (fun _ => rfl) rfl (fun w G bs hI hΓ => f80 w n (by omega) l K0 M0 (hΓ.get 0 rfl) K1 M1 (hΓ.get 1 rfl) hokl) (fun _ => rfl) (fun _ => rfl) ?_
  rintro ⟨⟨p8, c7⟩, ⟨p9, c8⟩⟩ hq4
  refine R0 ?_
  have hP1 : impl_AppendRecord l r = (impl_copyLog l, false) := by simp only [impl_AppendRecord, h1, ct, cf]
  refine R1 ?_
  intro w1 G bs hI hΓ
  rw [hP1]
  exact Post.of [23, 24] ((p8, c7), (p9, c8)) hI hΓ rfl rfl rfl (And.intro (GoT.okm (α := List Record) (by omega) (ok_Log hq4).1) (GoT.okm (α := List Record) (by omega) (ok_Log hq4).2))
 ·skip
  have h1d := (B.nf h1)
  refine R0 ?_
  have hP2 : impl_AppendRecord l r = (Log.mk ((impl_copyLog l).durable) ((impl_copyLog l).volatile ++ [(Record.mk r.kind (impl_copyData r.data))]), true) := by simp only [impl_AppendRecord, h1, ct, cf]
  refine R1 ?_
  intro w1 G bs hI hΓ
  rw [hP2]
  exact Post.of [7, 19] ((p1, c1), (p7, c6)) hI hΓ rfl rfl rfl (And.intro (GoT.okm (α := List Record) (by omega) (ok_Log hq1).1) (okl_mk (by simp; omega) (fun a ha => GoT.okm (show n ≤ (n + 1) by omega) ((all_app (okl (ok_Log hq1).2).2 (all_cons (α := Record) (And.intro (ok_Record hokr).1 hq2) (fun a ha => by cases ha))) a ha)) : GoT.ok (n + 1) (((impl_copyLog l).volatile ++ [(Record.mk r.kind (impl_copyData r.data))]) : List Record)))
theorem f10 (w : World) (n : Nat) (hn : n + 1 ≤ 9) (l : Log) (K0 : Option Addr) (M0 : Nat) (N0 : RdSl (hp w) K0 M0 l.durable) (K1 : Option Addr) (M1 : Nat) (N1 : RdSl (hp w) K1 M1 l.volatile) (r : Record) (K2 : Option Addr) (M2 : Nat) (N2 : RdSl (hp w) K2 M2 r.data.name.parts) (K3 : Option Addr) (M3 : Nat) (N3 : RdSl (hp w) K3 M3 r.data.content) (K4 : Option Addr) (M4 : Nat) (N4 : RdSl (hp w) K4 M4 r.data.keyName.parts) (hokl : GoT.ok n l) (hokr : GoT.ok n r) :
  Does Tryz.prog 10 #[.agg #[.slice K0 ((l.durable).length) M0, .slice K1 ((l.volatile).length) M1], .agg #[.int .i64 (r.kind), .slice K2 ((r.data.name.parts).length) M2, .slice K3 ((r.data.content).length) M3, .slice K4 ((r.data.keyName.parts).length) M4, .int .i64 (r.data.freshUntil), .int .i64 (r.data.signature)]] w emp (Post w emp (fun x : GoT.X (Log) => .tuple #[.agg ⟨GoT.sh ((spec_AppendRecord l r).1 : Log) x⟩, .bool ((spec_AppendRecord l r).2)]) (fun x => GoT.oa ((spec_AppendRecord l r).1 : Log) x) (GoT.ok (n + 1) ((spec_AppendRecord l r).1 : Log))) := by
 have hbP := bd_pos n
 have hbS0 : bd (n + 1) = 4 * bd (n) := bd_succ (n := n) (by omega)
 have hbB := bd_big (n := (n + 1)) (by omega)
 have hbM := bd_mono (show n ≤ n + 1 by omega)
 refine WX.enter (tt := tt) (Γ := [(0, MF.rs .stb K0 M0 l.durable), (1, MF.rs .stb K1 M1 l.volatile), (2, MF.rs .stb K2 M2 r.data.name.parts), (3, MF.rs .stb K3 M3 r.data.content), (4, MF.rs .stb K4 M4 r.data.keyName.parts)]) Tryz.func10 rfl (by kernel_rfl) rfl (allS_cons rfl N0 (allS_cons rfl N1 (allS_cons rfl N2 (allS_cons rfl N3 (allS_cons rfl N4 allS_nil))))) ?_
 refine R0 ?_
 refine WX.callF 5 (fun _ _ h => GoT.ow_rd h) (fun _ f hf => GoT.fak f hf) rfl rfl rfl rfl rfl (fun _ => rfl) rfl (fun w G bs hI hΓ => f82 w n (by omega) l K0 M0 (hΓ.get 0 rfl) K1 M1 (hΓ.get 1 rfl) hokl) (fun _ => rfl) (fun _ => rfl) ?_
 rintro ⟨⟨p1, c1⟩, ⟨p2, c2⟩⟩ hq1
 refine R0 ?_
 refine WX.draw [9, 10, 11] mixed ?_
 intro bs G0 hΓ0
 refine DX.takes (fuel := 6) ttOk [(0, true), (1, false), (2, true), (3, false), (4, true), (5, false)] (by kernel_rfl) rfl ?_
 refine DX.callF 6 9 (fun _ _ h => GoT.ow_rd h) (fun _ f hf => GoT.fak f hf) rfl (by kernel_rfl) rfl rfl rfl rfl rfl rfl (fun _ => rfl) rfl (fun w G bs hI hΓ => f83 w n (by omega) r.data K2 M2 (hΓ.get 2 rfl) K3 M3 (hΓ.get 3 rfl) K4 M4 (hΓ.get 4 rfl) ((ok_Record hokr).2)) (fun _ => rfl) (fun _ => rfl) ?_
 rintro ⟨⟨p3, c3⟩, ⟨p4, c4⟩, ⟨p5, c5⟩, ⟨⟩, ⟨⟩⟩ hq2
 refine DX.takes (fuel := 4) ttOk [(7, true)] (by kernel_rfl) rfl ?_
 refine DX.tail2 [8, 9, 10, 11] rfl rfl (by kernel_rfl) ?_
 refine WX.bld ttOk rfl rfl rfl rfl rfl rfl rfl ?_
 intro p6
 refine WX.opn (kk := 6) 501 8 15 rfl rfl rfl ?_
 intro xs1 hx1
 refine WX.turn [12, 13, 14] 16 rfl (fun h hs => ol_one (α := Record) (a := (Record.mk r.kind (spec_l8Copy r.data))) (x := ((), ((p3, c3), (p4, c4), (p5, c5), (), ()))) hs) (gs := [MF.ol [.int .i64 (r.kind), .slice p3 (((spec_l8Copy r.data).name.parts).length) c3, .slice p4 (((spec_l8Copy r.data).content).length) c4, .slice p5 (((spec_l8Copy r.data).keyName.parts).length) c5, .int .i64 ((spec_l8Copy r.data).freshUntil), .int .i64 ((spec_l8Copy r.data).signature)] ([(Record.mk r.kind (spec_l8Copy r.data))] : List Record)]) rfl ?_
 have r1 : -9223372036854775808 ≤ r.kind ∧ r.kind ≤ 9223372036854775807 := (ok_Record hokr).1
 have r2 : ((spec_l29Copy l).volatile).length ≤ bd n := (okl (ok_Log hq1).2).1
 refine WX.know (fun G hΓ => (hΓ.get 16 rfl : OwL _ _ _).rd.one) ?_
 intro ho1
 refine WX.appR1 501 17 (((spec_l29Copy l).volatile ++ [(Record.mk r.kind (spec_l8Copy r.data))]) : List Record).length ttOk rfl rfl rfl rfl rfl rfl rfl rfl rfl rfl rfl rfl rfl ho1 (by simp) (by simp; omega) (by simp; omega) (fun _ _ => rfl) ?_
 intro p7 c6
 refine WX.turn [15, 16] 17 rfl (fun h hs => ol_app hs) (gs := [MF.ol (xs1 ++ [.int .i64 (r.kind), .slice p3 (((spec_l8Copy r.data).name.parts).length) c3, .slice p4 (((spec_l8Copy r.data).content).length) c4, .slice p5 (((spec_l8Copy r.data).keyName.parts).length) c5, .int .i64 ((spec_l8Copy r.data).freshUntil), .int .i64 ((spec_l8Copy r.data).signature)]) (((spec_l29Copy l).volatile ++ [(Record.mk r.kind (spec_l8Copy r.data))]) : List Record)]) rfl ?_
 refine R0 ?_
 refine WX.seal 501 17 18 rfl rfl rfl rfl rfl ?_
 refine WX.der 20 (MF.rs .der p1 c1 ((spec_l29Copy l).durable)) rfl (fun _ hΓ => (hΓ.get 7 rfl : OwSl _ _ _ _).rd) ?_
 refine WX.callV rfl rfl rfl rfl rfl (fun _ => rfl) rfl (fun w G bs hI hΓ => f30 w (n + 1) (by omega) (Log.mk ((spec_l29Copy l).durable) ((spec_l29Copy l).volatile ++ [(Record.mk r.kind (spec_l8Copy r.data))])) p1 c1 (hΓ.get 20 rfl) p7 c6 (hΓ.get 18 rfl) (And.intro (GoT.okm (α := List Record) (by omega) (ok_Log hq1).1) (okl_mk (by simp; omega) (fun a ha => GoT.okm (show n ≤ (n + 1) by omega) ((all_app (okl (ok_Log hq1).2).2 (all_cons (α := Record) (And.intro (ok_Record hokr).1 hq2) (fun a ha => by cases ha))) a ha)) : GoT.ok (n + 1) (((spec_l29Copy l).volatile ++ [(Record.mk r.kind (spec_l8Copy r.data))]) : List Record)))) ?_
 intro hq3
 refine R0 ?_
 refine WX.cases 22 rfl (fun h1 => ?_) (fun h1 => ?_)
 ·skip
  have h1d := (B.nt h1)
  refine R0 ?_
  refine WX.callF 21 (fun _ _ h => GoT.ow_rd h) (fun _ f hf => GoT.fak f hf) rfl rfl rfl rfl rfl (fun _ => rfl) rfl (fun w G bs hI hΓ => f82 w n (by omega) l K0 M0 (hΓ.get 0 rfl) K1 M1 (hΓ.get 1 rfl) hokl) (fun _ => rfl) (fun _ => rfl) ?_
  rintro ⟨⟨p8, c7⟩, ⟨p9, c8⟩⟩ hq4
  refine R0 ?_
  have hP1 : spec_AppendRecord l r = (spec_l29Copy l, false) := by simp only [spec_AppendRecord, h1, ct, cf]
  refine R1 ?_
  intro w1 G bs hI hΓ
  rw [hP1]
  exact Post.of [23, 24] ((p8, c7), (p9, c8)) hI hΓ rfl rfl rfl (And.intro (GoT.okm (α := List Record) (by omega) (ok_Log hq4).1) (GoT.okm (α := List Record) (by omega) (ok_Log hq4).2))
 ·skip
  have h1d := (B.nf h1)
  refine R0 ?_
  have hP2 : spec_AppendRecord l r = (Log.mk ((spec_l29Copy l).durable) ((spec_l29Copy l).volatile ++ [(Record.mk r.kind (spec_l8Copy r.data))]), true) := by simp only [spec_AppendRecord, h1, ct, cf]
  refine R1 ?_
  intro w1 G bs hI hΓ
  rw [hP2]
  exact Post.of [7, 19] ((p1, c1), (p7, c6)) hI hΓ rfl rfl rfl (And.intro (GoT.okm (α := List Record) (by omega) (ok_Log hq1).1) (okl_mk (by simp; omega) (fun a ha => GoT.okm (show n ≤ (n + 1) by omega) ((all_app (okl (ok_Log hq1).2).2 (all_cons (α := Record) (And.intro (ok_Record hokr).1 hq2) (fun a ha => by cases ha))) a ha)) : GoT.ok (n + 1) (((spec_l29Copy l).volatile ++ [(Record.mk r.kind (spec_l8Copy r.data))]) : List Record)))
end Go.Proofs.YtolepebgdfdciaaGreat

namespace Go.Stp
set_option linter.unusedVariables false
set_option linter.unusedSimpArgs false
def laws_sameTexts_L1 (b : (List Str)) : List Str → Nat → Option (Bool)
  | [], i => none
  | e1 :: rest_, i =>
    match (b)[i]? with
      | none => default
      | some e2 =>
        bif (!((e1).toList == (e2).toList)) then
          (some false)
        else
          laws_sameTexts_L1 b rest_ (i + 1)
def laws_sameTexts (a : (List Str)) (b : (List Str)) : Bool :=
  bif ((((a).length : Nat) : Int) != (((b).length : Nat) : Int)) then
    false
  else
    match laws_sameTexts_L1 b a 0 with
      | some r_ => r_
      | none =>
        true
def laws_sameName (a : Name) (b : Name) : Bool :=
  (laws_sameTexts a.parts b.parts)
def laws_same_L1 (b : (List UInt8)) : List UInt8 → Nat → Option (Bool)
  | [], i => none
  | e1 :: rest_, i =>
    match (b)[i]? with
      | none => default
      | some e2 =>
        bif (((e1).toNat : Int) != ((e2).toNat : Int)) then
          (some false)
        else
          laws_same_L1 b rest_ (i + 1)
def laws_same (a : (List UInt8)) (b : (List UInt8)) : Bool :=
  bif ((((a).length : Nat) : Int) != (((b).length : Nat) : Int)) then
    false
  else
    match laws_same_L1 b a 0 with
      | some r_ => r_
      | none =>
        true
end Go.Stp

namespace Go.Proofs.YtolepebgdfdciaaGreat
open Go.Stp
set_option linter.unusedVariables false
set_option linter.unusedSimpArgs false
theorem f199 (w : World) (n : Nat) (hn : n + 0 ≤ 9) (a : (List Str)) (pa : Option Addr) (ca : Nat) (N0 : RdSl (hp w) pa ca a) (b : (List Str)) (pb : Option Addr) (cb : Nat) (N1 : RdSl (hp w) pb cb b) (hoka : GoT.ok n a) (hokb : GoT.ok n b) :
  Does Tryz.prog 199 #[.slice pa ((a).length) ca, .slice pb ((b).length) cb] w emp (fun (rv : Value) (_ : World) => rv = .bool (laws_sameTexts a b) ∧ True) := by
 have hbP := bd_pos n
 have hbB := bd_big (n := n) (by omega)
 refine WX.enter (tt := tt) (Γ := [(0, MF.rs .stb pa ca a), (1, MF.rs .stb pb cb b)]) Tryz.func199 rfl (by kernel_rfl) rfl (allS_cons rfl N0 (allS_cons rfl N1 allS_nil)) ?_
 refine R0 ?_
 refine WX.cases 10 rfl (fun h1 => ?_) (fun h1 => ?_)
 ·skip
  have h1d := B.nt' h1
  refine R0 ?_
  have hP1 : laws_sameTexts a b = false := by simp only [laws_sameTexts, h1, ct, cf]
  exact R3 hP1
 ·skip
  have h1d := B.nf' h1
  refine R0 ?_
  have r1 : (a).length ≤ bd n := (okl hoka).1
  refine WX.loop (ι := Nat) ⟨fun i => (i ≤ (a).length) ∧ (laws_sameTexts_L1 b a 0 = laws_sameTexts_L1 b ((a).drop i) i), fun i => (a).length - i, fun i => [(5, .v (.int .i64 (((i : Nat) : Int)))), (0, .v (.slice pa ((a).length) ca)), (1, .v (.slice pb ((b).length) cb))], fun i => [], fun i => [], fun i => [(0, MF.rs .stb pa ca a), (1, MF.rs .stb pb cb b)]⟩ 0 ⟨(Nat.zero_le _), rfl⟩
   (.cons rfl (.cons rfl (.cons rfl (.nil)))) .nil .nil [0, 1] rfl ?_
  rintro i hpre
  have hpre_ : (i ≤ (a).length) ∧ (laws_sameTexts_L1 b a 0 = laws_sameTexts_L1 b ((a).drop i) i) := hpre
  clear hpre
  obtain ⟨v1, v2⟩ := hpre_
  refine R0 ?_
  refine WX.cases 14 rfl (fun h2 => ?_) (fun h2 => ?_)
  ·skip
   have h2d := B.dt h2
   have e1i : i < (a).length := (by omega)
   obtain ⟨e1, e1h⟩ : ∃ e1, (a)[i]? = some e1 := ⟨_, List.getElem?_eq_getElem e1i⟩
   have ok1 : GoT.ok n e1 := (okl hoka).2 _ (List.mem_of_getElem? e1h)
   refine R0 ?_
   refine WX.draw [] mixed ?_
   intro bs G0 hΓ0
   refine DX.takes (fuel := 7) ttOk [(0, true), (1, true)] (by kernel_rfl) rfl ?_
   refine DX.idx 2 0 i ttOk hΓ0 (by kernel_rfl) rfl rfl rfl rfl rfl rfl rfl rfl rfl rfl rfl e1i ?_
   rintro ad1 rfl
   refine DX.ldE 3 0 2 e1 ttOk hΓ0 (by kernel_rfl) rfl rfl rfl rfl rfl rfl rfl rfl e1h (fun _ => rfl) (fun _ => rfl) ?_
   rintro ⟨⟩
   refine DX.takes (fuel := 3) ttOk [(4, true), (5, true)] (by kernel_rfl) rfl ?_
   have e2i : i < (b).length := (by first | assumption | omega)
   obtain ⟨e2, e2h⟩ : ∃ e2, (b)[i]? = some e2 := ⟨_, List.getElem?_eq_getElem e2i⟩
   have ok2 : GoT.ok n e2 := (okl hokb).2 _ (List.mem_of_getElem? e2h)
   refine DX.idx 6 1 i ttOk hΓ0 (by kernel_rfl) rfl rfl rfl rfl rfl rfl rfl rfl rfl rfl rfl e2i ?_
   rintro ad2 rfl
   refine DX.ldE 7 1 2 e2 ttOk hΓ0 (by kernel_rfl) rfl rfl rfl rfl rfl rfl rfl rfl e2h (fun _ => rfl) (fun _ => rfl) ?_
   rintro ⟨⟩
   refine DX.takes (fuel := 0) ttOk [(8, true)] (by kernel_rfl) rfl ?_
   refine DX.tail2 [] rfl rfl (by kernel_rfl) ?_
   refine R0 ?_
   refine WX.cases 25 rfl (fun h3 => ?_) (fun h3 => ?_)
   ·skip
    have h3d := B.ef (B.nt h3)
    refine R0 ?_
    have hP2 : laws_sameTexts_L1 b a 0 = (some false) := by rw [v2, drop_get e1h]; simp only [laws_sameTexts_L1, e2h, h3, ct, cf]
    have hP3 : laws_sameTexts a b = false := by simp only [laws_sameTexts, h1, hP2, ct, cf]
    exact R3 hP3
   ·skip
    have h3d := B.et (B.nf h3)
    refine R0 ?_
    refine WX.see rfl rfl rfl (fun _ hΓ => looks_arith rfl rfl rfl rfl (by unfold I64; first | omega | (simp only [List.length_take] at *; omega))) ?_
    refine R0 ?_
    exact WX.iter (i + 1) ⟨(by omega), (by rw [v2, drop_get e1h]; simp only [laws_sameTexts_L1, e2h, h3, ct, cf])⟩ (by first | (dsimp only; omega) | omega) (.cons rfl (.cons rfl (.cons rfl (.nil)))) .nil .nil [0, 1] rfl
  ·skip
   have h2d := B.df h2
   refine R0 ?_
   have hX1 : laws_sameTexts_L1 b a 0 = none := by rw [v2, List.drop_eq_nil_of_le (show (a).length ≤ i by omega)]; simp only [laws_sameTexts_L1, ct, cf]
   have hP4 : laws_sameTexts a b = true := by simp only [laws_sameTexts, h1, hX1, ct, cf]
   exact R3 hP4
theorem f124 (w : World) (n : Nat) (hn : n + 0 ≤ 9) (a : Name) (pa : Option Addr) (ca : Nat) (N0 : RdSl (hp w) pa ca a.parts) (b : Name) (pb : Option Addr) (cb : Nat) (N1 : RdSl (hp w) pb cb b.parts) (hoka : GoT.ok n a) (hokb : GoT.ok n b) :
  Does Tryz.prog 124 #[.agg #[.slice pa ((a.parts).length) ca], .agg #[.slice pb ((b.parts).length) cb]] w emp (fun (rv : Value) (_ : World) => rv = .bool (laws_sameName a b) ∧ True) := by
 have hbP := bd_pos n
 have hbB := bd_big (n := n) (by omega)
 refine WX.enter (tt := tt) (Γ := [(0, MF.rs .stb pa ca a.parts), (1, MF.rs .stb pb cb b.parts)]) Tryz.func124 rfl (by kernel_rfl) rfl (allS_cons rfl N0 (allS_cons rfl N1 allS_nil)) ?_
 refine R0 ?_
 refine WX.callV rfl rfl rfl rfl rfl (fun _ => rfl) rfl (fun w G bs hI hΓ => f199 w n (by omega) a.parts pa ca (hΓ.get 0 rfl) b.parts pb cb (hΓ.get 1 rfl) (ok_Name hoka) (ok_Name hokb)) ?_
 intro hq1
 refine R0 ?_
 have hP1 : laws_sameName a b = (laws_sameTexts a.parts b.parts) := by simp only [laws_sameName, ct, cf]
 exact R3 hP1
theorem f51 (w : World) (n : Nat) (hn : n + 0 ≤ 9) (a : (List UInt8)) (pa : Option Addr) (ca : Nat) (N0 : RdSl (hp w) pa ca a) (b : (List UInt8)) (pb : Option Addr) (cb : Nat) (N1 : RdSl (hp w) pb cb b) (hoka : GoT.ok n a) (hokb : GoT.ok n b) :
  Does Tryz.prog 51 #[.slice pa ((a).length) ca, .slice pb ((b).length) cb] w emp (fun (rv : Value) (_ : World) => rv = .bool (laws_same a b) ∧ True) := by
 have hbP := bd_pos n
 have hbB := bd_big (n := n) (by omega)
 refine WX.enter (tt := tt) (Γ := [(0, MF.rs .stb pa ca a), (1, MF.rs .stb pb cb b)]) Tryz.func51 rfl (by kernel_rfl) rfl (allS_cons rfl N0 (allS_cons rfl N1 allS_nil)) ?_
 refine R0 ?_
 refine WX.cases 10 rfl (fun h1 => ?_) (fun h1 => ?_)
 ·skip
  have h1d := B.nt' h1
  refine R0 ?_
  have hP1 : laws_same a b = false := by simp only [laws_same, h1, ct, cf]
  exact R3 hP1
 ·skip
  have h1d := B.nf' h1
  refine R0 ?_
  have r1 : (a).length ≤ bd n := (okl hoka).1
  refine WX.loop (ι := Nat) ⟨fun i => (i ≤ (a).length) ∧ (laws_same_L1 b a 0 = laws_same_L1 b ((a).drop i) i), fun i => (a).length - i, fun i => [(5, .v (.int .i64 (((i : Nat) : Int)))), (0, .v (.slice pa ((a).length) ca)), (1, .v (.slice pb ((b).length) cb))], fun i => [], fun i => [], fun i => [(0, MF.rs .stb pa ca a), (1, MF.rs .stb pb cb b)]⟩ 0 ⟨(Nat.zero_le _), rfl⟩
   (.cons rfl (.cons rfl (.cons rfl (.nil)))) .nil .nil [0, 1] rfl ?_
  rintro i hpre
  have hpre_ : (i ≤ (a).length) ∧ (laws_same_L1 b a 0 = laws_same_L1 b ((a).drop i) i) := hpre
  clear hpre
  obtain ⟨v1, v2⟩ := hpre_
  refine R0 ?_
  refine WX.cases 14 rfl (fun h2 => ?_) (fun h2 => ?_)
  ·skip
   have h2d := B.dt h2
   have e1i : i < (a).length := (by omega)
   obtain ⟨e1, e1h⟩ : ∃ e1, (a)[i]? = some e1 := ⟨_, List.getElem?_eq_getElem e1i⟩
   refine R0 ?_
   refine WX.draw [] mixed ?_
   intro bs G0 hΓ0
   refine DX.takes (fuel := 7) ttOk [(0, true), (1, true)] (by kernel_rfl) rfl ?_
   refine DX.idx 2 0 i ttOk hΓ0 (by kernel_rfl) rfl rfl rfl rfl rfl rfl rfl rfl rfl rfl rfl e1i ?_
   rintro ad1 rfl
   refine DX.ldE 3 0 2 e1 ttOk hΓ0 (by kernel_rfl) rfl rfl rfl rfl rfl rfl rfl rfl e1h (fun _ => rfl) (fun _ => rfl) ?_
   rintro ⟨⟩
   refine DX.takes (fuel := 3) ttOk [(4, true), (5, true)] (by kernel_rfl) rfl ?_
   have e2i : i < (b).length := (by first | assumption | omega)
   obtain ⟨e2, e2h⟩ : ∃ e2, (b)[i]? = some e2 := ⟨_, List.getElem?_eq_getElem e2i⟩
   refine DX.idx 6 1 i ttOk hΓ0 (by kernel_rfl) rfl rfl rfl rfl rfl rfl rfl rfl rfl rfl rfl e2i ?_
   rintro ad2 rfl
   refine DX.ldE 7 1 2 e2 ttOk hΓ0 (by kernel_rfl) rfl rfl rfl rfl rfl rfl rfl rfl e2h (fun _ => rfl) (fun _ => rfl) ?_
   rintro ⟨⟩
   refine DX.takes (fuel := 0) ttOk [(8, true)] (by kernel_rfl) rfl ?_
   refine DX.tail2 [] rfl rfl (by kernel_rfl) ?_
   refine R0 ?_
   refine WX.cases 25 rfl (fun h3 => ?_) (fun h3 => ?_)
   ·skip
    have h3d := B.nt' h3
    refine R0 ?_
    have hP2 : laws_same_L1 b a 0 = (some false) := by rw [v2, drop_get e1h]; simp only [laws_same_L1, e2h, h3, ct, cf]
    have hP3 : laws_same a b = false := by simp only [laws_same, h1, hP2, ct, cf]
    exact R3 hP3
   ·skip
    have h3d := B.nf' h3
    refine R0 ?_
    refine WX.see rfl rfl rfl (fun _ hΓ => looks_arith rfl rfl rfl rfl (by unfold I64; first | omega | (simp only [List.length_take] at *; omega))) ?_
    refine R0 ?_
    exact WX.iter (i + 1) ⟨(by omega), (by rw [v2, drop_get e1h]; simp only [laws_same_L1, e2h, h3, ct, cf])⟩ (by first | (dsimp only; omega) | omega) (.cons rfl (.cons rfl (.cons rfl (.nil)))) .nil .nil [0, 1] rfl
  ·skip
   have h2d := B.df h2
   refine R0 ?_
   have hX1 : laws_same_L1 b a 0 = none := by rw [v2, List.drop_eq_nil_of_le (show (a).length ≤ i by omega)]; simp only [laws_same_L1, ct, cf]
   have hP4 : laws_same a b = true := by simp only [laws_same, h1, hX1, ct, cf]
   exact R3 hP4
end Go.Proofs.YtolepebgdfdciaaGreat

namespace Go.Stp
set_option linter.unusedVariables false
set_option linter.unusedSimpArgs false
theorem r34L : ∀ (l o : List Record), spec_l29Recs_L1 l o = o ++ l
  | [], o => by simp [spec_l29Recs_L1]
  | e :: l, o => by
    simp only [spec_l29Recs_L1]
    rw [r34L l]
    simp [spec_l8Copy, spec_l4Copy]
theorem r34 (l : List Record) : spec_l29Recs l = l := by simp [spec_l29Recs, r34L]
theorem fl34 (l : Log) : spec_FlushLog l = ⟨l.durable ++ l.volatile, []⟩ := by simp only [spec_FlushLog, r34]
theorem len_FL (l : Log) : (spec_FlushLog l).durable.length = l.durable.length + l.volatile.length ∧ (spec_FlushLog l).volatile.length = 0 := by rw [fl34]; simp
theorem flD {k : Nat} (l : Log) (h1 : ∀ a ∈ l.durable, GoT.ok k a) (h2 : ∀ a ∈ l.volatile, GoT.ok k a) : ∀ a ∈ (spec_FlushLog l).durable, GoT.ok k a := by
  rw [fl34]; exact fun a ha => (List.mem_append.1 ha).elim (h1 a) (h2 a)
theorem flV {k : Nat} (l : Log) : ∀ a ∈ (spec_FlushLog l).volatile, GoT.ok k a := by
  rw [fl34]; exact fun a ha => by cases ha
theorem ar34 (l : Log) (r : Record) : (spec_AppendRecord l r).1 = l ∨ (spec_AppendRecord l r).1 = ⟨l.durable, l.volatile ++ [r]⟩ := by
  unfold spec_AppendRecord
  have h : spec_l29Copy l = l := by simp only [spec_l29Copy, r34]
  rw [h]
  cases (!(spec_ValidLog (Log.mk l.durable (l.volatile ++ [(Record.mk r.kind (spec_l8Copy r.data))]))))
  · exact .inr rfl
  · exact .inl rfl
theorem len_AR (l : Log) (r : Record) : (spec_AppendRecord l r).1.durable.length = l.durable.length ∧ (spec_AppendRecord l r).1.volatile.length ≤ l.volatile.length + 1 := by
  rcases ar34 l r with h | h <;> rw [h]
  · exact ⟨rfl, by omega⟩
  · exact ⟨rfl, by simp⟩
theorem arD {k : Nat} (l : Log) (r : Record) (h1 : ∀ a ∈ l.durable, GoT.ok k a) : ∀ a ∈ (spec_AppendRecord l r).1.durable, GoT.ok k a := by
  rcases ar34 l r with h | h <;> rw [h] <;> exact h1
theorem arV {k : Nat} (l : Log) (r : Record) (h1 : ∀ a ∈ l.volatile, GoT.ok k a) (h2 : GoT.ok k r) : ∀ a ∈ (spec_AppendRecord l r).1.volatile, GoT.ok k a := by
  rcases ar34 l r with h | h <;> rw [h]
  · exact h1
  · exact fun a ha => (List.mem_append.1 ha).elim (h1 a) fun ha => by obtain rfl := List.mem_singleton.1 ha; exact h2
def spec_l29Rec (c_b : (List UInt8)) (c_i : Int) (c_h : Int) : Record × Int × Int :=
  match spec_l8Draw c_b c_i c_h with
    | (u1, u2, u3) =>
      match spec_l1Once c_b u2 u3 3 with
        | (u4, u5, u6) =>
          bif u4 then
            ((Record.mk 2 (DataP.mk u1.name ([]) (Name.mk ([])) 0 0)), u5, u6)
          else
            ((Record.mk 1 u1), u5, u6)
def spec_l29RecAny (c_b : (List UInt8)) (c_i : Int) (c_h : Int) : Record × Int × Int :=
  match spec_l29Rec c_b c_i c_h with
    | (u1, u2, u3) =>
      match spec_l1Below c_b u2 u3 8 with
        | (u4, u5, u6) =>
          bif (u4 == 0) then
            match spec_l1Below c_b u5 u6 5 with
              | (u7, u8, u9) =>
                ((Record.mk u7 u1.data), u8, u9)
          else
            bif (u4 == 1) then
              match spec_l8Any c_b u5 u6 with
                | (u10, u11, u12) =>
                  ((Record.mk u1.kind u10), u11, u12)
            else
              (u1, u5, u6)
def spec_l29Draw_L1 (c_b : (List UInt8)) (i : Int) (lDurable : List Record) (lVolatile : List Record) (u999_i : Int) (u999_h : Int) : Int × (List Record) × (List Record) × Int × Int :=
  if i > 0 then
    match spec_l29Rec c_b u999_i u999_h with
      | (u4, u5, u6) =>
        match spec_l1Once c_b u5 u6 4 with
          | (u7, u8, u9) =>
            if u7 = true then
              spec_l29Draw_L1 c_b (i - 1) (((spec_FlushLog ((spec_AppendRecord (Log.mk lDurable lVolatile) u4).1)).durable) : List Record) (((spec_FlushLog ((spec_AppendRecord (Log.mk lDurable lVolatile) u4).1)).volatile) : List Record) u8 u9
            else
              spec_l29Draw_L1 c_b (i - 1) (((spec_AppendRecord (Log.mk lDurable lVolatile) u4).1.durable) : List Record) (((spec_AppendRecord (Log.mk lDurable lVolatile) u4).1.volatile) : List Record) u8 u9
  else
    (i, ((lDurable) : List Record), ((lVolatile) : List Record), u999_i, u999_h)
termination_by i.toNat
decreasing_by all_goals (simp_wf; omega)
def spec_l29Draw (c_b : (List UInt8)) (c_i : Int) (c_h : Int) : Log × Int × Int :=
  match spec_l1Below c_b c_i c_h 9 with
    | (u1, u2, u3) =>
      match spec_l29Draw_L1 c_b u1 (([] : List Record) : List Record) (([] : List Record) : List Record) u2 u3 with
        | (i, lDurable, lVolatile, u999_i, u999_h) =>
          ((Log.mk lDurable lVolatile), u999_i, u999_h)
theorem l29DrawL (b : List UInt8) : ∀ (m : Nat) (i : Int) (d v : List Record) (a h : Int), i.toNat = m → d.length + v.length + m ≤ 8 → (spec_l29Draw_L1 b i d v a h).2.1.length + (spec_l29Draw_L1 b i d v a h).2.2.1.length ≤ 8
  | 0, i, d, v, a, h, hm, hl => by
    rw [spec_l29Draw_L1, if_neg (by omega)]
    exact hl
  | m + 1, i, d, v, a, h, hm, hl => by
    rw [spec_l29Draw_L1, if_pos (by omega)]
    rcases spec_l29Rec b a h with ⟨x, j, k⟩
    dsimp only
    rcases spec_l1Once b j k 4 with ⟨y, j2, k2⟩
    dsimp only
    have h1 := len_AR ⟨d, v⟩ x
    have h2 := len_FL (spec_AppendRecord ⟨d, v⟩ x).1
    dsimp only at h1
    split
    · exact l29DrawL b m _ _ _ _ _ (by omega) (by omega)
    · exact l29DrawL b m _ _ _ _ _ (by omega) (by omega)
theorem l29Draw_len (b : List UInt8) (i h : Int) : (spec_l29Draw b i h).1.durable.length + (spec_l29Draw b i h).1.volatile.length ≤ 8 := by
  unfold spec_l29Draw
  have h1 := l1Below_rng b i h 9
  rcases e : spec_l1Below b i h 9 with ⟨x, j, k⟩
  rw [e] at h1
  dsimp only at h1 ⊢
  have := l29DrawL b _ x [] [] j k rfl (by simp; omega)
  rcases e2 : spec_l29Draw_L1 b x [] [] j k with ⟨p, q, r, s, t⟩
  rw [e2] at this
  exact this
def spec_l29Any_L1 (c_b : (List UInt8)) (u1 : Log) (l : List Record) (u999_i : Int) (u999_h : Int) : (List Record) × Int × Int :=
  if (((l).length : Nat) : Int) + (((u1.volatile).length : Nat) : Int) < 39 + ((spec_l1Below c_b u999_i u999_h 3).1) then
    spec_l29Any_L1 c_b u1 (((l ++ [((spec_l29Rec c_b ((spec_l1Below c_b u999_i u999_h 3).2.1) ((spec_l1Below c_b u999_i u999_h 3).2.2)).1)])) : List Record) ((spec_l29Rec c_b ((spec_l1Below c_b u999_i u999_h 3).2.1) ((spec_l1Below c_b u999_i u999_h 3).2.2)).2.1) ((spec_l29Rec c_b ((spec_l1Below c_b u999_i u999_h 3).2.1) ((spec_l1Below c_b u999_i u999_h 3).2.2)).2.2)
  else
    (((l) : List Record), ((spec_l1Below c_b u999_i u999_h 3).2.1), ((spec_l1Below c_b u999_i u999_h 3).2.2))
termination_by 41 - l.length
decreasing_by all_goals (have z_ := l1Below_rng c_b u999_i u999_h 3; (try simp_wf); (try simp only [List.length_append, List.length_cons, List.length_nil]); omega)
def spec_l29Any (c_b : (List UInt8)) (c_i : Int) (c_h : Int) : Log × Int × Int :=
  match spec_l29Draw c_b c_i c_h with
    | (u1, u2, u3) =>
      match spec_l1Below c_b u2 u3 10 with
        | (u4, u5, u6) =>
          bif (u4 == 0) then
            match spec_l29RecAny c_b u5 u6 with
              | (u7, u8, u9) =>
                ((Log.mk u1.durable (u1.volatile ++ [u7])), u8, u9)
          else
            bif (u4 == 1) then
              match spec_l29Any_L1 c_b u1 (u1.durable : List Record) u5 u6 with
                | (l, u999_i, u999_h) =>
                  ((Log.mk l u1.volatile), u999_i, u999_h)
            else
              (u1, u5, u6)
def spec_DrawLog (code : (List UInt8)) : Log :=
  match spec_l1New code with
    | (u1, u2) =>
      match spec_l29Draw code u1 u2 with
        | (u3, u4, u5) =>
          u3
def spec_DrawAppendRecord (code : (List UInt8)) : Log × Record :=
  match spec_l1New code with
    | (u1, u2) =>
      match spec_l29Any code u1 u2 with
        | (u3, u4, u5) =>
          match spec_l29RecAny code u4 u5 with
            | (u6, u7, u8) =>
              (u3, u6)
def spec_DrawCrashLog (code : (List UInt8)) : Log × Int :=
  match spec_l1New code with
    | (u1, u2) =>
      match spec_l29Any code u1 u2 with
        | (u3, u4, u5) =>
          match spec_l1Below code u4 u5 8 with
            | (u6, u7, u8) =>
              (u3, (u6 - 1))
def spec_l29One (code : (List UInt8)) : Log :=
  match spec_l1New code with
    | (u1, u2) =>
      match spec_l29Any code u1 u2 with
        | (u3, u4, u5) =>
          u3
def spec_DrawFlushLog (code : (List UInt8)) : Log :=
  (spec_l29One code)
def spec_DrawReplay (code : (List UInt8)) : (List Record) :=
  ((spec_l29One code).durable ++ (spec_l29One code).volatile)
def spec_DrawValidRecord (code : (List UInt8)) : Record :=
  match spec_l1New code with
    | (u1, u2) =>
      match spec_l29RecAny code u1 u2 with
        | (u3, u4, u5) =>
          u3
def laws_sameThing (a : DataP) (b : DataP) : Bool :=
  bif (laws_sameName a.name b.name) then
    bif (laws_same a.content b.content) then
      bif (laws_sameName a.keyName b.keyName) then
        bif (a.freshUntil == b.freshUntil) then
          (a.signature == b.signature)
        else
          false
      else
        false
    else
      false
  else
    false
def laws_sameRecs_L1 (b : (List Record)) : List Record → Nat → Option (Bool)
  | [], i => none
  | e1 :: rest_, i =>
    match (b)[i]? with
      | none => default
      | some e2 =>
        bif (e1.kind != e2.kind) then
          (some false)
        else
          bif (!(laws_sameThing e1.data e2.data)) then
            (some false)
          else
            laws_sameRecs_L1 b rest_ (i + 1)
def laws_sameRecs (a : (List Record)) (b : (List Record)) : Bool :=
  bif ((((a).length : Nat) : Int) != (((b).length : Nat) : Int)) then
    false
  else
    match laws_sameRecs_L1 b a 0 with
      | some r_ => r_
      | none =>
        true
def laws_sameLog (a : Log) (b : Log) : Bool :=
  bif (laws_sameRecs a.durable b.durable) then
    (laws_sameRecs a.volatile b.volatile)
  else
    false
def laws_sameThings_L1 (b : (List DataP)) : List DataP → Nat → Option (Bool)
  | [], i => none
  | e1 :: rest_, i =>
    match (b)[i]? with
      | none => default
      | some e2 =>
        bif (!(laws_sameThing e1 e2)) then
          (some false)
        else
          laws_sameThings_L1 b rest_ (i + 1)
def laws_sameThings (a : (List DataP)) (b : (List DataP)) : Bool :=
  bif ((((a).length : Nat) : Int) != (((b).length : Nat) : Int)) then
    false
  else
    match laws_sameThings_L1 b a 0 with
      | some r_ => r_
      | none =>
        true
end Go.Stp

