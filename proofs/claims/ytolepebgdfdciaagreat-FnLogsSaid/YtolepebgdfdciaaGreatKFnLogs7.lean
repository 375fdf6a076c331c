/-
  FnLogs: the law returns true at all arguments; conditions: those of the statement, no others. Written by a program (pack.py, mklaw2.py).
-/
import Derived.Carry
import Derived.ChangeArms
import Derived.ProofKit
import Derived.OpenShut
import Derived.JoinedCond
import Derived.Test.YtolepebgdfdciaaGreatKFnLogs6
namespace Go.Proofs.YtolepebgdfdciaaGreat
open Go.Stp
set_option linter.unusedVariables false
set_option linter.unusedSimpArgs false
theorem f170 (w : World) (n : Nat) (hn : n + 8 ≤ 9) (H : GH) (hH : Le H (hp w)) (bc_ : Nat) (c_b : (List UInt8)) (K0 : Option Addr) (M0 : Nat) (N0 : RdSl (cut (hp w) H) K0 M0 c_b) (c_i : Int) (c_h : Int) (hown : Sep H [MF.bx bc_ 182 [.slice K0 ((c_b).length) M0, .int .i64 (c_i), .int .i64 (c_h)]]) (hokc_b : GoT.ok n c_b) (hokc_i : NN c_i) (hokc_h : GoT.ok n c_h) (o0_ : Record) (o1_ : Int) (o2_ : Int) (hres : spec_l29Rec c_b c_i c_h = (o0_, o1_, o2_)) :
  Does Tryz.prog 170 #[.pointer (some ⟨bc_, 0, none⟩)] w H (Post w H (fun x : GoT.X (Record) => .agg ⟨GoT.sh (o0_ : Record) x⟩) (fun x => MF.bx bc_ 182 [.slice K0 ((c_b).length) M0, .int .i64 (o1_), .int .i64 (o2_)] :: GoT.oa (o0_ : Record) x) (GoT.ok (n + 1) (o0_ : Record) ∧ NN (o1_) ∧ I64 (o2_))) := by
 have hbP := bd_pos n
 have hbS0 : bd (n + 1) = 4 * bd (n) := bd_succ (n := n) (by omega)
 have hbS1 : bd (n + 2) = 4 * bd (n + 1) := bd_succ (n := n + 1) (by omega)
 have hbS2 : bd (n + 3) = 4 * bd (n + 2) := bd_succ (n := n + 2) (by omega)
 have hbS3 : bd (n + 4) = 4 * bd (n + 3) := bd_succ (n := n + 3) (by omega)
 have hbS4 : bd (n + 5) = 4 * bd (n + 4) := bd_succ (n := n + 4) (by omega)
 have hbS5 : bd (n + 6) = 4 * bd (n + 5) := bd_succ (n := n + 5) (by omega)
 have hbS6 : bd (n + 7) = 4 * bd (n + 6) := bd_succ (n := n + 6) (by omega)
 have hbS7 : bd (n + 8) = 4 * bd (n + 7) := bd_succ (n := n + 7) (by omega)
 have hbB := bd_big (n := (n + 8)) (by omega)
 have hbM := bd_mono (show n ≤ n + 8 by omega)
 have hc_bz : (c_b).length ≤ bd n := (okl hokc_b).1
 refine WX.enterP (tt := tt) (Γ := [(0, MF.rs .stb K0 M0 c_b)]) 1 Tryz.func170 rfl (by kernel_rfl) rfl (allS_cons rfl N0 allS_nil) hH hown (fun f hf => by cases hf) rfl ?_
 refine R0 ?_
 obtain ⟨⟨u1, u2, u3⟩, hu1⟩ : ∃ r_, spec_l8Draw c_b c_i c_h = r_ := ⟨_, rfl⟩
 refine WX.callP 999 2 rfl (fun _ _ h => GoT.ow_rd h) (fun _ f hf => GoT.fak f hf) rfl rfl rfl rfl rfl (fun _ => rfl) rfl (fun w G bs H hI hH hs hΓ => f222 w n (by omega) H hH (bs 999) c_b K0 M0 (hΓ.get 0 rfl) c_i c_h hs hokc_b hokc_i hokc_h u1 u2 u3 hu1) (fun _ => rfl) (fun _ => rfl) ?_
 rintro ⟨⟨p1, c1⟩, ⟨p2, c2⟩, ⟨p3, c3⟩, ⟨⟩, ⟨⟩⟩ hq1
 refine R0 ?_
 obtain ⟨⟨u4, u5, u6⟩, hu2⟩ : ∃ r_, spec_l1Once c_b u2 u3 3 = r_ := ⟨_, rfl⟩
 refine WX.callP (ds := fun _ => []) 999 8 rfl (fun _ _ _ => All.nil) (fun _ f hf => by cases hf) rfl rfl rfl rfl rfl (fun _ => rfl) rfl (fun w G bs H hI hH hs hΓ => f111 w n (by omega) H hH (bs 999) c_b K0 M0 (hΓ.get 0 rfl) u2 u3 3 hs hokc_b hq1.2.1 hq1.2.2 (show I64 3 from (by unfold I64; omega)) u4 u5 u6 hu2) (fun _ => rfl) (fun _ => rfl) ?_
 rintro ⟨⟩ hq2
 refine R0 ?_
 refine WX.cases 7 rfl (fun h1 => ?_) (fun h1 => ?_)
 ·skip
  refine R0 ?_
  refine WX.free 9 (MF.os none 0 ([] : List UInt8)) (owSl_nil _ _) ?_
  refine WX.free 10 (MF.os none 0 ([] : List Str)) (owSl_nil _ _) ?_
  have hP1 : spec_l29Rec c_b c_i c_h = (Record.mk 2 (DataP.mk u1.name ([]) (Name.mk ([])) 0 0), u5, u6) := by simp only [spec_l29Rec, hu1, hu2, h1, ct, cf]
  have hz1 := hP1.symm.trans hres
  obtain ⟨hz1, hz2⟩ := Prod.mk.inj hz1
  obtain ⟨hz2, hz3⟩ := Prod.mk.inj hz2
  subst hz1
  subst hz2
  subst hz3
  refine R1 ?_
  intro w1 G bs hI hΓ
  exact Post.ofL 999 [5, 9, 10] ((), ((p1, c1), (none, 0), (none, 0), (), ())) hI hΓ rfl rfl rfl (by rw [hI.pin _ rfl]; first | done | rfl) (⟨(And.intro (show I64 2 from (by unfold I64; omega)) (And.intro (ok_DataP hq1.1).1 (And.intro (ok_nil (α := UInt8)) (And.intro (ok_nil (α := Str)) (And.intro (show I64 0 from (by unfold I64; omega)) (show I64 0 from (by unfold I64; omega))))))), ⟨hq2.1, hq2.2⟩⟩)
 ·skip
  refine R0 ?_
  have hP2 : spec_l29Rec c_b c_i c_h = (Record.mk 1 u1, u5, u6) := by simp only [spec_l29Rec, hu1, hu2, h1, ct, cf]
  have hz1 := hP2.symm.trans hres
  obtain ⟨hz1, hz2⟩ := Prod.mk.inj hz1
  obtain ⟨hz2, hz3⟩ := Prod.mk.inj hz2
  subst hz1
  subst hz2
  subst hz3
  refine R1 ?_
  intro w1 G bs hI hΓ
  exact Post.ofL 999 [5, 6, 7] ((), ((p1, c1), (p2, c2), (p3, c3), (), ())) hI hΓ rfl rfl rfl (by rw [hI.pin _ rfl]; first | done | rfl) (⟨(And.intro (show I64 1 from (by unfold I64; omega)) hq1.1), ⟨hq2.1, hq2.2⟩⟩)
theorem f79 (w : World) (n : Nat) (hn : n + 8 ≤ 9) (H : GH) (hH : Le H (hp w)) (bc_ : Nat) (c_b : (List UInt8)) (K0 : Option Addr) (M0 : Nat) (N0 : RdSl (cut (hp w) H) K0 M0 c_b) (c_i : Int) (c_h : Int) (hown : Sep H [MF.bx bc_ 182 [.slice K0 ((c_b).length) M0, .int .i64 (c_i), .int .i64 (c_h)]]) (hokc_b : GoT.ok n c_b) (hokc_i : NN c_i) (hokc_h : GoT.ok n c_h) (o0_ : Record) (o1_ : Int) (o2_ : Int) (hres : spec_l29RecAny c_b c_i c_h = (o0_, o1_, o2_)) :
  Does Tryz.prog 79 #[.pointer (some ⟨bc_, 0, none⟩)] w H (Post w H (fun x : GoT.X (Record) => .agg ⟨GoT.sh (o0_ : Record) x⟩) (fun x => MF.bx bc_ 182 [.slice K0 ((c_b).length) M0, .int .i64 (o1_), .int .i64 (o2_)] :: GoT.oa (o0_ : Record) x) (GoT.ok (n + 1) (o0_ : Record) ∧ NN (o1_) ∧ I64 (o2_))) := by
 have hbP := bd_pos n
 have hbS0 : bd (n + 1) = 4 * bd (n) := bd_succ (n := n) (by omega)
 have hbS1 : bd (n + 2) = 4 * bd (n + 1) := bd_succ (n := n + 1) (by omega)
 have hbS2 : bd (n + 3) = 4 * bd (n + 2) := bd_succ (n := n + 2) (by omega)
 have hbS3 : bd (n + 4) = 4 * bd (n + 3) := bd_succ (n := n + 3) (by omega)
 have hbS4 : bd (n + 5) = 4 * bd (n + 4) := bd_succ (n := n + 4) (by omega)
 have hbS5 : bd (n + 6) = 4 * bd (n + 5) := bd_succ (n := n + 5) (by omega)
 have hbS6 : bd (n + 7) = 4 * bd (n + 6) := bd_succ (n := n + 6) (by omega)
 have hbS7 : bd (n + 8) = 4 * bd (n + 7) := bd_succ (n := n + 7) (by omega)
 have hbB := bd_big (n := (n + 8)) (by omega)
 have hbM := bd_mono (show n ≤ n + 8 by omega)
 have hc_bz : (c_b).length ≤ bd n := (okl hokc_b).1
 refine WX.enterP (tt := tt) (Γ := [(0, MF.rs .stb K0 M0 c_b)]) 1 Tryz.func79 rfl (by kernel_rfl) rfl (allS_cons rfl N0 allS_nil) hH hown (fun f hf => by cases hf) rfl ?_
 refine R0 ?_
 obtain ⟨⟨u1, u2, u3⟩, hu1⟩ : ∃ r_, spec_l29Rec c_b c_i c_h = r_ := ⟨_, rfl⟩
 refine WX.callP 999 2 rfl (fun _ _ h => GoT.ow_rd h) (fun _ f hf => GoT.fak f hf) rfl rfl rfl rfl rfl (fun _ => rfl) rfl (fun w G bs H hI hH hs hΓ => f170 w n (by omega) H hH (bs 999) c_b K0 M0 (hΓ.get 0 rfl) c_i c_h hs hokc_b hokc_i hokc_h u1 u2 u3 hu1) (fun _ => rfl) (fun _ => rfl) ?_
 rintro ⟨⟨⟩, ⟨⟨p1, c1⟩, ⟨p2, c2⟩, ⟨p3, c3⟩, ⟨⟩, ⟨⟩⟩⟩ hq1
 refine R0 ?_
 obtain ⟨⟨u4, u5, u6⟩, hu2⟩ : ∃ r_, spec_l1Below c_b u2 u3 8 = r_ := ⟨_, rfl⟩
 refine WX.callP (ds := fun _ => []) 999 8 rfl (fun _ _ _ => All.nil) (fun _ f hf => by cases hf) rfl rfl rfl rfl rfl (fun _ => rfl) rfl (fun w G bs H hI hH hs hΓ => f84 w n (by omega) H hH (bs 999) c_b K0 M0 (hΓ.get 0 rfl) u2 u3 8 hs hokc_b hq1.2.1 hq1.2.2 (show I64 8 from (by unfold I64; omega)) u4 u5 u6 hu2) (fun _ => rfl) (fun _ => rfl) ?_
 rintro ⟨⟩ hq2
 have q1 := l1Below_rng c_b u2 u3 8
 rw [hu2] at q1
 try dsimp only at q1
 refine R0 ?_
 refine WX.cases 8 rfl (fun h1 => ?_) (fun h1 => ?_)
 ·skip
  have h1d := B.et h1
  refine R0 ?_
  obtain ⟨⟨u7, u8, u9⟩, hu3⟩ : ∃ r_, spec_l1Below c_b u5 u6 5 = r_ := ⟨_, rfl⟩
  refine WX.callP (ds := fun _ => []) 999 9 rfl (fun _ _ _ => All.nil) (fun _ f hf => by cases hf) rfl rfl rfl rfl rfl (fun _ => rfl) rfl (fun w G bs H hI hH hs hΓ => f84 w n (by omega) H hH (bs 999) c_b K0 M0 (hΓ.get 0 rfl) u5 u6 5 hs hokc_b hq2.2.1 hq2.2.2 (show I64 5 from (by unfold I64; omega)) u7 u8 u9 hu3) (fun _ => rfl) (fun _ => rfl) ?_
  rintro ⟨⟩ hq3
  have q2 := l1Below_rng c_b u5 u6 5
  rw [hu3] at q2
  try dsimp only at q2
  refine R0 ?_
  have hP1 : spec_l29RecAny c_b c_i c_h = (Record.mk u7 u1.data, u8, u9) := by simp only [spec_l29RecAny, hu1, hu2, h1, hu3, ct, cf]
  have hz1 := hP1.symm.trans hres
  obtain ⟨hz1, hz2⟩ := Prod.mk.inj hz1
  obtain ⟨hz2, hz3⟩ := Prod.mk.inj hz2
  subst hz1
  subst hz2
  subst hz3
  refine R1 ?_
  intro w1 G bs hI hΓ
  exact Post.ofL 999 [5, 6, 7] ((), ((p1, c1), (p2, c2), (p3, c3), (), ())) hI hΓ rfl rfl rfl (by rw [hI.pin _ rfl]; first | done | rfl) (⟨(And.intro hq3.1 (ok_Record hq1.1).2), ⟨hq3.2.1, hq3.2.2⟩⟩)
 ·skip
  have h1d := B.ef h1
  refine R0 ?_
  refine WX.cases 13 rfl (fun h2 => ?_) (fun h2 => ?_)
  ·skip
   have h2d := B.et h2
   refine R0 ?_
   obtain ⟨⟨u10, u11, u12⟩, hu4⟩ : ∃ r_, spec_l8Any c_b u5 u6 = r_ := ⟨_, rfl⟩
   refine WX.callP 999 10 rfl (fun _ _ h => GoT.ow_rd h) (fun _ f hf => GoT.fak f hf) rfl rfl rfl rfl rfl (fun _ => rfl) rfl (fun w G bs H hI hH hs hΓ => f171 w n (by omega) H hH (bs 999) c_b K0 M0 (hΓ.get 0 rfl) u5 u6 hs hokc_b hq2.2.1 hq2.2.2 u10 u11 u12 hu4) (fun _ => rfl) (fun _ => rfl) ?_
   rintro ⟨⟨p4, c4⟩, ⟨p5, c5⟩, ⟨p6, c6⟩, ⟨⟩, ⟨⟩⟩ hq4
   refine R0 ?_
   have hP2 : spec_l29RecAny c_b c_i c_h = (Record.mk u1.kind u10, u11, u12) := by simp only [spec_l29RecAny, hu1, hu2, h1, h2, hu4, ct, cf]
   have hz1 := hP2.symm.trans hres
   obtain ⟨hz1, hz2⟩ := Prod.mk.inj hz1
   obtain ⟨hz2, hz3⟩ := Prod.mk.inj hz2
   subst hz1
   subst hz2
   subst hz3
   refine R1 ?_
   intro w1 G bs hI hΓ
   exact Post.ofL 999 [13, 14, 15] ((), ((p4, c4), (p5, c5), (p6, c6), (), ())) hI hΓ rfl rfl rfl (by rw [hI.pin _ rfl]; first | done | rfl) (⟨(And.intro (ok_Record hq1.1).1 hq4.1), ⟨hq4.2.1, hq4.2.2⟩⟩)
  ·skip
   have h2d := B.ef h2
   refine R0 ?_
   have hP3 : spec_l29RecAny c_b c_i c_h = (u1, u5, u6) := by simp only [spec_l29RecAny, hu1, hu2, h1, h2, ct, cf]
   have hz1 := hP3.symm.trans hres
   obtain ⟨hz1, hz2⟩ := Prod.mk.inj hz1
   obtain ⟨hz2, hz3⟩ := Prod.mk.inj hz2
   subst hz1
   subst hz2
   subst hz3
   refine R1 ?_
   intro w1 G bs hI hΓ
   exact Post.ofL 999 [5, 6, 7] ((), ((p1, c1), (p2, c2), (p3, c3), (), ())) hI hΓ rfl rfl rfl (by rw [hI.pin _ rfl]; first | done | rfl) (⟨hq1.1, ⟨hq2.2.1, hq2.2.2⟩⟩)
theorem f77 (w : World) (n : Nat) (hn : n + 8 ≤ 9) (H : GH) (hH : Le H (hp w)) (bc_ : Nat) (c_b : (List UInt8)) (K0 : Option Addr) (M0 : Nat) (N0 : RdSl (cut (hp w) H) K0 M0 c_b) (c_i : Int) (c_h : Int) (hown : Sep H [MF.bx bc_ 182 [.slice K0 ((c_b).length) M0, .int .i64 (c_i), .int .i64 (c_h)]]) (hokc_b : GoT.ok n c_b) (hokc_i : NN c_i) (hokc_h : GoT.ok n c_h) (o0_ : Log) (o1_ : Int) (o2_ : Int) (hres : spec_l29Draw c_b c_i c_h = (o0_, o1_, o2_)) :
  Does Tryz.prog 77 #[.pointer (some ⟨bc_, 0, none⟩)] w H (Post w H (fun x : GoT.X (Log) => .agg ⟨GoT.sh (o0_ : Log) x⟩) (fun x => MF.bx bc_ 182 [.slice K0 ((c_b).length) M0, .int .i64 (o1_), .int .i64 (o2_)] :: GoT.oa (o0_ : Log) x) (GoT.ok (n + 1) (o0_ : Log) ∧ NN (o1_) ∧ I64 (o2_))) := by
 have hbP := bd_pos n
 have hbS0 : bd (n + 1) = 4 * bd (n) := bd_succ (n := n) (by omega)
 have hbS1 : bd (n + 2) = 4 * bd (n + 1) := bd_succ (n := n + 1) (by omega)
 have hbS2 : bd (n + 3) = 4 * bd (n + 2) := bd_succ (n := n + 2) (by omega)
 have hbS3 : bd (n + 4) = 4 * bd (n + 3) := bd_succ (n := n + 3) (by omega)
 have hbS4 : bd (n + 5) = 4 * bd (n + 4) := bd_succ (n := n + 4) (by omega)
 have hbS5 : bd (n + 6) = 4 * bd (n + 5) := bd_succ (n := n + 5) (by omega)
 have hbS6 : bd (n + 7) = 4 * bd (n + 6) := bd_succ (n := n + 6) (by omega)
 have hbS7 : bd (n + 8) = 4 * bd (n + 7) := bd_succ (n := n + 7) (by omega)
 have hbB := bd_big (n := (n + 8)) (by omega)
 have hbM := bd_mono (show n ≤ n + 8 by omega)
 have hc_bz : (c_b).length ≤ bd n := (okl hokc_b).1
 refine WX.enterP (tt := tt) (Γ := [(0, MF.rs .stb K0 M0 c_b)]) 1 Tryz.func77 rfl (by kernel_rfl) rfl (allS_cons rfl N0 allS_nil) hH hown (fun f hf => by cases hf) rfl ?_
 refine R0 ?_
 obtain ⟨⟨u1, u2, u3⟩, hu1⟩ : ∃ r_, spec_l1Below c_b c_i c_h 9 = r_ := ⟨_, rfl⟩
 refine WX.callP (ds := fun _ => []) 999 2 rfl (fun _ _ _ => All.nil) (fun _ f hf => by cases hf) rfl rfl rfl rfl rfl (fun _ => rfl) rfl (fun w G bs H hI hH hs hΓ => f84 w n (by omega) H hH (bs 999) c_b K0 M0 (hΓ.get 0 rfl) c_i c_h 9 hs hokc_b hokc_i hokc_h (show I64 9 from (by unfold I64; omega)) u1 u2 u3 hu1) (fun _ => rfl) (fun _ => rfl) ?_
 rintro ⟨⟩ hq1
 have q1 := l1Below_rng c_b c_i c_h 9
 rw [hu1] at q1
 try dsimp only at q1
 refine R0 ?_
 refine WX.free 4 (MF.os none 0 ([] : List Record)) (owSl_nil _ _) ?_
 refine WX.der 3 (MF.rs .der none 0 ([] : List Record)) rfl (fun _ hΓ => (hΓ.get 4 rfl : OwSl _ _ _ _).rd) ?_
 refine WX.free 6 (MF.os none 0 ([] : List Record)) (owSl_nil _ _) ?_
 refine WX.der 5 (MF.rs .der none 0 ([] : List Record)) rfl (fun _ hΓ => (hΓ.get 6 rfl : OwSl _ _ _ _).rd) ?_
 refine WX.loop (ι := Int × (Option Addr) × Nat × (List Record) × (Option Addr) × Nat × (List Record) × Int × Int) ⟨fun | (i, plDurable, clDurable, lDurable, plVolatile, clVolatile, lVolatile, u999_i, u999_h) => (-9223372036854775808 ≤ i ∧ i ≤ 9223372036854775807) ∧ (lDurable.length ≤ bd (n + 1) ∧ ∀ z_ ∈ lDurable, GoT.ok (n + 1) z_) ∧ (lVolatile.length ≤ bd (n + 1) ∧ ∀ z_ ∈ lVolatile, GoT.ok (n + 1) z_) ∧ (NN u999_i) ∧ (-9223372036854775808 ≤ u999_h ∧ u999_h ≤ 9223372036854775807) ∧ (lDurable.length + lVolatile.length + i.toNat ≤ 8) ∧ (spec_l29Draw_L1 c_b u1 (([] : List Record) : List Record) (([] : List Record) : List Record) u2 u3 = spec_l29Draw_L1 c_b i lDurable lVolatile u999_i u999_h), fun | (i, plDurable, clDurable, lDurable, plVolatile, clVolatile, lVolatile, u999_i, u999_h) => i.toNat, fun | (i, plDurable, clDurable, lDurable, plVolatile, clVolatile, lVolatile, u999_i, u999_h) => [(4, .v (.int .i64 (i))), (3, .p 3 0), (2, .p 2 0), (0, .p 999 0)], fun | (i, plDurable, clDurable, lDurable, plVolatile, clVolatile, lVolatile, u999_i, u999_h) => [(3, ⟨26, [.slice plDurable ((lDurable).length) clDurable, .slice plVolatile ((lVolatile).length) clVolatile]⟩), (2, ⟨26, [.slice none (0) 0, .slice none (0) 0]⟩), (999, ⟨182, [.slice K0 ((c_b).length) M0, .int .i64 (u999_i), .int .i64 (u999_h)]⟩)], fun | (i, plDurable, clDurable, lDurable, plVolatile, clVolatile, lVolatile, u999_i, u999_h) => [], fun | (i, plDurable, clDurable, lDurable, plVolatile, clVolatile, lVolatile, u999_i, u999_h) => [(0, MF.rs .stb K0 M0 c_b), (4, MF.os plDurable clDurable lDurable), (6, MF.os plVolatile clVolatile lVolatile)]⟩ (u1, none, 0, (([] : List Record) : List Record), none, 0, (([] : List Record) : List Record), u2, u3) ⟨hq1.1, (okl_mk (Nat.zero_le _) (fun a ha => by cases ha) : GoT.ok (n + 1) (([] : List Record) : List Record)), (okl_mk (Nat.zero_le _) (fun a ha => by cases ha) : GoT.ok (n + 1) (([] : List Record) : List Record)), hq1.2.1, hq1.2.2, (by simp; omega), rfl⟩
  (.cons rfl (.cons rfl (.cons rfl (.cons rfl (.nil))))) (.cons rfl (.cons rfl (.cons rfl (.nil)))) .nil [0, 4, 6] rfl ?_
 rintro ⟨i, plDurable, clDurable, lDurable, plVolatile, clVolatile, lVolatile, u999_i, u999_h⟩ hpre
 have hpre_ : (-9223372036854775808 ≤ i ∧ i ≤ 9223372036854775807) ∧ (lDurable.length ≤ bd (n + 1) ∧ ∀ z_ ∈ lDurable, GoT.ok (n + 1) z_) ∧ (lVolatile.length ≤ bd (n + 1) ∧ ∀ z_ ∈ lVolatile, GoT.ok (n + 1) z_) ∧ (NN u999_i) ∧ (-9223372036854775808 ≤ u999_h ∧ u999_h ≤ 9223372036854775807) ∧ (lDurable.length + lVolatile.length + i.toNat ≤ 8) ∧ (spec_l29Draw_L1 c_b u1 (([] : List Record) : List Record) (([] : List Record) : List Record) u2 u3 = spec_l29Draw_L1 c_b i lDurable lVolatile u999_i u999_h) := hpre
 clear hpre
 obtain ⟨v1, v2, v3, v4, v5, v6, v7⟩ := hpre_
 have v2L := v2.1
 have v3L := v3.1
 refine R0 ?_
 refine WX.cases 9 rfl (fun h1 => ?_) (fun h1 => ?_)
 ·skip
  have h1d := B.dt h1
  refine R0 ?_
  refine WX.der 7 (MF.rs .der plDurable clDurable lDurable) rfl (fun _ hΓ => (hΓ.get 4 rfl : OwSl _ _ _ _).rd) ?_
  refine WX.der 8 (MF.rs .der plVolatile clVolatile lVolatile) rfl (fun _ hΓ => (hΓ.get 6 rfl : OwSl _ _ _ _).rd) ?_
  refine WX.drawY [7] mixed rfl ?_
  intro bs G0 hΓ0
  refine DY.takes (fuel := 6) ttOk [(0, false), (1, true)] (by kernel_rfl) rfl ?_
  refine DY.toTX ?_
  intro S_ hS_
  refine TX.all1 2 (by kernel_rfl) ?_
  obtain ⟨⟨u4, u5, u6⟩, hu2⟩ : ∃ r_, spec_l29Rec c_b u999_i u999_h = r_ := ⟨_, rfl⟩
  refine TS.callP hS_ 2 9 ⟨_, rfl⟩ rfl (fun _ _ h => GoT.ow_rd h) (fun _ f hf => GoT.fak f hf) rfl rfl rfl rfl rfl rfl (fun _ => rfl) rfl (fun w G bs H hI hH hs hΓ => f170 w n (by omega) H hH (bs 999) c_b K0 M0 (hΓ.get 0 rfl) u999_i u999_h hs hokc_b v4 v5 u4 u5 u6 hu2) (fun _ => rfl) (fun _ => rfl) ?_
  rintro ⟨⟨⟩, ⟨⟨p1, c1⟩, ⟨p2, c2⟩, ⟨p3, c3⟩, ⟨⟩, ⟨⟩⟩⟩ hq2
  refine TX.all1 3 (by kernel_rfl) ?_
  refine TS.callF 3 15 (fun _ _ h => GoT.ow_rd h) (fun _ f hf => GoT.fak f hf) rfl rfl rfl rfl rfl rfl (fun _ => rfl) rfl (fun w G bs hI hΓ => f10 w (n + 1) (by omega) (Log.mk lDurable lVolatile) plDurable clDurable (hΓ.get 7 rfl) plVolatile clVolatile (hΓ.get 8 rfl) u4 p1 c1 (hΓ.get 9 rfl) p2 c2 (hΓ.get 10 rfl) p3 c3 (hΓ.get 11 rfl) (And.intro (okl_of v2) (okl_of v3)) hq2.1) (fun _ => rfl) (fun _ => rfl) ?_
  rintro ⟨⟨p4, c4⟩, ⟨p5, c5⟩⟩ hq3
  have q2 := len_AR (Log.mk lDurable lVolatile) u4
  try dsimp only at q2
  have hfx1 := arD (k := (n + 1)) (Log.mk lDurable lVolatile) u4 v2.2
  have hfx2 := arV (k := (n + 1)) (Log.mk lDurable lVolatile) u4 v3.2 hq2.1
  refine TX.takes (fuel := 1) ttOk [4, 5, 6] (by kernel_rfl) rfl ?_
  refine TX.tail [7] rfl rfl (by kernel_rfl) ?_
  refine R0 ?_
  obtain ⟨⟨u7, u8, u9⟩, hu3⟩ : ∃ r_, spec_l1Once c_b u5 u6 4 = r_ := ⟨_, rfl⟩
  refine WX.callP (ds := fun _ => []) 999 19 rfl (fun _ _ _ => All.nil) (fun _ f hf => by cases hf) rfl rfl rfl rfl rfl (fun _ => rfl) rfl (fun w G bs H hI hH hs hΓ => f111 w n (by omega) H hH (bs 999) c_b K0 M0 (hΓ.get 0 rfl) u5 u6 4 hs hokc_b hq2.2.1 hq2.2.2 (show I64 4 from (by unfold I64; omega)) u7 u8 u9 hu3) (fun _ => rfl) (fun _ => rfl) ?_
  rintro ⟨⟩ hq4
  refine R0 ?_
  refine WX.cases 20 rfl (fun h2 => ?_) (fun h2 => ?_)
  ·skip
   refine R0 ?_
   have r1 : ((spec_AppendRecord (Log.mk lDurable lVolatile) u4).1.durable).length ≤ bd (n + 2) := (okl (ok_Log hq3).1).1
   have r2 : ((spec_AppendRecord (Log.mk lDurable lVolatile) u4).1.volatile).length ≤ bd (n + 2) := (okl (ok_Log hq3).2).1
   refine WX.callF 20 (fun _ _ h => GoT.ow_rd h) (fun _ f hf => GoT.fak f hf) rfl rfl rfl rfl rfl (fun _ => rfl) rfl (fun w G bs hI hΓ => f19 w (n + 1) (by omega) ((spec_AppendRecord (Log.mk lDurable lVolatile) u4).1) p4 c4 (hΓ.get 15 rfl) p5 c5 (hΓ.get 16 rfl) (And.intro (okl_mk (by omega) hfx1 : GoT.ok (n + 1) ((spec_AppendRecord (Log.mk lDurable lVolatile) u4).1.durable : List Record)) (okl_mk (by omega) hfx2 : GoT.ok (n + 1) ((spec_AppendRecord (Log.mk lDurable lVolatile) u4).1.volatile : List Record)))) (fun _ => rfl) (fun _ => rfl) ?_
   rintro ⟨⟨p6, c6⟩, ⟨p7, c7⟩⟩ hq5
   have q3 := len_FL ((spec_AppendRecord (Log.mk lDurable lVolatile) u4).1)
   try dsimp only at q3
   have hfx3 := flD (k := (n + 1)) ((spec_AppendRecord (Log.mk lDurable lVolatile) u4).1) hfx1 hfx2
   have hfx4 := flV (k := (n + 1)) ((spec_AppendRecord (Log.mk lDurable lVolatile) u4).1)
   refine R0 ?_
   refine WX.see rfl rfl rfl (fun _ hΓ => looks_arith rfl rfl rfl rfl (by unfold I64; first | omega | (simp only [List.length_take] at *; omega))) ?_
   refine R0 ?_
   refine WX.turn [22] 4 rfl (fun _ h => h) rfl ?_
   refine WX.turn [23] 6 rfl (fun _ h => h) rfl ?_
   have r3 : ((spec_FlushLog ((spec_AppendRecord (Log.mk lDurable lVolatile) u4).1)).durable).length ≤ bd (n + 2) := (okl (ok_Log hq5).1).1
   have r4 : ((spec_FlushLog ((spec_AppendRecord (Log.mk lDurable lVolatile) u4).1)).volatile).length ≤ bd (n + 2) := (okl (ok_Log hq5).2).1
   exact WX.iter (i - 1, p6, c6, (spec_FlushLog ((spec_AppendRecord (Log.mk lDurable lVolatile) u4).1)).durable, p7, c7, (spec_FlushLog ((spec_AppendRecord (Log.mk lDurable lVolatile) u4).1)).volatile, u8, u9) ⟨(by first | assumption | omega), (okl_mk (by omega) hfx3 : GoT.ok (n + 1) ((spec_FlushLog ((spec_AppendRecord (Log.mk lDurable lVolatile) u4).1)).durable : List Record)), (okl_mk (by omega) hfx4 : GoT.ok (n + 1) ((spec_FlushLog ((spec_AppendRecord (Log.mk lDurable lVolatile) u4).1)).volatile : List Record)), hq4.1, hq4.2, (by omega), (by rw [v7]; rw [spec_l29Draw_L1]; simp only [h1, h1d, hu2, hu3, h2, ct, cf, ↓reduceIte, Bool.false_eq_true])⟩ (by first | (dsimp only; omega) | omega) (.cons rfl (.cons rfl (.cons rfl (.cons rfl (.nil))))) (.cons rfl (.cons rfl (.cons rfl (.nil)))) .nil [0, 4, 6] rfl
  ·skip
   refine R0 ?_
   refine WX.see rfl rfl rfl (fun _ hΓ => looks_arith rfl rfl rfl rfl (by unfold I64; first | omega | (simp only [List.length_take] at *; omega))) ?_
   refine R0 ?_
   refine WX.turn [17] 4 rfl (fun _ h => h) rfl ?_
   refine WX.turn [18] 6 rfl (fun _ h => h) rfl ?_
   have r5 : ((spec_AppendRecord (Log.mk lDurable lVolatile) u4).1.durable).length ≤ bd (n + 2) := (okl (ok_Log hq3).1).1
   have r6 : ((spec_AppendRecord (Log.mk lDurable lVolatile) u4).1.volatile).length ≤ bd (n + 2) := (okl (ok_Log hq3).2).1
   exact WX.iter (i - 1, p4, c4, (spec_AppendRecord (Log.mk lDurable lVolatile) u4).1.durable, p5, c5, (spec_AppendRecord (Log.mk lDurable lVolatile) u4).1.volatile, u8, u9) ⟨(by first | assumption | omega), (okl_mk (by omega) hfx1 : GoT.ok (n + 1) ((spec_AppendRecord (Log.mk lDurable lVolatile) u4).1.durable : List Record)), (okl_mk (by omega) hfx2 : GoT.ok (n + 1) ((spec_AppendRecord (Log.mk lDurable lVolatile) u4).1.volatile : List Record)), hq4.1, hq4.2, (by omega), (by rw [v7]; rw [spec_l29Draw_L1]; simp only [h1, h1d, hu2, hu3, h2, ct, cf, ↓reduceIte, Bool.false_eq_true])⟩ (by first | (dsimp only; omega) | omega) (.cons rfl (.cons rfl (.cons rfl (.cons rfl (.nil))))) (.cons rfl (.cons rfl (.cons rfl (.nil)))) .nil [0, 4, 6] rfl
 ·skip
  have h1d := B.df h1
  refine R0 ?_
  have hX1 : spec_l29Draw_L1 c_b u1 (([] : List Record) : List Record) (([] : List Record) : List Record) u2 u3 = (i, ((lDurable) : List Record), ((lVolatile) : List Record), u999_i, u999_h) := by rw [v7]; rw [spec_l29Draw_L1]; simp only [h1, h1d, ct, cf, ↓reduceIte, Bool.false_eq_true]
  have hP1 : spec_l29Draw c_b c_i c_h = (Log.mk lDurable lVolatile, u999_i, u999_h) := by simp only [spec_l29Draw, hu1, hX1, ct, cf]
  have hz1 := hP1.symm.trans hres
  obtain ⟨hz1, hz2⟩ := Prod.mk.inj hz1
  obtain ⟨hz2, hz3⟩ := Prod.mk.inj hz2
  subst hz1
  subst hz2
  subst hz3
  refine R1 ?_
  intro w1 G bs hI hΓ
  exact Post.ofL 999 [4, 6] ((plDurable, clDurable), (plVolatile, clVolatile)) hI hΓ rfl rfl rfl (by rw [hI.pin _ rfl]; first | done | rfl) (⟨(And.intro (okl_of v2) (okl_of v3)), ⟨v4, v5⟩⟩)
theorem f78 (w : World) (n : Nat) (hn : n + 8 ≤ 9) (H : GH) (hH : Le H (hp w)) (bc_ : Nat) (c_b : (List UInt8)) (K0 : Option Addr) (M0 : Nat) (N0 : RdSl (cut (hp w) H) K0 M0 c_b) (c_i : Int) (c_h : Int) (hown : Sep H [MF.bx bc_ 182 [.slice K0 ((c_b).length) M0, .int .i64 (c_i), .int .i64 (c_h)]]) (hokc_b : GoT.ok n c_b) (hokc_i : NN c_i) (hokc_h : GoT.ok n c_h) (o0_ : Log) (o1_ : Int) (o2_ : Int) (hres : spec_l29Any c_b c_i c_h = (o0_, o1_, o2_)) :
  Does Tryz.prog 78 #[.pointer (some ⟨bc_, 0, none⟩)] w H (Post w H (fun x : GoT.X (Log) => .agg ⟨GoT.sh (o0_ : Log) x⟩) (fun x => MF.bx bc_ 182 [.slice K0 ((c_b).length) M0, .int .i64 (o1_), .int .i64 (o2_)] :: GoT.oa (o0_ : Log) x) (GoT.ok (n + 1) (o0_ : Log) ∧ NN (o1_) ∧ I64 (o2_))) := by
 have hbP := bd_pos n
 have hbS0 : bd (n + 1) = 4 * bd (n) := bd_succ (n := n) (by omega)
 have hbS1 : bd (n + 2) = 4 * bd (n + 1) := bd_succ (n := n + 1) (by omega)
 have hbS2 : bd (n + 3) = 4 * bd (n + 2) := bd_succ (n := n + 2) (by omega)
 have hbS3 : bd (n + 4) = 4 * bd (n + 3) := bd_succ (n := n + 3) (by omega)
 have hbS4 : bd (n + 5) = 4 * bd (n + 4) := bd_succ (n := n + 4) (by omega)
 have hbS5 : bd (n + 6) = 4 * bd (n + 5) := bd_succ (n := n + 5) (by omega)
 have hbS6 : bd (n + 7) = 4 * bd (n + 6) := bd_succ (n := n + 6) (by omega)
 have hbS7 : bd (n + 8) = 4 * bd (n + 7) := bd_succ (n := n + 7) (by omega)
 have hbB := bd_big (n := (n + 8)) (by omega)
 have hbM := bd_mono (show n ≤ n + 8 by omega)
 have hc_bz : (c_b).length ≤ bd n := (okl hokc_b).1
 refine WX.enterP (tt := tt) (Γ := [(0, MF.rs .stb K0 M0 c_b)]) 1 Tryz.func78 rfl (by kernel_rfl) rfl (allS_cons rfl N0 allS_nil) hH hown (fun f hf => by cases hf) rfl ?_
 refine R0 ?_
 obtain ⟨⟨u1, u2, u3⟩, hu1⟩ : ∃ r_, spec_l29Draw c_b c_i c_h = r_ := ⟨_, rfl⟩
 refine WX.callP 999 2 rfl (fun _ _ h => GoT.ow_rd h) (fun _ f hf => GoT.fak f hf) rfl rfl rfl rfl rfl (fun _ => rfl) rfl (fun w G bs H hI hH hs hΓ => f77 w n (by omega) H hH (bs 999) c_b K0 M0 (hΓ.get 0 rfl) c_i c_h hs hokc_b hokc_i hokc_h u1 u2 u3 hu1) (fun _ => rfl) (fun _ => rfl) ?_
 rintro ⟨⟨p1, c1⟩, ⟨p2, c2⟩⟩ hq1
 have q1 := l29Draw_len c_b c_i c_h
 rw [hu1] at q1
 try dsimp only at q1
 refine R0 ?_
 obtain ⟨⟨u4, u5, u6⟩, hu2⟩ : ∃ r_, spec_l1Below c_b u2 u3 10 = r_ := ⟨_, rfl⟩
 refine WX.callP (ds := fun _ => []) 999 6 rfl (fun _ _ _ => All.nil) (fun _ f hf => by cases hf) rfl rfl rfl rfl rfl (fun _ => rfl) rfl (fun w G bs H hI hH hs hΓ => f84 w n (by omega) H hH (bs 999) c_b K0 M0 (hΓ.get 0 rfl) u2 u3 10 hs hokc_b hq1.2.1 hq1.2.2 (show I64 10 from (by unfold I64; omega)) u4 u5 u6 hu2) (fun _ => rfl) (fun _ => rfl) ?_
 rintro ⟨⟩ hq2
 have q2 := l1Below_rng c_b u2 u3 10
 rw [hu2] at q2
 try dsimp only at q2
 refine R0 ?_
 refine WX.cases 8 rfl (fun h1 => ?_) (fun h1 => ?_)
 ·skip
  have h1d := B.et h1
  refine R0 ?_
  refine WX.drawY [5, 7] mixed rfl ?_
  intro bs G0 hΓ0
  refine DY.takes (fuel := 5) ttOk [(0, true), (1, false), (2, true)] (by kernel_rfl) rfl ?_
  refine DY.toTX ?_
  intro S_ hS_
  refine TX.all1 3 (by kernel_rfl) ?_
  obtain ⟨⟨u7, u8, u9⟩, hu3⟩ : ∃ r_, spec_l29RecAny c_b u5 u6 = r_ := ⟨_, rfl⟩
  refine TS.callP hS_ 3 7 ⟨_, rfl⟩ rfl (fun _ _ h => GoT.ow_rd h) (fun _ f hf => GoT.fak f hf) rfl rfl rfl rfl rfl rfl (fun _ => rfl) rfl (fun w G bs H hI hH hs hΓ => f79 w n (by omega) H hH (bs 999) c_b K0 M0 (hΓ.get 0 rfl) u5 u6 hs hokc_b hq2.2.1 hq2.2.2 u7 u8 u9 hu3) (fun _ => rfl) (fun _ => rfl) ?_
  rintro ⟨⟨⟩, ⟨⟨p3, c3⟩, ⟨p4, c4⟩, ⟨p5, c5⟩, ⟨⟩, ⟨⟩⟩⟩ hq3
  refine TX.all1 4 (by kernel_rfl) ?_
  refine TS.op 4 rfl (by kernel_rfl) ?_
  refine WX.bld ttOk rfl rfl rfl rfl rfl rfl rfl ?_
  intro p6
  refine R0 ?_
  refine WX.turn [10, 11, 12] 13 rfl (fun h hs => ol_one (α := Record) (a := u7) (x := ((), ((p3, c3), (p4, c4), (p5, c5), (), ()))) hs) (gs := [MF.ol [.int .i64 (u7.kind), .slice p3 ((u7.data.name.parts).length) c3, .slice p4 ((u7.data.content).length) c4, .slice p5 ((u7.data.keyName.parts).length) c5, .int .i64 (u7.data.freshUntil), .int .i64 (u7.data.signature)] ([u7] : List Record)]) rfl ?_
  refine WX.seal 14 13 14 rfl rfl rfl rfl rfl ?_
  refine WX.back0 ?_
  refine TX.all1 5 (by kernel_rfl) ?_
  refine TS.op 5 rfl (by kernel_rfl) ?_
  refine WX.opn (kk := 6) 501 5 16 rfl rfl rfl ?_
  intro xs1 hx1
  refine WX.opn (kk := 6) 502 15 17 rfl rfl rfl ?_
  intro xs2 hx2
  have r1 : (u1.volatile).length ≤ bd (n + 1) := (okl (ok_Log hq1.1).2).1
  refine WX.know (fun G hΓ => (hΓ.get 17 rfl : OwL _ _ _).rd.one) ?_
  intro ho1
  refine WX.appR1 501 502 ((u1.volatile ++ [u7]) : List Record).length ttOk rfl rfl rfl rfl rfl rfl rfl rfl rfl rfl rfl rfl rfl ho1 (by simp) (by simp; omega) (by simp; omega) (fun _ _ => rfl) ?_
  intro p7 c6
  refine WX.turn [16, 17] 18 rfl (fun h hs => ol_app hs) (gs := [MF.ol (xs1 ++ xs2) ((u1.volatile ++ [u7]) : List Record)]) rfl ?_
  refine R0 ?_
  refine WX.back0 ?_
  refine TX.takes (fuel := 1) ttOk [6] (by kernel_rfl) rfl ?_
  refine TX.tail [7] rfl rfl (by kernel_rfl) ?_
  refine R0 ?_
  refine WX.seal 501 18 19 rfl rfl rfl rfl rfl ?_
  have hP1 : spec_l29Any c_b c_i c_h = (Log.mk u1.durable (u1.volatile ++ [u7]), u8, u9) := by simp only [spec_l29Any, hu1, hu2, h1, hu3, ct, cf]
  have hz1 := hP1.symm.trans hres
  obtain ⟨hz1, hz2⟩ := Prod.mk.inj hz1
  obtain ⟨hz2, hz3⟩ := Prod.mk.inj hz2
  subst hz1
  subst hz2
  subst hz3
  refine R1 ?_
  intro w1 G bs hI hΓ
  exact Post.ofL 999 [4, 20] ((p1, c1), (p7, c6)) hI hΓ rfl rfl rfl (by rw [hI.pin _ rfl]; first | done | rfl) (⟨(And.intro (ok_Log hq1.1).1 (okl_mk (by simp; omega) (all_app (okl (ok_Log hq1.1).2).2 (all_cons (α := Record) hq3.1 (fun a ha => by cases ha))) : GoT.ok (n + 1) ((u1.volatile ++ [u7]) : List Record))), ⟨hq3.2.1, hq3.2.2⟩⟩)
 ·skip
  have h1d := B.ef h1
  refine R0 ?_
  refine WX.cases 17 rfl (fun h2 => ?_) (fun h2 => ?_)
  ·skip
   have h2d := B.et h2
   refine R0 ?_
   refine WX.loop (ι := (Option Addr) × Nat × (List Record) × Int × Int) ⟨fun | (pl, cl, l, u999_i, u999_h) => (l.length ≤ bd (n + 1) ∧ ∀ z_ ∈ l, GoT.ok (n + 1) z_) ∧ (NN u999_i) ∧ (-9223372036854775808 ≤ u999_h ∧ u999_h ≤ 9223372036854775807) ∧ (l.length ≤ 41) ∧ (spec_l29Any_L1 c_b u1 (u1.durable : List Record) u5 u6 = spec_l29Any_L1 c_b u1 l u999_i u999_h), fun | (pl, cl, l, u999_i, u999_h) => 41 - l.length, fun | (pl, cl, l, u999_i, u999_h) => [(3, .p 3 0), (2, .p 2 0), (0, .p 999 0)], fun | (pl, cl, l, u999_i, u999_h) => [(3, ⟨26, [.slice pl ((l).length) cl, .slice p2 ((u1.volatile).length) c2]⟩), (2, ⟨26, [.slice none (0) 0, .slice none (0) 0]⟩), (999, ⟨182, [.slice K0 ((c_b).length) M0, .int .i64 (u999_i), .int .i64 (u999_h)]⟩)], fun | (pl, cl, l, u999_i, u999_h) => [], fun | (pl, cl, l, u999_i, u999_h) => [(0, MF.rs .stb K0 M0 c_b), (4, MF.os pl cl l), (5, MF.os p2 c2 u1.volatile)]⟩ (p1, c1, (u1.durable : List Record), u5, u6) ⟨(ok_Log hq1.1).1, hq2.2.1, hq2.2.2, (by omega), rfl⟩
    (.cons rfl (.cons rfl (.cons rfl (.nil)))) (.cons rfl (.cons rfl (.cons rfl (.nil)))) .nil [0, 4, 5] rfl ?_
   rintro ⟨pl, cl, l, u999_i, u999_h⟩ hpre
   have hpre_ : (l.length ≤ bd (n + 1) ∧ ∀ z_ ∈ l, GoT.ok (n + 1) z_) ∧ (NN u999_i) ∧ (-9223372036854775808 ≤ u999_h ∧ u999_h ≤ 9223372036854775807) ∧ (l.length ≤ 41) ∧ (spec_l29Any_L1 c_b u1 (u1.durable : List Record) u5 u6 = spec_l29Any_L1 c_b u1 l u999_i u999_h) := hpre
   clear hpre
   obtain ⟨v1, v2, v3, v4, v5⟩ := hpre_
   have v1L := v1.1
   refine R0 ?_
   refine WX.der 21 (MF.rs .der pl cl l) rfl (fun _ hΓ => (hΓ.get 4 rfl : OwSl _ _ _ _).rd) ?_
   refine WX.der 22 (MF.rs .der p2 c2 u1.volatile) rfl (fun _ hΓ => (hΓ.get 5 rfl : OwSl _ _ _ _).rd) ?_
   refine WX.drawY [] mixed rfl ?_
   intro bs G0 hΓ0
   refine DY.takes (fuel := 4) ttOk [(0, true), (1, false), (2, true), (3, true), (4, false), (5, true), (7, true)] (by kernel_rfl) rfl ?_
   refine DY.toTX ?_
   intro S_ hS_
   have r2 : (u1.volatile).length ≤ bd (n + 1) := (okl (ok_Log hq1.1).2).1
   refine TX.seeP 6 (by kernel_rfl) rfl rfl rfl rfl (looksP_arith rfl rfl rfl rfl (by unfold I64; first | omega | (simp only [List.length_take] at *; omega))) ?_
   refine TX.all1 8 (by kernel_rfl) ?_
   obtain ⟨⟨u10, u11, u12⟩, hu4⟩ : ∃ r_, spec_l1Below c_b u999_i u999_h 3 = r_ := ⟨_, rfl⟩
   refine TS.callP (ds := fun _ => []) hS_ 8 23 ⟨_, rfl⟩ rfl (fun _ _ _ => All.nil) (fun _ f hf => by cases hf) rfl rfl rfl rfl rfl rfl (fun _ => rfl) rfl (fun w G bs H hI hH hs hΓ => f84 w n (by omega) H hH (bs 999) c_b K0 M0 (hΓ.get 0 rfl) u999_i u999_h 3 hs hokc_b v2 v3 (show I64 3 from (by unfold I64; omega)) u10 u11 u12 hu4) (fun _ => rfl) (fun _ => rfl) ?_
   rintro ⟨⟩ hq4
   have q3 := l1Below_rng c_b u999_i u999_h 3
   rw [hu4] at q3
   try dsimp only at q3
   have r3 : -9223372036854775808 ≤ u10 ∧ u10 ≤ 9223372036854775807 := hq4.1
   refine TX.seeP 9 (by kernel_rfl) rfl rfl rfl rfl (looksP_arith rfl rfl rfl rfl (by unfold I64; first | omega | (simp only [List.length_take] at *; omega))) ?_
   refine TX.takes (fuel := 0) ttOk [10] (by kernel_rfl) rfl ?_
   refine TX.tail [] rfl rfl (by kernel_rfl) ?_
   refine R0 ?_
   refine WX.cases 29 rfl (fun h3 => ?_) (fun h3 => ?_)
   ·skip
    have h3d := B.dt h3
    refine R0 ?_
    refine WX.drawY [5, 7] mixed rfl ?_
    intro bs G0 hΓ0
    refine DY.takes (fuel := 5) ttOk [(0, true), (1, false), (2, true)] (by kernel_rfl) rfl ?_
    refine DY.toTX ?_
    intro S_ hS_
    refine TX.all1 3 (by kernel_rfl) ?_
    obtain ⟨⟨u13, u14, u15⟩, hu5⟩ : ∃ r_, spec_l29Rec c_b u11 u12 = r_ := ⟨_, rfl⟩
    refine TS.callP hS_ 3 24 ⟨_, rfl⟩ rfl (fun _ _ h => GoT.ow_rd h) (fun _ f hf => GoT.fak f hf) rfl rfl rfl rfl rfl rfl (fun _ => rfl) rfl (fun w G bs H hI hH hs hΓ => f170 w n (by omega) H hH (bs 999) c_b K0 M0 (hΓ.get 0 rfl) u11 u12 hs hokc_b hq4.2.1 hq4.2.2 u13 u14 u15 hu5) (fun _ => rfl) (fun _ => rfl) ?_
    rintro ⟨⟨⟩, ⟨⟨p8, c7⟩, ⟨p9, c8⟩, ⟨p10, c9⟩, ⟨⟩, ⟨⟩⟩⟩ hq5
    refine TX.all1 4 (by kernel_rfl) ?_
    refine TS.op 4 rfl (by kernel_rfl) ?_
    refine WX.bld ttOk rfl rfl rfl rfl rfl rfl rfl ?_
    intro p11
    refine R0 ?_
    refine WX.turn [27, 28, 29] 30 rfl (fun h hs => ol_one (α := Record) (a := u13) (x := ((), ((p8, c7), (p9, c8), (p10, c9), (), ()))) hs) (gs := [MF.ol [.int .i64 (u13.kind), .slice p8 ((u13.data.name.parts).length) c7, .slice p9 ((u13.data.content).length) c8, .slice p10 ((u13.data.keyName.parts).length) c9, .int .i64 (u13.data.freshUntil), .int .i64 (u13.data.signature)] ([u13] : List Record)]) rfl ?_
    refine WX.seal 34 30 31 rfl rfl rfl rfl rfl ?_
    refine WX.back0 ?_
    refine TX.all1 5 (by kernel_rfl) ?_
    refine TS.op 5 rfl (by kernel_rfl) ?_
    refine WX.opn (kk := 6) 503 4 33 rfl rfl rfl ?_
    intro xs3 hx3
    refine WX.opn (kk := 6) 504 32 34 rfl rfl rfl ?_
    intro xs4 hx4
    refine WX.know (fun G hΓ => (hΓ.get 34 rfl : OwL _ _ _).rd.one) ?_
    intro ho2
    refine WX.appR1 503 504 ((l ++ [u13]) : List Record).length ttOk rfl rfl rfl rfl rfl rfl rfl rfl rfl rfl rfl rfl rfl ho2 (by simp) (by simp; omega) (by simp; omega) (fun _ _ => rfl) ?_
    intro p12 c10
    refine WX.turn [33, 34] 35 rfl (fun h hs => ol_app hs) (gs := [MF.ol (xs3 ++ xs4) ((l ++ [u13]) : List Record)]) rfl ?_
    refine R0 ?_
    refine WX.back0 ?_
    refine TX.takes (fuel := 1) ttOk [6] (by kernel_rfl) rfl ?_
    refine TX.tail [7] rfl rfl (by kernel_rfl) ?_
    refine R0 ?_
    refine WX.seal 503 35 36 rfl rfl rfl rfl rfl ?_
    refine WX.turn [37] 4 rfl (fun _ h => h) rfl ?_
    exact WX.iter (p12, c10, (l ++ [u13]), u14, u15) ⟨(okl_mk (by simp; omega) (all_app v1.2 (all_cons (α := Record) hq5.1 (fun a ha => by cases ha))) : GoT.ok (n + 1) ((l ++ [u13]) : List Record)), hq5.2.1, hq5.2.2, (by first | assumption | omega | (simp; omega)), (by rw [v5]; rw [spec_l29Any_L1]; simp only [hu4, h3, h3d, hu5, ct, cf, ↓reduceIte, Bool.false_eq_true])⟩ (by dsimp only; simp only [List.length_append, List.length_cons, List.length_nil]; omega) (.cons rfl (.cons rfl (.cons rfl (.nil)))) (.cons rfl (.cons rfl (.cons rfl (.nil)))) .nil [0, 4, 5] rfl
   ·skip
    have h3d := B.df h3
    refine R0 ?_
    have hX1 : spec_l29Any_L1 c_b u1 (u1.durable : List Record) u5 u6 = (((l) : List Record), u11, u12) := by rw [v5]; rw [spec_l29Any_L1]; simp only [hu4, h3, h3d, ct, cf, ↓reduceIte, Bool.false_eq_true]
    have hP2 : spec_l29Any c_b c_i c_h = (Log.mk l u1.volatile, u11, u12) := by simp only [spec_l29Any, hu1, hu2, h1, h2, hX1, ct, cf]
    have hz1 := hP2.symm.trans hres
    obtain ⟨hz1, hz2⟩ := Prod.mk.inj hz1
    obtain ⟨hz2, hz3⟩ := Prod.mk.inj hz2
    subst hz1
    subst hz2
    subst hz3
    refine R1 ?_
    intro w1 G bs hI hΓ
    exact Post.ofL 999 [4, 5] ((pl, cl), (p2, c2)) hI hΓ rfl rfl rfl (by rw [hI.pin _ rfl]; first | done | rfl) (⟨(And.intro (okl_of v1) (ok_Log hq1.1).2), ⟨hq4.2.1, hq4.2.2⟩⟩)
  ·skip
   have h2d := B.ef h2
   refine R0 ?_
   have hP3 : spec_l29Any c_b c_i c_h = (u1, u5, u6) := by simp only [spec_l29Any, hu1, hu2, h1, h2, ct, cf]
   have hz1 := hP3.symm.trans hres
   obtain ⟨hz1, hz2⟩ := Prod.mk.inj hz1
   obtain ⟨hz2, hz3⟩ := Prod.mk.inj hz2
   subst hz1
   subst hz2
   subst hz3
   refine R1 ?_
   intro w1 G bs hI hΓ
   exact Post.ofL 999 [4, 5] ((p1, c1), (p2, c2)) hI hΓ rfl rfl rfl (by rw [hI.pin _ rfl]; first | done | rfl) (⟨hq1.1, ⟨hq2.2.1, hq2.2.2⟩⟩)
theorem f7 (w : World) (n : Nat) (hn : n + 8 ≤ 9) (code : (List UInt8)) (K0 : Option Addr) (M0 : Nat) (N0 : RdSl (hp w) K0 M0 code) (hokcode : GoT.ok n code) :
  Does Tryz.prog 7 #[.slice K0 ((code).length) M0] w emp (Post w emp (fun x : GoT.X (Log) => .agg ⟨GoT.sh ((spec_DrawLog code) : Log) x⟩) (fun x => GoT.oa ((spec_DrawLog code) : Log) x) (GoT.ok (n + 1) ((spec_DrawLog code) : Log))) := by
 have hbP := bd_pos n
 have hbS0 : bd (n + 1) = 4 * bd (n) := bd_succ (n := n) (by omega)
 have hbS1 : bd (n + 2) = 4 * bd (n + 1) := bd_succ (n := n + 1) (by omega)
 have hbS2 : bd (n + 3) = 4 * bd (n + 2) := bd_succ (n := n + 2) (by omega)
 have hbS3 : bd (n + 4) = 4 * bd (n + 3) := bd_succ (n := n + 3) (by omega)
 have hbS4 : bd (n + 5) = 4 * bd (n + 4) := bd_succ (n := n + 4) (by omega)
 have hbS5 : bd (n + 6) = 4 * bd (n + 5) := bd_succ (n := n + 5) (by omega)
 have hbS6 : bd (n + 7) = 4 * bd (n + 6) := bd_succ (n := n + 6) (by omega)
 have hbS7 : bd (n + 8) = 4 * bd (n + 7) := bd_succ (n := n + 7) (by omega)
 have hbB := bd_big (n := (n + 8)) (by omega)
 have hbM := bd_mono (show n ≤ n + 8 by omega)
 refine WX.enter (tt := tt) (Γ := [(0, MF.rs .stb K0 M0 code)]) Tryz.func7 rfl (by kernel_rfl) rfl (allS_cons rfl N0 allS_nil) ?_
 refine R0 ?_
 obtain ⟨⟨u1, u2⟩, hu1⟩ : ∃ r_, spec_l1New code = r_ := ⟨_, rfl⟩
 refine WX.callF (ds := fun _ => []) 1 (fun _ _ _ => All.nil) (fun _ f hf => by cases hf) rfl rfl rfl rfl rfl (fun _ => rfl) rfl (fun w G bs hI hΓ => f76 w n (by omega) code K0 M0 (hΓ.get 0 rfl) hokcode u1 u2 hu1) (fun _ => rfl) (fun _ => rfl) ?_
 rintro bn1 hq1
 refine WX.adopt 5 1 rfl rfl rfl ?_
 refine R0 ?_
 obtain ⟨⟨u3, u4, u5⟩, hu2⟩ : ∃ r_, spec_l29Draw code u1 u2 = r_ := ⟨_, rfl⟩
 refine WX.callP 5 2 rfl (fun _ _ h => GoT.ow_rd h) (fun _ f hf => GoT.fak f hf) rfl rfl rfl rfl rfl (fun _ => rfl) rfl (fun w G bs H hI hH hs hΓ => f77 w n (by omega) H hH (bs 5) code K0 M0 (hΓ.get 0 rfl) u1 u2 hs hokcode hq1.1 hq1.2 u3 u4 u5 hu2) (fun _ => rfl) (fun _ => rfl) ?_
 rintro ⟨⟨p1, c1⟩, ⟨p2, c2⟩⟩ hq2
 have q1 := l29Draw_len code u1 u2
 rw [hu2] at q1
 try dsimp only at q1
 refine R0 ?_
 have hP1 : spec_DrawLog code = u3 := by simp only [spec_DrawLog, hu1, hu2, ct, cf]
 refine R1 ?_
 intro w1 G bs hI hΓ
 rw [hP1]
 exact Post.of [4, 5] ((p1, c1), (p2, c2)) hI hΓ rfl rfl rfl hq2.1
theorem f8 (w : World) (n : Nat) (hn : n + 8 ≤ 9) (code : (List UInt8)) (K0 : Option Addr) (M0 : Nat) (N0 : RdSl (hp w) K0 M0 code) (hokcode : GoT.ok n code) :
  Does Tryz.prog 8 #[.slice K0 ((code).length) M0] w emp (Post w emp (fun x : GoT.X (Log × Record) => .tuple #[.agg ⟨GoT.sh ((spec_DrawAppendRecord code).1 : Log) x.1⟩, .agg ⟨GoT.sh ((spec_DrawAppendRecord code).2 : Record) x.2⟩]) (fun x => GoT.oa (((spec_DrawAppendRecord code).1, (spec_DrawAppendRecord code).2) : Log × Record) x) (GoT.ok (n + 1) ((spec_DrawAppendRecord code).1 : Log) ∧ GoT.ok (n + 1) ((spec_DrawAppendRecord code).2 : Record))) := by
 have hbP := bd_pos n
 have hbS0 : bd (n + 1) = 4 * bd (n) := bd_succ (n := n) (by omega)
 have hbS1 : bd (n + 2) = 4 * bd (n + 1) := bd_succ (n := n + 1) (by omega)
 have hbS2 : bd (n + 3) = 4 * bd (n + 2) := bd_succ (n := n + 2) (by omega)
 have hbS3 : bd (n + 4) = 4 * bd (n + 3) := bd_succ (n := n + 3) (by omega)
 have hbS4 : bd (n + 5) = 4 * bd (n + 4) := bd_succ (n := n + 4) (by omega)
 have hbS5 : bd (n + 6) = 4 * bd (n + 5) := bd_succ (n := n + 5) (by omega)
 have hbS6 : bd (n + 7) = 4 * bd (n + 6) := bd_succ (n := n + 6) (by omega)
 have hbS7 : bd (n + 8) = 4 * bd (n + 7) := bd_succ (n := n + 7) (by omega)
 have hbB := bd_big (n := (n + 8)) (by omega)
 have hbM := bd_mono (show n ≤ n + 8 by omega)
 refine WX.enter (tt := tt) (Γ := [(0, MF.rs .stb K0 M0 code)]) Tryz.func8 rfl (by kernel_rfl) rfl (allS_cons rfl N0 allS_nil) ?_
 refine R0 ?_
 obtain ⟨⟨u1, u2⟩, hu1⟩ : ∃ r_, spec_l1New code = r_ := ⟨_, rfl⟩
 refine WX.callF (ds := fun _ => []) 1 (fun _ _ _ => All.nil) (fun _ f hf => by cases hf) rfl rfl rfl rfl rfl (fun _ => rfl) rfl (fun w G bs hI hΓ => f76 w n (by omega) code K0 M0 (hΓ.get 0 rfl) hokcode u1 u2 hu1) (fun _ => rfl) (fun _ => rfl) ?_
 rintro bn1 hq1
 refine WX.adopt 7 1 rfl rfl rfl ?_
 refine R0 ?_
 obtain ⟨⟨u3, u4, u5⟩, hu2⟩ : ∃ r_, spec_l29Any code u1 u2 = r_ := ⟨_, rfl⟩
 refine WX.callP 7 2 rfl (fun _ _ h => GoT.ow_rd h) (fun _ f hf => GoT.fak f hf) rfl rfl rfl rfl rfl (fun _ => rfl) rfl (fun w G bs H hI hH hs hΓ => f78 w n (by omega) H hH (bs 7) code K0 M0 (hΓ.get 0 rfl) u1 u2 hs hokcode hq1.1 hq1.2 u3 u4 u5 hu2) (fun _ => rfl) (fun _ => rfl) ?_
 rintro ⟨⟨p1, c1⟩, ⟨p2, c2⟩⟩ hq2
 refine R0 ?_
 refine WX.draw [0, 2, 3, 4] mixed ?_
 intro bs G0 hΓ0
 refine DX.takes (fuel := 4) ttOk [(1, true)] (by kernel_rfl) rfl ?_
 refine DX.toTX ?_
 intro S_
 refine TX.all2 0 2 (by kernel_rfl) ?_ ?_
 ·skip
  refine TS.op 0 rfl (by kernel_rfl) ?_
  refine R0 ?_
  refine WX.back0 ?_
  refine TX.tail [2, 3, 4] rfl rfl (by kernel_rfl) ?_
  obtain ⟨⟨u6, u7, u8⟩, hu3⟩ : ∃ r_, spec_l29RecAny code u4 u5 = r_ := ⟨_, rfl⟩
  refine WX.callP 7 6 rfl (fun _ _ h => GoT.ow_rd h) (fun _ f hf => GoT.fak f hf) rfl rfl rfl rfl rfl (fun _ => rfl) rfl (fun w G bs H hI hH hs hΓ => f79 w n (by omega) H hH (bs 7) code K0 M0 (hΓ.get 0 rfl) u4 u5 hs hokcode hq2.2.1 hq2.2.2 u6 u7 u8 hu3) (fun _ => rfl) (fun _ => rfl) ?_
  rintro ⟨⟨⟩, ⟨⟨p3, c3⟩, ⟨p4, c4⟩, ⟨p5, c5⟩, ⟨⟩, ⟨⟩⟩⟩ hq3
  refine R0 ?_
  have hP1 : spec_DrawAppendRecord code = (u3, u6) := by simp only [spec_DrawAppendRecord, hu1, hu2, hu3, ct, cf]
  refine R1 ?_
  intro w1 G bs hI hΓ
  rw [hP1]
  exact Post.of [4, 5, 9, 10, 11] (((p1, c1), (p2, c2)), ((), ((p3, c3), (p4, c4), (p5, c5), (), ()))) hI hΓ rfl rfl rfl (⟨hq2.1, hq3.1⟩)
 ·skip
  refine TS.op 2 rfl (by kernel_rfl) ?_
  obtain ⟨⟨u9, u10, u11⟩, hu4⟩ : ∃ r_, spec_l29RecAny code u4 u5 = r_ := ⟨_, rfl⟩
  refine WX.callP 7 12 rfl (fun _ _ h => GoT.ow_rd h) (fun _ f hf => GoT.fak f hf) rfl rfl rfl rfl rfl (fun _ => rfl) rfl (fun w G bs H hI hH hs hΓ => f79 w n (by omega) H hH (bs 7) code K0 M0 (hΓ.get 0 rfl) u4 u5 hs hokcode hq2.2.1 hq2.2.2 u9 u10 u11 hu4) (fun _ => rfl) (fun _ => rfl) ?_
  rintro ⟨⟨⟩, ⟨⟨p6, c6⟩, ⟨p7, c7⟩, ⟨p8, c8⟩, ⟨⟩, ⟨⟩⟩⟩ hq4
  refine R0 ?_
  refine WX.back0 ?_
  refine TX.tail [0, 3, 4] rfl rfl (by kernel_rfl) ?_
  refine R0 ?_
  have hP2 : spec_DrawAppendRecord code = (u3, u9) := by simp only [spec_DrawAppendRecord, hu1, hu2, hu4, ct, cf]
  refine R1 ?_
  intro w1 G bs hI hΓ
  rw [hP2]
  exact Post.of [4, 5, 15, 16, 17] (((p1, c1), (p2, c2)), ((), ((p6, c6), (p7, c7), (p8, c8), (), ()))) hI hΓ rfl rfl rfl (⟨hq2.1, hq4.1⟩)
theorem f11 (w : World) (n : Nat) (hn : n + 8 ≤ 9) (code : (List UInt8)) (K0 : Option Addr) (M0 : Nat) (N0 : RdSl (hp w) K0 M0 code) (hokcode : GoT.ok n code) :
  Does Tryz.prog 11 #[.slice K0 ((code).length) M0] w emp (Post w emp (fun x : GoT.X (Log) => .tuple #[.agg ⟨GoT.sh ((spec_DrawCrashLog code).1 : Log) x⟩, .int .i64 ((spec_DrawCrashLog code).2)]) (fun x => GoT.oa ((spec_DrawCrashLog code).1 : Log) x) (GoT.ok (n + 1) ((spec_DrawCrashLog code).1 : Log) ∧ GoT.ok (n + 1) ((spec_DrawCrashLog code).2 : Int))) := by
 have hbP := bd_pos n
 have hbS0 : bd (n + 1) = 4 * bd (n) := bd_succ (n := n) (by omega)
 have hbS1 : bd (n + 2) = 4 * bd (n + 1) := bd_succ (n := n + 1) (by omega)
 have hbS2 : bd (n + 3) = 4 * bd (n + 2) := bd_succ (n := n + 2) (by omega)
 have hbS3 : bd (n + 4) = 4 * bd (n + 3) := bd_succ (n := n + 3) (by omega)
 have hbS4 : bd (n + 5) = 4 * bd (n + 4) := bd_succ (n := n + 4) (by omega)
 have hbS5 : bd (n + 6) = 4 * bd (n + 5) := bd_succ (n := n + 5) (by omega)
 have hbS6 : bd (n + 7) = 4 * bd (n + 6) := bd_succ (n := n + 6) (by omega)
 have hbS7 : bd (n + 8) = 4 * bd (n + 7) := bd_succ (n := n + 7) (by omega)
 have hbB := bd_big (n := (n + 8)) (by omega)
 have hbM := bd_mono (show n ≤ n + 8 by omega)
 refine WX.enter (tt := tt) (Γ := [(0, MF.rs .stb K0 M0 code)]) Tryz.func11 rfl (by kernel_rfl) rfl (allS_cons rfl N0 allS_nil) ?_
 refine R0 ?_
 obtain ⟨⟨u1, u2⟩, hu1⟩ : ∃ r_, spec_l1New code = r_ := ⟨_, rfl⟩
 refine WX.callF (ds := fun _ => []) 1 (fun _ _ _ => All.nil) (fun _ f hf => by cases hf) rfl rfl rfl rfl rfl (fun _ => rfl) rfl (fun w G bs hI hΓ => f76 w n (by omega) code K0 M0 (hΓ.get 0 rfl) hokcode u1 u2 hu1) (fun _ => rfl) (fun _ => rfl) ?_
 rintro bn1 hq1
 refine WX.adopt 7 1 rfl rfl rfl ?_
 refine R0 ?_
 obtain ⟨⟨u3, u4, u5⟩, hu2⟩ : ∃ r_, spec_l29Any code u1 u2 = r_ := ⟨_, rfl⟩
 refine WX.callP 7 2 rfl (fun _ _ h => GoT.ow_rd h) (fun _ f hf => GoT.fak f hf) rfl rfl rfl rfl rfl (fun _ => rfl) rfl (fun w G bs H hI hH hs hΓ => f78 w n (by omega) H hH (bs 7) code K0 M0 (hΓ.get 0 rfl) u1 u2 hs hokcode hq1.1 hq1.2 u3 u4 u5 hu2) (fun _ => rfl) (fun _ => rfl) ?_
 rintro ⟨⟨p1, c1⟩, ⟨p2, c2⟩⟩ hq2
 refine R0 ?_
 refine WX.draw [0, 2, 3, 4, 5] mixed ?_
 intro bs G0 hΓ0
 refine DX.takes (fuel := 5) ttOk [(1, true)] (by kernel_rfl) rfl ?_
 refine DX.toTX ?_
 intro S_
 refine TX.all2 0 2 (by kernel_rfl) ?_ ?_
 ·skip
  refine TS.op 0 rfl (by kernel_rfl) ?_
  refine R0 ?_
  refine WX.back0 ?_
  refine TX.all1 2 (by kernel_rfl) ?_
  refine TS.op 2 rfl (by kernel_rfl) ?_
  obtain ⟨⟨u6, u7, u8⟩, hu3⟩ : ∃ r_, spec_l1Below code u4 u5 8 = r_ := ⟨_, rfl⟩
  refine WX.callP (ds := fun _ => []) 7 6 rfl (fun _ _ _ => All.nil) (fun _ f hf => by cases hf) rfl rfl rfl rfl rfl (fun _ => rfl) rfl (fun w G bs H hI hH hs hΓ => f84 w n (by omega) H hH (bs 7) code K0 M0 (hΓ.get 0 rfl) u4 u5 8 hs hokcode hq2.2.1 hq2.2.2 (show I64 8 from (by unfold I64; omega)) u6 u7 u8 hu3) (fun _ => rfl) (fun _ => rfl) ?_
  rintro ⟨⟩ hq3
  have q1 := l1Below_rng code u4 u5 8
  rw [hu3] at q1
  try dsimp only at q1
  refine R0 ?_
  refine WX.back0 ?_
  refine TX.all2 3 4 (by kernel_rfl) ?_ ?_
  ·skip
   refine TS.op 3 rfl (by kernel_rfl) ?_
   have r1 : -9223372036854775808 ≤ u6 ∧ u6 ≤ 9223372036854775807 := hq3.1
   refine WX.see rfl rfl rfl (fun _ hΓ => looks_arith rfl rfl rfl rfl (by unfold I64; first | omega | (simp only [List.length_take] at *; omega))) ?_
   refine R0 ?_
   refine WX.back0 ?_
   refine TX.tail [4, 5] rfl rfl (by kernel_rfl) ?_
   refine R0 ?_
   have hP1 : spec_DrawCrashLog code = (u3, u6 - 1) := by simp only [spec_DrawCrashLog, hu1, hu2, hu3, ct, cf]
   refine R1 ?_
   intro w1 G bs hI hΓ
   rw [hP1]
   exact Post.of [4, 5] ((p1, c1), (p2, c2)) hI hΓ rfl rfl rfl (⟨hq2.1, (show I64 (u6 - 1) from (by unfold I64; omega))⟩)
  ·skip
   refine TS.op 4 rfl (by kernel_rfl) ?_
   refine R0 ?_
   refine WX.back0 ?_
   refine TX.tail [3, 5] rfl rfl (by kernel_rfl) ?_
   have r2 : -9223372036854775808 ≤ u6 ∧ u6 ≤ 9223372036854775807 := hq3.1
   refine WX.see rfl rfl rfl (fun _ hΓ => looks_arith rfl rfl rfl rfl (by unfold I64; first | omega | (simp only [List.length_take] at *; omega))) ?_
   refine R0 ?_
   have hP2 : spec_DrawCrashLog code = (u3, u6 - 1) := by simp only [spec_DrawCrashLog, hu1, hu2, hu3, ct, cf]
   refine R1 ?_
   intro w1 G bs hI hΓ
   rw [hP2]
   exact Post.of [4, 5] ((p1, c1), (p2, c2)) hI hΓ rfl rfl rfl (⟨hq2.1, (show I64 (u6 - 1) from (by unfold I64; omega))⟩)
 ·skip
  refine TS.op 2 rfl (by kernel_rfl) ?_
  obtain ⟨⟨u9, u10, u11⟩, hu4⟩ : ∃ r_, spec_l1Below code u4 u5 8 = r_ := ⟨_, rfl⟩
  refine WX.callP (ds := fun _ => []) 7 7 rfl (fun _ _ _ => All.nil) (fun _ f hf => by cases hf) rfl rfl rfl rfl rfl (fun _ => rfl) rfl (fun w G bs H hI hH hs hΓ => f84 w n (by omega) H hH (bs 7) code K0 M0 (hΓ.get 0 rfl) u4 u5 8 hs hokcode hq2.2.1 hq2.2.2 (show I64 8 from (by unfold I64; omega)) u9 u10 u11 hu4) (fun _ => rfl) (fun _ => rfl) ?_
  rintro ⟨⟩ hq4
  have q2 := l1Below_rng code u4 u5 8
  rw [hu4] at q2
  try dsimp only at q2
  refine R0 ?_
  refine WX.back0 ?_
  refine TX.all2 0 3 (by kernel_rfl) ?_ ?_
  ·skip
   refine TS.op 0 rfl (by kernel_rfl) ?_
   refine R0 ?_
   refine WX.back0 ?_
   refine TX.all2 3 4 (by kernel_rfl) ?_ ?_
   ·skip
    refine TS.op 3 rfl (by kernel_rfl) ?_
    have r3 : -9223372036854775808 ≤ u9 ∧ u9 ≤ 9223372036854775807 := hq4.1
    refine WX.see rfl rfl rfl (fun _ hΓ => looks_arith rfl rfl rfl rfl (by unfold I64; first | omega | (simp only [List.length_take] at *; omega))) ?_
    refine R0 ?_
    refine WX.back0 ?_
    refine TX.tail [4, 5] rfl rfl (by kernel_rfl) ?_
    refine R0 ?_
    have hP3 : spec_DrawCrashLog code = (u3, u9 - 1) := by simp only [spec_DrawCrashLog, hu1, hu2, hu4, ct, cf]
    refine R1 ?_
    intro w1 G bs hI hΓ
    rw [hP3]
    exact Post.of [4, 5] ((p1, c1), (p2, c2)) hI hΓ rfl rfl rfl (⟨hq2.1, (show I64 (u9 - 1) from (by unfold I64; omega))⟩)
   ·skip
    refine TS.op 4 rfl (by kernel_rfl) ?_
    refine R0 ?_
    refine WX.back0 ?_
    refine TX.tail [3, 5] rfl rfl (by kernel_rfl) ?_
    have r4 : -9223372036854775808 ≤ u9 ∧ u9 ≤ 9223372036854775807 := hq4.1
    refine WX.see rfl rfl rfl (fun _ hΓ => looks_arith rfl rfl rfl rfl (by unfold I64; first | omega | (simp only [List.length_take] at *; omega))) ?_
    refine R0 ?_
    have hP4 : spec_DrawCrashLog code = (u3, u9 - 1) := by simp only [spec_DrawCrashLog, hu1, hu2, hu4, ct, cf]
    refine R1 ?_
    intro w1 G bs hI hΓ
    rw [hP4]
    exact Post.of [4, 5] ((p1, c1), (p2, c2)) hI hΓ rfl rfl rfl (⟨hq2.1, (show I64 (u9 - 1) from (by unfold I64; omega))⟩)
  ·skip
   refine TS.op 3 rfl (by kernel_rfl) ?_
   have r5 : -9223372036854775808 ≤ u9 ∧ u9 ≤ 9223372036854775807 := hq4.1
   refine WX.see rfl rfl rfl (fun _ hΓ => looks_arith rfl rfl rfl rfl (by unfold I64; first | omega | (simp only [List.length_take] at *; omega))) ?_
   refine R0 ?_
   refine WX.back0 ?_
   refine TX.tail [0, 4, 5] rfl rfl (by kernel_rfl) ?_
   refine R0 ?_
   have hP5 : spec_DrawCrashLog code = (u3, u9 - 1) := by simp only [spec_DrawCrashLog, hu1, hu2, hu4, ct, cf]
   refine R1 ?_
   intro w1 G bs hI hΓ
   rw [hP5]
   exact Post.of [4, 5] ((p1, c1), (p2, c2)) hI hΓ rfl rfl rfl (⟨hq2.1, (show I64 (u9 - 1) from (by unfold I64; omega))⟩)
theorem f85 (w : World) (n : Nat) (hn : n + 8 ≤ 9) (code : (List UInt8)) (K0 : Option Addr) (M0 : Nat) (N0 : RdSl (hp w) K0 M0 code) (hokcode : GoT.ok n code) :
  Does Tryz.prog 85 #[.slice K0 ((code).length) M0] w emp (Post w emp (fun x : GoT.X (Log) => .agg ⟨GoT.sh ((spec_l29One code) : Log) x⟩) (fun x => GoT.oa ((spec_l29One code) : Log) x) (GoT.ok (n + 1) ((spec_l29One code) : Log))) := by
 have hbP := bd_pos n
 have hbS0 : bd (n + 1) = 4 * bd (n) := bd_succ (n := n) (by omega)
 have hbS1 : bd (n + 2) = 4 * bd (n + 1) := bd_succ (n := n + 1) (by omega)
 have hbS2 : bd (n + 3) = 4 * bd (n + 2) := bd_succ (n := n + 2) (by omega)
 have hbS3 : bd (n + 4) = 4 * bd (n + 3) := bd_succ (n := n + 3) (by omega)
 have hbS4 : bd (n + 5) = 4 * bd (n + 4) := bd_succ (n := n + 4) (by omega)
 have hbS5 : bd (n + 6) = 4 * bd (n + 5) := bd_succ (n := n + 5) (by omega)
 have hbS6 : bd (n + 7) = 4 * bd (n + 6) := bd_succ (n := n + 6) (by omega)
 have hbS7 : bd (n + 8) = 4 * bd (n + 7) := bd_succ (n := n + 7) (by omega)
 have hbB := bd_big (n := (n + 8)) (by omega)
 have hbM := bd_mono (show n ≤ n + 8 by omega)
 refine WX.enter (tt := tt) (Γ := [(0, MF.rs .stb K0 M0 code)]) Tryz.func85 rfl (by kernel_rfl) rfl (allS_cons rfl N0 allS_nil) ?_
 refine R0 ?_
 obtain ⟨⟨u1, u2⟩, hu1⟩ : ∃ r_, spec_l1New code = r_ := ⟨_, rfl⟩
 refine WX.callF (ds := fun _ => []) 1 (fun _ _ _ => All.nil) (fun _ f hf => by cases hf) rfl rfl rfl rfl rfl (fun _ => rfl) rfl (fun w G bs hI hΓ => f76 w n (by omega) code K0 M0 (hΓ.get 0 rfl) hokcode u1 u2 hu1) (fun _ => rfl) (fun _ => rfl) ?_
 rintro bn1 hq1
 refine WX.adopt 5 1 rfl rfl rfl ?_
 refine R0 ?_
 obtain ⟨⟨u3, u4, u5⟩, hu2⟩ : ∃ r_, spec_l29Any code u1 u2 = r_ := ⟨_, rfl⟩
 refine WX.callP 5 2 rfl (fun _ _ h => GoT.ow_rd h) (fun _ f hf => GoT.fak f hf) rfl rfl rfl rfl rfl (fun _ => rfl) rfl (fun w G bs H hI hH hs hΓ => f78 w n (by omega) H hH (bs 5) code K0 M0 (hΓ.get 0 rfl) u1 u2 hs hokcode hq1.1 hq1.2 u3 u4 u5 hu2) (fun _ => rfl) (fun _ => rfl) ?_
 rintro ⟨⟨p1, c1⟩, ⟨p2, c2⟩⟩ hq2
 refine R0 ?_
 have hP1 : spec_l29One code = u3 := by simp only [spec_l29One, hu1, hu2, ct, cf]
 refine R1 ?_
 intro w1 G bs hI hΓ
 rw [hP1]
 exact Post.of [4, 5] ((p1, c1), (p2, c2)) hI hΓ rfl rfl rfl hq2.1
theorem f12 (w : World) (n : Nat) (hn : n + 8 ≤ 9) (code : (List UInt8)) (K0 : Option Addr) (M0 : Nat) (N0 : RdSl (hp w) K0 M0 code) (hokcode : GoT.ok n code) :
  Does Tryz.prog 12 #[.slice K0 ((code).length) M0] w emp (Post w emp (fun x : GoT.X (Log) => .agg ⟨GoT.sh ((spec_DrawFlushLog code) : Log) x⟩) (fun x => GoT.oa ((spec_DrawFlushLog code) : Log) x) (GoT.ok (n + 1) ((spec_DrawFlushLog code) : Log))) := by
 have hbP := bd_pos n
 have hbS0 : bd (n + 1) = 4 * bd (n) := bd_succ (n := n) (by omega)
 have hbS1 : bd (n + 2) = 4 * bd (n + 1) := bd_succ (n := n + 1) (by omega)
 have hbS2 : bd (n + 3) = 4 * bd (n + 2) := bd_succ (n := n + 2) (by omega)
 have hbS3 : bd (n + 4) = 4 * bd (n + 3) := bd_succ (n := n + 3) (by omega)
 have hbS4 : bd (n + 5) = 4 * bd (n + 4) := bd_succ (n := n + 4) (by omega)
 have hbS5 : bd (n + 6) = 4 * bd (n + 5) := bd_succ (n := n + 5) (by omega)
 have hbS6 : bd (n + 7) = 4 * bd (n + 6) := bd_succ (n := n + 6) (by omega)
 have hbS7 : bd (n + 8) = 4 * bd (n + 7) := bd_succ (n := n + 7) (by omega)
 have hbB := bd_big (n := (n + 8)) (by omega)
 have hbM := bd_mono (show n ≤ n + 8 by omega)
 refine WX.enter (tt := tt) (Γ := [(0, MF.rs .stb K0 M0 code)]) Tryz.func12 rfl (by kernel_rfl) rfl (allS_cons rfl N0 allS_nil) ?_
 refine R0 ?_
 refine WX.callF 1 (fun _ _ h => GoT.ow_rd h) (fun _ f hf => GoT.fak f hf) rfl rfl rfl rfl rfl (fun _ => rfl) rfl (fun w G bs hI hΓ => f85 w n (by omega) code K0 M0 (hΓ.get 0 rfl) hokcode) (fun _ => rfl) (fun _ => rfl) ?_
 rintro ⟨⟨p1, c1⟩, ⟨p2, c2⟩⟩ hq1
 refine R0 ?_
 have hP1 : spec_DrawFlushLog code = (spec_l29One code) := by simp only [spec_DrawFlushLog, ct, cf]
 refine R1 ?_
 intro w1 G bs hI hΓ
 rw [hP1]
 exact Post.of [3, 4] ((p1, c1), (p2, c2)) hI hΓ rfl rfl rfl hq1
theorem f13 (w : World) (n : Nat) (hn : n + 8 ≤ 9) (code : (List UInt8)) (K0 : Option Addr) (M0 : Nat) (N0 : RdSl (hp w) K0 M0 code) (hokcode : GoT.ok n code) :
  Does Tryz.prog 13 #[.slice K0 ((code).length) M0] w emp (Post w emp (fun x : GoT.X ((List Record)) => (GoT.sh ((spec_DrawReplay code) : (List Record)) x).headD undef) (fun x => GoT.oa ((spec_DrawReplay code) : (List Record)) x) (GoT.ok (n + 2) ((spec_DrawReplay code) : (List Record)))) := by
 have hbP := bd_pos n
 have hbS0 : bd (n + 1) = 4 * bd (n) := bd_succ (n := n) (by omega)
 have hbS1 : bd (n + 2) = 4 * bd (n + 1) := bd_succ (n := n + 1) (by omega)
 have hbS2 : bd (n + 3) = 4 * bd (n + 2) := bd_succ (n := n + 2) (by omega)
 have hbS3 : bd (n + 4) = 4 * bd (n + 3) := bd_succ (n := n + 3) (by omega)
 have hbS4 : bd (n + 5) = 4 * bd (n + 4) := bd_succ (n := n + 4) (by omega)
 have hbS5 : bd (n + 6) = 4 * bd (n + 5) := bd_succ (n := n + 5) (by omega)
 have hbS6 : bd (n + 7) = 4 * bd (n + 6) := bd_succ (n := n + 6) (by omega)
 have hbS7 : bd (n + 8) = 4 * bd (n + 7) := bd_succ (n := n + 7) (by omega)
 have hbB := bd_big (n := (n + 8)) (by omega)
 have hbM := bd_mono (show n ≤ n + 8 by omega)
 refine WX.enter (tt := tt) (Γ := [(0, MF.rs .stb K0 M0 code)]) Tryz.func13 rfl (by kernel_rfl) rfl (allS_cons rfl N0 allS_nil) ?_
 refine R0 ?_
 refine WX.callF 1 (fun _ _ h => GoT.ow_rd h) (fun _ f hf => GoT.fak f hf) rfl rfl rfl rfl rfl (fun _ => rfl) rfl (fun w G bs hI hΓ => f85 w n (by omega) code K0 M0 (hΓ.get 0 rfl) hokcode) (fun _ => rfl) (fun _ => rfl) ?_
 rintro ⟨⟨p1, c1⟩, ⟨p2, c2⟩⟩ hq1
 refine R0 ?_
 refine WX.opn (kk := 6) 501 3 5 rfl rfl rfl ?_
 intro xs1 hx1
 refine WX.opn (kk := 6) 502 4 6 rfl rfl rfl ?_
 intro xs2 hx2
 have r1 : (code).length ≤ bd n := (okl hokcode).1
 have r2 : ((spec_l29One code).durable).length ≤ bd (n + 1) := (okl (ok_Log hq1).1).1
 have r3 : ((spec_l29One code).volatile).length ≤ bd (n + 1) := (okl (ok_Log hq1).2).1
 refine WX.know (fun G hΓ => (hΓ.get 6 rfl : OwL _ _ _).rd.one) ?_
 intro ho1
 refine WX.appR1 501 502 (((spec_l29One code).durable ++ (spec_l29One code).volatile) : List Record).length ttOk rfl rfl rfl rfl rfl rfl rfl rfl rfl rfl rfl rfl rfl ho1 (by simp) (by simp; omega) (by simp; omega) (fun _ _ => rfl) ?_
 intro p3 c3
 refine WX.turn [5, 6] 7 rfl (fun h hs => ol_app hs) (gs := [MF.ol (xs1 ++ xs2) (((spec_l29One code).durable ++ (spec_l29One code).volatile) : List Record)]) rfl ?_
 refine R0 ?_
 refine WX.seal 501 7 8 rfl rfl rfl rfl rfl ?_
 have hP1 : spec_DrawReplay code = ((spec_l29One code).durable ++ (spec_l29One code).volatile) := by simp only [spec_DrawReplay, ct, cf]
 refine R1 ?_
 intro w1 G bs hI hΓ
 rw [hP1]
 exact Post.of [9] (p3, c3) hI hΓ rfl rfl rfl (okl_mk (by simp; omega) (fun a ha => GoT.okm (by omega) ((all_app (okl (ok_Log hq1).1).2 (okl (ok_Log hq1).2).2) a ha)) : GoT.ok (n + 2) (((spec_l29One code).durable ++ (spec_l29One code).volatile) : List Record))
theorem f14 (w : World) (n : Nat) (hn : n + 8 ≤ 9) (code : (List UInt8)) (K0 : Option Addr) (M0 : Nat) (N0 : RdSl (hp w) K0 M0 code) (hokcode : GoT.ok n code) :
  Does Tryz.prog 14 #[.slice K0 ((code).length) M0] w emp (Post w emp (fun x : GoT.X (Record) => .agg ⟨GoT.sh ((spec_DrawValidRecord code) : Record) x⟩) (fun x => GoT.oa ((spec_DrawValidRecord code) : Record) x) (GoT.ok (n + 1) ((spec_DrawValidRecord code) : Record))) := by
 have hbP := bd_pos n
 have hbS0 : bd (n + 1) = 4 * bd (n) := bd_succ (n := n) (by omega)
 have hbS1 : bd (n + 2) = 4 * bd (n + 1) := bd_succ (n := n + 1) (by omega)
 have hbS2 : bd (n + 3) = 4 * bd (n + 2) := bd_succ (n := n + 2) (by omega)
 have hbS3 : bd (n + 4) = 4 * bd (n + 3) := bd_succ (n := n + 3) (by omega)
 have hbS4 : bd (n + 5) = 4 * bd (n + 4) := bd_succ (n := n + 4) (by omega)
 have hbS5 : bd (n + 6) = 4 * bd (n + 5) := bd_succ (n := n + 5) (by omega)
 have hbS6 : bd (n + 7) = 4 * bd (n + 6) := bd_succ (n := n + 6) (by omega)
 have hbS7 : bd (n + 8) = 4 * bd (n + 7) := bd_succ (n := n + 7) (by omega)
 have hbB := bd_big (n := (n + 8)) (by omega)
 have hbM := bd_mono (show n ≤ n + 8 by omega)
 refine WX.enter (tt := tt) (Γ := [(0, MF.rs .stb K0 M0 code)]) Tryz.func14 rfl (by kernel_rfl) rfl (allS_cons rfl N0 allS_nil) ?_
 refine R0 ?_
 obtain ⟨⟨u1, u2⟩, hu1⟩ : ∃ r_, spec_l1New code = r_ := ⟨_, rfl⟩
 refine WX.callF (ds := fun _ => []) 1 (fun _ _ _ => All.nil) (fun _ f hf => by cases hf) rfl rfl rfl rfl rfl (fun _ => rfl) rfl (fun w G bs hI hΓ => f76 w n (by omega) code K0 M0 (hΓ.get 0 rfl) hokcode u1 u2 hu1) (fun _ => rfl) (fun _ => rfl) ?_
 rintro bn1 hq1
 refine WX.adopt 5 1 rfl rfl rfl ?_
 refine R0 ?_
 obtain ⟨⟨u3, u4, u5⟩, hu2⟩ : ∃ r_, spec_l29RecAny code u1 u2 = r_ := ⟨_, rfl⟩
 refine WX.callP 5 2 rfl (fun _ _ h => GoT.ow_rd h) (fun _ f hf => GoT.fak f hf) rfl rfl rfl rfl rfl (fun _ => rfl) rfl (fun w G bs H hI hH hs hΓ => f79 w n (by omega) H hH (bs 5) code K0 M0 (hΓ.get 0 rfl) u1 u2 hs hokcode hq1.1 hq1.2 u3 u4 u5 hu2) (fun _ => rfl) (fun _ => rfl) ?_
 rintro ⟨⟨⟩, ⟨⟨p1, c1⟩, ⟨p2, c2⟩, ⟨p3, c3⟩, ⟨⟩, ⟨⟩⟩⟩ hq2
 refine R0 ?_
 have hP1 : spec_DrawValidRecord code = u3 := by simp only [spec_DrawValidRecord, hu1, hu2, ct, cf]
 refine R1 ?_
 intro w1 G bs hI hΓ
 rw [hP1]
 exact Post.of [5, 6, 7] ((), ((p1, c1), (p2, c2), (p3, c3), (), ())) hI hΓ rfl rfl rfl hq2.1
theorem f91 (w : World) (n : Nat) (hn : n + 0 ≤ 9) (a : DataP) (K0 : Option Addr) (M0 : Nat) (N0 : RdSl (hp w) K0 M0 a.name.parts) (K1 : Option Addr) (M1 : Nat) (N1 : RdSl (hp w) K1 M1 a.content) (K2 : Option Addr) (M2 : Nat) (N2 : RdSl (hp w) K2 M2 a.keyName.parts) (b : DataP) (K3 : Option Addr) (M3 : Nat) (N3 : RdSl (hp w) K3 M3 b.name.parts) (K4 : Option Addr) (M4 : Nat) (N4 : RdSl (hp w) K4 M4 b.content) (K5 : Option Addr) (M5 : Nat) (N5 : RdSl (hp w) K5 M5 b.keyName.parts) (hoka : GoT.ok n a) (hokb : GoT.ok n b) :
  Does Tryz.prog 91 #[.agg #[.slice K0 ((a.name.parts).length) M0, .slice K1 ((a.content).length) M1, .slice K2 ((a.keyName.parts).length) M2, .int .i64 (a.freshUntil), .int .i64 (a.signature)], .agg #[.slice K3 ((b.name.parts).length) M3, .slice K4 ((b.content).length) M4, .slice K5 ((b.keyName.parts).length) M5, .int .i64 (b.freshUntil), .int .i64 (b.signature)]] w emp (fun (rv : Value) (_ : World) => rv = .bool (laws_sameThing a b) ∧ True) := by
 have hbP := bd_pos n
 have hbB := bd_big (n := n) (by omega)
 refine WX.enter (tt := tt) (Γ := [(0, MF.rs .stb K0 M0 a.name.parts), (1, MF.rs .stb K1 M1 a.content), (2, MF.rs .stb K2 M2 a.keyName.parts), (3, MF.rs .stb K3 M3 b.name.parts), (4, MF.rs .stb K4 M4 b.content), (5, MF.rs .stb K5 M5 b.keyName.parts)]) Tryz.func91 rfl (by kernel_rfl) rfl (allS_cons rfl N0 (allS_cons rfl N1 (allS_cons rfl N2 (allS_cons rfl N3 (allS_cons rfl N4 (allS_cons rfl N5 allS_nil)))))) ?_
 refine R0 ?_
 refine WX.callV rfl rfl rfl rfl rfl (fun _ => rfl) rfl (fun w G bs hI hΓ => f124 w n (by omega) a.name K0 M0 (hΓ.get 0 rfl) b.name K3 M3 (hΓ.get 3 rfl) ((ok_DataP hoka).1) ((ok_DataP hokb).1)) ?_
 intro hq1
 refine R0 ?_
 refine WX.cases 10 rfl (fun h1 => ?_) (fun h1 => ?_)
 ·skip
  refine R0 ?_
  refine WX.callV rfl rfl rfl rfl rfl (fun _ => rfl) rfl (fun w G bs hI hΓ => f51 w n (by omega) a.content K1 M1 (hΓ.get 1 rfl) b.content K4 M4 (hΓ.get 4 rfl) ((ok_DataP hoka).2.1) ((ok_DataP hokb).2.1)) ?_
  intro hq2
  refine R0 ?_
  refine WX.cases 17 rfl (fun h2 => ?_) (fun h2 => ?_)
  ·skip
   refine R0 ?_
   refine WX.callV rfl rfl rfl rfl rfl (fun _ => rfl) rfl (fun w G bs hI hΓ => f124 w n (by omega) a.keyName K2 M2 (hΓ.get 2 rfl) b.keyName K5 M5 (hΓ.get 5 rfl) ((ok_DataP hoka).2.2.1) ((ok_DataP hokb).2.2.1)) ?_
   intro hq3
   refine R0 ?_
   refine WX.cases 24 rfl (fun h3 => ?_) (fun h3 => ?_)
   ·skip
    refine R0 ?_
    refine WX.cases 31 rfl (fun h4 => ?_) (fun h4 => ?_)
    ·skip
     have h4d := B.et h4
     refine R0 ?_
     have hP1 : laws_sameThing a b = (a.signature == b.signature) := by simp only [laws_sameThing, h1, h2, h3, h4, ct, cf]
     exact R3 hP1
    ·skip
     have h4d := B.ef h4
     refine R0 ?_
     have hP2 : laws_sameThing a b = false := by simp only [laws_sameThing, h1, h2, h3, h4, ct, cf]
     exact R3 hP2
   ·skip
    refine R0 ?_
    have hP3 : laws_sameThing a b = false := by simp only [laws_sameThing, h1, h2, h3, ct, cf]
    exact R3 hP3
  ·skip
   refine R0 ?_
   have hP4 : laws_sameThing a b = false := by simp only [laws_sameThing, h1, h2, ct, cf]
   exact R3 hP4
 ·skip
  refine R0 ?_
  have hP5 : laws_sameThing a b = false := by simp only [laws_sameThing, h1, ct, cf]
  exact R3 hP5
theorem f31 (w : World) (n : Nat) (hn : n + 0 ≤ 9) (a : (List Record)) (pa : Option Addr) (ca : Nat) (N0 : RdSl (hp w) pa ca a) (b : (List Record)) (pb : Option Addr) (cb : Nat) (N1 : RdSl (hp w) pb cb b) (hoka : GoT.ok n a) (hokb : GoT.ok n b) :
  Does Tryz.prog 31 #[.slice pa ((a).length) ca, .slice pb ((b).length) cb] w emp (fun (rv : Value) (_ : World) => rv = .bool (laws_sameRecs a b) ∧ True) := by
 have hbP := bd_pos n
 have hbB := bd_big (n := n) (by omega)
 refine WX.enter (tt := tt) (Γ := [(0, MF.rs .stb pa ca a), (1, MF.rs .stb pb cb b)]) Tryz.func31 rfl (by kernel_rfl) rfl (allS_cons rfl N0 (allS_cons rfl N1 allS_nil)) ?_
 refine R0 ?_
 refine WX.cases 10 rfl (fun h1 => ?_) (fun h1 => ?_)
 ·skip
  have h1d := B.nt' h1
  refine R0 ?_
  have hP1 : laws_sameRecs a b = false := by simp only [laws_sameRecs, h1, ct, cf]
  exact R3 hP1
 ·skip
  have h1d := B.nf' h1
  refine R0 ?_
  have r1 : (a).length ≤ bd n := (okl hoka).1
  refine WX.loop (ι := Nat) ⟨fun i => (i ≤ (a).length) ∧ (laws_sameRecs_L1 b a 0 = laws_sameRecs_L1 b ((a).drop i) i), fun i => (a).length - i, fun i => [(5, .v (.int .i64 (((i : Nat) : Int)))), (0, .v (.slice pa ((a).length) ca)), (1, .v (.slice pb ((b).length) cb))], fun i => [], fun i => [], fun i => [(0, MF.rs .stb pa ca a), (1, MF.rs .stb pb cb b)]⟩ 0 ⟨(Nat.zero_le _), rfl⟩
   (.cons rfl (.cons rfl (.cons rfl (.nil)))) .nil .nil [0, 1] rfl ?_
  rintro i hpre
  have hpre_ : (i ≤ (a).length) ∧ (laws_sameRecs_L1 b a 0 = laws_sameRecs_L1 b ((a).drop i) i) := hpre
  clear hpre
  obtain ⟨v1, v2⟩ := hpre_
  refine R0 ?_
  refine WX.cases 14 rfl (fun h2 => ?_) (fun h2 => ?_)
  ·skip
   have h2d := B.dt h2
   have e1i : i < (a).length := (by omega)
   obtain ⟨e1, e1h⟩ : ∃ e1, (a)[i]? = some e1 := ⟨_, List.getElem?_eq_getElem e1i⟩
   have ok1 : GoT.ok n e1 := (okl hoka).2 _ (List.mem_of_getElem? e1h)
   refine R0 ?_
   refine WX.draw [] mixed ?_
   intro bs G0 hΓ0
   refine DX.takes (fuel := 23) ttOk [(0, true), (1, true)] (by kernel_rfl) rfl ?_
   refine DX.idx 2 0 i ttOk hΓ0 (by kernel_rfl) rfl rfl rfl rfl rfl rfl rfl rfl rfl rfl rfl e1i ?_
   rintro ad1 rfl
   refine DX.takes (fuel := 21) ttOk [(3, true)] (by kernel_rfl) rfl ?_
   refine DX.ldE 4 0 2 e1 ttOk hΓ0 (by kernel_rfl) rfl rfl rfl rfl rfl rfl rfl rfl e1h (fun _ => rfl) (fun _ => rfl) ?_
   rintro ⟨⟨⟩, ⟨⟨p1, c1⟩, ⟨p2, c2⟩, ⟨p3, c3⟩, ⟨⟩, ⟨⟩⟩⟩
   refine DX.takes (fuel := 18) ttOk [(5, true), (6, true)] (by kernel_rfl) rfl ?_
   have e2i : i < (b).length := (by first | assumption | omega)
   obtain ⟨e2, e2h⟩ : ∃ e2, (b)[i]? = some e2 := ⟨_, List.getElem?_eq_getElem e2i⟩
   have ok2 : GoT.ok n e2 := (okl hokb).2 _ (List.mem_of_getElem? e2h)
   refine DX.idx 7 1 i ttOk hΓ0 (by kernel_rfl) rfl rfl rfl rfl rfl rfl rfl rfl rfl rfl rfl e2i ?_
   rintro ad2 rfl
   refine DX.takes (fuel := 16) ttOk [(8, true)] (by kernel_rfl) rfl ?_
   refine DX.ldE 9 1 5 e2 ttOk hΓ0 (by kernel_rfl) rfl rfl rfl rfl rfl rfl rfl rfl e2h (fun _ => rfl) (fun _ => rfl) ?_
   rintro ⟨⟨⟩, ⟨⟨p4, c4⟩, ⟨p5, c5⟩, ⟨p6, c6⟩, ⟨⟩, ⟨⟩⟩⟩
   refine DX.takes (fuel := 13) ttOk [(10, true), (11, true)] (by kernel_rfl) rfl ?_
   refine DX.cases 28 rfl (fun h3 => ?_) (fun h3 => ?_)
   ·skip
    have h3d := B.nt' h3
    refine DX.takes (fuel := 0) ttOk [(12, true), (13, true), (14, true), (15, true), (16, true), (17, true), (18, true), (19, true), (20, true), (21, true), (22, true), (23, true), (24, true)] (by kernel_rfl) rfl ?_
    refine DX.tail2 [] rfl rfl (by kernel_rfl) ?_
    refine R0 ?_
    have hP2 : laws_sameRecs_L1 b a 0 = (some false) := by rw [v2, drop_get e1h]; simp only [laws_sameRecs_L1, e2h, h3, ct, cf]
    have hP3 : laws_sameRecs a b = false := by simp only [laws_sameRecs, h1, hP2, ct, cf]
    exact R3 hP3
   ·skip
    have h3d := B.nf' h3
    refine DX.takes (fuel := 11) ttOk [(12, true), (13, true)] (by kernel_rfl) rfl ?_
    refine DX.idx 14 0 i ttOk hΓ0 (by kernel_rfl) rfl rfl rfl rfl rfl rfl rfl rfl rfl rfl rfl e1i ?_
    rintro ad3 ⟨⟩
    refine DX.takes (fuel := 9) ttOk [(15, true)] (by kernel_rfl) rfl ?_
    refine DX.ldE 16 0 8 e1 ttOk hΓ0 (by kernel_rfl) rfl rfl rfl rfl rfl rfl rfl rfl e1h (fun _ => rfl) (fun _ => rfl) ?_
    rintro ⟨⟨⟩, ⟨⟨p7, c7⟩, ⟨p8, c8⟩, ⟨p9, c9⟩, ⟨⟩, ⟨⟩⟩⟩
    refine DX.takes (fuel := 6) ttOk [(17, true), (18, true)] (by kernel_rfl) rfl ?_
    refine DX.idx 19 1 i ttOk hΓ0 (by kernel_rfl) rfl rfl rfl rfl rfl rfl rfl rfl rfl rfl rfl e2i ?_
    rintro ad4 ⟨⟩
    refine DX.takes (fuel := 4) ttOk [(20, true)] (by kernel_rfl) rfl ?_
    refine DX.ldE 21 1 11 e2 ttOk hΓ0 (by kernel_rfl) rfl rfl rfl rfl rfl rfl rfl rfl e2h (fun _ => rfl) (fun _ => rfl) ?_
    rintro ⟨⟨⟩, ⟨⟨p10, c10⟩, ⟨p11, c11⟩, ⟨p12, c12⟩, ⟨⟩, ⟨⟩⟩⟩
    refine DX.callV 22 rfl (by kernel_rfl) rfl rfl rfl rfl rfl rfl (fun _ => rfl) rfl (fun w G bs hI hΓ => f91 w n (by omega) e1.data p7 c7 (hΓ.get 8 rfl) p8 c8 (hΓ.get 9 rfl) p9 c9 (hΓ.get 10 rfl) e2.data p10 c10 (hΓ.get 11 rfl) p11 c11 (hΓ.get 12 rfl) p12 c12 (hΓ.get 13 rfl) ((ok_Record ok1).2) ((ok_Record ok2).2)) ?_
    intro hq1
    refine DX.takes (fuel := 0) ttOk [(23, true), (24, true)] (by kernel_rfl) rfl ?_
    refine DX.tail2 [] rfl rfl (by kernel_rfl) ?_
    refine R0 ?_
    refine WX.cases 41 rfl (fun h4 => ?_) (fun h4 => ?_)
    ·skip
     have h4d := (B.nt h4)
     refine R0 ?_
     have hP4 : laws_sameRecs_L1 b a 0 = (some false) := by rw [v2, drop_get e1h]; simp only [laws_sameRecs_L1, e2h, h3, h4, ct, cf]
     have hP5 : laws_sameRecs a b = false := by simp only [laws_sameRecs, h1, hP4, ct, cf]
     exact R3 hP5
    ·skip
     have h4d := (B.nf h4)
     refine R0 ?_
     refine WX.see rfl rfl rfl (fun _ hΓ => looks_arith rfl rfl rfl rfl (by unfold I64; first | omega | (simp only [List.length_take] at *; omega))) ?_
     refine R0 ?_
     exact WX.iter (i + 1) ⟨(by omega), (by rw [v2, drop_get e1h]; simp only [laws_sameRecs_L1, e2h, h3, h4, ct, cf])⟩ (by first | (dsimp only; omega) | omega) (.cons rfl (.cons rfl (.cons rfl (.nil)))) .nil .nil [0, 1] rfl
  ·skip
   have h2d := B.df h2
   refine R0 ?_
   have hX1 : laws_sameRecs_L1 b a 0 = none := by rw [v2, List.drop_eq_nil_of_le (show (a).length ≤ i by omega)]; simp only [laws_sameRecs_L1, ct, cf]
   have hP6 : laws_sameRecs a b = true := by simp only [laws_sameRecs, h1, hX1, ct, cf]
   exact R3 hP6
theorem f15 (w : World) (n : Nat) (hn : n + 0 ≤ 9) (a : Log) (K0 : Option Addr) (M0 : Nat) (N0 : RdSl (hp w) K0 M0 a.durable) (K1 : Option Addr) (M1 : Nat) (N1 : RdSl (hp w) K1 M1 a.volatile) (b : Log) (K2 : Option Addr) (M2 : Nat) (N2 : RdSl (hp w) K2 M2 b.durable) (K3 : Option Addr) (M3 : Nat) (N3 : RdSl (hp w) K3 M3 b.volatile) (hoka : GoT.ok n a) (hokb : GoT.ok n b) :
  Does Tryz.prog 15 #[.agg #[.slice K0 ((a.durable).length) M0, .slice K1 ((a.volatile).length) M1], .agg #[.slice K2 ((b.durable).length) M2, .slice K3 ((b.volatile).length) M3]] w emp (fun (rv : Value) (_ : World) => rv = .bool (laws_sameLog a b) ∧ True) := by
 have hbP := bd_pos n
 have hbB := bd_big (n := n) (by omega)
 refine WX.enter (tt := tt) (Γ := [(0, MF.rs .stb K0 M0 a.durable), (1, MF.rs .stb K1 M1 a.volatile), (2, MF.rs .stb K2 M2 b.durable), (3, MF.rs .stb K3 M3 b.volatile)]) Tryz.func15 rfl (by kernel_rfl) rfl (allS_cons rfl N0 (allS_cons rfl N1 (allS_cons rfl N2 (allS_cons rfl N3 allS_nil)))) ?_
 refine R0 ?_
 refine WX.callV rfl rfl rfl rfl rfl (fun _ => rfl) rfl (fun w G bs hI hΓ => f31 w n (by omega) a.durable K0 M0 (hΓ.get 0 rfl) b.durable K2 M2 (hΓ.get 2 rfl) ((ok_Log hoka).1) ((ok_Log hokb).1)) ?_
 intro hq1
 refine R0 ?_
 refine WX.cases 10 rfl (fun h1 => ?_) (fun h1 => ?_)
 ·skip
  refine R0 ?_
  refine WX.callV rfl rfl rfl rfl rfl (fun _ => rfl) rfl (fun w G bs hI hΓ => f31 w n (by omega) a.volatile K1 M1 (hΓ.get 1 rfl) b.volatile K3 M3 (hΓ.get 3 rfl) ((ok_Log hoka).2) ((ok_Log hokb).2)) ?_
  intro hq2
  refine R0 ?_
  have hP1 : laws_sameLog a b = (laws_sameRecs a.volatile b.volatile) := by simp only [laws_sameLog, h1, ct, cf]
  exact R3 hP1
 ·skip
  refine R0 ?_
  have hP2 : laws_sameLog a b = false := by simp only [laws_sameLog, h1, ct, cf]
  exact R3 hP2
theorem f20 (w : World) (n : Nat) (hn : n + 0 ≤ 9) (a : (List DataP)) (pa : Option Addr) (ca : Nat) (N0 : RdSl (hp w) pa ca a) (b : (List DataP)) (pb : Option Addr) (cb : Nat) (N1 : RdSl (hp w) pb cb b) (hoka : GoT.ok n a) (hokb : GoT.ok n b) :
  Does Tryz.prog 20 #[.slice pa ((a).length) ca, .slice pb ((b).length) cb] w emp (fun (rv : Value) (_ : World) => rv = .bool (laws_sameThings a b) ∧ True) := by
 have hbP := bd_pos n
 have hbB := bd_big (n := n) (by omega)
 refine WX.enter (tt := tt) (Γ := [(0, MF.rs .stb pa ca a), (1, MF.rs .stb pb cb b)]) Tryz.func20 rfl (by kernel_rfl) rfl (allS_cons rfl N0 (allS_cons rfl N1 allS_nil)) ?_
 refine R0 ?_
 refine WX.cases 10 rfl (fun h1 => ?_) (fun h1 => ?_)
 ·skip
  have h1d := B.nt' h1
  refine R0 ?_
  have hP1 : laws_sameThings a b = false := by simp only [laws_sameThings, h1, ct, cf]
  exact R3 hP1
 ·skip
  have h1d := B.nf' h1
  refine R0 ?_
  have r1 : (a).length ≤ bd n := (okl hoka).1
  refine WX.loop (ι := Nat) ⟨fun i => (i ≤ (a).length) ∧ (laws_sameThings_L1 b a 0 = laws_sameThings_L1 b ((a).drop i) i), fun i => (a).length - i, fun i => [(5, .v (.int .i64 (((i : Nat) : Int)))), (0, .v (.slice pa ((a).length) ca)), (1, .v (.slice pb ((b).length) cb))], fun i => [], fun i => [], fun i => [(0, MF.rs .stb pa ca a), (1, MF.rs .stb pb cb b)]⟩ 0 ⟨(Nat.zero_le _), rfl⟩
   (.cons rfl (.cons rfl (.cons rfl (.nil)))) .nil .nil [0, 1] rfl ?_
  rintro i hpre
  have hpre_ : (i ≤ (a).length) ∧ (laws_sameThings_L1 b a 0 = laws_sameThings_L1 b ((a).drop i) i) := hpre
  clear hpre
  obtain ⟨v1, v2⟩ := hpre_
  refine R0 ?_
  refine WX.cases 14 rfl (fun h2 => ?_) (fun h2 => ?_)
  ·skip
   have h2d := B.dt h2
   have e1i : i < (a).length := (by omega)
   obtain ⟨e1, e1h⟩ : ∃ e1, (a)[i]? = some e1 := ⟨_, List.getElem?_eq_getElem e1i⟩
   have ok1 : GoT.ok n e1 := (okl hoka).2 _ (List.mem_of_getElem? e1h)
   refine R0 ?_
   refine WX.draw [] mixed ?_
   intro bs G0 hΓ0
   refine DX.takes (fuel := 8) ttOk [(0, true), (1, true)] (by kernel_rfl) rfl ?_
   refine DX.idx 2 0 i ttOk hΓ0 (by kernel_rfl) rfl rfl rfl rfl rfl rfl rfl rfl rfl rfl rfl e1i ?_
   rintro ad1 rfl
   refine DX.ldE 3 0 2 e1 ttOk hΓ0 (by kernel_rfl) rfl rfl rfl rfl rfl rfl rfl rfl e1h (fun _ => rfl) (fun _ => rfl) ?_
   rintro ⟨⟨p1, c1⟩, ⟨p2, c2⟩, ⟨p3, c3⟩, ⟨⟩, ⟨⟩⟩
   refine DX.takes (fuel := 4) ttOk [(4, true), (5, true)] (by kernel_rfl) rfl ?_
   have e2i : i < (b).length := (by first | assumption | omega)
   obtain ⟨e2, e2h⟩ : ∃ e2, (b)[i]? = some e2 := ⟨_, List.getElem?_eq_getElem e2i⟩
   have ok2 : GoT.ok n e2 := (okl hokb).2 _ (List.mem_of_getElem? e2h)
   refine DX.idx 6 1 i ttOk hΓ0 (by kernel_rfl) rfl rfl rfl rfl rfl rfl rfl rfl rfl rfl rfl e2i ?_
   rintro ad2 rfl
   refine DX.ldE 7 1 5 e2 ttOk hΓ0 (by kernel_rfl) rfl rfl rfl rfl rfl rfl rfl rfl e2h (fun _ => rfl) (fun _ => rfl) ?_
   rintro ⟨⟨p4, c4⟩, ⟨p5, c5⟩, ⟨p6, c6⟩, ⟨⟩, ⟨⟩⟩
   refine DX.callV 8 rfl (by kernel_rfl) rfl rfl rfl rfl rfl rfl (fun _ => rfl) rfl (fun w G bs hI hΓ => f91 w n (by omega) e1 p1 c1 (hΓ.get 2 rfl) p2 c2 (hΓ.get 3 rfl) p3 c3 (hΓ.get 4 rfl) e2 p4 c4 (hΓ.get 5 rfl) p5 c5 (hΓ.get 6 rfl) p6 c6 (hΓ.get 7 rfl) ok1 ok2) ?_
   intro hq1
   refine DX.takes (fuel := 0) ttOk [(9, true)] (by kernel_rfl) rfl ?_
   refine DX.tail2 [] rfl rfl (by kernel_rfl) ?_
   refine R0 ?_
   refine WX.cases 26 rfl (fun h3 => ?_) (fun h3 => ?_)
   ·skip
    have h3d := (B.nt h3)
    refine R0 ?_
    have hP2 : laws_sameThings_L1 b a 0 = (some false) := by rw [v2, drop_get e1h]; simp only [laws_sameThings_L1, e2h, h3, ct, cf]
    have hP3 : laws_sameThings a b = false := by simp only [laws_sameThings, h1, hP2, ct, cf]
    exact R3 hP3
   ·skip
    have h3d := (B.nf h3)
    refine R0 ?_
    refine WX.see rfl rfl rfl (fun _ hΓ => looks_arith rfl rfl rfl rfl (by unfold I64; first | omega | (simp only [List.length_take] at *; omega))) ?_
    refine R0 ?_
    exact WX.iter (i + 1) ⟨(by omega), (by rw [v2, drop_get e1h]; simp only [laws_sameThings_L1, e2h, h3, ct, cf])⟩ (by first | (dsimp only; omega) | omega) (.cons rfl (.cons rfl (.cons rfl (.nil)))) .nil .nil [0, 1] rfl
  ·skip
   have h2d := B.df h2
   refine R0 ?_
   have hX1 : laws_sameThings_L1 b a 0 = none := by rw [v2, List.drop_eq_nil_of_le (show (a).length ≤ i by omega)]; simp only [laws_sameThings_L1, ct, cf]
   have hP4 : laws_sameThings a b = true := by simp only [laws_sameThings, h1, hX1, ct, cf]
   exact R3 hP4
end Go.Proofs.YtolepebgdfdciaaGreat

namespace Go.Stp
set_option linter.unusedVariables false
set_option linter.unusedSimpArgs false
theorem drawLog_len (code : List UInt8) : (spec_DrawLog code).durable.length + (spec_DrawLog code).volatile.length ≤ 8 := by
  unfold spec_DrawLog
  rcases spec_l1New code with ⟨a, b⟩
  dsimp only
  have h2 := l29Draw_len code a b
  rcases e : spec_l29Draw code a b with ⟨p, q, r⟩
  rw [e] at h2
  exact h2
theorem cR19L : ∀ (l o : List Record), impl_copyRecords_L1 l o = o ++ l
  | [], o => by simp [impl_copyRecords_L1]
  | e :: l, o => by
    simp only [impl_copyRecords_L1]
    rw [cR19L l]
    simp [impl_copyData, impl_copyName]
theorem crash_len (l : Log) (n : Int) : l.durable.length ≤ (impl_CrashLog l n).durable.length := by
  have h : ∀ q, impl_copyRecords q = q := fun q => by simp [impl_copyRecords, cR19L]
  simp only [impl_CrashLog, h, List.length_append]; omega
def laws_FnLogs_L1 (code : (List UInt8)) (i : Nat) : Ctl (Bool) (Nat) :=
  if ((i : Nat) : Int) ≤ ((((spec_DrawLog code).volatile).length : Nat) : Int) then
    if (!(laws_sameRecs (List.take ((spec_DrawLog code).durable).length ((impl_CrashLog (spec_DrawLog code) ((i : Nat) : Int)).durable)) ((spec_DrawLog code).durable))) = true then
      (Ctl.ret false)
    else
      if (((((impl_CrashLog (spec_DrawLog code) ((i : Nat) : Int)).volatile).length : Nat) : Int) != 0) = true then
        (Ctl.ret false)
      else
        if (!(impl_ValidLog (impl_CrashLog (spec_DrawLog code) ((i : Nat) : Int)))) = true then
          (Ctl.ret false)
        else
          laws_FnLogs_L1 code (i + 1)
  else
    (Ctl.nxt i)
termination_by (spec_DrawLog code).volatile.length + 1 - i
decreasing_by all_goals (simp_wf; omega)
def laws_FnLogs (code : (List UInt8)) : Bool :=
  bif (laws_big code) then
    true
  else
    bif (!(laws_sameLog ((impl_AppendRecord ((spec_DrawAppendRecord code).1) ((spec_DrawAppendRecord code).2)).1) ((spec_AppendRecord ((spec_DrawAppendRecord code).1) ((spec_DrawAppendRecord code).2)).1))) then
      false
    else
      bif (!(((impl_AppendRecord ((spec_DrawAppendRecord code).1) ((spec_DrawAppendRecord code).2)).2) == ((spec_AppendRecord ((spec_DrawAppendRecord code).1) ((spec_DrawAppendRecord code).2)).2))) then
        false
      else
        bif (!(laws_sameLog (impl_CrashLog ((spec_DrawCrashLog code).1) ((spec_DrawCrashLog code).2)) (spec_CrashLog ((spec_DrawCrashLog code).1) ((spec_DrawCrashLog code).2)))) then
          false
        else
          bif (!(laws_sameLog (impl_FlushLog (spec_DrawFlushLog code)) (spec_FlushLog (spec_DrawFlushLog code)))) then
            false
          else
            bif (!(laws_sameThings (impl_Replay (spec_DrawReplay code)) (spec_Replay (spec_DrawReplay code)))) then
              false
            else
              bif (!(laws_sameThings (impl_LogContents (spec_DrawFlushLog code)) (spec_LogContents (spec_DrawFlushLog code)))) then
                false
              else
                bif (!(laws_sameLog (impl_CompactLog (spec_DrawFlushLog code)) (spec_CompactLog (spec_DrawFlushLog code)))) then
                  false
                else
                  bif (!((impl_ValidRecord (spec_DrawValidRecord code)) == (spec_ValidRecord (spec_DrawValidRecord code)))) then
                    false
                  else
                    bif (!((impl_ValidLog ((spec_DrawAppendRecord code).1)) == (spec_ValidLog ((spec_DrawAppendRecord code).1)))) then
                      false
                    else
                      match laws_FnLogs_L1 code 0 with
                        | .ret r_ => r_
                        | .nxt i =>
                          bif (impl_ValidLog (spec_DrawLog code)) then
                            bif (impl_ValidLog (impl_CompactLog (spec_DrawLog code))) then
                              bif (laws_sameThings (impl_LogContents (impl_CompactLog (spec_DrawLog code))) (impl_LogContents (spec_DrawLog code))) then
                                bif (laws_sameThings (impl_LogContents (impl_FlushLog (spec_DrawLog code))) (impl_LogContents (spec_DrawLog code))) then
                                  bif decide (((((impl_CompactLog (spec_DrawLog code)).durable).length : Nat) : Int) ≤ IntKind.i64.wrap (((((spec_DrawLog code).durable).length : Nat) : Int) + ((((spec_DrawLog code).volatile).length : Nat) : Int))) then
                                    (laws_sameLog (impl_CrashLog (spec_DrawLog code) ((((spec_DrawLog code).volatile).length : Nat) : Int)) (impl_FlushLog (spec_DrawLog code)))
                                  else
                                    false
                                else
                                  false
                              else
                                false
                            else
                              false
                          else
                            false
end Go.Stp

namespace Go.Proofs.YtolepebgdfdciaaGreat
open Go.Stp
set_option linter.unusedVariables false
set_option linter.unusedSimpArgs false
set_option maxRecDepth 100000 in
set_option maxHeartbeats 0 in
theorem f3 (w : World) (n : Nat) (hn : n + 8 ≤ 9) (code : (List UInt8)) (pcode : Option Addr) (ccode : Nat) (hpcode : RdSl (hp w) pcode ccode code) (hokcode : GoT.ok 10 code) :
    Does Tryz.prog 3 #[.slice pcode ((code).length) ccode] w emp (fun (rv : Value) (_ : World) => rv = .bool (laws_FnLogs code) ∧ True) := by
  have hbP := bd_pos n
  have hbS0 : bd (n + 1) = 4 * bd (n) := bd_succ (n := n) (by omega)
  have hbS1 : bd (n + 2) = 4 * bd (n + 1) := bd_succ (n := n + 1) (by omega)
  have hbS2 : bd (n + 3) = 4 * bd (n + 2) := bd_succ (n := n + 2) (by omega)
  have hbS3 : bd (n + 4) = 4 * bd (n + 3) := bd_succ (n := n + 3) (by omega)
  have hbS4 : bd (n + 5) = 4 * bd (n + 4) := bd_succ (n := n + 4) (by omega)
  have hbS5 : bd (n + 6) = 4 * bd (n + 5) := bd_succ (n := n + 5) (by omega)
  have hbS6 : bd (n + 7) = 4 * bd (n + 6) := bd_succ (n := n + 6) (by omega)
  have hbS7 : bd (n + 8) = 4 * bd (n + 7) := bd_succ (n := n + 7) (by omega)
  have hbB := bd_big (n := (n + 8)) (by omega)
  have hbM := bd_mono (show n ≤ n + 8 by omega)
  have hdl := drawLog_len code
  refine WX.enter (tt := tt) (Γ := [(0, MF.rs .stb pcode ccode code)]) Tryz.func3 rfl (by kernel_rfl) rfl (allS_cons rfl hpcode allS_nil) ?_
  refine WX.run ttOk rfl ?_
  refine WX.callV rfl rfl rfl rfl rfl (fun _ => rfl) rfl (fun w G bs hI hΓ => f6 w 10 code pcode ccode (hΓ.get 0 rfl) hokcode) ?_
  intro hq1
  refine WX.run ttOk rfl ?_
  refine WX.cases 19 rfl (fun h1 => ?_) (fun h1 => ?_)
  · skip
    refine WX.run ttOk rfl ?_
    have hP1 : laws_FnLogs code = true := by simp only [laws_FnLogs, h1, cond_true, cond_false]
    refine WX.ret ttOk rfl ?_
    intro w1 G bs hI hΓ
    rw [hP1]
    exact ⟨rfl, trivial⟩
  · skip
    have hk1l : ¬ ((((code).length : Nat) : Int) > 1048576) := of_decide_eq_false (show decide ((((code).length : Nat) : Int) > 1048576) = false from h1)
    have hk1 : GoT.ok n code := okl_mk (show (code).length ≤ bd n by omega) (fun _ _ => trivial)
    refine WX.run ttOk rfl ?_
    refine WX.callF 1 (fun _ _ h => GoT.ow_rd h) (fun _ f hf => GoT.fak f hf) rfl rfl rfl rfl rfl (fun _ => rfl) rfl (fun w G bs hI hΓ => f7 w n (by omega) code pcode ccode (hΓ.get 0 rfl) hk1) (fun _ => rfl) (fun _ => rfl) ?_
    rintro ⟨⟨p1, c1⟩, ⟨p2, c2⟩⟩ hq2
    refine WX.run ttOk rfl ?_
    refine WX.callF 5 (fun _ _ h => GoT.ow_rd h) (fun _ f hf => GoT.fak f hf) rfl rfl rfl rfl rfl (fun _ => rfl) rfl (fun w G bs hI hΓ => f8 w n (by omega) code pcode ccode (hΓ.get 0 rfl) hk1) (fun _ => rfl) (fun _ => rfl) ?_
    rintro ⟨⟨⟨p3, c3⟩, ⟨p4, c4⟩⟩, ⟨⟨⟩, ⟨⟨p5, c5⟩, ⟨p6, c6⟩, ⟨p7, c7⟩, ⟨⟩, ⟨⟩⟩⟩⟩ hq3
    refine WX.run ttOk rfl ?_
    refine WX.callF 15 (fun _ _ h => GoT.ow_rd h) (fun _ f hf => GoT.fak f hf) rfl rfl rfl rfl rfl (fun _ => rfl) rfl (fun w G bs hI hΓ => f9 w (n + 1) (by omega) ((spec_DrawAppendRecord code).1) p3 c3 (hΓ.get 5 rfl) p4 c4 (hΓ.get 6 rfl) ((spec_DrawAppendRecord code).2) p5 c5 (hΓ.get 7 rfl) p6 c6 (hΓ.get 8 rfl) p7 c7 (hΓ.get 9 rfl) hq3.1 hq3.2) (fun _ => rfl) (fun _ => rfl) ?_
    rintro ⟨⟨p8, c8⟩, ⟨p9, c9⟩⟩ hq4
    refine WX.run ttOk rfl ?_
    refine WX.callF 19 (fun _ _ h => GoT.ow_rd h) (fun _ f hf => GoT.fak f hf) rfl rfl rfl rfl rfl (fun _ => rfl) rfl (fun w G bs hI hΓ => f10 w (n + 1) (by omega) ((spec_DrawAppendRecord code).1) p3 c3 (hΓ.get 5 rfl) p4 c4 (hΓ.get 6 rfl) ((spec_DrawAppendRecord code).2) p5 c5 (hΓ.get 7 rfl) p6 c6 (hΓ.get 8 rfl) p7 c7 (hΓ.get 9 rfl) hq3.1 hq3.2) (fun _ => rfl) (fun _ => rfl) ?_
    rintro ⟨⟨p10, c10⟩, ⟨p11, c11⟩⟩ hq5
    refine WX.trim [36, 7, 6, 4, 3, 0] [0, 1, 2, 3, 4, 5, 6, 7, 8, 9, 10, 11, 12, 13, 14, 15, 16, 17, 18, 19, 20, 21, 22] rfl rfl ?_
    refine WX.run ttOk rfl ?_
    refine WX.callF 23 (fun _ _ h => GoT.ow_rd h) (fun _ f hf => GoT.fak f hf) rfl rfl rfl rfl rfl (fun _ => rfl) rfl (fun w G bs hI hΓ => f11 w n (by omega) code pcode ccode (hΓ.get 0 rfl) hk1) (fun _ => rfl) (fun _ => rfl) ?_
    rintro ⟨⟨p12, c12⟩, ⟨p13, c13⟩⟩ hq6
    refine WX.run ttOk rfl ?_
    refine WX.callF 27 (fun _ _ h => GoT.ow_rd h) (fun _ f hf => GoT.fak f hf) rfl rfl rfl rfl rfl (fun _ => rfl) rfl (fun w G bs hI hΓ => f12 w n (by omega) code pcode ccode (hΓ.get 0 rfl) hk1) (fun _ => rfl) (fun _ => rfl) ?_
    rintro ⟨⟨p14, c14⟩, ⟨p15, c15⟩⟩ hq7
    refine WX.run ttOk rfl ?_
    refine WX.callF 31 (fun _ _ h => GoT.ow_rd h) (fun _ f hf => GoT.fak f hf) rfl rfl rfl rfl rfl (fun _ => rfl) rfl (fun w G bs hI hΓ => f13 w n (by omega) code pcode ccode (hΓ.get 0 rfl) hk1) (fun _ => rfl) (fun _ => rfl) ?_
    rintro ⟨p16, c16⟩ hq8
    refine WX.run ttOk rfl ?_
    refine WX.callF 33 (fun _ _ h => GoT.ow_rd h) (fun _ f hf => GoT.fak f hf) rfl rfl rfl rfl rfl (fun _ => rfl) rfl (fun w G bs hI hΓ => f14 w n (by omega) code pcode ccode (hΓ.get 0 rfl) hk1) (fun _ => rfl) (fun _ => rfl) ?_
    rintro ⟨⟨⟩, ⟨⟨p17, c17⟩, ⟨p18, c18⟩, ⟨p19, c19⟩, ⟨⟩, ⟨⟩⟩⟩ hq9
    refine WX.trim [49, 13, 12, 11, 10, 9, 8, 7, 6, 4, 3] [1, 2, 3, 4, 5, 6, 7, 8, 9, 10, 11, 12, 13, 14, 15, 16, 17, 18, 19, 20, 21, 22, 23, 24, 25, 26, 27, 28, 29, 30, 31, 32, 33, 34, 35, 36, 37, 38] rfl rfl ?_
    refine WX.run ttOk rfl ?_
    refine WX.draw [] mixed ?_
    intro bs G0 hΓ0
    refine DX.tab (by kernel_rfl) (fun hT => ?_)
    refine DX.takes (fuel := 63) ttOk [(0, false), (1, false)] (takesB_of hT (by kernel_rfl)) rfl ?_
    refine DX.callV 2 rfl (by kernel_rfl) rfl rfl rfl rfl rfl rfl (fun _ => rfl) rfl (fun w G bs hI hΓ => f15 w (n + 2) (by omega) ((impl_AppendRecord ((spec_DrawAppendRecord code).1) ((spec_DrawAppendRecord code).2)).1) p8 c8 (hΓ.get 15 rfl) p9 c9 (hΓ.get 16 rfl) ((spec_AppendRecord ((spec_DrawAppendRecord code).1) ((spec_DrawAppendRecord code).2)).1) p10 c10 (hΓ.get 19 rfl) p11 c11 (hΓ.get 20 rfl) hq4 hq5) ?_
    intro hq10
    refine DX.takes (fuel := 60) ttOk [(3, true), (4, true)] (takesB_of hT (by kernel_rfl)) rfl ?_
    refine DX.cases 54 rfl (fun h2 => ?_) (fun h2 => ?_)
    · skip
      have h2d := (B.nt h2)
      refine DX.takes (fuel := 0) ttOk [(5, true), (6, true), (7, true), (8, true), (9, true), (10, true), (11, true), (12, true), (13, true), (14, true), (15, true), (16, true), (17, true), (18, true), (19, true), (20, true), (21, true), (22, true), (23, true), (24, true), (25, true), (26, true), (27, true), (28, true), (29, true), (30, true), (31, true), (32, true), (33, true), (34, true), (35, true), (36, true), (37, true), (38, true), (39, true), (40, true), (41, true), (42, true), (43, true), (44, true), (45, true), (46, true), (47, true), (48, true), (49, true), (50, true), (51, true), (52, true), (53, true), (54, true), (55, true), (56, true), (57, true), (58, true), (59, true), (60, true), (61, true), (62, true), (63, true), (64, true)] (takesB_of hT (by kernel_rfl)) rfl ?_
      refine DX.tail2 [] rfl rfl (by kernel_rfl) ?_
      refine WX.run ttOk rfl ?_
      have hP2 : laws_FnLogs code = false := by simp only [laws_FnLogs, h1, h2, cond_true, cond_false]
      refine WX.ret ttOk rfl ?_
      intro w1 G bs hI hΓ
      rw [hP2]
      exact ⟨rfl, trivial⟩
    · skip
      have h2d := (B.nf h2)
      refine DX.takes (fuel := 58) ttOk [(5, true), (6, true)] (takesB_of hT (by kernel_rfl)) rfl ?_
      refine DX.see 7 (mayB_of hT (by kernel_rfl)) rfl rfl rfl rfl (looks_beq ttOk rfl rfl rfl rfl rfl rfl) ?_
      refine DX.takes (fuel := 55) ttOk [(8, true), (9, true)] (takesB_of hT (by kernel_rfl)) rfl ?_
      refine DX.cases 59 rfl (fun h3 => ?_) (fun h3 => ?_)
      · skip
        have h3d := (B.nt h3)
        refine DX.takes (fuel := 0) ttOk [(10, true), (11, true), (12, true), (13, true), (14, true), (15, true), (16, true), (17, true), (18, true), (19, true), (20, true), (21, true), (22, true), (23, true), (24, true), (25, true), (26, true), (27, true), (28, true), (29, true), (30, true), (31, true), (32, true), (33, true), (34, true), (35, true), (36, true), (37, true), (38, true), (39, true), (40, true), (41, true), (42, true), (43, true), (44, true), (45, true), (46, true), (47, true), (48, true), (49, true), (50, true), (51, true), (52, true), (53, true), (54, true), (55, true), (56, true), (57, true), (58, true), (59, true), (60, true), (61, true), (62, true), (63, true), (64, true)] (takesB_of hT (by kernel_rfl)) rfl ?_
        refine DX.tail2 [] rfl rfl (by kernel_rfl) ?_
        refine WX.run ttOk rfl ?_
        have hP3 : laws_FnLogs code = false := by simp only [laws_FnLogs, h1, h2, h3, cond_true, cond_false]
        refine WX.ret ttOk rfl ?_
        intro w1 G bs hI hΓ
        rw [hP3]
        exact ⟨rfl, trivial⟩
      · skip
        have h3d := (B.nf h3)
        refine DX.takes (fuel := 51) ttOk [(10, false), (11, true), (13, false), (14, true)] (takesB_of hT (by kernel_rfl)) rfl ?_
        refine DX.callF 12 39 (fun _ _ h => GoT.ow_rd h) (fun _ f hf => GoT.fak f hf) rfl (by kernel_rfl) rfl rfl rfl rfl rfl rfl (fun _ => rfl) rfl (fun w G bs hI hΓ => f16 w (n + 1) (by omega) ((spec_DrawCrashLog code).1) p12 c12 (hΓ.get 23 rfl) p13 c13 (hΓ.get 24 rfl) ((spec_DrawCrashLog code).2) hq6.1 hq6.2) (fun _ => rfl) (fun _ => rfl) ?_
        rintro ⟨⟨p20, c20⟩, ⟨p21, c21⟩⟩ hq11
        refine DX.callF 15 43 (fun _ _ h => GoT.ow_rd h) (fun _ f hf => GoT.fak f hf) rfl (by kernel_rfl) rfl rfl rfl rfl rfl rfl (fun _ => rfl) rfl (fun w G bs hI hΓ => f17 w (n + 1) (by omega) ((spec_DrawCrashLog code).1) p12 c12 (hΓ.get 23 rfl) p13 c13 (hΓ.get 24 rfl) ((spec_DrawCrashLog code).2) hq6.1 hq6.2) (fun _ => rfl) (fun _ => rfl) ?_
        rintro ⟨⟨p22, c22⟩, ⟨p23, c23⟩⟩ hq12
        refine DX.callV 16 rfl (by kernel_rfl) rfl rfl rfl rfl rfl rfl (fun _ => rfl) rfl (fun w G bs hI hΓ => f15 w (n + 2) (by omega) (impl_CrashLog ((spec_DrawCrashLog code).1) ((spec_DrawCrashLog code).2)) p20 c20 (hΓ.get 39 rfl) p21 c21 (hΓ.get 40 rfl) (spec_CrashLog ((spec_DrawCrashLog code).1) ((spec_DrawCrashLog code).2)) p22 c22 (hΓ.get 43 rfl) p23 c23 (hΓ.get 44 rfl) hq11 hq12) ?_
        intro hq13
        refine DX.takes (fuel := 45) ttOk [(17, true), (18, true), (19, true)] (takesB_of hT (by kernel_rfl)) rfl ?_
        refine DX.cases 69 rfl (fun h4 => ?_) (fun h4 => ?_)
        · skip
          have h4d := (B.nt h4)
          refine DX.takes (fuel := 0) ttOk [(20, true), (21, true), (22, true), (23, true), (24, true), (25, true), (26, true), (27, true), (28, true), (29, true), (30, true), (31, true), (32, true), (33, true), (34, true), (35, true), (36, true), (37, true), (38, true), (39, true), (40, true), (41, true), (42, true), (43, true), (44, true), (45, true), (46, true), (47, true), (48, true), (49, true), (50, true), (51, true), (52, true), (53, true), (54, true), (55, true), (56, true), (57, true), (58, true), (59, true), (60, true), (61, true), (62, true), (63, true), (64, true)] (takesB_of hT (by kernel_rfl)) rfl ?_
          refine DX.tail2 [] rfl rfl (by kernel_rfl) ?_
          refine WX.run ttOk rfl ?_
          have hP4 : laws_FnLogs code = false := by simp only [laws_FnLogs, h1, h2, h3, h4, cond_true, cond_false]
          refine WX.ret ttOk rfl ?_
          intro w1 G bs hI hΓ
          rw [hP4]
          exact ⟨rfl, trivial⟩
        · skip
          have h4d := (B.nf h4)
          refine DX.takes (fuel := 43) ttOk [(20, false), (22, false)] (takesB_of hT (by kernel_rfl)) rfl ?_
          refine DX.callF 21 47 (fun _ _ h => GoT.ow_rd h) (fun _ f hf => GoT.fak f hf) rfl (by kernel_rfl) rfl rfl rfl rfl rfl rfl (fun _ => rfl) rfl (fun w G bs hI hΓ => f18 w (n + 1) (by omega) (spec_DrawFlushLog code) p14 c14 (hΓ.get 27 rfl) p15 c15 (hΓ.get 28 rfl) hq7) (fun _ => rfl) (fun _ => rfl) ?_
          rintro ⟨⟨p24, c24⟩, ⟨p25, c25⟩⟩ hq14
          refine DX.callF 23 51 (fun _ _ h => GoT.ow_rd h) (fun _ f hf => GoT.fak f hf) rfl (by kernel_rfl) rfl rfl rfl rfl rfl rfl (fun _ => rfl) rfl (fun w G bs hI hΓ => f19 w (n + 1) (by omega) (spec_DrawFlushLog code) p14 c14 (hΓ.get 27 rfl) p15 c15 (hΓ.get 28 rfl) hq7) (fun _ => rfl) (fun _ => rfl) ?_
          rintro ⟨⟨p26, c26⟩, ⟨p27, c27⟩⟩ hq15
          refine DX.callV 24 rfl (by kernel_rfl) rfl rfl rfl rfl rfl rfl (fun _ => rfl) rfl (fun w G bs hI hΓ => f15 w (n + 2) (by omega) (impl_FlushLog (spec_DrawFlushLog code)) p24 c24 (hΓ.get 47 rfl) p25 c25 (hΓ.get 48 rfl) (spec_FlushLog (spec_DrawFlushLog code)) p26 c26 (hΓ.get 51 rfl) p27 c27 (hΓ.get 52 rfl) hq14 hq15) ?_
          intro hq16
          refine DX.takes (fuel := 37) ttOk [(25, true), (26, true), (27, true)] (takesB_of hT (by kernel_rfl)) rfl ?_
          refine DX.cases 77 rfl (fun h5 => ?_) (fun h5 => ?_)
          · as_aux_lemma =>
            have h5d := (B.nt h5)
            refine DX.takes (fuel := 0) ttOk [(28, true), (29, true), (30, true), (31, true), (32, true), (33, true), (34, true), (35, true), (36, true), (37, true), (38, true), (39, true), (40, true), (41, true), (42, true), (43, true), (44, true), (45, true), (46, true), (47, true), (48, true), (49, true), (50, true), (51, true), (52, true), (53, true), (54, true), (55, true), (56, true), (57, true), (58, true), (59, true), (60, true), (61, true), (62, true), (63, true), (64, true)] (takesB_of hT (by kernel_rfl)) rfl ?_
            refine DX.tail2 [] rfl rfl (by kernel_rfl) ?_
            refine WX.run ttOk rfl ?_
            have hP5 : laws_FnLogs code = false := by simp only [laws_FnLogs, h1, h2, h3, h4, h5, cond_true, cond_false]
            refine WX.ret ttOk rfl ?_
            intro w1 G bs hI hΓ
            rw [hP5]
            exact ⟨rfl, trivial⟩
          · as_aux_lemma =>
            have h5d := (B.nf h5)
            refine DX.takes (fuel := 35) ttOk [(28, true), (30, true)] (takesB_of hT (by kernel_rfl)) rfl ?_
            refine DX.callF 29 55 (fun _ _ h => GoT.ow_rd h) (fun _ f hf => GoT.fak f hf) rfl (by kernel_rfl) rfl rfl rfl rfl rfl rfl (fun _ => rfl) rfl (fun w G bs hI hΓ => f21 w (n + 2) (by omega) (spec_DrawReplay code) p16 c16 (hΓ.get 31 rfl) hq8) (fun _ => rfl) (fun _ => rfl) ?_
            rintro ⟨p28, c28⟩ hq17
            refine DX.callF 31 57 (fun _ _ h => GoT.ow_rd h) (fun _ f hf => GoT.fak f hf) rfl (by kernel_rfl) rfl rfl rfl rfl rfl rfl (fun _ => rfl) rfl (fun w G bs hI hΓ => f22 w (n + 2) (by omega) (spec_DrawReplay code) p16 c16 (hΓ.get 31 rfl) hq8) (fun _ => rfl) (fun _ => rfl) ?_
            rintro ⟨p29, c29⟩ hq18
            refine DX.callV 32 rfl (by kernel_rfl) rfl rfl rfl rfl rfl rfl (fun _ => rfl) rfl (fun w G bs hI hΓ => f20 w (n + 2) (by omega) (impl_Replay (spec_DrawReplay code)) p28 c28 (hΓ.get 55 rfl) (spec_Replay (spec_DrawReplay code)) p29 c29 (hΓ.get 57 rfl) hq17 hq18) ?_
            intro hq19
            refine DX.takes (fuel := 29) ttOk [(33, true), (34, true), (35, true)] (takesB_of hT (by kernel_rfl)) rfl ?_
            refine DX.cases 85 rfl (fun h6 => ?_) (fun h6 => ?_)
            · skip
              have h6d := (B.nt h6)
              refine DX.takes (fuel := 0) ttOk [(36, true), (37, true), (38, true), (39, true), (40, true), (41, true), (42, true), (43, true), (44, true), (45, true), (46, true), (47, true), (48, true), (49, true), (50, true), (51, true), (52, true), (53, true), (54, true), (55, true), (56, true), (57, true), (58, true), (59, true), (60, true), (61, true), (62, true), (63, true), (64, true)] (takesB_of hT (by kernel_rfl)) rfl ?_
              refine DX.tail2 [] rfl rfl (by kernel_rfl) ?_
              refine WX.run ttOk rfl ?_
              have hP6 : laws_FnLogs code = false := by simp only [laws_FnLogs, h1, h2, h3, h4, h5, h6, cond_true, cond_false]
              refine WX.ret ttOk rfl ?_
              intro w1 G bs hI hΓ
              rw [hP6]
              exact ⟨rfl, trivial⟩
            · skip
              have h6d := (B.nf h6)
              refine DX.takes (fuel := 27) ttOk [(36, false), (38, false)] (takesB_of hT (by kernel_rfl)) rfl ?_
              refine DX.callF 37 59 (fun _ _ h => GoT.ow_rd h) (fun _ f hf => GoT.fak f hf) rfl (by kernel_rfl) rfl rfl rfl rfl rfl rfl (fun _ => rfl) rfl (fun w G bs hI hΓ => f23 w (n + 1) (by omega) (spec_DrawFlushLog code) p14 c14 (hΓ.get 27 rfl) p15 c15 (hΓ.get 28 rfl) hq7) (fun _ => rfl) (fun _ => rfl) ?_
              rintro ⟨p30, c30⟩ hq20
              refine DX.callF 39 61 (fun _ _ h => GoT.ow_rd h) (fun _ f hf => GoT.fak f hf) rfl (by kernel_rfl) rfl rfl rfl rfl rfl rfl (fun _ => rfl) rfl (fun w G bs hI hΓ => f24 w (n + 1) (by omega) (spec_DrawFlushLog code) p14 c14 (hΓ.get 27 rfl) p15 c15 (hΓ.get 28 rfl) hq7) (fun _ => rfl) (fun _ => rfl) ?_
              rintro ⟨p31, c31⟩ hq21
              refine DX.callV 40 rfl (by kernel_rfl) rfl rfl rfl rfl rfl rfl (fun _ => rfl) rfl (fun w G bs hI hΓ => f20 w (n + 2) (by omega) (impl_LogContents (spec_DrawFlushLog code)) p30 c30 (hΓ.get 59 rfl) (spec_LogContents (spec_DrawFlushLog code)) p31 c31 (hΓ.get 61 rfl) hq20 hq21) ?_
              intro hq22
              refine DX.takes (fuel := 21) ttOk [(41, true), (42, true), (43, true)] (takesB_of hT (by kernel_rfl)) rfl ?_
              refine DX.cases 93 rfl (fun h7 => ?_) (fun h7 => ?_)
              · skip
                have h7d := (B.nt h7)
                refine DX.takes (fuel := 0) ttOk [(44, true), (45, true), (46, true), (47, true), (48, true), (49, true), (50, true), (51, true), (52, true), (53, true), (54, true), (55, true), (56, true), (57, true), (58, true), (59, true), (60, true), (61, true), (62, true), (63, true), (64, true)] (takesB_of hT (by kernel_rfl)) rfl ?_
                refine DX.tail2 [] rfl rfl (by kernel_rfl) ?_
                refine WX.run ttOk rfl ?_
                have hP7 : laws_FnLogs code = false := by simp only [laws_FnLogs, h1, h2, h3, h4, h5, h6, h7, cond_true, cond_false]
                refine WX.ret ttOk rfl ?_
                intro w1 G bs hI hΓ
                rw [hP7]
                exact ⟨rfl, trivial⟩
              · skip
                have h7d := (B.nf h7)
                refine DX.takes (fuel := 19) ttOk [(44, false), (46, false)] (takesB_of hT (by kernel_rfl)) rfl ?_
                refine DX.callF 45 63 (fun _ _ h => GoT.ow_rd h) (fun _ f hf => GoT.fak f hf) rfl (by kernel_rfl) rfl rfl rfl rfl rfl rfl (fun _ => rfl) rfl (fun w G bs hI hΓ => f25 w (n + 1) (by omega) (spec_DrawFlushLog code) p14 c14 (hΓ.get 27 rfl) p15 c15 (hΓ.get 28 rfl) hq7) (fun _ => rfl) (fun _ => rfl) ?_
                rintro ⟨⟨p32, c32⟩, ⟨p33, c33⟩⟩ hq23
                refine DX.callF 47 67 (fun _ _ h => GoT.ow_rd h) (fun _ f hf => GoT.fak f hf) rfl (by kernel_rfl) rfl rfl rfl rfl rfl rfl (fun _ => rfl) rfl (fun w G bs hI hΓ => f26 w (n + 1) (by omega) (spec_DrawFlushLog code) p14 c14 (hΓ.get 27 rfl) p15 c15 (hΓ.get 28 rfl) hq7) (fun _ => rfl) (fun _ => rfl) ?_
                rintro ⟨⟨p34, c34⟩, ⟨p35, c35⟩⟩ hq24
                refine DX.callV 48 rfl (by kernel_rfl) rfl rfl rfl rfl rfl rfl (fun _ => rfl) rfl (fun w G bs hI hΓ => f15 w (n + 2) (by omega) (impl_CompactLog (spec_DrawFlushLog code)) p32 c32 (hΓ.get 63 rfl) p33 c33 (hΓ.get 64 rfl) (spec_CompactLog (spec_DrawFlushLog code)) p34 c34 (hΓ.get 67 rfl) p35 c35 (hΓ.get 68 rfl) hq23 hq24) ?_
                intro hq25
                refine DX.takes (fuel := 13) ttOk [(49, true), (50, true), (51, true)] (takesB_of hT (by kernel_rfl)) rfl ?_
                refine DX.cases 101 rfl (fun h8 => ?_) (fun h8 => ?_)
                · skip
                  have h8d := (B.nt h8)
                  refine DX.takes (fuel := 0) ttOk [(52, true), (53, true), (54, true), (55, true), (56, true), (57, true), (58, true), (59, true), (60, true), (61, true), (62, true), (63, true), (64, true)] (takesB_of hT (by kernel_rfl)) rfl ?_
                  refine DX.tail2 [] rfl rfl (by kernel_rfl) ?_
                  refine WX.run ttOk rfl ?_
                  have hP8 : laws_FnLogs code = false := by simp only [laws_FnLogs, h1, h2, h3, h4, h5, h6, h7, h8, cond_true, cond_false]
                  refine WX.ret ttOk rfl ?_
                  intro w1 G bs hI hΓ
                  rw [hP8]
                  exact ⟨rfl, trivial⟩
                · skip
                  have h8d := (B.nf h8)
                  refine DX.takes (fuel := 11) ttOk [(52, false), (54, false)] (takesB_of hT (by kernel_rfl)) rfl ?_
                  refine DX.callV 53 rfl (by kernel_rfl) rfl rfl rfl rfl rfl rfl (fun _ => rfl) rfl (fun w G bs hI hΓ => f27 w (n + 1) (by omega) (spec_DrawValidRecord code) p17 c17 (hΓ.get 33 rfl) p18 c18 (hΓ.get 34 rfl) p19 c19 (hΓ.get 35 rfl) hq9) ?_
                  intro hq26
                  refine DX.callV 55 rfl (by kernel_rfl) rfl rfl rfl rfl rfl rfl (fun _ => rfl) rfl (fun w G bs hI hΓ => f28 w (n + 1) (by omega) (spec_DrawValidRecord code) p17 c17 (hΓ.get 33 rfl) p18 c18 (hΓ.get 34 rfl) p19 c19 (hΓ.get 35 rfl) hq9) ?_
                  intro hq27
                  refine DX.see 56 (mayB_of hT (by kernel_rfl)) rfl rfl rfl rfl (looks_beq ttOk rfl rfl rfl rfl rfl rfl) ?_
                  refine DX.takes (fuel := 6) ttOk [(57, true), (58, true)] (takesB_of hT (by kernel_rfl)) rfl ?_
                  refine DX.cases 108 rfl (fun h9 => ?_) (fun h9 => ?_)
                  · skip
                    have h9d := (B.nt h9)
                    refine DX.takes (fuel := 0) ttOk [(59, true), (60, true), (61, true), (62, true), (63, true), (64, true)] (takesB_of hT (by kernel_rfl)) rfl ?_
                    refine DX.tail2 [] rfl rfl (by kernel_rfl) ?_
                    refine WX.run ttOk rfl ?_
                    have hP9 : laws_FnLogs code = false := by simp only [laws_FnLogs, h1, h2, h3, h4, h5, h6, h7, h8, h9, cond_true, cond_false]
                    refine WX.ret ttOk rfl ?_
                    intro w1 G bs hI hΓ
                    rw [hP9]
                    exact ⟨rfl, trivial⟩
                  · skip
                    have h9d := (B.nf h9)
                    refine DX.takes (fuel := 4) ttOk [(59, false), (61, false)] (takesB_of hT (by kernel_rfl)) rfl ?_
                    refine DX.callV 60 rfl (by kernel_rfl) rfl rfl rfl rfl rfl rfl (fun _ => rfl) rfl (fun w G bs hI hΓ => f29 w (n + 1) (by omega) ((spec_DrawAppendRecord code).1) p3 c3 (hΓ.get 5 rfl) p4 c4 (hΓ.get 6 rfl) hq3.1) ?_
                    intro hq28
                    refine DX.callV 62 rfl (by kernel_rfl) rfl rfl rfl rfl rfl rfl (fun _ => rfl) rfl (fun w G bs hI hΓ => f30 w (n + 1) (by omega) ((spec_DrawAppendRecord code).1) p3 c3 (hΓ.get 5 rfl) p4 c4 (hΓ.get 6 rfl) hq3.1) ?_
                    intro hq29
                    refine DX.see 63 (mayB_of hT (by kernel_rfl)) rfl rfl rfl rfl (looks_beq ttOk rfl rfl rfl rfl rfl rfl) ?_
                    refine DX.takes (fuel := 0) ttOk [(64, true)] (takesB_of hT (by kernel_rfl)) rfl ?_
                    refine DX.tail2 [] rfl rfl (by kernel_rfl) ?_
                    refine WX.run ttOk rfl ?_
                    refine WX.trim [114, 3] [1, 2, 3, 4, 5, 6, 7, 8, 9, 10, 11, 12, 13, 14, 15, 16, 17, 18, 19, 20, 21, 22, 23, 24, 25, 26, 27, 28, 29, 30, 33, 34, 35, 36, 37, 38] rfl rfl ?_
                    refine WX.cases 114 rfl (fun h10 => ?_) (fun h10 => ?_)
                    · as_aux_lemma =>
                      have h10d := (B.nt h10)
                      refine WX.run ttOk rfl ?_
                      have hP10 : laws_FnLogs code = false := by simp only [laws_FnLogs, h1, h2, h3, h4, h5, h6, h7, h8, h9, h10, cond_true, cond_false]
                      refine WX.ret ttOk rfl ?_
                      intro w1 G bs hI hΓ
                      rw [hP10]
                      exact ⟨rfl, trivial⟩
                    · as_aux_lemma =>
                      have h10d := (B.nf h10)
                      refine WX.run ttOk rfl ?_
                      refine WX.callF 71 (fun _ _ h => GoT.ow_rd h) (fun _ f hf => GoT.fak f hf) rfl rfl rfl rfl rfl (fun _ => rfl) rfl (fun w G bs hI hΓ => f25 w (n + 1) (by omega) (spec_DrawLog code) p1 c1 (hΓ.get 1 rfl) p2 c2 (hΓ.get 2 rfl) hq2) (fun _ => rfl) (fun _ => rfl) ?_
                      rintro ⟨⟨p36, c36⟩, ⟨p37, c37⟩⟩ hq30
                      refine WX.run ttOk rfl ?_
                      refine WX.loop (ι := Nat) ⟨fun i => (i ≤ (spec_DrawLog code).volatile.length + 1) ∧ (laws_FnLogs_L1 code 0 = laws_FnLogs_L1 code i), fun i => (spec_DrawLog code).volatile.length + 1 - i, fun i => [(16, .v (.int .i64 (((i : Nat) : Int)))), (15, .p 15 0), (3, .p 3 0)], fun i => [(15, ⟨26, [.slice p36 (((impl_CompactLog (spec_DrawLog code)).durable).length) c36, .slice p37 (((impl_CompactLog (spec_DrawLog code)).volatile).length) c37]⟩), (3, ⟨26, [.slice p1 (((spec_DrawLog code).durable).length) c1, .slice p2 (((spec_DrawLog code).volatile).length) c2]⟩)], fun i => [], fun i => [(3, MF.os p1 c1 ((spec_DrawLog code).durable)), (4, MF.os p2 c2 ((spec_DrawLog code).volatile)), (73, MF.os p36 c36 ((impl_CompactLog (spec_DrawLog code)).durable)), (74, MF.os p37 c37 ((impl_CompactLog (spec_DrawLog code)).volatile))]⟩ 0 ⟨(by omega), rfl⟩
                        (.cons rfl (.cons rfl (.cons rfl (.nil)))) (.cons rfl (.cons rfl (.nil))) .nil [3, 4, 73, 74] rfl ?_
                      rintro i hpre
                      have hpre_ : (i ≤ (spec_DrawLog code).volatile.length + 1) ∧ (laws_FnLogs_L1 code 0 = laws_FnLogs_L1 code i) := hpre
                      clear hpre
                      obtain ⟨v1, v2⟩ := hpre_
                      refine WX.run ttOk rfl ?_
                      refine WX.cases 121 rfl (fun h11 => ?_) (fun h11 => ?_)
                      · skip
                        have h11d := B.dt h11
                        refine WX.run ttOk rfl ?_
                        refine WX.der 75 (MF.rs .der p1 c1 ((spec_DrawLog code).durable)) rfl (fun _ hΓ => (hΓ.get 3 rfl : OwSl _ _ _ _).rd) ?_
                        refine WX.der 76 (MF.rs .der p2 c2 ((spec_DrawLog code).volatile)) rfl (fun _ hΓ => (hΓ.get 4 rfl : OwSl _ _ _ _).rd) ?_
                        refine WX.callF 77 (fun _ _ h => GoT.ow_rd h) (fun _ f hf => GoT.fak f hf) rfl rfl rfl rfl rfl (fun _ => rfl) rfl (fun w G bs hI hΓ => f16 w (n + 1) (by omega) (spec_DrawLog code) p1 c1 (hΓ.get 75 rfl) p2 c2 (hΓ.get 76 rfl) ((i : Nat) : Int) hq2 (show I64 ((i : Nat) : Int) from (by unfold I64; omega))) (fun _ => rfl) (fun _ => rfl) ?_
                        rintro ⟨⟨p38, c38⟩, ⟨p39, c39⟩⟩ hq31
                        refine WX.run ttOk rfl ?_
                        refine WX.der 81 (MF.rs .der p36 c36 ((impl_CompactLog (spec_DrawLog code)).durable)) rfl (fun _ hΓ => (hΓ.get 73 rfl : OwSl _ _ _ _).rd) ?_
                        refine WX.der 82 (MF.rs .der p37 c37 ((impl_CompactLog (spec_DrawLog code)).volatile)) rfl (fun _ hΓ => (hΓ.get 74 rfl : OwSl _ _ _ _).rd) ?_
                        refine WX.draw [] mixed ?_
                        intro bs G0 hΓ0
                        refine DX.tab (by kernel_rfl) (fun hT => ?_)
                        refine DX.takes (fuel := 16) ttOk [(0, true), (1, false), (2, true), (3, false), (4, true)] (takesB_of hT (by kernel_rfl)) rfl ?_
                        have r1 : (code).length ≤ bd n := (okl hk1).1
                        have r2 : ((spec_DrawLog code).durable).length ≤ bd (n + 1) := (okl (ok_Log hq2).1).1
                        have r3 : ((impl_CrashLog (spec_DrawLog code) ((i : Nat) : Int)).durable).length ≤ bd (n + 2) := (okl (ok_Log hq31).1).1
                        refine DX.seeP 5 (by kernel_rfl) rfl rfl rfl rfl (looksP_slH ((spec_DrawLog code).durable).length ttOk rfl rfl rfl rfl (by simp) (Nat.le_trans (show ((spec_DrawLog code).durable).length ≤ ((impl_CrashLog (spec_DrawLog code) ((i : Nat) : Int)).durable).length from (by have z_ := crash_len (spec_DrawLog code) ((i : Nat) : Int); omega)) (hΓ0.get 77 rfl : RdSl _ _ _ _).1)) ?_
                        refine DX.slot 132 (y := .v (.slice p38 (((List.take ((spec_DrawLog code).durable).length ((impl_CrashLog (spec_DrawLog code) ((i : Nat) : Int)).durable))).length) c38)) rfl (fun _ => by rw [show ((List.take ((spec_DrawLog code).durable).length ((impl_CrashLog (spec_DrawLog code) ((i : Nat) : Int)).durable))).length = ((spec_DrawLog code).durable).length from (by simp only [List.length_take]; have z_ := (show ((spec_DrawLog code).durable).length ≤ ((impl_CrashLog (spec_DrawLog code) ((i : Nat) : Int)).durable).length from (by have z_ := crash_len (spec_DrawLog code) ((i : Nat) : Int); omega)); omega)]) ?_
                        refine DX.der 83 (MF.rs .der p38 c38 (List.take ((spec_DrawLog code).durable).length ((impl_CrashLog (spec_DrawLog code) ((i : Nat) : Int)).durable))) rfl (fun _ hΓ => RdSl.pre (hΓ.get 77 rfl : RdSl _ _ _ _) ((spec_DrawLog code).durable).length) ?_
                        refine DX.takes (fuel := 13) ttOk [(6, true), (7, false)] (takesB_of hT (by kernel_rfl)) rfl ?_
                        refine DX.callV 8 rfl (by kernel_rfl) rfl rfl rfl rfl rfl rfl (fun _ => rfl) rfl (fun w G bs hI hΓ => f31 w (n + 2) (by omega) (List.take ((spec_DrawLog code).durable).length ((impl_CrashLog (spec_DrawLog code) ((i : Nat) : Int)).durable)) p38 c38 (hΓ.get 83 rfl) ((spec_DrawLog code).durable) p1 c1 (hΓ.get 75 rfl) (okl_mk (by first | assumption | omega | (simp only [List.length_append, List.length_cons, List.length_nil, List.length_set, List.length_map, List.length_take, List.length_drop]; omega) | (simp; omega)) (fun a ha => (okl (ok_Log hq31).1).2 a (List.mem_of_mem_take ha)) : GoT.ok (n + 2) ((List.take ((spec_DrawLog code).durable).length ((impl_CrashLog (spec_DrawLog code) ((i : Nat) : Int)).durable)) : List Record)) (GoT.okm (α := List Record) (by omega) (ok_Log hq2).1)) ?_
                        intro hq32
                        refine DX.takes (fuel := 10) ttOk [(9, true), (10, true)] (takesB_of hT (by kernel_rfl)) rfl ?_
                        refine DX.cases 137 rfl (fun h12 => ?_) (fun h12 => ?_)
                        · skip
                          have h12d := (B.nt h12)
                          refine DX.takes (fuel := 0) ttOk [(11, true), (12, true), (13, true), (14, true), (15, true), (16, true), (17, true), (18, true), (19, true), (20, true)] (takesB_of hT (by kernel_rfl)) rfl ?_
                          refine DX.tail2 [] rfl rfl (by kernel_rfl) ?_
                          refine WX.run ttOk rfl ?_
                          have hP11 : laws_FnLogs_L1 code 0 = (Ctl.ret false) := by rw [v2]; rw [laws_FnLogs_L1]; simp only [h11, h11d, h12, cond_true, cond_false, ↓reduceIte, Bool.false_eq_true]
                          have hP12 : laws_FnLogs code = false := by simp only [laws_FnLogs, h1, h2, h3, h4, h5, h6, h7, h8, h9, h10, hP11, cond_true, cond_false]
                          refine WX.ret ttOk rfl ?_
                          intro w1 G bs hI hΓ
                          rw [hP12]
                          exact ⟨rfl, trivial⟩
                        · skip
                          have h12d := (B.nf h12)
                          refine DX.takes (fuel := 4) ttOk [(11, true), (12, false), (13, true), (14, true), (15, true), (16, true)] (takesB_of hT (by kernel_rfl)) rfl ?_
                          refine DX.cases 143 rfl (fun h13 => ?_) (fun h13 => ?_)
                          · skip
                            have h13d := B.nt' h13
                            refine DX.takes (fuel := 0) ttOk [(17, true), (18, true), (19, true), (20, true)] (takesB_of hT (by kernel_rfl)) rfl ?_
                            refine DX.tail2 [] rfl rfl (by kernel_rfl) ?_
                            refine WX.run ttOk rfl ?_
                            have hP13 : laws_FnLogs_L1 code 0 = (Ctl.ret false) := by rw [v2]; rw [laws_FnLogs_L1]; simp only [h11, h11d, h12, h13, cond_true, cond_false, ↓reduceIte, Bool.false_eq_true]
                            have hP14 : laws_FnLogs code = false := by simp only [laws_FnLogs, h1, h2, h3, h4, h5, h6, h7, h8, h9, h10, hP13, cond_true, cond_false]
                            refine WX.ret ttOk rfl ?_
                            intro w1 G bs hI hΓ
                            rw [hP14]
                            exact ⟨rfl, trivial⟩
                          · skip
                            have h13d := B.nf' h13
                            refine DX.takes (fuel := 3) ttOk [(17, false)] (takesB_of hT (by kernel_rfl)) rfl ?_
                            refine DX.callV 18 rfl (by kernel_rfl) rfl rfl rfl rfl rfl rfl (fun _ => rfl) rfl (fun w G bs hI hΓ => f29 w (n + 2) (by omega) (impl_CrashLog (spec_DrawLog code) ((i : Nat) : Int)) p38 c38 (hΓ.get 77 rfl) p39 c39 (hΓ.get 78 rfl) hq31) ?_
                            intro hq33
                            refine DX.takes (fuel := 0) ttOk [(19, true), (20, true)] (takesB_of hT (by kernel_rfl)) rfl ?_
                            refine DX.tail2 [] rfl rfl (by kernel_rfl) ?_
                            refine WX.run ttOk rfl ?_
                            refine WX.trim [147, 146, 145, 144, 141, 140, 139, 138, 16, 15, 3] [3, 4, 73, 74, 75, 76, 77, 78, 79, 80, 81, 82] rfl rfl ?_
                            refine WX.cases 147 rfl (fun h14 => ?_) (fun h14 => ?_)
                            · skip
                              have h14d := (B.nt h14)
                              refine WX.run ttOk rfl ?_
                              have hP15 : laws_FnLogs_L1 code 0 = (Ctl.ret false) := by rw [v2]; rw [laws_FnLogs_L1]; simp only [h11, h11d, h12, h13, h14, cond_true, cond_false, ↓reduceIte, Bool.false_eq_true]
                              have hP16 : laws_FnLogs code = false := by simp only [laws_FnLogs, h1, h2, h3, h4, h5, h6, h7, h8, h9, h10, hP15, cond_true, cond_false]
                              refine WX.ret ttOk rfl ?_
                              intro w1 G bs hI hΓ
                              rw [hP16]
                              exact ⟨rfl, trivial⟩
                            · skip
                              have h14d := (B.nf h14)
                              refine WX.run ttOk rfl ?_
                              refine WX.see rfl rfl rfl (fun _ hΓ => looks_arith rfl rfl rfl rfl (by unfold I64; first | omega | (simp only [List.length_take, List.length_drop] at *; omega) | (dsimp only; omega))) ?_
                              refine WX.run ttOk rfl ?_
                              exact WX.iter (i + 1) ⟨(by omega), (by rw [v2]; rw [laws_FnLogs_L1]; simp only [h11, h11d, h12, h13, h14, cond_true, cond_false, ↓reduceIte, Bool.false_eq_true])⟩ (by first | (dsimp only; omega) | omega) (.cons rfl (.cons rfl (.cons rfl (.nil)))) (.cons rfl (.cons rfl (.nil))) .nil [3, 4, 73, 74] rfl
                      · skip
                        have h11d := B.df h11
                        refine WX.run ttOk rfl ?_
                        have hX1 : laws_FnLogs_L1 code 0 = (Ctl.nxt i) := by rw [v2]; rw [laws_FnLogs_L1]; simp only [h11, h11d, cond_true, cond_false, ↓reduceIte, Bool.false_eq_true]
                        refine WX.der 84 (MF.rs .der p36 c36 ((impl_CompactLog (spec_DrawLog code)).durable)) rfl (fun _ hΓ => (hΓ.get 73 rfl : OwSl _ _ _ _).rd) ?_
                        refine WX.der 85 (MF.rs .der p37 c37 ((impl_CompactLog (spec_DrawLog code)).volatile)) rfl (fun _ hΓ => (hΓ.get 74 rfl : OwSl _ _ _ _).rd) ?_
                        refine WX.der 86 (MF.rs .der p1 c1 ((spec_DrawLog code).durable)) rfl (fun _ hΓ => (hΓ.get 3 rfl : OwSl _ _ _ _).rd) ?_
                        refine WX.der 87 (MF.rs .der p2 c2 ((spec_DrawLog code).volatile)) rfl (fun _ hΓ => (hΓ.get 4 rfl : OwSl _ _ _ _).rd) ?_
                        refine WX.draw [] mixed ?_
                        intro bs G0 hΓ0
                        refine DX.tab (by kernel_rfl) (fun hT => ?_)
                        refine DX.takes (fuel := 44) ttOk [(0, false)] (takesB_of hT (by kernel_rfl)) rfl ?_
                        refine DX.callV 1 rfl (by kernel_rfl) rfl rfl rfl rfl rfl rfl (fun _ => rfl) rfl (fun w G bs hI hΓ => f29 w (n + 1) (by omega) (spec_DrawLog code) p1 c1 (hΓ.get 86 rfl) p2 c2 (hΓ.get 87 rfl) hq2) ?_
                        intro hq34
                        refine DX.takes (fuel := 42) ttOk [(2, true)] (takesB_of hT (by kernel_rfl)) rfl ?_
                        refine DX.cases 150 rfl (fun h15 => ?_) (fun h15 => ?_)
                        · skip
                          refine DX.takes (fuel := 41) ttOk [(3, false)] (takesB_of hT (by kernel_rfl)) rfl ?_
                          refine DX.callV 4 rfl (by kernel_rfl) rfl rfl rfl rfl rfl rfl (fun _ => rfl) rfl (fun w G bs hI hΓ => f29 w (n + 2) (by omega) (impl_CompactLog (spec_DrawLog code)) p36 c36 (hΓ.get 84 rfl) p37 c37 (hΓ.get 85 rfl) hq30) ?_
                          intro hq35
                          refine DX.takes (fuel := 38) ttOk [(5, true), (6, true)] (takesB_of hT (by kernel_rfl)) rfl ?_
                          refine DX.cases 154 rfl (fun h16 => ?_) (fun h16 => ?_)
                          · skip
                            refine DX.takes (fuel := 36) ttOk [(7, false), (9, false)] (takesB_of hT (by kernel_rfl)) rfl ?_
                            refine DX.callF 8 88 (fun _ _ h => GoT.ow_rd h) (fun _ f hf => GoT.fak f hf) rfl (by kernel_rfl) rfl rfl rfl rfl rfl rfl (fun _ => rfl) rfl (fun w G bs hI hΓ => f23 w (n + 2) (by omega) (impl_CompactLog (spec_DrawLog code)) p36 c36 (hΓ.get 84 rfl) p37 c37 (hΓ.get 85 rfl) hq30) (fun _ => rfl) (fun _ => rfl) ?_
                            rintro ⟨p40, c40⟩ hq36
                            refine DX.callF 10 90 (fun _ _ h => GoT.ow_rd h) (fun _ f hf => GoT.fak f hf) rfl (by kernel_rfl) rfl rfl rfl rfl rfl rfl (fun _ => rfl) rfl (fun w G bs hI hΓ => f23 w (n + 1) (by omega) (spec_DrawLog code) p1 c1 (hΓ.get 86 rfl) p2 c2 (hΓ.get 87 rfl) hq2) (fun _ => rfl) (fun _ => rfl) ?_
                            rintro ⟨p41, c41⟩ hq37
                            refine DX.callV 11 rfl (by kernel_rfl) rfl rfl rfl rfl rfl rfl (fun _ => rfl) rfl (fun w G bs hI hΓ => f20 w (n + 3) (by omega) (impl_LogContents (impl_CompactLog (spec_DrawLog code))) p40 c40 (hΓ.get 88 rfl) (impl_LogContents (spec_DrawLog code)) p41 c41 (hΓ.get 90 rfl) hq36 (GoT.okm (α := List DataP) (by omega) hq37)) ?_
                            intro hq38
                            refine DX.takes (fuel := 31) ttOk [(12, true), (13, true)] (takesB_of hT (by kernel_rfl)) rfl ?_
                            refine DX.cases 161 rfl (fun h17 => ?_) (fun h17 => ?_)
                            · skip
                              refine DX.takes (fuel := 29) ttOk [(14, false), (17, false)] (takesB_of hT (by kernel_rfl)) rfl ?_
                              refine DX.callF 15 92 (fun _ _ h => GoT.ow_rd h) (fun _ f hf => GoT.fak f hf) rfl (by kernel_rfl) rfl rfl rfl rfl rfl rfl (fun _ => rfl) rfl (fun w G bs hI hΓ => f18 w (n + 1) (by omega) (spec_DrawLog code) p1 c1 (hΓ.get 86 rfl) p2 c2 (hΓ.get 87 rfl) hq2) (fun _ => rfl) (fun _ => rfl) ?_
                              rintro ⟨⟨p42, c42⟩, ⟨p43, c43⟩⟩ hq39
                              refine DX.callF 16 96 (fun _ _ h => GoT.ow_rd h) (fun _ f hf => GoT.fak f hf) rfl (by kernel_rfl) rfl rfl rfl rfl rfl rfl (fun _ => rfl) rfl (fun w G bs hI hΓ => f23 w (n + 2) (by omega) (impl_FlushLog (spec_DrawLog code)) p42 c42 (hΓ.get 92 rfl) p43 c43 (hΓ.get 93 rfl) hq39) (fun _ => rfl) (fun _ => rfl) ?_
                              rintro ⟨p44, c44⟩ hq40
                              refine DX.callF 18 98 (fun _ _ h => GoT.ow_rd h) (fun _ f hf => GoT.fak f hf) rfl (by kernel_rfl) rfl rfl rfl rfl rfl rfl (fun _ => rfl) rfl (fun w G bs hI hΓ => f23 w (n + 1) (by omega) (spec_DrawLog code) p1 c1 (hΓ.get 86 rfl) p2 c2 (hΓ.get 87 rfl) hq2) (fun _ => rfl) (fun _ => rfl) ?_
                              rintro ⟨p45, c45⟩ hq41
                              refine DX.callV 19 rfl (by kernel_rfl) rfl rfl rfl rfl rfl rfl (fun _ => rfl) rfl (fun w G bs hI hΓ => f20 w (n + 3) (by omega) (impl_LogContents (impl_FlushLog (spec_DrawLog code))) p44 c44 (hΓ.get 96 rfl) (impl_LogContents (spec_DrawLog code)) p45 c45 (hΓ.get 98 rfl) hq40 (GoT.okm (α := List DataP) (by omega) hq41)) ?_
                              intro hq42
                              refine DX.takes (fuel := 23) ttOk [(20, true), (21, true)] (takesB_of hT (by kernel_rfl)) rfl ?_
                              refine DX.cases 169 rfl (fun h18 => ?_) (fun h18 => ?_)
                              · as_aux_lemma =>
                                refine DX.takes (fuel := 14) ttOk [(22, true), (23, false), (24, true), (25, true), (26, false), (27, true), (28, true), (29, false), (30, true)] (takesB_of hT (by kernel_rfl)) rfl ?_
                                refine DX.seeP 31 (by kernel_rfl) rfl rfl rfl rfl (looksP_wrap rfl rfl rfl rfl) ?_
                                refine DX.takes (fuel := 10) ttOk [(32, true), (33, true), (34, true)] (takesB_of hT (by kernel_rfl)) rfl ?_
                                refine DX.cases 182 rfl (fun h19 => ?_) (fun h19 => ?_)
                                · skip
                                  have h19d := B.dt h19
                                  refine DX.takes (fuel := 5) ttOk [(35, false), (36, true), (37, false), (38, true), (40, false)] (takesB_of hT (by kernel_rfl)) rfl ?_
                                  have r4 : (code).length ≤ bd n := (okl hk1).1
                                  have r5 : ((spec_DrawLog code).volatile).length ≤ bd (n + 1) := (okl (ok_Log hq2).2).1
                                  refine DX.callF 39 100 (fun _ _ h => GoT.ow_rd h) (fun _ f hf => GoT.fak f hf) rfl (by kernel_rfl) rfl rfl rfl rfl rfl rfl (fun _ => rfl) rfl (fun w G bs hI hΓ => f16 w (n + 1) (by omega) (spec_DrawLog code) p1 c1 (hΓ.get 86 rfl) p2 c2 (hΓ.get 87 rfl) ((((spec_DrawLog code).volatile).length : Nat) : Int) hq2 (show I64 ((((spec_DrawLog code).volatile).length : Nat) : Int) from (by unfold I64; omega))) (fun _ => rfl) (fun _ => rfl) ?_
                                  rintro ⟨⟨p46, c46⟩, ⟨p47, c47⟩⟩ hq43
                                  refine DX.callF 41 104 (fun _ _ h => GoT.ow_rd h) (fun _ f hf => GoT.fak f hf) rfl (by kernel_rfl) rfl rfl rfl rfl rfl rfl (fun _ => rfl) rfl (fun w G bs hI hΓ => f18 w (n + 1) (by omega) (spec_DrawLog code) p1 c1 (hΓ.get 86 rfl) p2 c2 (hΓ.get 87 rfl) hq2) (fun _ => rfl) (fun _ => rfl) ?_
                                  rintro ⟨⟨p48, c48⟩, ⟨p49, c49⟩⟩ hq44
                                  refine DX.callV 42 rfl (by kernel_rfl) rfl rfl rfl rfl rfl rfl (fun _ => rfl) rfl (fun w G bs hI hΓ => f15 w (n + 2) (by omega) (impl_CrashLog (spec_DrawLog code) ((((spec_DrawLog code).volatile).length : Nat) : Int)) p46 c46 (hΓ.get 100 rfl) p47 c47 (hΓ.get 101 rfl) (impl_FlushLog (spec_DrawLog code)) p48 c48 (hΓ.get 104 rfl) p49 c49 (hΓ.get 105 rfl) hq43 hq44) ?_
                                  intro hq45
                                  refine DX.takes (fuel := 0) ttOk [(43, true), (44, true)] (takesB_of hT (by kernel_rfl)) rfl ?_
                                  refine DX.tail2 [] rfl rfl (by kernel_rfl) ?_
                                  refine WX.run ttOk rfl ?_
                                  have hP17 : laws_FnLogs code = (laws_sameLog (impl_CrashLog (spec_DrawLog code) ((((spec_DrawLog code).volatile).length : Nat) : Int)) (impl_FlushLog (spec_DrawLog code))) := by simp only [laws_FnLogs, h1, h2, h3, h4, h5, h6, h7, h8, h9, h10, hX1, h15, h16, h17, h18, h19, cond_true, cond_false]
                                  refine WX.ret ttOk rfl ?_
                                  intro w1 G bs hI hΓ
                                  rw [hP17]
                                  exact ⟨rfl, trivial⟩
                                · skip
                                  have h19d := B.df h19
                                  refine DX.takes (fuel := 0) ttOk [(35, true), (36, true), (37, true), (38, true), (39, true), (40, true), (41, true), (42, true), (43, true), (44, true)] (takesB_of hT (by kernel_rfl)) rfl ?_
                                  refine DX.tail2 [] rfl rfl (by kernel_rfl) ?_
                                  refine WX.run ttOk rfl ?_
                                  have hP18 : laws_FnLogs code = false := by simp only [laws_FnLogs, h1, h2, h3, h4, h5, h6, h7, h8, h9, h10, hX1, h15, h16, h17, h18, h19, cond_true, cond_false]
                                  refine WX.ret ttOk rfl ?_
                                  intro w1 G bs hI hΓ
                                  rw [hP18]
                                  exact ⟨rfl, trivial⟩
                              · as_aux_lemma =>
                                refine DX.takes (fuel := 0) ttOk [(22, true), (23, true), (24, true), (25, true), (26, true), (27, true), (28, true), (29, true), (30, true), (31, true), (32, true), (33, true), (34, true), (35, true), (36, true), (37, true), (38, true), (39, true), (40, true), (41, true), (42, true), (43, true), (44, true)] (takesB_of hT (by kernel_rfl)) rfl ?_
                                refine DX.tail2 [] rfl rfl (by kernel_rfl) ?_
                                refine WX.run ttOk rfl ?_
                                have hP19 : laws_FnLogs code = false := by simp only [laws_FnLogs, h1, h2, h3, h4, h5, h6, h7, h8, h9, h10, hX1, h15, h16, h17, h18, cond_true, cond_false]
                                refine WX.ret ttOk rfl ?_
                                intro w1 G bs hI hΓ
                                rw [hP19]
                                exact ⟨rfl, trivial⟩
                            · skip
                              refine DX.takes (fuel := 0) ttOk [(14, true), (15, true), (16, true), (17, true), (18, true), (19, true), (20, true), (21, true), (22, true), (23, true), (24, true), (25, true), (26, true), (27, true), (28, true), (29, true), (30, true), (31, true), (32, true), (33, true), (34, true), (35, true), (36, true), (37, true), (38, true), (39, true), (40, true), (41, true), (42, true), (43, true), (44, true)] (takesB_of hT (by kernel_rfl)) rfl ?_
                              refine DX.tail2 [] rfl rfl (by kernel_rfl) ?_
                              refine WX.run ttOk rfl ?_
                              have hP20 : laws_FnLogs code = false := by simp only [laws_FnLogs, h1, h2, h3, h4, h5, h6, h7, h8, h9, h10, hX1, h15, h16, h17, cond_true, cond_false]
                              refine WX.ret ttOk rfl ?_
                              intro w1 G bs hI hΓ
                              rw [hP20]
                              exact ⟨rfl, trivial⟩
                          · skip
                            refine DX.takes (fuel := 0) ttOk [(7, true), (8, true), (9, true), (10, true), (11, true), (12, true), (13, true), (14, true), (15, true), (16, true), (17, true), (18, true), (19, true), (20, true), (21, true), (22, true), (23, true), (24, true), (25, true), (26, true), (27, true), (28, true), (29, true), (30, true), (31, true), (32, true), (33, true), (34, true), (35, true), (36, true), (37, true), (38, true), (39, true), (40, true), (41, true), (42, true), (43, true), (44, true)] (takesB_of hT (by kernel_rfl)) rfl ?_
                            refine DX.tail2 [] rfl rfl (by kernel_rfl) ?_
                            refine WX.run ttOk rfl ?_
                            have hP21 : laws_FnLogs code = false := by simp only [laws_FnLogs, h1, h2, h3, h4, h5, h6, h7, h8, h9, h10, hX1, h15, h16, cond_true, cond_false]
                            refine WX.ret ttOk rfl ?_
                            intro w1 G bs hI hΓ
                            rw [hP21]
                            exact ⟨rfl, trivial⟩
                        · skip
                          refine DX.takes (fuel := 0) ttOk [(3, true), (4, true), (5, true), (6, true), (7, true), (8, true), (9, true), (10, true), (11, true), (12, true), (13, true), (14, true), (15, true), (16, true), (17, true), (18, true), (19, true), (20, true), (21, true), (22, true), (23, true), (24, true), (25, true), (26, true), (27, true), (28, true), (29, true), (30, true), (31, true), (32, true), (33, true), (34, true), (35, true), (36, true), (37, true), (38, true), (39, true), (40, true), (41, true), (42, true), (43, true), (44, true)] (takesB_of hT (by kernel_rfl)) rfl ?_
                          refine DX.tail2 [] rfl rfl (by kernel_rfl) ?_
                          refine WX.run ttOk rfl ?_
                          have hP22 : laws_FnLogs code = false := by simp only [laws_FnLogs, h1, h2, h3, h4, h5, h6, h7, h8, h9, h10, hX1, h15, cond_true, cond_false]
                          refine WX.ret ttOk rfl ?_
                          intro w1 G bs hI hΓ
                          rw [hP22]
                          exact ⟨rfl, trivial⟩
end Go.Proofs.YtolepebgdfdciaaGreat

namespace Go.Stp
set_option linter.unusedVariables false
set_option linter.unusedSimpArgs false
inductive PutShape (l : List TableEntry) (n_ : Name) (v : Int) : List TableEntry → Prop
  | same : PutShape l n_ v l
  | nil : PutShape l n_ v []
  | set (i : Nat) (e : TableEntry) (h : l[i]? = some e) : PutShape l n_ v (l.set i ⟨e.name, v⟩)
  | ins (i : Nat) : PutShape l n_ v (l.take i ++ [⟨n_, v⟩] ++ l.drop i)
theorem PutShape.len {l r : List TableEntry} {n_ : Name} {v : Int} (h : PutShape l n_ v r) : r.length ≤ l.length + 1 := by
  cases h with
  | same => exact Nat.le_succ _
  | nil => exact Nat.zero_le _
  | set i e h => rw [List.length_set]; exact Nat.le_succ _
  | ins i => simp only [List.length_append, List.length_take, List.length_drop, List.length_cons, List.length_nil]; omega
end Go.Stp

namespace Go.Stp
set_option linter.unusedVariables false
set_option linter.unusedSimpArgs false
inductive ApShape (m : Member) (x_ : Publication) : Member → Prop
  | same : ApShape m x_ m
  | put (l : List TableEntry) (h : PutShape m.vector.entries x_.publisher x_.seq l) : ApShape m x_ ⟨m.name, ⟨l⟩, m.publications ++ [x_]⟩
end Go.Stp

namespace Go.Stp
theorem mid {α : Type} (p : List α) (e : α) (l : List α) : (p ++ e :: l)[p.length]? = some e := by simp
theorem mid_app {α : Type} (p : List α) (e : α) (l : List α) : (p ++ [e]) ++ l = p ++ e :: l := by simp
theorem mid_len {α : Type} (p : List α) (e : α) : (p ++ [e]).length = p.length + 1 := by simp
def SzR (r left : Int) (s : Nat) : Prop := r = -1 ∨ ((s : Int) ≤ left ∧ r = left - s)
theorem SzR.pos {r left : Int} {s : Nat} (h : SzR r left s) (hr : 0 ≤ r) : (s : Int) ≤ left ∧ r = left - s := by
  rcases h with h | h
  · omega
  · exact h
theorem szL_cons {α : Type} [GoT α] [Sz α] (a : α) (l : List α) : szL (a :: l) = sz a + szL l := by simp [szL]
theorem szL_nil {α : Type} [GoT α] [Sz α] : szL ([] : List α) = 0 := rfl
theorem bne_self_F {α : Type} [BEq α] [LawfulBEq α] (a : α) : (a != a) = false := by simp
theorem bytesLess_self : ∀ l : List UInt8, Op.bytesLess l l = false
  | [] => rfl
  | a :: l => by simp [Op.bytesLess, bytesLess_self l]
theorem l4_zero (a b : List UInt8) : ((bif Op.bytesLess a b then (-1) else bif (!(Op.bytesLess a b || a == b)) then 1 else 0 : Int) = 0) ↔ a = b := by
  cases h : Op.bytesLess a b
  · by_cases e : a = b
    · simp [e]
    · have : (a == b) = false := by simpa using e
      simp [this, e]
  · constructor
    · intro x; simp at x
    · intro e; rw [e, bytesLess_self] at h; cases h
end Go.Stp

namespace Go.Stp
set_option linter.unusedVariables false
set_option linter.unusedSimpArgs false
theorem same_In (a b c : Int) : impl_InRange a b c = spec_l1In a b c := rfl
theorem sEqL_string : ∀ (a b p : List Str), a.length = b.length → slices_Equal_string_L1 (p ++ b) a p.length = (if a.map (fun z : Str => z.toList) = b.map (fun z : Str => z.toList) then none else some false)
  | [], [], p, _ => by simp [slices_Equal_string_L1]
  | x :: a, y :: b, p, h => by
    have ih := sEqL_string a b (p ++ [y]) (by simpa using h)
    rw [mid_app, mid_len] at ih
    simp only [slices_Equal_string_L1, mid]
    by_cases hxy : x.toList = y.toList
    · simp [hxy, ih]
    · have hb : (x.toList == y.toList) = false := by simpa using hxy
      simp [hb, hxy]
theorem sEq_string (a b : List Str) : slices_Equal_string a b = decide (a.map (fun z : Str => z.toList) = b.map (fun z : Str => z.toList)) := by
  unfold slices_Equal_string
  by_cases hl : a.length = b.length
  · have h := sEqL_string a b [] hl
    simp only [List.nil_append, List.length_nil] at h
    simp only [hl, bne_self_F, cond_false, h]
    split <;> simp_all
  · have hne : a.map (fun z : Str => z.toList) ≠ b.map (fun z : Str => z.toList) := fun h => hl (by simpa using congrArg List.length h)
    have hn : ((a.length : Int) != (b.length : Int)) = true := by simp; omega
    simp [hn, hne]
theorem sEqL_byte : ∀ (a b p : List UInt8), a.length = b.length → slices_Equal_byte_L1 (p ++ b) a p.length = (if a = b then none else some false)
  | [], [], p, _ => by simp [slices_Equal_byte_L1]
  | x :: a, y :: b, p, h => by
    have ih := sEqL_byte a b (p ++ [y]) (by simpa using h)
    rw [mid_app, mid_len] at ih
    simp only [slices_Equal_byte_L1, mid]
    by_cases hxy : x = y
    · simp [hxy, ih]
    · have hn : ((x.toNat : Int) != (y.toNat : Int)) = true := by
        have : x.toNat ≠ y.toNat := fun h => hxy (UInt8.toNat_inj.mp h)
        simp; omega
      simp [hn, hxy]
theorem sEq_byte (a b : List UInt8) : slices_Equal_byte a b = decide (a = b) := by
  unfold slices_Equal_byte
  by_cases hl : a.length = b.length
  · have h := sEqL_byte a b [] hl
    simp only [List.nil_append, List.length_nil] at h
    simp only [hl, bne_self_F, cond_false, h]
    split <;> simp_all
  · have hne : a ≠ b := fun h => hl (by rw [h])
    have hn : ((a.length : Int) != (b.length : Int)) = true := by simp; omega
    simp [hn, hne]
theorem cNL : ∀ (a b p : List Str), match spec_CompareNames_L1 ⟨p ++ b⟩ a p.length with
    | some k => k ≠ 0 ∧ a.map (fun z : Str => z.toList) ≠ b.map (fun z : Str => z.toList)
    | none => a.length = b.length → a.map (fun z : Str => z.toList) = b.map (fun z : Str => z.toList)
  | [], b, p => by
    simp only [spec_CompareNames_L1]
    intro h
    cases b with
    | nil => rfl
    | cons => simp at h
  | x :: a, [], p => by simp [spec_CompareNames_L1]
  | x :: a, y :: b, p => by
    have ih := cNL a b (p ++ [y])
    rw [mid_app, mid_len] at ih
    have hlt : decide (((p.length : Nat) : Int) < (((p ++ y :: b).length : Nat) : Int)) = true := by simp; omega
    simp only [spec_CompareNames_L1, hlt, cond_true, mid]
    by_cases hk : spec_l4Cmp x y = 0
    · have e : x.toList = y.toList := (l4_zero _ _).1 hk
      rw [hk]
      simp only [bne_self_F, cond_false]
      revert ih
      cases spec_CompareNames_L1 ⟨p ++ y :: b⟩ a (p.length + 1) with
      | none => intro ih h; simp [e, ih (by simpa using h)]
      | some k => intro ih; exact ⟨ih.1, fun h => ih.2 (by simpa [e] using h)⟩
    · have hn : (spec_l4Cmp x y != 0) = true := by simpa using hk
      simp only [hn, cond_true]
      exact ⟨hk, fun h => hk ((l4_zero _ _).2 (by simp at h; exact h.1))⟩
theorem same_EqualNames (a b : Name) : impl_EqualNames a b = spec_EqualNames a b := by
  unfold impl_EqualNames spec_EqualNames spec_CompareNames
  rw [sEq_string]
  have h : match spec_CompareNames_L1 b a.parts 0 with
    | some k => k ≠ 0 ∧ a.parts.map (fun z : Str => z.toList) ≠ b.parts.map (fun z : Str => z.toList)
    | none => a.parts.length = b.parts.length → a.parts.map (fun z : Str => z.toList) = b.parts.map (fun z : Str => z.toList) := cNL a.parts b.parts []
  revert h
  cases spec_CompareNames_L1 b a.parts 0 with
  | some k => intro ⟨h1, h2⟩; simp [h1, h2]
  | none =>
    intro h
    by_cases hl : a.parts.length = b.parts.length
    · simp [h hl, hl]
    · have ne : a.parts.map (fun z : Str => z.toList) ≠ b.parts.map (fun z : Str => z.toList) := fun h => hl (by simpa using congrArg List.length h)
      rcases Nat.lt_or_gt_of_ne hl with c | c
      · simp [ne, c]
      · have c' : ¬ a.parts.length < b.parts.length := by omega
        simp [ne, c, c']
theorem same_EqualBytes (a b : List UInt8) : slices_Equal_byte a b = spec_EqualBytes a b := by
  rw [sEq_byte]
  unfold spec_EqualBytes bstr
  rw [ByteArray.toList_mk, ByteArray.toList_mk]
  by_cases e : a = b
  · simp [e]
  · have hb : (a == b) = false := by simpa using e
    simp [hb, e]
theorem same_EqualData (a b : DataP) : impl_EqualData a b = spec_EqualData a b := by
  simp only [impl_EqualData, spec_EqualData, same_EqualNames, same_EqualBytes]
theorem vPL : ∀ l : List UInt8, impl_ValidPart_L1 l = spec_ValidPart_L1 l ∧ (spec_ValidPart_L1 l = none ∨ spec_ValidPart_L1 l = some false)
  | [] => ⟨rfl, .inl rfl⟩
  | c :: l => by
    obtain ⟨h1, h2⟩ := vPL l
    simp only [impl_ValidPart_L1, spec_ValidPart_L1, h1, spec_l1In, ge_iff_le]
    cases decide ((97 : Int) ≤ (c.toNat : Int)) <;> cases decide ((c.toNat : Int) ≤ 122) <;> cases decide ((48 : Int) ≤ (c.toNat : Int)) <;> cases decide ((c.toNat : Int) ≤ 57) <;> cases hc : ((c.toNat : Int) == 45) <;> simp [bne, hc, h2]
theorem same_ValidPart (s : Str) : impl_ValidPart s = spec_ValidPart s := by
  unfold impl_ValidPart spec_ValidPart
  obtain ⟨h1, h2⟩ := vPL s.data.toList
  rw [h1, same_In]
  rcases h2 with h | h <;> rw [h] <;> cases spec_l1In (((s).size : Nat) : Int) 1 8 <;> rfl
theorem iF_string : ∀ (f : Str → Bool) (l : List Str) (i : Nat), (slices_IndexFunc_string_L1 f l i = none ∧ l.any f = false) ∨ ∃ j : Nat, slices_IndexFunc_string_L1 f l i = some (j : Int) ∧ l.any f = true
  | f, [], i => .inl ⟨rfl, rfl⟩
  | f, x :: l, i => by
    simp only [slices_IndexFunc_string_L1, List.any_cons]
    cases hx : f x
    · simpa using iF_string f l (i + 1)
    · exact .inr ⟨i, rfl, rfl⟩
theorem cF_string (l : List Str) (f : Str → Bool) : slices_ContainsFunc_string l f = l.any f := by
  unfold slices_ContainsFunc_string slices_IndexFunc_string
  rcases iF_string f l 0 with ⟨h1, h2⟩ | ⟨j, h1, h2⟩ <;> simp [h1, h2]
theorem vNL : ∀ l : List Str, spec_ValidName_L1 l = bif l.any (fun e => !(spec_ValidPart e)) then some false else none
  | [] => rfl
  | x :: l => by
    simp only [spec_ValidName_L1, List.any_cons]
    cases (!(spec_ValidPart x)) <;> simp [vNL l]
theorem same_ValidName (a : Name) : impl_ValidName a = spec_ValidName a := by
  unfold impl_ValidName spec_ValidName impl_ValidName_c1
  rw [cF_string, vNL]
  simp only [same_ValidPart]
  cases a.parts.any (fun e => !(spec_ValidPart e)) <;> cases decide ((((a.parts).length : Nat) : Int) ≤ 6) <;> rfl
theorem same_ValidData (a : DataP) : impl_ValidData a = spec_ValidData a := by
  simp only [impl_ValidData, spec_ValidData, same_ValidName, same_In]
theorem same_ValidRecord' (a : Record) : impl_ValidRecord a = spec_ValidRecord a := by
  simp only [impl_ValidRecord, spec_ValidRecord, same_ValidData, same_ValidName, same_EqualData]
theorem iF_Record : ∀ (f : Record → Bool) (l : List Record) (i : Nat), (slices_IndexFunc_Record_L1 f l i = none ∧ l.any f = false) ∨ ∃ j : Nat, slices_IndexFunc_Record_L1 f l i = some (j : Int) ∧ l.any f = true
  | f, [], i => .inl ⟨rfl, rfl⟩
  | f, x :: l, i => by
    simp only [slices_IndexFunc_Record_L1, List.any_cons]
    cases hx : f x
    · simpa using iF_Record f l (i + 1)
    · exact .inr ⟨i, rfl, rfl⟩
theorem cF_Record (l : List Record) (f : Record → Bool) : slices_ContainsFunc_Record l f = l.any f := by
  unfold slices_ContainsFunc_Record slices_IndexFunc_Record
  rcases iF_Record f l 0 with ⟨h1, h2⟩ | ⟨j, h1, h2⟩ <;> simp [h1, h2]
theorem vLL1 : ∀ l : List Record, spec_ValidLog_L1 l = bif l.any (fun e => !(spec_ValidRecord e)) then some false else none
  | [] => rfl
  | x :: l => by
    simp only [spec_ValidLog_L1, List.any_cons]
    cases (!(spec_ValidRecord x)) <;> simp [vLL1 l]
theorem vLL2 : ∀ l : List Record, spec_ValidLog_L2 l = bif l.any (fun e => !(spec_ValidRecord e)) then some false else none
  | [] => rfl
  | x :: l => by
    simp only [spec_ValidLog_L2, List.any_cons]
    cases (!(spec_ValidRecord x)) <;> simp [vLL2 l]
theorem same_ValidLog' (a : Log) : impl_ValidLog a = spec_ValidLog a := by
  unfold impl_ValidLog spec_ValidLog impl_ValidLog_c1
  rw [cF_Record, cF_Record, vLL1, vLL2]
  simp only [same_ValidRecord']
  cases a.durable.any (fun e => !(spec_ValidRecord e)) <;> cases a.volatile.any (fun e => !(spec_ValidRecord e)) <;> cases decide ((((a.durable).length : Nat) : Int) + (((a.volatile).length : Nat) : Int) ≤ 40) <;> rfl
def nK (n : Name) : List (List UInt8) := n.parts.map (fun z : Str => z.toList)
theorem eqN_impl (a b : Name) : impl_EqualNames a b = decide (nK a = nK b) := sEq_string a.parts b.parts
theorem eqN_spec (a b : Name) : spec_EqualNames a b = decide (nK a = nK b) := by rw [← same_EqualNames, eqN_impl]
theorem f16N (n : Name) : ∀ (l : List DataP) (i : Nat), spec_l16Find_L1 n l i = none → ∀ a ∈ l, ¬ nK a.name = nK n
  | [], i, h, a, ha => by cases ha
  | x :: l, i, h, a, ha => by
    simp only [spec_l16Find_L1, eqN_spec] at h
    by_cases hx : nK x.name = nK n
    · simp [hx] at h
    · simp only [hx, decide_false, cond_false] at h
      rcases List.mem_cons.1 ha with rfl | ha
      · exact hx
      · exact f16N n l (i + 1) h a ha
theorem f16S (n : Name) : ∀ (l : List DataP) (i : Nat) (j : Int), spec_l16Find_L1 n l i = some j → ∃ m a, j = ((i + m : Nat) : Int) ∧ l[m]? = some a ∧ nK a.name = nK n ∧ ∀ b ∈ l.take m, ¬ nK b.name = nK n
  | [], i, j, h => by cases h
  | x :: l, i, j, h => by
    simp only [spec_l16Find_L1, eqN_spec] at h
    by_cases hx : nK x.name = nK n
    · simp only [hx, decide_true, cond_true, Option.some.injEq] at h
      exact ⟨0, x, by rw [← h]; rfl, rfl, hx, fun b hb => by simp at hb⟩
    · simp only [hx, decide_false, cond_false] at h
      obtain ⟨m, a, h1, h2, h3, h4⟩ := f16S n l (i + 1) j h
      refine ⟨m + 1, a, by rw [h1]; congr 1; omega, by simpa using h2, h3, fun b hb => ?_⟩
      rw [List.take_succ_cons] at hb
      rcases List.mem_cons.1 hb with rfl | hb
      · exact hx
      · exact h4 b hb
theorem f16E {n : Name} {l : List DataP} (h : spec_l16Find l n < 0) : ∀ a ∈ l, ¬ nK a.name = nK n := by
  unfold spec_l16Find at h
  cases hx : spec_l16Find_L1 n l 0 with
  | none => exact f16N n l 0 hx
  | some j =>
    obtain ⟨m, a, h1, _⟩ := f16S n l 0 j hx
    rw [hx] at h
    have : j < 0 := h
    omega
theorem f16T {n : Name} {l : List DataP} (h : ¬ spec_l16Find l n < 0) : ∃ (m : Nat) (a : DataP), spec_l16Find l n = (m : Int) ∧ l[m]? = some a ∧ nK a.name = nK n ∧ ∀ b ∈ l.take m, ¬ nK b.name = nK n := by
  unfold spec_l16Find at h ⊢
  cases hx : spec_l16Find_L1 n l 0 with
  | none => rw [hx] at h; exact absurd (by decide) h
  | some j =>
    obtain ⟨m, a, h1, h2⟩ := f16S n l 0 j hx
    exact ⟨m, a, by rw [h1, Nat.zero_add], h2⟩
def nUq (l : List DataP) : Prop := l.Pairwise (fun a b => ¬ nK a.name = nK b.name)
theorem del_one {n : Name} : ∀ {l : List DataP} {m : Nat} {a : DataP}, nUq l → l[m]? = some a → nK a.name = nK n → l.filter (fun e => !decide (nK e.name = nK n)) = l.take m ++ l.drop (m + 1)
  | x :: l, 0, a, hu, hm, ha => by
    simp at hm; subst hm
    rw [List.filter_cons_of_neg (by simp [ha])]
    simp only [List.take_zero, List.nil_append, List.drop_succ_cons, List.drop_zero]
    refine List.filter_eq_self.2 fun b hb => ?_
    have := (List.pairwise_cons.1 hu).1 b hb
    rw [ha] at this
    simp [Ne.symm this]
  | x :: l, m + 1, a, hu, hm, ha => by
    have hx : ¬ nK x.name = nK n := by
      have := (List.pairwise_cons.1 hu).1 a (List.mem_of_getElem? (by simpa using hm))
      rw [ha] at this; exact this
    rw [List.filter_cons_of_pos (by simp [hx]), del_one (List.pairwise_cons.1 hu).2 (by simpa using hm) ha]
    simp
theorem del_none {n : Name} {l : List DataP} (h : ∀ a ∈ l, ¬ nK a.name = nK n) : l.filter (fun e => !decide (nK e.name = nK n)) = l := List.filter_eq_self.2 fun b hb => by simp [h b hb]
theorem del_uq {n : Name} {l : List DataP} (h : nUq l) : nUq (l.filter (fun e => !decide (nK e.name = nK n))) := h.filter _
theorem del_snoc {l : List DataP} {x : DataP} (h : nUq l) : nUq (l.filter (fun e => !decide (nK e.name = nK x.name)) ++ [x]) := by
  unfold nUq
  rw [List.pairwise_append]
  refine ⟨h.filter _, List.pairwise_singleton _ _, fun a ha b hb => ?_⟩
  obtain rfl := List.mem_singleton.1 hb
  have := (List.mem_filter.1 ha).2
  simpa using this
theorem dF_impl (o : List DataP) (r : Record) : slices_DeleteFunc_Data o (fun e0_ => impl_Replay_c1 r e0_) = o.filter (fun e => !decide (nK e.name = nK r.data.name)) := by
  unfold slices_DeleteFunc_Data impl_Replay_c1
  simp only [eqN_impl]
theorem dF_spec {o : List DataP} (n : Name) (hu : nUq o) : (bif decide (spec_l16Find o n ≥ 0) then List.take (Int.toNat (spec_l16Find o n)) o ++ List.drop (Int.toNat (spec_l16Find o n + 1)) o else o) = o.filter (fun e => !decide (nK e.name = nK n)) := by
  by_cases h : spec_l16Find o n < 0
  · have hd : decide (spec_l16Find o n ≥ 0) = false := by simp; omega
    rw [hd, cond_false, del_none (f16E h)]
  · obtain ⟨m, a, h1, h2, h3, _⟩ := f16T h
    have hd : decide (spec_l16Find o n ≥ 0) = true := by simp; omega
    rw [hd, cond_true, del_one hu h2 h3, h1]
    congr 1
theorem rpL : ∀ (l : List Record) (o : List DataP), nUq o → impl_Replay_L1 l o = spec_Replay_L1 l o
  | [], o, _ => rfl
  | r :: l, o, hu => by
    have hd := dF_spec r.data.name hu
    have hc1 : impl_copyData r.data = r.data := rfl
    have hc2 : spec_l8Copy r.data = r.data := rfl
    simp only [impl_Replay_L1, spec_Replay_L1, dF_impl, hc1, hc2]
    cases h1 : (r.kind != 1) <;> cases h2 : (r.kind != 2) <;> cases h3 : (r.kind == 1) <;> cases hx : decide (spec_l16Find o r.data.name ≥ 0) <;> simp only [cond_true, cond_false] <;>
      rw [hx] at hd <;> simp only [cond_true, cond_false] at hd <;> first | exact rpL l _ hu | (rw [← hd]; exact rpL l _ (by rw [hd]; exact del_snoc hu)) | (rw [← hd]; exact rpL l _ (by rw [hd]; exact del_uq hu))
theorem same_Replay' (l : List Record) : impl_Replay l = spec_Replay l := by
  unfold impl_Replay spec_Replay
  rw [rpL l [] List.Pairwise.nil]
theorem rcIL : ∀ (l o : List Record), impl_copyRecords_L1 l o = o ++ l
  | [], o => by simp [impl_copyRecords_L1]
  | e :: l, o => by
    simp only [impl_copyRecords_L1]
    rw [rcIL l]
    simp [impl_copyData, impl_copyName]
theorem rcI (l : List Record) : impl_copyRecords l = l := by simp [impl_copyRecords, rcIL]
theorem rcSL : ∀ (l o : List Record), spec_l29Recs_L1 l o = o ++ l
  | [], o => by simp [spec_l29Recs_L1]
  | e :: l, o => by
    simp only [spec_l29Recs_L1]
    rw [rcSL l]
    simp [spec_l8Copy, spec_l4Copy]
theorem rcS (l : List Record) : spec_l29Recs l = l := by simp [spec_l29Recs, rcSL]
theorem same_LogContents' (l : Log) : impl_LogContents l = spec_LogContents l := by
  simp only [impl_LogContents, spec_LogContents, impl_allRecords, rcI, rcS, same_Replay']
theorem cpL : ∀ (l : List DataP) (o : List Record), impl_CompactLog_L1 l o = spec_CompactLog_L1 l o
  | [], o => rfl
  | x :: l, o => cpL l _
theorem same_CompactLog' (l : Log) : impl_CompactLog l = spec_CompactLog l := by
  simp only [impl_CompactLog, spec_CompactLog, same_LogContents', cpL]
theorem cLI (l : Log) : impl_copyLog l = l := by simp [impl_copyLog, rcI]
theorem cLS (l : Log) : spec_l29Copy l = l := by simp [spec_l29Copy, rcS]
theorem same_AppendRecord' (l : Log) (r : Record) : impl_AppendRecord l r = spec_AppendRecord l r := by
  have hc1 : impl_copyData r.data = r.data := rfl
  have hc2 : spec_l8Copy r.data = r.data := rfl
  simp only [impl_AppendRecord, spec_AppendRecord, cLI, cLS, hc1, hc2, same_ValidLog']
theorem szL_append {α : Type} [GoT α] [Sz α] (a b : List α) : szL (a ++ b) = szL a + szL b := by simp [szL]
theorem szL_set {α : Type} [GoT α] [Sz α] (x y : α) (hxy : sz x = sz y) : ∀ (l : List α) (i : Nat), l[i]? = some y → szL (l.set i x) = szL l
  | [], i, h => by simp at h
  | z :: l, 0, h => by
    simp at h; subst h
    rw [List.set_cons_zero, szL_cons, szL_cons, hxy]
  | z :: l, i + 1, h => by
    rw [List.set_cons_succ, szL_cons, szL_cons, szL_set x y hxy l i (by simpa using h)]
theorem PutShape.size {l r : List TableEntry} {n_ : Name} {v : Int} (h : PutShape l n_ v r) : sz r ≤ sz l + 1 + sz n_ := by
  cases h with
  | same => omega
  | nil => simp [sz_list, szL_nil]
  | set i e h =>
    have := szL_set ⟨e.name, v⟩ e (by rw [sz_TableEntry, sz_TableEntry]) l i h
    rw [sz_list, sz_list, List.length_set, this]; omega
  | ins i =>
    have h1 := szL_append (l.take i) (l.drop i)
    rw [List.take_append_drop] at h1
    have h2 : szL [(⟨n_, v⟩ : TableEntry)] = sz n_ := by simp [szL, sz_TableEntry]
    rw [sz_list, sz_list, szL_append, szL_append, h2]
    simp only [List.length_append, List.length_take, List.length_drop, List.length_cons, List.length_nil]
    omega
end Go.Stp

namespace Go.Stp
set_option linter.unusedVariables false
set_option linter.unusedSimpArgs false
theorem g_mid {α : Type} (p : List α) (x : α) (l : List α) : (p ++ x :: l)[p.length]? = some x := by simp
theorem g_app {α : Type} (p : List α) (x : α) (l : List α) : (p ++ [x]) ++ l = p ++ x :: l := by simp
theorem rf_textsL : ∀ (l p : List Str), laws_sameTexts_L1 (p ++ l) l p.length = none
  | [], p => rfl
  | x :: l, p => by
    have ih := rf_textsL l (p ++ [x])
    rw [g_app, List.length_append, List.length_singleton] at ih
    simp only [laws_sameTexts_L1, g_mid, beq_self_eq_true, Bool.not_true, cond_false, ih]
theorem rf_texts (l : List Str) : laws_sameTexts l l = true := by
  have := rf_textsL l []
  simp only [List.nil_append, List.length_nil] at this
  simp only [laws_sameTexts, bne_self_eq_false, cond_false, this]
theorem rf_name (a : Name) : laws_sameName a a = true := rf_texts _
theorem rf_sameL : ∀ (l p : List UInt8), laws_same_L1 (p ++ l) l p.length = none
  | [], p => rfl
  | x :: l, p => by
    have ih := rf_sameL l (p ++ [x])
    rw [g_app, List.length_append, List.length_singleton] at ih
    simp only [laws_same_L1, g_mid, bne_self_eq_false, cond_false, ih]
theorem rf_same (l : List UInt8) : laws_same l l = true := by
  have := rf_sameL l []
  simp only [List.nil_append, List.length_nil] at this
  simp only [laws_same, bne_self_eq_false, cond_false, this]
theorem rf_thing (a : DataP) : laws_sameThing a a = true := by
  simp only [laws_sameThing, rf_name, rf_same, beq_self_eq_true, cond_true]
theorem rf_recsL : ∀ (l p : List Record), laws_sameRecs_L1 (p ++ l) l p.length = none
  | [], p => rfl
  | x :: l, p => by
    have ih := rf_recsL l (p ++ [x])
    rw [g_app, List.length_append, List.length_singleton] at ih
    simp only [laws_sameRecs_L1, g_mid, bne_self_eq_false, rf_thing, Bool.not_true, cond_false, ih]
theorem rf_recs (l : List Record) : laws_sameRecs l l = true := by
  have := rf_recsL l []
  simp only [List.nil_append, List.length_nil] at this
  simp only [laws_sameRecs, bne_self_eq_false, cond_false, this]
theorem rf_log (a : Log) : laws_sameLog a a = true := by simp only [laws_sameLog, rf_recs, cond_true]
theorem rf_thingsL : ∀ (l p : List DataP), laws_sameThings_L1 (p ++ l) l p.length = none
  | [], p => rfl
  | x :: l, p => by
    have ih := rf_thingsL l (p ++ [x])
    rw [g_app, List.length_append, List.length_singleton] at ih
    simp only [laws_sameThings_L1, g_mid, rf_thing, Bool.not_true, cond_false, ih]
theorem rf_things (l : List DataP) : laws_sameThings l l = true := by
  have := rf_thingsL l []
  simp only [List.nil_append, List.length_nil] at this
  simp only [laws_sameThings, bne_self_eq_false, cond_false, this]
def rpS (o : List DataP) (r : Record) : List DataP :=
  if r.kind = 1 then o.filter (fun e => !decide (nK e.name = nK r.data.name)) ++ [r.data] else if r.kind = 2 then o.filter (fun e => !decide (nK e.name = nK r.data.name)) else o
theorem rpF : ∀ (l : List Record) (o : List DataP), impl_Replay_L1 l o = l.foldl rpS o
  | [], o => rfl
  | r :: l, o => by
    have hc1 : impl_copyData r.data = r.data := rfl
    simp only [impl_Replay_L1, dF_impl, hc1, List.foldl_cons, rpS]
    by_cases h1 : r.kind = 1
    · simp only [h1, bne_self_eq_false, beq_self_eq_true, cond_false, cond_true, if_true, rpF l]
      first | done | rfl | simp
    · by_cases h2 : r.kind = 2
      · have e1 : (r.kind != 1) = true := by simp [h1]
        have e3 : (r.kind == 1) = false := by simp [h1]
        have e2 : (r.kind != 2) = false := by simp [h2]
        simp only [e1, e2, e3, cond_true, cond_false, rpF l, if_neg h1, if_pos h2]
      · have e1 : (r.kind != 1) = true := by simp [h1]
        have e3 : (r.kind == 1) = false := by simp [h1]
        have e2 : (r.kind != 2) = true := by simp [h2]
        simp only [e1, e2, e3, cond_true, cond_false, rpF l, if_neg h1, if_neg h2]
def rep (l : List Record) : List DataP := l.foldl rpS []
theorem rp_eq (l : List Record) : impl_Replay l = rep l := by
  unfold impl_Replay rep
  rw [rpF]
theorem rpS_uq {o : List DataP} (r : Record) (h : nUq o) : nUq (rpS o r) := by
  unfold rpS
  split
  · exact del_snoc h
  · split
    · exact del_uq h
    · exact h
theorem fold_uq : ∀ (l : List Record) {o : List DataP}, nUq o → nUq (l.foldl rpS o)
  | [], _, h => h
  | r :: l, _, h => fold_uq l (rpS_uq r h)
theorem rep_uq (l : List Record) : nUq (rep l) := fold_uq l List.Pairwise.nil
theorem fold_mem : ∀ (l : List Record) {o : List DataP} {x : DataP}, x ∈ l.foldl rpS o → x ∈ o ∨ ∃ r ∈ l, r.kind = 1 ∧ r.data = x
  | [], _, _, h => .inl h
  | r :: l, o, x, h => by
    rcases fold_mem l h with h | ⟨q, hq, h1, h2⟩
    · unfold rpS at h
      split at h
      · rename_i hk
        rcases List.mem_append.1 h with h | h
        · exact .inl (List.mem_filter.1 h).1
        · exact .inr ⟨r, List.mem_cons_self, hk, (List.mem_singleton.1 h).symm⟩
      · split at h
        · exact .inl (List.mem_filter.1 h).1
        · exact .inl h
    · exact .inr ⟨q, List.mem_cons_of_mem _ hq, h1, h2⟩
theorem rep_mem {l : List Record} {x : DataP} (h : x ∈ rep l) : ∃ r ∈ l, r.kind = 1 ∧ r.data = x := (fold_mem l h).resolve_left (fun h => by cases h)
theorem fold_len : ∀ (l : List Record) (o : List DataP), (l.foldl rpS o).length ≤ o.length + l.length
  | [], _ => Nat.le_refl _
  | r :: l, o => by
    have h1 := fold_len l (rpS o r)
    have h2 : (rpS o r).length ≤ o.length + 1 := by
      unfold rpS
      have := List.length_filter_le (fun e : DataP => !decide (nK e.name = nK r.data.name)) o
      split
      · rw [List.length_append, List.length_singleton]; omega
      · split <;> omega
    rw [List.foldl_cons, List.length_cons]; omega
theorem rep_len (l : List Record) : (rep l).length ≤ l.length := by
  have := fold_len l []
  rw [List.length_nil, Nat.zero_add] at this
  exact this
theorem fold_puts : ∀ (d o : List DataP), nUq (o ++ d) → (d.map (Record.mk 1)).foldl rpS o = o ++ d
  | [], o, _ => by simp
  | x :: d, o, h => by
    have h1 : rpS o (Record.mk 1 x) = o ++ [x] := by
      unfold rpS
      rw [if_pos rfl, del_none]
      intro a ha
      exact (List.pairwise_append.1 h).2.2 a ha x List.mem_cons_self
    rw [List.map_cons, List.foldl_cons, h1, fold_puts d (o ++ [x]) (by rw [g_app]; exact h), g_app]
theorem rep_puts (l : List Record) : rep ((rep l).map (Record.mk 1)) = rep l := by
  have := fold_puts (rep l) [] (by rw [List.nil_append]; exact rep_uq l)
  rw [List.nil_append] at this
  exact this
theorem lc_eq (l : Log) : impl_LogContents l = rep (l.durable ++ l.volatile) := by
  simp only [impl_LogContents, impl_allRecords, rcI, rp_eq]
theorem cp_map : ∀ (l : List DataP) (o : List Record), impl_CompactLog_L1 l o = o ++ l.map (Record.mk 1)
  | [], o => by simp [impl_CompactLog_L1]
  | x :: l, o => by
    simp only [impl_CompactLog_L1]
    rw [cp_map l]
    simp
theorem cp_eq (l : Log) : impl_CompactLog l = ⟨(rep (l.durable ++ l.volatile)).map (Record.mk 1), []⟩ := by
  simp only [impl_CompactLog, lc_eq, cp_map, List.nil_append]
theorem fl_eq (l : Log) : impl_FlushLog l = ⟨l.durable ++ l.volatile, []⟩ := by
  simp only [impl_FlushLog, impl_allRecords, rcI]
theorem cr_eq (l : Log) (i : Nat) (h : i ≤ l.volatile.length) : impl_CrashLog l ((i : Nat) : Int) = ⟨l.durable ++ l.volatile.take i, []⟩ := by
  have h1 : Int.toNat (max 0 (min ((i : Nat) : Int) (((l.volatile).length : Nat) : Int))) = i := by omega
  simp only [impl_CrashLog, rcI, h1]
theorem vl_iff (l : Log) : spec_ValidLog l = true ↔ (∀ r ∈ l.durable, spec_ValidRecord r = true) ∧ (∀ r ∈ l.volatile, spec_ValidRecord r = true) ∧ l.durable.length + l.volatile.length ≤ 40 := by
  unfold spec_ValidLog
  rw [vLL1, vLL2]
  have key : ∀ q : List Record, (q.any (fun e => !(spec_ValidRecord e))) = false ↔ ∀ r ∈ q, spec_ValidRecord r = true := fun q => by
    rw [List.any_eq_false]
    exact ⟨fun h r hr => by simpa using h r hr, fun h r hr => by simpa using h r hr⟩
  cases h1 : l.durable.any (fun e => !(spec_ValidRecord e))
  · have k1 := (key _).1 h1
    cases h2 : l.volatile.any (fun e => !(spec_ValidRecord e))
    · have k2 := (key _).1 h2
      simp only [cond_false, decide_eq_true_eq]
      exact ⟨fun h => ⟨k1, k2, by omega⟩, fun h => by have := h.2.2; omega⟩
    · simp only [cond_false, cond_true, Bool.false_eq_true, false_iff]
      exact fun h => by rw [(key _).2 h.2.1] at h2; cases h2
  · simp only [cond_true, Bool.false_eq_true, false_iff]
    exact fun h => by rw [(key _).2 h.1] at h1; cases h1
theorem ar_valid (l : Log) (r : Record) (h : spec_ValidLog l = true) : spec_ValidLog (spec_AppendRecord l r).1 = true := by
  unfold spec_AppendRecord
  rw [cLS]
  cases hv : spec_ValidLog (Log.mk l.durable (l.volatile ++ [(Record.mk r.kind (spec_l8Copy r.data))]))
  · exact h
  · exact hv
theorem fl_valid (l : Log) (h : spec_ValidLog l = true) : spec_ValidLog (spec_FlushLog l) = true := by
  obtain ⟨h1, h2, h3⟩ := (vl_iff l).1 h
  rw [fl34, vl_iff]
  refine ⟨fun r hr => (List.mem_append.1 hr).elim (h1 r) (h2 r), fun r hr => (by cases hr), ?_⟩
  simp only [List.length_append, List.length_nil]; omega
theorem draw_validL (b : List UInt8) : ∀ (m : Nat) (i : Int) (d v : List Record) (a h : Int), i.toNat = m → spec_ValidLog ⟨d, v⟩ = true → spec_ValidLog ⟨(spec_l29Draw_L1 b i d v a h).2.1, (spec_l29Draw_L1 b i d v a h).2.2.1⟩ = true
  | 0, i, d, v, a, h, hm, hv => by
    rw [spec_l29Draw_L1, if_neg (by omega)]
    exact hv
  | m + 1, i, d, v, a, h, hm, hv => by
    rw [spec_l29Draw_L1, if_pos (by omega)]
    rcases spec_l29Rec b a h with ⟨x, j, k⟩
    dsimp only
    rcases spec_l1Once b j k 4 with ⟨y, j2, k2⟩
    dsimp only
    have h1 := ar_valid ⟨d, v⟩ x hv
    have h2 := fl_valid _ h1
    split
    · exact draw_validL b m _ _ _ _ _ (by omega) h2
    · exact draw_validL b m _ _ _ _ _ (by omega) h1
theorem draw_valid (b : List UInt8) (i h : Int) : spec_ValidLog (spec_l29Draw b i h).1 = true := by
  unfold spec_l29Draw
  rcases spec_l1Below b i h 9 with ⟨x, j, k⟩
  dsimp only
  have := draw_validL b _ x [] [] j k rfl rfl
  rcases e2 : spec_l29Draw_L1 b x [] [] j k with ⟨p, q, r, s, t⟩
  rw [e2] at this
  exact this
theorem drawLog_gd (code : List UInt8) : spec_ValidLog (spec_DrawLog code) = true ∧ (spec_DrawLog code).durable.length + (spec_DrawLog code).volatile.length ≤ 8 := by
  unfold spec_DrawLog
  rcases spec_l1New code with ⟨a, b⟩
  dsimp only
  have h1 := draw_valid code a b
  have h2 := l29Draw_len code a b
  rcases e : spec_l29Draw code a b with ⟨p, q, r⟩
  rw [e] at h1 h2
  exact ⟨h1, h2⟩
theorem cp_valid {l : Log} (h : spec_ValidLog l = true) : spec_ValidLog (impl_CompactLog l) = true := by
  obtain ⟨h1, h2, h3⟩ := (vl_iff l).1 h
  rw [cp_eq, vl_iff]
  refine ⟨fun r hr => ?_, fun r hr => (by cases hr), ?_⟩
  · obtain ⟨x, hx, rfl⟩ := List.mem_map.1 hr
    obtain ⟨q, hq, k1, rfl⟩ := rep_mem hx
    have : spec_ValidRecord q = true := (List.mem_append.1 hq).elim (h1 q) (h2 q)
    unfold spec_ValidRecord at this ⊢
    rw [k1] at this
    exact this
  · have := rep_len (l.durable ++ l.volatile)
    rw [List.length_append] at this
    simp only [List.length_map, List.length_nil]; omega
theorem cr_valid {l : Log} (h : spec_ValidLog l = true) {i : Nat} (hi : i ≤ l.volatile.length) : spec_ValidLog (impl_CrashLog l ((i : Nat) : Int)) = true := by
  obtain ⟨h1, h2, h3⟩ := (vl_iff l).1 h
  rw [cr_eq l i hi, vl_iff]
  refine ⟨fun r hr => (List.mem_append.1 hr).elim (h1 r) (fun hr => h2 r (List.mem_of_mem_take hr)), fun r hr => (by cases hr), ?_⟩
  simp only [List.length_append, List.length_nil, List.length_take]; omega
end Go.Stp

namespace Go.Stp
open Go.RowKit (Below)
open GoT (X k ok sh fa oa)
def Opens (P : Program) (T : TypeId) (α : Type) [GoT α] : Prop :=
  P.cellsOf T = k α ∧ ∀ {H : Type} {enc : TypeId × Value → H} {w : World} {spare : Nat → Bool} {held : Bool} {fuel : Nat} {cs : List Value} {x : DataW H × List MemPlace}, DataW.trod enc P w 0 spare held fuel T cs = some x →
    ∃ (a : α) (y : X α), cs = sh a y ∧ ok 10 a ∧ All (hp w) (fa .der a y)
theorem opens_byte {P : Program} {T : TypeId} (h : P.underlying T = some (.int .u8)) (hc : P.cellsOf T = 1) : Opens P T UInt8 := ⟨hc, fun h' => by
  obtain ⟨n, rfl, _, hw⟩ := DataW.trod_int h h'
  have hn : 0 ≤ n ∧ n ≤ 255 := by simpa [Lit.wf, IntKind.min, IntKind.max, IntKind.signed, IntKind.bits] using hw
  refine ⟨UInt8.ofNat n.toNat, (), ?_, trivial, (fun _ h_ => by cases h_)⟩
  have : ((UInt8.ofNat n.toNat).toNat : Int) = n := by
    rw [UInt8.toNat_ofNat', Nat.mod_eq_of_lt (by omega)]; omega
  simp only [sh]
  rw [this]⟩
theorem cells?_each {w : World} {a : Addr} {n : Nat} {cs : List Value} (h : w.cells? 0 a n = some cs) : ∀ j u, cs[j]? = some u → w.cell? (a.add j) = some u := by
  intro j u hj
  obtain ⟨_, h1, h2⟩ := World.cells?_some h
  rw [h2 j (by rw [← h1]; exact (List.getElem?_eq_some_iff.1 hj).1)]; exact hj
theorem opens_slice {P : Program} {T E : TypeId} {α : Type} [GoT α] (h : P.underlying T = some (.slice E)) (hc : P.cellsOf T = 1) (he : Opens P E α) : Opens P T (List α) := ⟨hc, fun {H enc w spare held fuel cs x} h' => by
  rcases DataW.trod_slice h h' with ⟨rfl, _⟩ | ⟨a, len, cap, elems, rest, n, _, rfl, _, _, hl, hm, hlen, hel, _, _⟩
  · exact ⟨[], (none, 0), rfl, ⟨Nat.zero_le _, fun _ h_ => by cases h_⟩, fun f hf => by
      obtain rfl := List.mem_singleton.1 hf
      exact ⟨Nat.zero_le _, Nat.zero_le _, [], fun j u h => by simp at h, rfl⟩⟩
  · have key : ∀ m, m ≤ len → ∃ (l : List α) (xs : List Value), l.length = m ∧ xs.length = m * k α ∧ RdL (hp w) xs l ∧ (∀ b ∈ l, ok 10 b) ∧ CellsAt (hp w) (some a) xs := by
      intro m
      induction m with
      | zero => exact fun _ => ⟨[], [], rfl, by simp, rfl, by simp, fun j u h => by simp at h⟩
      | succ m ih =>
        intro hmle
        obtain ⟨l, xs, h1, h2, h3, h4, h5⟩ := ih (by omega)
        have hm' := hel m (by omega)
        rw [he.1] at hm'
        obtain ⟨y, hy⟩ : ∃ y, elems[m]? = some y := ⟨_, List.getElem?_eq_getElem (by omega)⟩
        rw [hy, Option.bind_eq_some_iff] at hm'
        obtain ⟨cs', hcs, htr⟩ := hm'
        obtain ⟨b, yb, rfl, hok, hfa⟩ := he.2 htr
        refine ⟨l ++ [b], xs ++ sh b yb, by simp [h1], by rw [List.length_append, h2, GoT.len, Nat.add_mul]; omega, h3.snoc hfa, ?_, ?_⟩
        · intro c hc
          rcases List.mem_append.1 hc with hc | hc
          · exact h4 c hc
          · simp at hc; subst hc; exact hok
        · intro j u hj
          refine ⟨a, rfl, ?_⟩
          by_cases hlt : j < xs.length
          · rw [List.getElem?_append_left hlt] at hj
            obtain ⟨a', ha', hg⟩ := h5 j u hj
            simp at ha'; subst ha'; exact hg
          · rw [List.getElem?_append_right (by omega)] at hj
            have := cells?_each hcs _ _ hj
            rw [addr_add_add, h2, show m * k α + (j - m * k α) = j by omega] at this
            exact this
    obtain ⟨l, xs, h1, h2, h3, h4, h5⟩ := key len (Nat.le_refl _)
    have hm' : len ≤ 9223372036854775807 := by simp only [maxLen] at hm; omega
    refine ⟨l, (some a, cap), by simp [sh, h1], ⟨by show l.length ≤ 9223372036854775807; omega, h4⟩, fun f hf => ?_⟩
    obtain rfl := List.mem_singleton.1 hf
    exact ⟨by omega, by omega, xs, h5, h3⟩⟩
def Arg (P : Program) (T : TypeId) (α : Type) [GoT α] (mk : List Value → Value) : Prop :=
  ∀ {H : Type} {enc : TypeId × Value → H} {W : World} {b0 : Nat} {spare : Nat → Bool} {held : Bool} {v : Value} {d : DataW H} {ps : List MemPlace}, Value.okWide P W .any b0 T v → DataW.Trod enc P W 0 spare held T v d ps →
    ∃ (a : α) (y : X α), v = mk (sh a y) ∧ ok 10 a ∧ All (hp W) (fa .der a y)
theorem arg_slice {P : Program} {T E : TypeId} {α : Type} [GoT α] (h : P.underlying T = some (.slice E)) (ho : Opens P T (List α)) : Arg P T (List α) (fun cs => cs.headD undef) := by
  intro H enc W b0 spare held v d ps hval ⟨fuel, hf⟩
  obtain ⟨a, y, h1, h2, h3⟩ := ho.2 hf
  refine ⟨a, y, ?_, h2, h3⟩
  cases v with
  | agg cs => simp [Value.okWide, h, Cell.okWide, Cell.ok] at hval
  | _ => first | (simp [Value.cells, sh] at h1; done) | (simp [Value.cells, sh] at h1; simp [sh, h1])
theorem trodAll_stays {H : Type} {enc : TypeId × Value → H} {P : Program} (hl : laidOutB P = true) {W W' : World} {sp : Nat → Bool} : ∀ {ts : List TypeId} {vs : List Value} {ds : List (DataW H)} {ps : List MemPlace},
    ts.all (fun t => P.readableRec t && decide (t < P.types.size)) = true → DataW.TrodAll enc P W 0 (fun _ => true) true ts vs ds ps → (∀ p ∈ ps, W.sameAt W' p) → (∀ p ∈ ps, sp p.block = true) → DataW.TrodAll enc P W' 0 sp true ts vs ds ps
  | [], [], [], _, _, h, _, _ => h
  | t :: ts, v :: vs, d :: ds, ps, ha, ⟨p, q, h1, h2, e⟩, hs, hsp => by
    simp only [List.all_cons, Bool.and_eq_true, decide_eq_true_eq] at ha
    subst e
    exact ⟨p, q, WideElems.Trod_stays hl ha.1.1 ha.1.2 h1 (fun x hx => hs x (List.mem_append_left _ hx)) (fun x hx => hsp x (List.mem_append_left _ hx)),
      trodAll_stays hl ha.2 h2 (fun x hx => hs x (List.mem_append_right _ hx)) (fun x hx => hsp x (List.mem_append_right _ hx)), rfl⟩
theorem trodAll_len {H : Type} {enc : TypeId × Value → H} {P : Program} {W : World} {b : Nat} {sp : Nat → Bool} {hd : Bool} : ∀ {ts : List TypeId} {vs : List Value} {ds : List (DataW H)} {ps : List MemPlace}, DataW.TrodAll enc P W b sp hd ts vs ds ps → ds.length = ts.length
  | [], [], [], _, _ => rfl
  | _ :: _, _ :: _, _ :: _, _, ⟨_, _, _, h2, _⟩ => by simp [trodAll_len h2]
theorem law_post {H : Type} {enc : TypeId × Value → H} {P : Program} {f : Func} {s : ChangeSpec} {W W' : World} {args : Array Value} {ds gs : List (DataW H)} {before : List MemPlace} {B : TypeId}
    (hl : laidOutB P = true) (hpar : f.params.toList.all (fun t => P.readableRec t && decide (t < P.types.size)) = true) (hvars : s.vars = []) (hB : f.resultTypes = #[B]) (hu : P.underlying B = some .bool)
    (hfn : ∀ ds : List (DataW H), ds.length = f.params.size → s.fn H ds = { results := [.lit (.bool true)], args := ds })
    (hW : DataW.Whole enc P f.params.toList s.vars false W args.toList ds gs before) (hb : Below W.heap.size W W') : s.post enc P f false true false false W args (.bool true) W' := by
  have hW' := hW
  have hlt : ∀ p ∈ before, p.block < W.heap.size := fun p hp => hW.lt p hp
  obtain ⟨p, q, hA, hV, rfl, hfz, hnd⟩ := hW'
  rw [hvars] at hV
  obtain ⟨rfl, rfl⟩ := ChangeShapes.trodVars_none hV
  have hlen : ds.length = f.params.size := by simpa using trodAll_len hA
  have hdd : s.fn H (ds ++ []) = { results := [.lit (.bool true)], args := ds } := by rw [List.append_nil]; exact hfn ds hlen
  have hres : ∀ (b : Nat) (sp : Nat → Bool) (hd : Bool), DataW.TrodAll enc P W' b sp hd f.resultTypes.toList ((Value.bool true).resultList f.resultTypes.size) (s.fn H (ds ++ [])).results [] := by
    intro b sp hd
    rw [hdd, hB]
    exact trodAll_cons_mk (RowKit.shut_bool hu _) ChangeShapes.trodAll_mk0
  have hargs : ∀ sp : Nat → Bool, (∀ x ∈ p ++ [], sp x.block = true) → DataW.TrodAll enc P W' 0 sp true f.params.toList args.toList (s.fn H (ds ++ [])).args p := by
    intro sp hsp
    rw [hdd]
    exact trodAll_stays hl hpar hA (fun x hx => hb.same (hlt x (by simpa using hx))) (fun x hx => hsp x (by simpa using hx))
  have hvars' : ∀ sp : Nat → Bool, DataW.TrodVars enc P W' sp s.vars (s.fn H (ds ++ [])).vars [] := by
    intro sp; rw [hvars, hdd]; rfl
  have hold : ∀ x ∈ p ++ [], (fun b => decide (b < W.heap.size)) x.block = true := fun x hx => by simpa using hlt x hx
  refine ⟨ds, [], p ++ [], [], p, [], hW, hres _ _ _, hargs _ hold, hvars' _, World.keptBut_mono (fun x hx => ⟨hx, Or.inr (by simpa using hx)⟩) (hb.frame (· ∈ p ++ [])), fun h => (by cases h)⟩
end Go.Stp

namespace Go.Proofs.YtolepebgdfdciaaGreat.Facts
set_option maxRecDepth 100000
theorem laid : laidOutB Tryz.prog = true := by kernel_rfl
theorem rowed : mapsRowed Tryz.prog = true := by kernel_rfl
end Go.Proofs.YtolepebgdfdciaaGreat.Facts

namespace Go.Stp
set_option linter.unusedVariables false
set_option linter.unusedSimpArgs false
theorem mx_mn (a b : Int) : spec_Max 0 (spec_Min a b) = max 0 (min a b) := by
  unfold spec_Max spec_Min
  cases hc : decide (b < a)
  · have h := of_decide_eq_false hc
    show (bif decide (a > 0) then a else 0) = _
    cases hd : decide (a > 0)
    · have k := of_decide_eq_false hd
      show (0 : Int) = _
      omega
    · have k := of_decide_eq_true hd
      show a = _
      omega
  · have h := of_decide_eq_true hc
    show (bif decide (b > 0) then b else 0) = _
    cases hd : decide (b > 0)
    · have k := of_decide_eq_false hd
      show (0 : Int) = _
      omega
    · have k := of_decide_eq_true hd
      show b = _
      omega
theorem logsL (code : List UInt8) : ∀ (m i : Nat), (spec_DrawLog code).volatile.length + 1 - i = m → ∃ j, laws_FnLogs_L1 code i = Ctl.nxt j := by
  intro m
  induction m with
  | zero =>
    intro i h
    rw [laws_FnLogs_L1, if_neg (by omega)]
    exact ⟨i, rfl⟩
  | succ m ih =>
    intro i h
    obtain ⟨g1, g2⟩ := drawLog_gd code
    have hle : i ≤ (spec_DrawLog code).volatile.length := by omega
    have e1 : laws_sameRecs (List.take ((spec_DrawLog code).durable).length ((impl_CrashLog (spec_DrawLog code) ((i : Nat) : Int)).durable)) ((spec_DrawLog code).durable) = true := by
      rw [cr_eq _ _ hle, List.take_left]; exact rf_recs _
    have e2 : ((((impl_CrashLog (spec_DrawLog code) ((i : Nat) : Int)).volatile).length : Nat) : Int) = 0 := by
      rw [cr_eq _ _ hle]; rfl
    have e3 : impl_ValidLog (impl_CrashLog (spec_DrawLog code) ((i : Nat) : Int)) = true := by rw [same_ValidLog']; exact cr_valid g1 hle
    rw [laws_FnLogs_L1, if_pos (by omega), e1, if_neg (by decide), e2, if_neg (by decide), e3, if_neg (by decide)]
    exact ih (i + 1) (by omega)
theorem true_FnLogs (code : List UInt8) (hcode : GoT.ok 10 code) : laws_FnLogs code = true := by
  obtain ⟨g1, g2⟩ := drawLog_gd code
  obtain ⟨j, hj⟩ := logsL code _ 0 rfl
  have sC : ∀ (l : Log) (n : Int), impl_CrashLog l n = spec_CrashLog l n := fun l n => by simp only [impl_CrashLog, spec_CrashLog, mx_mn, rcI, rcS]
  have sF : ∀ l : Log, impl_FlushLog l = spec_FlushLog l := fun l => by rw [fl_eq, fl34]
  have c1 : laws_sameLog ((impl_AppendRecord ((spec_DrawAppendRecord code).1) ((spec_DrawAppendRecord code).2)).1) ((spec_AppendRecord ((spec_DrawAppendRecord code).1) ((spec_DrawAppendRecord code).2)).1) = true := by rw [same_AppendRecord']; exact rf_log _
  have c2 : (((impl_AppendRecord ((spec_DrawAppendRecord code).1) ((spec_DrawAppendRecord code).2)).2) == ((spec_AppendRecord ((spec_DrawAppendRecord code).1) ((spec_DrawAppendRecord code).2)).2)) = true := by rw [same_AppendRecord']; exact beq_self_eq_true _
  have c3 : laws_sameLog (impl_CrashLog ((spec_DrawCrashLog code).1) ((spec_DrawCrashLog code).2)) (spec_CrashLog ((spec_DrawCrashLog code).1) ((spec_DrawCrashLog code).2)) = true := by rw [sC]; exact rf_log _
  have c4 : laws_sameLog (impl_FlushLog (spec_DrawFlushLog code)) (spec_FlushLog (spec_DrawFlushLog code)) = true := by rw [sF]; exact rf_log _
  have c5 : laws_sameThings (impl_Replay (spec_DrawReplay code)) (spec_Replay (spec_DrawReplay code)) = true := by rw [same_Replay']; exact rf_things _
  have c6 : laws_sameThings (impl_LogContents (spec_DrawFlushLog code)) (spec_LogContents (spec_DrawFlushLog code)) = true := by rw [same_LogContents']; exact rf_things _
  have c7 : laws_sameLog (impl_CompactLog (spec_DrawFlushLog code)) (spec_CompactLog (spec_DrawFlushLog code)) = true := by rw [same_CompactLog']; exact rf_log _
  have c8 : ((impl_ValidRecord (spec_DrawValidRecord code)) == (spec_ValidRecord (spec_DrawValidRecord code))) = true := by rw [same_ValidRecord']; exact beq_self_eq_true _
  have c9 : ((impl_ValidLog ((spec_DrawAppendRecord code).1)) == (spec_ValidLog ((spec_DrawAppendRecord code).1))) = true := by rw [same_ValidLog']; exact beq_self_eq_true _
  have d1 : impl_ValidLog (spec_DrawLog code) = true := by rw [same_ValidLog']; exact g1
  have d2 : impl_ValidLog (impl_CompactLog (spec_DrawLog code)) = true := by rw [same_ValidLog']; exact cp_valid g1
  have d3 : laws_sameThings (impl_LogContents (impl_CompactLog (spec_DrawLog code))) (impl_LogContents (spec_DrawLog code)) = true := by
    have k : impl_LogContents (impl_CompactLog (spec_DrawLog code)) = impl_LogContents (spec_DrawLog code) := by
      rw [lc_eq, lc_eq, cp_eq]
      simp only [List.append_nil]
      exact rep_puts _
    rw [k]; exact rf_things _
  have d4 : laws_sameThings (impl_LogContents (impl_FlushLog (spec_DrawLog code))) (impl_LogContents (spec_DrawLog code)) = true := by
    have k : impl_LogContents (impl_FlushLog (spec_DrawLog code)) = impl_LogContents (spec_DrawLog code) := by
      rw [lc_eq, lc_eq, fl_eq]
      simp only [List.append_nil]
    rw [k]; exact rf_things _
  have d5 : decide (((((impl_CompactLog (spec_DrawLog code)).durable).length : Nat) : Int) ≤ IntKind.i64.wrap (((((spec_DrawLog code).durable).length : Nat) : Int) + ((((spec_DrawLog code).volatile).length : Nat) : Int))) = true := by
    rw [wrap_i64 (by unfold I64; omega), cp_eq]
    have := rep_len ((spec_DrawLog code).durable ++ (spec_DrawLog code).volatile)
    rw [List.length_append] at this
    simp only [List.length_map, decide_eq_true_eq]; omega
  have d6 : laws_sameLog (impl_CrashLog (spec_DrawLog code) ((((spec_DrawLog code).volatile).length : Nat) : Int)) (impl_FlushLog (spec_DrawLog code)) = true := by
    rw [cr_eq _ _ (Nat.le_refl _), fl_eq, List.take_length]; exact rf_log _
  unfold laws_FnLogs
  cases laws_big code
  · simp only [c1, c2, c3, c4, c5, c6, c7, c8, c9, Bool.not_true, cond_false, hj, d1, d2, d3, d4, d5, d6, cond_true]
  · rfl
end Go.Stp
namespace Go.Proofs.YtolepebgdfdciaaGreat
open Go.Stp
open Go.RowKit (Below)
open Go.ChangeShapes Go.WideShapes Go.ChangeAt
namespace LawFnLogs
theorem own : ownKnob Tryz.prog.godebug = none := by kernel_rfl
theorem laid : laidOutB Tryz.prog = true := Facts.laid
set_option maxRecDepth 100000 in
theorem lifted (os : Os) (started : os.Started) (H : Type) (enc : TypeId × Value → H) :
    ReturnsInHanded {} Tryz.checked os 3 .any (Rows.fnLogsSpec.pre6 enc Tryz.prog Tryz.f3 Rows.fnLogsRow.domain false) (Rows.fnLogsSpec.post enc Tryz.prog Tryz.f3 false true false false) := by
  refine returnsInHanded_of_change (C := Tryz.checked) own started (by kernel_rfl) Tryz.func3
    (ChangeSpec.witness6 (enc := enc) (C := Tryz.checked) false ⟨#[], #[.slice none 0 0], []⟩ 8 (by kernel_rfl) (by kernel_rfl) (by kernel_rfl) (by kernel_rfl)) ?_
  intro W base args ds gs before hval0 hW _ _
  have hval : ∀ (j : Nat) t v, Tryz.f3.params[j]? = some t → args[j]? = some v → Value.okWide Tryz.prog W .any base t v := hval0
  have hW' := hW
  obtain ⟨p, q, hA0, _⟩ := hW
  have hA : DataW.TrodAll enc Tryz.prog W 0 (fun _ => true) true Tryz.f3.params.toList args.toList ds p := hA0
  rw [Tryz.params3] at hA hval
  obtain ⟨v0, vs0, d0, ds0, p0, q0, hargs, rfl, rfl, h0, r0⟩ := ChangeShapes.trodAll_cons hA
  obtain ⟨rfl, rfl, rfl⟩ := trodAll_nil r0
  obtain rfl : args = #[v0] := by cases args; simp_all
  obtain ⟨a0, x0, rfl, k0, g0⟩ := (arg_slice Tryz.underlying22 (opens_slice Tryz.underlying22 (by kernel_rfl) (opens_byte Tryz.underlying5 (by kernel_rfl)))) (hval 0 22 _ rfl rfl) h0
  have ht := true_FnLogs a0 k0
  refine (f3 W 0 (by decide) a0 x0.1 x0.2 (g0 (MF.rs .der x0.1 x0.2 a0) (List.mem_cons_self)) k0).2.mono fun e W1 ⟨v, he, hb, hv⟩ => ?_
  rw [ht] at hv
  obtain ⟨rfl, _⟩ := hv
  subst he
  exact ⟨_, rfl, law_post laid (by kernel_rfl) rfl rfl Tryz.underlying4 (fun ds h => by match ds, h with | [_], _ => rfl) hW' hb.below⟩
set_option maxRecDepth 100000 in
theorem c_inPlace : (Rows.fnLogsRow.inPlace == Tryz.prog.inPlace 3) = true := by kernel_rfl
set_option maxRecDepth 100000 in
theorem c_unfollowed : (Rows.fnLogsRow.unfollowed == Tryz.prog.unfollowed 3) = true := by kernel_rfl
set_option maxRecDepth 100000 in
theorem c_recurses : (Rows.fnLogsRow.recurses == Tryz.prog.recurses 3) = true := by kernel_rfl
set_option maxRecDepth 100000 in
theorem c_named : (Rows.fnLogsRow.named == Tryz.prog.varsNamed 3) = true := by kernel_rfl
set_option maxRecDepth 100000 in
theorem c_read : Tryz.f3.params.all (Tryz.pinned.checked.prog.readableRec ·) = true := by kernel_rfl
set_option maxRecDepth 100000 in
theorem c_maps : (Rows.fnLogsRow.maps == (Tryz.f3.params.toList ++ Rows.fnLogsSpec.plain.varTypes Tryz.pinned.checked.prog).any (Tryz.pinned.checked.prog.mapsRec ·)) = true := by kernel_rfl
set_option maxRecDepth 100000 in
theorem c_ifaces : (Rows.fnLogsRow.ifaces == (Tryz.f3.params.toList ++ Rows.fnLogsSpec.plain.varTypes Tryz.pinned.checked.prog).any (Tryz.pinned.checked.prog.ifacesRec ·)) = true := by kernel_rfl
set_option maxRecDepth 100000 in
theorem c_loops : (Rows.fnLogsRow.loops == (Tryz.f3.params.toList ++ Rows.fnLogsSpec.plain.varTypes Tryz.pinned.checked.prog).any (Tryz.pinned.checked.prog.loopsFrom ·)) = true := by kernel_rfl
set_option maxRecDepth 100000 in
theorem c_wide : (Rows.fnLogsRow.wideKeys == (Tryz.f3.params.toList ++ Rows.fnLogsSpec.plain.varTypes Tryz.pinned.checked.prog ++ Tryz.f3.resultTypes.toList).any (Tryz.pinned.checked.prog.wideKeysFrom ·)) = true := by kernel_rfl
set_option maxRecDepth 100000 in
theorem c_rread : Tryz.f3.resultTypes.all (fun t => Tryz.pinned.checked.prog.readableRec t && decide (t < Tryz.pinned.checked.prog.types.size)) = true := by kernel_rfl
set_option maxRecDepth 100000 in
theorem c_veiled : (Rows.fnLogsRow.veiled == (Tryz.f3.params.toList ++ Rows.fnLogsSpec.plain.varTypes Tryz.pinned.checked.prog ++ Tryz.f3.resultTypes.toList).any (Tryz.pinned.checked.prog.veiledRec ·)) = true := by kernel_rfl
set_option maxRecDepth 100000 in
theorem c_vfits : Rows.fnLogsRow.veiledFits Tryz.pinned.checked.prog Tryz.f3.params.toList (Tryz.f3.params.toList ++ Rows.fnLogsSpec.plain.varTypes Tryz.pinned.checked.prog ++ Tryz.f3.resultTypes.toList) = true := by kernel_rfl
set_option maxRecDepth 100000 in
theorem c_enter : Tryz.pinned.checked.prog.mayEnter = true := by kernel_rfl
set_option maxRecDepth 100000 in
theorem c_heard : Tryz.pinned.checked.prog.stopsHeard = true := by kernel_rfl
set_option maxRecDepth 100000 in
theorem c_lifted : (Rows.fnLogsRow.lifted == Tryz.pinned.checked.prog.liftsFinal) = true := by kernel_rfl
set_option maxRecDepth 100000 in
theorem c_plainKeys : (Rows.fnLogsRow.plainKeys == Tryz.pinned.checked.prog.plainKeys) = true := by kernel_rfl
set_option maxRecDepth 100000 in
theorem c_make : (Tryz.pinned.checked.prog.make == some Rows.fnLogsRow.make) = true := by kernel_rfl
set_option maxRecDepth 100000 in
theorem closed : joinedFacts Tryz.pinned.checked.prog 3 Tryz.f3 Rows.fnLogsSpec Rows.fnLogsRow = true := by
  unfold joinedFacts
  rw [show laidOutB Tryz.pinned.checked.prog = true from laid, show mapsRowed Tryz.pinned.checked.prog = true from Facts.rowed, show (Rows.fnLogsRow.inPlace == Tryz.pinned.checked.prog.inPlace 3) = true from c_inPlace, show (Rows.fnLogsRow.unfollowed == Tryz.pinned.checked.prog.unfollowed 3) = true from c_unfollowed, show (Rows.fnLogsRow.recurses == Tryz.pinned.checked.prog.recurses 3) = true from c_recurses, show (Rows.fnLogsRow.named == Tryz.pinned.checked.prog.varsNamed 3) = true from c_named, c_read, c_maps, c_ifaces, c_loops, c_wide, c_rread, c_veiled, c_vfits, c_enter, c_heard, c_lifted, c_plainKeys, c_make]
  kernel_rfl
theorem over : Rows.fnLogsRow.holds Tryz.pinned (OpenSpec.ofChange Rows.fnLogsSpec) :=
  OpenClaim.holds_of_wide 3 Tryz.f3 rfl rfl rfl rfl rfl rfl rfl ⟨rfl, rfl, rfl, rfl, rfl⟩ rfl rfl rfl rfl rfl (by kernel_rfl) Tryz.func3 closed
    (of_decide_eq_true (by kernel_rfl)) (by unfold Func.isWrapper; first | (rw [if_pos (by decide +kernel)]; kernel_rfl) | (rw [if_neg (by decide +kernel)]; exact ⟨rfl, rfl⟩))
    (fun os started H enc _ => lifted os started H enc)
theorem proved : Rows.FnLogsSaid := over
#print axioms proved
end LawFnLogs
end Go.Proofs.YtolepebgdfdciaaGreat

