/-
  FnGroups: the law returns true at all arguments; conditions: those of the statement, no others. Written by a program (pack.py, mklaw2.py).
-/
import Derived.Carry
import Derived.ChangeArms
import Derived.ProofKit
import Derived.OpenShut
import Derived.JoinedCond
import Derived.Test.YtolepebgdfdciaaGreatKFnGroups8
namespace Go.Proofs.YtolepebgdfdciaaGreat
open Go.Stp
set_option linter.unusedVariables false
set_option linter.unusedSimpArgs false
set_option maxRecDepth 100000 in
set_option maxHeartbeats 0 in
theorem f4 (w : World) (n : Nat) (hn : n + 6 ≤ 9) (code : (List UInt8)) (pcode : Option Addr) (ccode : Nat) (hpcode : RdSl (hp w) pcode ccode code) (hokcode : GoT.ok 10 code) :
  Does Tryz.prog 4 #[.slice pcode ((code).length) ccode] w emp (fun (rv : Value) (_ : World) => rv = .bool (a0m code) ∧ True) := by
 have hbP := bd_pos n
 have hbS0 : bd (n + 1) = 4 * bd (n) := bd_succ (n := n) (by omega)
 have hbS1 : bd (n + 2) = 4 * bd (n + 1) := bd_succ (n := n + 1) (by omega)
 have hbS2 : bd (n + 3) = 4 * bd (n + 2) := bd_succ (n := n + 2) (by omega)
 have hbS3 : bd (n + 4) = 4 * bd (n + 3) := bd_succ (n := n + 3) (by omega)
 have hbS4 : bd (n + 5) = 4 * bd (n + 4) := bd_succ (n := n + 4) (by omega)
 have hbS5 : bd (n + 6) = 4 * bd (n + 5) := bd_succ (n := n + 5) (by omega)
 have hbB := bd_big (n := (n + 6)) (by omega)
 have hbM := bd_mono (show n ≤ n + 6 by omega)
 have hgl := drawGroup_len code
 refine WX.enter (tt := tt) (Γ := [(0, MF.rs .stb pcode ccode code)]) Tryz.func4 rfl (by kernel_rfl) rfl (allS_cons rfl hpcode allS_nil) ?_
 refine WX.run ttOk rfl ?_
 refine WX.callV rfl rfl rfl rfl rfl (fun _ => rfl) rfl (fun w G bs hI hΓ => f6 w 10 code pcode ccode (hΓ.get 0 rfl) hokcode) ?_
 intro hq1
 refine WX.run ttOk rfl ?_
 refine WX.cases 36 rfl (fun h1 => ?_) (fun h1 => ?_)
 ·skip
  refine WX.run ttOk rfl ?_
  have hP1 : a0m code = true := by simp only [a0m, h1, cond_true, cond_false]
  refine WX.ret ttOk rfl ?_
  intro w1 G bs hI hΓ
  rw [hP1]
  exact ⟨rfl, trivial⟩
 ·skip
  have hk1l : ¬ ((((code).length : Nat) : Int) > 1048576) := of_decide_eq_false (show decide ((((code).length : Nat) : Int) > 1048576) = false from h1)
  have hk1 : GoT.ok n code := okl_mk (show (code).length ≤ bd n by omega) (fun _ _ => trivial)
  refine WX.run ttOk rfl ?_
  refine WX.callF 1 (fun _ _ h => GoT.ow_rd h) (fun _ f hf => GoT.fak f hf) rfl rfl rfl rfl rfl (fun _ => rfl) rfl (fun w G bs hI hΓ => f32 w n (by omega) code pcode ccode (hΓ.get 0 rfl) hk1) (fun _ => rfl) (fun _ => rfl) ?_
  rintro ⟨p1, c1⟩ hq2
  refine WX.run ttOk rfl ?_
  refine WX.callF 3 (fun _ _ h => GoT.ow_rd h) (fun _ f hf => GoT.fak f hf) rfl rfl rfl rfl rfl (fun _ => rfl) rfl (fun w G bs hI hΓ => f33 w n (by omega) code pcode ccode (hΓ.get 0 rfl) hk1) (fun _ => rfl) (fun _ => rfl) ?_
  rintro ⟨⟨⟨p2, c2⟩, ⟨p3, c3⟩, ⟨p4, c4⟩⟩, ⟨p5, c5⟩⟩ hq3
  refine WX.run ttOk rfl ?_
  refine WX.callF 11 (fun _ _ h => GoT.ow_rd h) (fun _ f hf => GoT.fak f hf) rfl rfl rfl rfl rfl (fun _ => rfl) rfl (fun w G bs hI hΓ => f34 w (n + 2) (by omega) ((a06 code).1) p2 c2 (hΓ.get 3 rfl) p3 c3 (hΓ.get 4 rfl) p4 c4 (hΓ.get 5 rfl) ((a06 code).2) p5 c5 (hΓ.get 6 rfl) hq3.1 hq3.2) (fun _ => rfl) (fun _ => rfl) ?_
  rintro ⟨⟨p6, c6⟩, ⟨p7, c7⟩, ⟨p8, c8⟩⟩ hq4
  refine WX.run ttOk rfl ?_
  refine WX.callF 17 (fun _ _ h => GoT.ow_rd h) (fun _ f hf => GoT.fak f hf) rfl rfl rfl rfl rfl (fun _ => rfl) rfl (fun w G bs hI hΓ => f35 w (n + 2) (by omega) ((a06 code).1) p2 c2 (hΓ.get 3 rfl) p3 c3 (hΓ.get 4 rfl) p4 c4 (hΓ.get 5 rfl) ((a06 code).2) p5 c5 (hΓ.get 6 rfl) hq3.1 hq3.2) (fun _ => rfl) (fun _ => rfl) ?_
  rintro ⟨⟨p9, c9⟩, ⟨p10, c10⟩, ⟨p11, c11⟩⟩ hq5
  refine WX.trim [53, 7, 6, 4, 3, 0] [0, 1, 2, 3, 4, 5, 7, 8, 9, 11, 12, 13, 14, 15, 16, 17, 18, 19, 20, 21, 22] rfl rfl ?_
  refine WX.run ttOk rfl ?_
  refine WX.callF 23 (fun _ _ h => GoT.ow_rd h) (fun _ f hf => GoT.fak f hf) rfl rfl rfl rfl rfl (fun _ => rfl) rfl (fun w G bs hI hΓ => f36 w n (by omega) code pcode ccode (hΓ.get 0 rfl) hk1) (fun _ => rfl) (fun _ => rfl) ?_
  rintro ⟨⟨⟨p12, c12⟩, ⟨p13, c13⟩, ⟨p14, c14⟩⟩, ⟨⟨p15, c15⟩, ⟨⟩, ⟨p16, c16⟩⟩⟩ hq6
  refine WX.run ttOk rfl ?_
  refine WX.callF 33 (fun _ _ h => GoT.ow_rd h) (fun _ f hf => GoT.fak f hf) rfl rfl rfl rfl rfl (fun _ => rfl) rfl (fun w G bs hI hΓ => f37 w (n + 2) (by omega) ((a05 code).1) p12 c12 (hΓ.get 23 rfl) p13 c13 (hΓ.get 24 rfl) p14 c14 (hΓ.get 25 rfl) ((a05 code).2) p15 c15 (hΓ.get 26 rfl) p16 c16 (hΓ.get 27 rfl) hq6.1 hq6.2) (fun _ => rfl) (fun _ => rfl) ?_
  rintro ⟨⟨p17, c17⟩, ⟨p18, c18⟩, ⟨p19, c19⟩⟩ hq7
  have q1 := (ap_impl ((a05 code).1) ((a05 code).2)).lenN
  have q2 := (ap_impl ((a05 code).1) ((a05 code).2)).lenE
  have q3 := (ap_impl ((a05 code).1) ((a05 code).2)).lenP
  try dsimp only at q1
  try dsimp only at q2
  try dsimp only at q3
  refine WX.run ttOk rfl ?_
  refine WX.callF 39 (fun _ _ h => GoT.ow_rd h) (fun _ f hf => GoT.fak f hf) rfl rfl rfl rfl rfl (fun _ => rfl) rfl (fun w G bs hI hΓ => f38 w (n + 2) (by omega) ((a05 code).1) p12 c12 (hΓ.get 23 rfl) p13 c13 (hΓ.get 24 rfl) p14 c14 (hΓ.get 25 rfl) ((a05 code).2) p15 c15 (hΓ.get 26 rfl) p16 c16 (hΓ.get 27 rfl) hq6.1 hq6.2) (fun _ => rfl) (fun _ => rfl) ?_
  rintro ⟨⟨p20, c20⟩, ⟨p21, c21⟩, ⟨p22, c22⟩⟩ hq8
  have q4 := (ap_spec ((a05 code).1) ((a05 code).2)).lenN
  have q5 := (ap_spec ((a05 code).1) ((a05 code).2)).lenE
  have q6 := (ap_spec ((a05 code).1) ((a05 code).2)).lenP
  try dsimp only at q4
  try dsimp only at q5
  try dsimp only at q6
  refine WX.trim [70, 13, 12, 9, 8, 7, 6, 4, 3, 0] [0, 1, 2, 3, 4, 5, 7, 8, 9, 11, 12, 13, 14, 15, 16, 17, 18, 19, 20, 21, 22, 23, 24, 25, 26, 27, 28, 29, 30, 31, 32, 33, 34, 35, 36, 37, 38, 39, 40, 41, 42, 43, 44] rfl rfl ?_
  refine WX.run ttOk rfl ?_
  refine WX.callF 45 (fun _ _ h => sep_one h) (fun _ f hf => GoT.fak f hf) rfl rfl rfl rfl rfl (fun _ => rfl) rfl (fun w G bs hI hΓ => f39 w n (by omega) code pcode ccode (hΓ.get 0 rfl) hk1) (fun _ => rfl) (fun _ => rfl) ?_
  rintro ⟨⟨⟨p23, c23⟩, ⟨p24, c24⟩, ⟨p25, c25⟩⟩, ⟨⟨p26, c26⟩, ⟨p27, c27⟩, ⟨p28, c28⟩⟩⟩ hq9
  refine WX.run ttOk rfl ?_
  refine WX.callF 52 (fun _ _ h => sep_one h) (fun _ f hf => GoT.fak f hf) rfl rfl rfl rfl rfl (fun _ => rfl) rfl (fun w G bs hI hΓ => f40 w n (by omega) code pcode ccode (hΓ.get 0 rfl) hk1) (fun _ => rfl) (fun _ => rfl) ?_
  rintro ⟨⟨⟨p29, c29⟩, ⟨p30, c30⟩, ⟨p31, c31⟩⟩, ⟨⟨p32, c32⟩, ⟨p33, c33⟩, ⟨p34, c34⟩⟩⟩ hq10
  refine WX.run ttOk rfl ?_
  refine WX.callF 59 (fun _ _ h => GoT.ow_rd h) (fun _ f hf => GoT.fak f hf) rfl rfl rfl rfl rfl (fun _ => rfl) rfl (fun w G bs hI hΓ => f41 w n (by omega) code pcode ccode (hΓ.get 0 rfl) hk1) (fun _ => rfl) (fun _ => rfl) ?_
  rintro ⟨⟨⟨p35, c35⟩, ⟨p36, c36⟩, ⟨p37, c37⟩⟩, ⟨p38, c38⟩⟩ hq11
  refine WX.trim [85, 19, 18, 17, 16, 15, 14, 13, 12, 9, 8, 7, 6, 4, 3, 0] [0, 1, 2, 3, 4, 5, 7, 8, 9, 11, 12, 13, 14, 15, 16, 17, 18, 19, 20, 21, 22, 23, 24, 25, 26, 27, 28, 29, 30, 31, 32, 33, 34, 35, 36, 37, 38, 39, 40, 41, 42, 43, 44, 45, 46, 47, 48, 49, 50, 51, 52, 53, 54, 55, 56, 57, 58, 59, 60, 61, 62, 63, 64, 65, 66] rfl rfl ?_
  refine WX.run ttOk rfl ?_
  refine WX.callF 67 (fun _ _ h => GoT.ow_rd h) (fun _ f hf => GoT.fak f hf) rfl rfl rfl rfl rfl (fun _ => rfl) rfl (fun w G bs hI hΓ => f42 w (n + 2) (by omega) ((a0n code).1) p35 c35 (hΓ.get 59 rfl) p36 c36 (hΓ.get 60 rfl) p37 c37 (hΓ.get 61 rfl) ((a0n code).2.1) p38 c38 (hΓ.get 62 rfl) ((a0n code).2.2) hq11.1 hq11.2.1 hq11.2.2) (fun _ => rfl) (fun _ => rfl) ?_
  rintro ⟨p39, c39⟩ hq12
  refine WX.trim [93, 22, 21, 20, 19, 18, 17, 16, 15, 14, 13, 12, 9, 8, 7, 6, 4, 3, 0] [0, 1, 2, 3, 4, 5, 7, 8, 9, 11, 12, 13, 14, 15, 16, 17, 18, 19, 20, 21, 22, 23, 24, 25, 26, 27, 28, 29, 30, 31, 32, 33, 34, 35, 36, 37, 38, 39, 40, 41, 42, 43, 44, 45, 46, 47, 48, 49, 50, 51, 52, 53, 54, 55, 56, 57, 58, 59, 60, 61, 62, 63, 64, 65, 66, 67, 68] rfl rfl ?_
  refine WX.run ttOk rfl ?_
  refine WX.callF 69 (fun _ _ h => GoT.ow_rd h) (fun _ f hf => GoT.fak f hf) rfl rfl rfl rfl rfl (fun _ => rfl) rfl (fun w G bs hI hΓ => f43 w (n + 2) (by omega) ((a0n code).1) p35 c35 (hΓ.get 59 rfl) p36 c36 (hΓ.get 60 rfl) p37 c37 (hΓ.get 61 rfl) ((a0n code).2.1) p38 c38 (hΓ.get 62 rfl) ((a0n code).2.2) hq11.1 hq11.2.1 hq11.2.2) (fun _ => rfl) (fun _ => rfl) ?_
  rintro ⟨p40, c40⟩ hq13
  refine WX.trim [100, 24, 23, 19, 18, 17, 16, 15, 14, 13, 12, 9, 8, 7, 6, 4, 3, 0] [0, 1, 2, 3, 4, 5, 7, 8, 9, 11, 12, 13, 14, 15, 16, 17, 18, 19, 20, 21, 22, 23, 24, 25, 26, 27, 28, 29, 30, 31, 32, 33, 34, 35, 36, 37, 38, 39, 40, 41, 42, 43, 44, 45, 46, 47, 48, 49, 50, 51, 52, 53, 54, 55, 56, 57, 58, 59, 60, 61, 62, 63, 64, 65, 66, 67, 68, 69, 70] rfl rfl ?_
  refine WX.run ttOk rfl ?_
  refine WX.callF 71 (fun _ _ h => GoT.ow_rd h) (fun _ f hf => GoT.fak f hf) rfl rfl rfl rfl rfl (fun _ => rfl) rfl (fun w G bs hI hΓ => f44 w n (by omega) code pcode ccode (hΓ.get 0 rfl) hk1) (fun _ => rfl) (fun _ => rfl) ?_
  rintro ⟨⟨⟨p41, c41⟩, ⟨p42, c42⟩, ⟨p43, c43⟩⟩, ⟨p44, c44⟩⟩ hq14
  refine WX.run ttOk rfl ?_
  refine WX.callF 79 (fun _ _ h => GoT.ow_rd h) (fun _ f hf => GoT.fak f hf) rfl rfl rfl rfl rfl (fun _ => rfl) rfl (fun w G bs hI hΓ => f45 w n (by omega) code pcode ccode (hΓ.get 0 rfl) hk1) (fun _ => rfl) (fun _ => rfl) ?_
  rintro ⟨p45, c45⟩ hq15
  refine WX.trim [109, 28, 27, 26, 25, 24, 23, 19, 18, 17, 16, 15, 14, 13, 12, 9, 8, 7, 6, 4, 3] [1, 2, 3, 4, 5, 7, 8, 9, 11, 12, 13, 14, 15, 16, 17, 18, 19, 20, 21, 22, 23, 24, 25, 26, 27, 28, 29, 30, 31, 32, 33, 34, 35, 36, 37, 38, 39, 40, 41, 42, 43, 44, 45, 46, 47, 48, 49, 50, 51, 52, 53, 54, 55, 56, 57, 58, 59, 60, 61, 62, 63, 64, 65, 66, 67, 68, 69, 70, 71, 72, 73, 74, 75, 76, 77, 78, 79, 80] rfl rfl ?_
  refine WX.run ttOk rfl ?_
  refine WX.draw [] mixed ?_
  intro bs G0 hΓ0
  refine DX.tab (by kernel_rfl) (fun hT => ?_)
  refine DX.takes (fuel := 73) ttOk [(0, false), (1, false)] (takesB_of hT (by kernel_rfl)) rfl ?_
  refine DX.callV 2 rfl (by kernel_rfl) rfl rfl rfl rfl rfl rfl (fun _ => rfl) rfl (fun w G bs hI hΓ => f46 w (n + 5) (by omega) ((a16 ((a06 code).1) ((a06 code).2)).1) p6 c6 (hΓ.get 11 rfl) p7 c7 (hΓ.get 12 rfl) p8 c8 (hΓ.get 13 rfl) ((a0f ((a06 code).1) ((a06 code).2)).1) p9 c9 (hΓ.get 17 rfl) p10 c10 (hΓ.get 18 rfl) p11 c11 (hΓ.get 19 rfl) hq4 hq5) ?_
  intro hq16
  refine DX.takes (fuel := 70) ttOk [(3, true), (4, true)] (takesB_of hT (by kernel_rfl)) rfl ?_
  refine DX.cases 114 rfl (fun h2 => ?_) (fun h2 => ?_)
  ·skip
   have h2d := (B.nt h2)
   refine DX.takes (fuel := 0) ttOk [(5, true), (6, true), (7, true), (8, true), (9, true), (10, true), (11, true), (12, true), (13, true), (14, true), (15, true), (16, true), (17, true), (18, true), (19, true), (20, true), (21, true), (22, true), (23, true), (24, true), (25, true), (26, true), (27, true), (28, true), (29, true), (30, true), (31, true), (32, true), (33, true), (34, true), (35, true), (36, true), (37, true), (38, true), (39, true), (40, true), (41, true), (42, true), (43, true), (44, true), (45, true), (46, true), (47, true), (48, true), (49, true), (50, true), (51, true), (52, true), (53, true), (54, true), (55, true), (56, true), (57, true), (58, true), (59, true), (60, true), (61, true), (62, true), (63, true), (64, true), (65, true), (66, true), (67, true), (68, true), (69, true), (70, true), (71, true), (72, true), (73, true), (74, true)] (takesB_of hT (by kernel_rfl)) rfl ?_
   refine DX.tail2 [] rfl rfl (by kernel_rfl) ?_
   refine WX.run ttOk rfl ?_
   have hP2 : a0m code = false := by simp only [a0m, h1, h2, cond_true, cond_false]
   refine WX.ret ttOk rfl ?_
   intro w1 G bs hI hΓ
   rw [hP2]
   exact ⟨rfl, trivial⟩
  ·skip
   have h2d := (B.nf h2)
   refine DX.takes (fuel := 68) ttOk [(5, true), (6, true)] (takesB_of hT (by kernel_rfl)) rfl ?_
   refine DX.see 7 (mayB_of hT (by kernel_rfl)) rfl rfl rfl rfl (looks_beq ttOk rfl rfl rfl rfl rfl rfl) ?_
   refine DX.takes (fuel := 65) ttOk [(8, true), (9, true)] (takesB_of hT (by kernel_rfl)) rfl ?_
   refine DX.cases 119 rfl (fun h3 => ?_) (fun h3 => ?_)
   ·skip
    have h3d := (B.nt h3)
    refine DX.takes (fuel := 0) ttOk [(10, true), (11, true), (12, true), (13, true), (14, true), (15, true), (16, true), (17, true), (18, true), (19, true), (20, true), (21, true), (22, true), (23, true), (24, true), (25, true), (26, true), (27, true), (28, true), (29, true), (30, true), (31, true), (32, true), (33, true), (34, true), (35, true), (36, true), (37, true), (38, true), (39, true), (40, true), (41, true), (42, true), (43, true), (44, true), (45, true), (46, true), (47, true), (48, true), (49, true), (50, true), (51, true), (52, true), (53, true), (54, true), (55, true), (56, true), (57, true), (58, true), (59, true), (60, true), (61, true), (62, true), (63, true), (64, true), (65, true), (66, true), (67, true), (68, true), (69, true), (70, true), (71, true), (72, true), (73, true), (74, true)] (takesB_of hT (by kernel_rfl)) rfl ?_
    refine DX.tail2 [] rfl rfl (by kernel_rfl) ?_
    refine WX.run ttOk rfl ?_
    have hP3 : a0m code = false := by simp only [a0m, h1, h2, h3, cond_true, cond_false]
    refine WX.ret ttOk rfl ?_
    intro w1 G bs hI hΓ
    rw [hP3]
    exact ⟨rfl, trivial⟩
   ·skip
    have h3d := (B.nf h3)
    refine DX.takes (fuel := 63) ttOk [(10, false), (11, false)] (takesB_of hT (by kernel_rfl)) rfl ?_
    refine DX.callV 12 rfl (by kernel_rfl) rfl rfl rfl rfl rfl rfl (fun _ => rfl) rfl (fun w G bs hI hΓ => f46 w (n + 5) (by omega) ((a0t ((a05 code).1) ((a05 code).2)).1) p17 c17 (hΓ.get 33 rfl) p18 c18 (hΓ.get 34 rfl) p19 c19 (hΓ.get 35 rfl) ((a0k ((a05 code).1) ((a05 code).2)).1) p20 c20 (hΓ.get 39 rfl) p21 c21 (hΓ.get 40 rfl) p22 c22 (hΓ.get 41 rfl) hq7 hq8) ?_
    intro hq17
    refine DX.takes (fuel := 59) ttOk [(13, true), (14, true), (15, true)] (takesB_of hT (by kernel_rfl)) rfl ?_
    refine DX.cases 125 rfl (fun h4 => ?_) (fun h4 => ?_)
    ·skip
     have h4d := (B.nt h4)
     refine DX.takes (fuel := 0) ttOk [(16, true), (17, true), (18, true), (19, true), (20, true), (21, true), (22, true), (23, true), (24, true), (25, true), (26, true), (27, true), (28, true), (29, true), (30, true), (31, true), (32, true), (33, true), (34, true), (35, true), (36, true), (37, true), (38, true), (39, true), (40, true), (41, true), (42, true), (43, true), (44, true), (45, true), (46, true), (47, true), (48, true), (49, true), (50, true), (51, true), (52, true), (53, true), (54, true), (55, true), (56, true), (57, true), (58, true), (59, true), (60, true), (61, true), (62, true), (63, true), (64, true), (65, true), (66, true), (67, true), (68, true), (69, true), (70, true), (71, true), (72, true), (73, true), (74, true)] (takesB_of hT (by kernel_rfl)) rfl ?_
     refine DX.tail2 [] rfl rfl (by kernel_rfl) ?_
     refine WX.run ttOk rfl ?_
     have hP4 : a0m code = false := by simp only [a0m, h1, h2, h3, h4, cond_true, cond_false]
     refine WX.ret ttOk rfl ?_
     intro w1 G bs hI hΓ
     rw [hP4]
     exact ⟨rfl, trivial⟩
    ·skip
     have h4d := (B.nf h4)
     refine DX.takes (fuel := 57) ttOk [(16, true), (17, true)] (takesB_of hT (by kernel_rfl)) rfl ?_
     refine DX.see 18 (mayB_of hT (by kernel_rfl)) rfl rfl rfl rfl (looks_beq ttOk rfl rfl rfl rfl rfl rfl) ?_
     refine DX.takes (fuel := 54) ttOk [(19, true), (20, true)] (takesB_of hT (by kernel_rfl)) rfl ?_
     refine DX.cases 130 rfl (fun h5 => ?_) (fun h5 => ?_)
     ·as_aux_lemma =>
      have h5d := (B.nt h5)
      refine DX.takes (fuel := 0) ttOk [(21, true), (22, true), (23, true), (24, true), (25, true), (26, true), (27, true), (28, true), (29, true), (30, true), (31, true), (32, true), (33, true), (34, true), (35, true), (36, true), (37, true), (38, true), (39, true), (40, true), (41, true), (42, true), (43, true), (44, true), (45, true), (46, true), (47, true), (48, true), (49, true), (50, true), (51, true), (52, true), (53, true), (54, true), (55, true), (56, true), (57, true), (58, true), (59, true), (60, true), (61, true), (62, true), (63, true), (64, true), (65, true), (66, true), (67, true), (68, true), (69, true), (70, true), (71, true), (72, true), (73, true), (74, true)] (takesB_of hT (by kernel_rfl)) rfl ?_
      refine DX.tail2 [] rfl rfl (by kernel_rfl) ?_
      refine WX.run ttOk rfl ?_
      have hP5 : a0m code = false := by simp only [a0m, h1, h2, h3, h4, h5, cond_true, cond_false]
      refine WX.ret ttOk rfl ?_
      intro w1 G bs hI hΓ
      rw [hP5]
      exact ⟨rfl, trivial⟩
     ·as_aux_lemma =>
      have h5d := (B.nf h5)
      refine DX.takes (fuel := 50) ttOk [(21, false), (22, false), (24, false), (25, false)] (takesB_of hT (by kernel_rfl)) rfl ?_
      refine DX.callF 23 81 (fun _ _ h => GoT.ow_rd h) (fun _ f hf => GoT.fak f hf) rfl (by kernel_rfl) rfl rfl rfl rfl rfl rfl (fun _ => rfl) rfl (fun w G bs hI hΓ => f47 w (n + 2) (by omega) ((a1r code).1) p23 c23 (hΓ.get 45 rfl) p24 c24 (hΓ.get 46 rfl) p25 c25 (hΓ.get 47 rfl) ((a1r code).2) p26 c26 (hΓ.get 48 rfl) p27 c27 (hΓ.get 49 rfl) p28 c28 (hΓ.get 50 rfl) hq9.1 hq9.2) (fun _ => rfl) (fun _ => rfl) ?_
      rintro ⟨⟨p46, c46⟩, ⟨p47, c47⟩, ⟨p48, c48⟩⟩ hq18
      refine DX.callF 26 87 (fun _ _ h => GoT.ow_rd h) (fun _ f hf => GoT.fak f hf) rfl (by kernel_rfl) rfl rfl rfl rfl rfl rfl (fun _ => rfl) rfl (fun w G bs hI hΓ => f48 w (n + 2) (by omega) ((a1r code).1) p23 c23 (hΓ.get 45 rfl) p24 c24 (hΓ.get 46 rfl) p25 c25 (hΓ.get 47 rfl) ((a1r code).2) p26 c26 (hΓ.get 48 rfl) p27 c27 (hΓ.get 49 rfl) p28 c28 (hΓ.get 50 rfl) hq9.1 hq9.2) (fun _ => rfl) (fun _ => rfl) ?_
      rintro ⟨⟨p49, c49⟩, ⟨p50, c50⟩, ⟨p51, c51⟩⟩ hq19
      refine DX.callV 27 rfl (by kernel_rfl) rfl rfl rfl rfl rfl rfl (fun _ => rfl) rfl (fun w G bs hI hΓ => f46 w (n + 3) (by omega) (a0h ((a1r code).1) ((a1r code).2)) p46 c46 (hΓ.get 81 rfl) p47 c47 (hΓ.get 82 rfl) p48 c48 (hΓ.get 83 rfl) (a07 ((a1r code).1) ((a1r code).2)) p49 c49 (hΓ.get 87 rfl) p50 c50 (hΓ.get 88 rfl) p51 c51 (hΓ.get 89 rfl) hq18 hq19) ?_
      intro hq20
      refine DX.takes (fuel := 44) ttOk [(28, true), (29, true), (30, true)] (takesB_of hT (by kernel_rfl)) rfl ?_
      refine DX.cases 140 rfl (fun h6 => ?_) (fun h6 => ?_)
      ·skip
       have h6d := (B.nt h6)
       refine DX.takes (fuel := 0) ttOk [(31, true), (32, true), (33, true), (34, true), (35, true), (36, true), (37, true), (38, true), (39, true), (40, true), (41, true), (42, true), (43, true), (44, true), (45, true), (46, true), (47, true), (48, true), (49, true), (50, true), (51, true), (52, true), (53, true), (54, true), (55, true), (56, true), (57, true), (58, true), (59, true), (60, true), (61, true), (62, true), (63, true), (64, true), (65, true), (66, true), (67, true), (68, true), (69, true), (70, true), (71, true), (72, true), (73, true), (74, true)] (takesB_of hT (by kernel_rfl)) rfl ?_
       refine DX.tail2 [] rfl rfl (by kernel_rfl) ?_
       refine WX.run ttOk rfl ?_
       have hP6 : a0m code = false := by simp only [a0m, h1, h2, h3, h4, h5, h6, cond_true, cond_false]
       refine WX.ret ttOk rfl ?_
       intro w1 G bs hI hΓ
       rw [hP6]
       exact ⟨rfl, trivial⟩
      ·skip
       have h6d := (B.nf h6)
       refine DX.takes (fuel := 40) ttOk [(31, false), (32, false), (34, false), (35, false)] (takesB_of hT (by kernel_rfl)) rfl ?_
       refine DX.callV 33 rfl (by kernel_rfl) rfl rfl rfl rfl rfl rfl (fun _ => rfl) rfl (fun w G bs hI hΓ => f49 w (n + 3) (by omega) ((a1k code).1) p29 c29 (hΓ.get 52 rfl) p30 c30 (hΓ.get 53 rfl) p31 c31 (hΓ.get 54 rfl) ((a1k code).2) p32 c32 (hΓ.get 55 rfl) p33 c33 (hΓ.get 56 rfl) p34 c34 (hΓ.get 57 rfl) hq10.1 hq10.2) ?_
       intro hq21
       refine DX.callV 36 rfl (by kernel_rfl) rfl rfl rfl rfl rfl rfl (fun _ => rfl) rfl (fun w G bs hI hΓ => f50 w (n + 3) (by omega) ((a1k code).1) p29 c29 (hΓ.get 52 rfl) p30 c30 (hΓ.get 53 rfl) p31 c31 (hΓ.get 54 rfl) ((a1k code).2) p32 c32 (hΓ.get 55 rfl) p33 c33 (hΓ.get 56 rfl) p34 c34 (hΓ.get 57 rfl) hq10.1 hq10.2) ?_
       intro hq22
       refine DX.see 37 (mayB_of hT (by kernel_rfl)) rfl rfl rfl rfl (looks_beq ttOk rfl rfl rfl rfl rfl rfl) ?_
       refine DX.takes (fuel := 35) ttOk [(38, true), (39, true)] (takesB_of hT (by kernel_rfl)) rfl ?_
       refine DX.cases 149 rfl (fun h7 => ?_) (fun h7 => ?_)
       ·skip
        have h7d := (B.nt h7)
        refine DX.takes (fuel := 0) ttOk [(40, true), (41, true), (42, true), (43, true), (44, true), (45, true), (46, true), (47, true), (48, true), (49, true), (50, true), (51, true), (52, true), (53, true), (54, true), (55, true), (56, true), (57, true), (58, true), (59, true), (60, true), (61, true), (62, true), (63, true), (64, true), (65, true), (66, true), (67, true), (68, true), (69, true), (70, true), (71, true), (72, true), (73, true), (74, true)] (takesB_of hT (by kernel_rfl)) rfl ?_
        refine DX.tail2 [] rfl rfl (by kernel_rfl) ?_
        refine WX.run ttOk rfl ?_
        have hP7 : a0m code = false := by simp only [a0m, h1, h2, h3, h4, h5, h6, h7, cond_true, cond_false]
        refine WX.ret ttOk rfl ?_
        intro w1 G bs hI hΓ
        rw [hP7]
        exact ⟨rfl, trivial⟩
       ·skip
        have h7d := (B.nf h7)
        refine DX.takes (fuel := 33) ttOk [(40, true), (41, true)] (takesB_of hT (by kernel_rfl)) rfl ?_
        refine DX.callV 42 rfl (by kernel_rfl) rfl rfl rfl rfl rfl rfl (fun _ => rfl) rfl (fun w G bs hI hΓ => f51 w (n + 2) (by omega) ((a0o ((a0n code).1) ((a0n code).2.1) ((a0n code).2.2)).1) p39 c39 (hΓ.get 67 rfl) ((a0g ((a0n code).1) ((a0n code).2.1) ((a0n code).2.2)).1) p40 c40 (hΓ.get 69 rfl) hq12 hq13) ?_
        intro hq23
        refine DX.takes (fuel := 29) ttOk [(43, true), (44, true), (45, true)] (takesB_of hT (by kernel_rfl)) rfl ?_
        refine DX.cases 155 rfl (fun h8 => ?_) (fun h8 => ?_)
        ·skip
         have h8d := (B.nt h8)
         refine DX.takes (fuel := 0) ttOk [(46, true), (47, true), (48, true), (49, true), (50, true), (51, true), (52, true), (53, true), (54, true), (55, true), (56, true), (57, true), (58, true), (59, true), (60, true), (61, true), (62, true), (63, true), (64, true), (65, true), (66, true), (67, true), (68, true), (69, true), (70, true), (71, true), (72, true), (73, true), (74, true)] (takesB_of hT (by kernel_rfl)) rfl ?_
         refine DX.tail2 [] rfl rfl (by kernel_rfl) ?_
         refine WX.run ttOk rfl ?_
         have hP8 : a0m code = false := by simp only [a0m, h1, h2, h3, h4, h5, h6, h7, h8, cond_true, cond_false]
         refine WX.ret ttOk rfl ?_
         intro w1 G bs hI hΓ
         rw [hP8]
         exact ⟨rfl, trivial⟩
        ·skip
         have h8d := (B.nf h8)
         refine DX.takes (fuel := 27) ttOk [(46, true), (47, true)] (takesB_of hT (by kernel_rfl)) rfl ?_
         refine DX.see 48 (mayB_of hT (by kernel_rfl)) rfl rfl rfl rfl (looks_beq ttOk rfl rfl rfl rfl rfl rfl) ?_
         refine DX.takes (fuel := 24) ttOk [(49, true), (50, true)] (takesB_of hT (by kernel_rfl)) rfl ?_
         refine DX.cases 160 rfl (fun h9 => ?_) (fun h9 => ?_)
         ·skip
          have h9d := (B.nt h9)
          refine DX.takes (fuel := 0) ttOk [(51, true), (52, true), (53, true), (54, true), (55, true), (56, true), (57, true), (58, true), (59, true), (60, true), (61, true), (62, true), (63, true), (64, true), (65, true), (66, true), (67, true), (68, true), (69, true), (70, true), (71, true), (72, true), (73, true), (74, true)] (takesB_of hT (by kernel_rfl)) rfl ?_
          refine DX.tail2 [] rfl rfl (by kernel_rfl) ?_
          refine WX.run ttOk rfl ?_
          have hP9 : a0m code = false := by simp only [a0m, h1, h2, h3, h4, h5, h6, h7, h8, h9, cond_true, cond_false]
          refine WX.ret ttOk rfl ?_
          intro w1 G bs hI hΓ
          rw [hP9]
          exact ⟨rfl, trivial⟩
         ·skip
          have h9d := (B.nf h9)
          refine DX.takes (fuel := 20) ttOk [(51, false), (52, false), (54, false), (55, false)] (takesB_of hT (by kernel_rfl)) rfl ?_
          refine DX.callF 53 93 (fun _ _ h => GoT.ow_rd h) (fun _ f hf => GoT.fak f hf) rfl (by kernel_rfl) rfl rfl rfl rfl rfl rfl (fun _ => rfl) rfl (fun w G bs hI hΓ => f53 w (n + 2) (by omega) ((a1j code).1) p41 c41 (hΓ.get 71 rfl) p42 c42 (hΓ.get 72 rfl) p43 c43 (hΓ.get 73 rfl) ((a1j code).2) p44 c44 (hΓ.get 74 rfl) hq14.1 hq14.2) (fun _ => rfl) (fun _ => rfl) ?_
          rintro ⟨p52, c52⟩ hq24
          refine DX.callF 56 95 (fun _ _ h => GoT.ow_rd h) (fun _ f hf => GoT.fak f hf) rfl (by kernel_rfl) rfl rfl rfl rfl rfl rfl (fun _ => rfl) rfl (fun w G bs hI hΓ => f54 w (n + 2) (by omega) ((a1j code).1) p41 c41 (hΓ.get 71 rfl) p42 c42 (hΓ.get 72 rfl) p43 c43 (hΓ.get 73 rfl) ((a1j code).2) p44 c44 (hΓ.get 74 rfl) hq14.1 hq14.2) (fun _ => rfl) (fun _ => rfl) ?_
          rintro ⟨p53, c53⟩ hq25
          refine DX.callV 57 rfl (by kernel_rfl) rfl rfl rfl rfl rfl rfl (fun _ => rfl) rfl (fun w G bs hI hΓ => f52 w (n + 2) (by omega) (a10 ((a1j code).1) ((a1j code).2)) p52 c52 (hΓ.get 93 rfl) (a0q ((a1j code).1) ((a1j code).2)) p53 c53 (hΓ.get 95 rfl) hq24 hq25) ?_
          intro hq26
          refine DX.takes (fuel := 14) ttOk [(58, true), (59, true), (60, true)] (takesB_of hT (by kernel_rfl)) rfl ?_
          refine DX.cases 170 rfl (fun h10 => ?_) (fun h10 => ?_)
          ·as_aux_lemma =>
           have h10d := (B.nt h10)
           refine DX.takes (fuel := 0) ttOk [(61, true), (62, true), (63, true), (64, true), (65, true), (66, true), (67, true), (68, true), (69, true), (70, true), (71, true), (72, true), (73, true), (74, true)] (takesB_of hT (by kernel_rfl)) rfl ?_
           refine DX.tail2 [] rfl rfl (by kernel_rfl) ?_
           refine WX.run ttOk rfl ?_
           have hP10 : a0m code = false := by simp only [a0m, h1, h2, h3, h4, h5, h6, h7, h8, h9, h10, cond_true, cond_false]
           refine WX.ret ttOk rfl ?_
           intro w1 G bs hI hΓ
           rw [hP10]
           exact ⟨rfl, trivial⟩
          ·as_aux_lemma =>
           have h10d := (B.nf h10)
           refine DX.takes (fuel := 12) ttOk [(61, false), (63, false)] (takesB_of hT (by kernel_rfl)) rfl ?_
           refine DX.callF 62 97 (fun _ _ h => GoT.ow_rd h) (fun _ f hf => GoT.fak f hf) rfl (by kernel_rfl) rfl rfl rfl rfl rfl rfl (fun _ => rfl) rfl (fun w G bs hI hΓ => f55 w (n + 1) (by omega) (a36 code) p45 c45 (hΓ.get 79 rfl) hq15) (fun _ => rfl) (fun _ => rfl) ?_
           rintro ⟨⟨p54, c54⟩, ⟨p55, c55⟩, ⟨p56, c56⟩⟩ hq27
           refine DX.callF 64 103 (fun _ _ h => GoT.ow_rd h) (fun _ f hf => GoT.fak f hf) rfl (by kernel_rfl) rfl rfl rfl rfl rfl rfl (fun _ => rfl) rfl (fun w G bs hI hΓ => f56 w (n + 1) (by omega) (a36 code) p45 c45 (hΓ.get 79 rfl) hq15) (fun _ => rfl) (fun _ => rfl) ?_
           rintro ⟨⟨p57, c57⟩, ⟨p58, c58⟩, ⟨p59, c59⟩⟩ hq28
           refine DX.callV 65 rfl (by kernel_rfl) rfl rfl rfl rfl rfl rfl (fun _ => rfl) rfl (fun w G bs hI hΓ => f46 w (n + 1) (by omega) (a3i (a36 code)) p54 c54 (hΓ.get 97 rfl) p55 c55 (hΓ.get 98 rfl) p56 c56 (hΓ.get 99 rfl) (a0e (a36 code)) p57 c57 (hΓ.get 103 rfl) p58 c58 (hΓ.get 104 rfl) p59 c59 (hΓ.get 105 rfl) hq27 hq28) ?_
           intro hq29
           refine DX.takes (fuel := 6) ttOk [(66, true), (67, true), (68, true)] (takesB_of hT (by kernel_rfl)) rfl ?_
           refine DX.cases 178 rfl (fun h11 => ?_) (fun h11 => ?_)
           ·skip
            have h11d := (B.nt h11)
            refine DX.takes (fuel := 0) ttOk [(69, true), (70, true), (71, true), (72, true), (73, true), (74, true)] (takesB_of hT (by kernel_rfl)) rfl ?_
            refine DX.tail2 [] rfl rfl (by kernel_rfl) ?_
            refine WX.run ttOk rfl ?_
            have hP11 : a0m code = false := by simp only [a0m, h1, h2, h3, h4, h5, h6, h7, h8, h9, h10, h11, cond_true, cond_false]
            refine WX.ret ttOk rfl ?_
            intro w1 G bs hI hΓ
            rw [hP11]
            exact ⟨rfl, trivial⟩
           ·skip
            have h11d := (B.nf h11)
            refine DX.takes (fuel := 4) ttOk [(69, false), (71, false)] (takesB_of hT (by kernel_rfl)) rfl ?_
            refine DX.callV 70 rfl (by kernel_rfl) rfl rfl rfl rfl rfl rfl (fun _ => rfl) rfl (fun w G bs hI hΓ => f57 w (n + 2) (by omega) ((a06 code).1) p2 c2 (hΓ.get 3 rfl) p3 c3 (hΓ.get 4 rfl) p4 c4 (hΓ.get 5 rfl) hq3.1) ?_
            intro hq30
            refine DX.callV 72 rfl (by kernel_rfl) rfl rfl rfl rfl rfl rfl (fun _ => rfl) rfl (fun w G bs hI hΓ => f58 w (n + 2) (by omega) ((a06 code).1) p2 c2 (hΓ.get 3 rfl) p3 c3 (hΓ.get 4 rfl) p4 c4 (hΓ.get 5 rfl) hq3.1) ?_
            intro hq31
            refine DX.see 73 (mayB_of hT (by kernel_rfl)) rfl rfl rfl rfl (looks_beq ttOk rfl rfl rfl rfl rfl rfl) ?_
            refine DX.takes (fuel := 0) ttOk [(74, true)] (takesB_of hT (by kernel_rfl)) rfl ?_
            refine DX.tail2 [] rfl rfl (by kernel_rfl) ?_
            refine WX.run ttOk rfl ?_
            refine WX.trim [184, 7, 6, 4, 3] [1, 2, 3, 4, 5, 7, 8, 9, 11, 12, 13, 14, 15, 16, 17, 18, 19, 20, 21, 22, 23, 24, 25, 26, 27, 28, 29, 30, 31, 32, 33, 34, 35, 36, 37, 38, 39, 40, 41, 42, 43, 44, 45, 46, 47, 48, 49, 50, 51, 52, 53, 54, 55, 56, 57, 58, 59, 60, 61, 62, 63, 64, 65, 66, 71, 72, 73, 74, 75, 76, 77, 78, 79, 80] rfl rfl ?_
            refine WX.cases 184 rfl (fun h12 => ?_) (fun h12 => ?_)
            ·skip
             have h12d := (B.nt h12)
             refine WX.run ttOk rfl ?_
             have hP12 : a0m code = false := by simp only [a0m, h1, h2, h3, h4, h5, h6, h7, h8, h9, h10, h11, h12, cond_true, cond_false]
             refine WX.ret ttOk rfl ?_
             intro w1 G bs hI hΓ
             rw [hP12]
             exact ⟨rfl, trivial⟩
            ·skip
             have h12d := (B.nf h12)
             refine WX.run ttOk rfl ?_
             refine WX.draw [8] mixed ?_
             intro bs G0 hΓ0
             refine DX.tab (by kernel_rfl) (fun hT => ?_)
             refine DX.takes (fuel := 8) ttOk [(0, true)] (takesB_of hT (by kernel_rfl)) rfl ?_
             have e1i : 0 < ((a1p code)).length := (by first | assumption | omega)
             obtain ⟨e1, e1h⟩ : ∃ e1, ((a1p code))[0]? = some e1 := ⟨_, List.getElem?_eq_getElem e1i⟩
             have ok1 : GoT.ok (n + 1) e1 := (okl hq2).2 _ (List.mem_of_getElem? e1h)
             refine DX.idx 1 1 0 ttOk hΓ0 (by kernel_rfl) rfl rfl rfl rfl rfl rfl rfl rfl rfl rfl rfl e1i ?_
             rintro ad1 rfl
             refine DX.ldE2 2 1 109 e1 ttOk hΓ0 (by kernel_rfl) rfl rfl rfl rfl rfl rfl rfl rfl e1h (fun _ => rfl) (fun _ => rfl) (fun _ => rfl) ?_
             rintro ⟨⟨p60, c60⟩, ⟨p61, c61⟩, ⟨p62, c62⟩⟩ hD1
             refine DX.takes (fuel := 5) ttOk [(3, true)] (takesB_of hT (by kernel_rfl)) rfl ?_
             have e2i : 1 < ((a1p code)).length := (by first | assumption | omega)
             obtain ⟨e2, e2h⟩ : ∃ e2, ((a1p code))[1]? = some e2 := ⟨_, List.getElem?_eq_getElem e2i⟩
             have ok2 : GoT.ok (n + 1) e2 := (okl hq2).2 _ (List.mem_of_getElem? e2h)
             refine DX.idx 4 1 1 ttOk hD1 (by kernel_rfl) rfl rfl rfl rfl rfl rfl rfl rfl rfl rfl rfl e2i ?_
             rintro ad2 ⟨⟩
             refine DX.ldE2 5 1 112 e2 ttOk hD1 (by kernel_rfl) rfl rfl rfl rfl rfl rfl rfl rfl e2h (fun _ => rfl) (fun _ => rfl) (fun _ => rfl) ?_
             rintro ⟨⟨p63, c63⟩, ⟨p64, c64⟩, ⟨p65, c65⟩⟩ hD2
             refine DX.pend 7 30 ⟨60, [.slice none (0) 0, .slice none (0) 0, .slice none (0) 0]⟩ ?_
             refine DXA.callF 6 115 (fun _ _ h => GoT.ow_rd h) (fun _ f hf => GoT.fak f hf) ttOk rfl rfl rfl rfl rfl rfl rfl (by kernel_rfl) (by kernel_rfl) (by kernel_rfl) rfl rfl rfl rfl rfl rfl rfl rfl rfl rfl (fun _ => rfl) rfl rfl (fun w G bs hI hΓ => f47 w (n + 1) (by omega) e1 p60 c60 (hΓ.get 109 rfl) p61 c61 (hΓ.get 110 rfl) p62 c62 (hΓ.get 111 rfl) e2 p63 c63 (hΓ.get 112 rfl) p64 c64 (hΓ.get 113 rfl) p65 c65 (hΓ.get 114 rfl) ok1 ok2) (fun _ => rfl) (fun _ => rfl) ?_
             rintro ⟨⟨p66, c66⟩, ⟨p67, c67⟩, ⟨p68, c68⟩⟩ hq32
             refine DXA.tail [8] ttOk rfl rfl rfl rfl rfl rfl (by kernel_rfl) rfl rfl (by kernel_rfl) ?_
             refine WX.run ttOk rfl ?_
             refine WX.draw [6] mixed ?_
             intro bs G0 hΓ0
             refine DX.tab (by kernel_rfl) (fun hT => ?_)
             refine DX.takes (fuel := 6) ttOk [(0, true)] (takesB_of hT (by kernel_rfl)) rfl ?_
             refine DX.idx 1 1 1 ttOk hΓ0 (by kernel_rfl) rfl rfl rfl rfl rfl rfl rfl rfl rfl rfl rfl e2i ?_
             rintro ad3 ⟨⟩
             refine DX.ldE2 2 1 121 e2 ttOk hΓ0 (by kernel_rfl) rfl rfl rfl rfl rfl rfl rfl rfl e2h (fun _ => rfl) (fun _ => rfl) (fun _ => rfl) ?_
             rintro ⟨⟨p69, c69⟩, ⟨p70, c70⟩, ⟨p71, c71⟩⟩ hD3
             refine DX.takes (fuel := 3) ttOk [(3, false)] (takesB_of hT (by kernel_rfl)) rfl ?_
             refine DX.pend 5 31 ⟨60, [.slice none (0) 0, .slice none (0) 0, .slice none (0) 0]⟩ ?_
             refine DXA.callF 4 124 (fun _ _ h => GoT.ow_rd h) (fun _ f hf => GoT.fak f hf) ttOk rfl rfl rfl rfl rfl rfl rfl (by kernel_rfl) (by kernel_rfl) (by kernel_rfl) rfl rfl rfl rfl rfl rfl rfl rfl rfl rfl (fun _ => rfl) rfl rfl (fun w G bs hI hΓ => f47 w (n + 2) (by omega) e2 p69 c69 (hΓ.get 121 rfl) p70 c70 (hΓ.get 122 rfl) p71 c71 (hΓ.get 123 rfl) (a0h e1 e2) p66 c66 (hΓ.get 115 rfl) p67 c67 (hΓ.get 116 rfl) p68 c68 (hΓ.get 117 rfl) (And.intro (GoT.okm (α := List Str) (by omega) (ok_Name (ok_Member ok2).1)) (And.intro (GoT.okm (α := List TableEntry) (by omega) (ok_StateVector (ok_Member ok2).2.1)) (GoT.okm (α := List Publication) (by omega) (ok_Member ok2).2.2))) hq32) (fun _ => rfl) (fun _ => rfl) ?_
             rintro ⟨⟨p72, c72⟩, ⟨p73, c73⟩, ⟨p74, c74⟩⟩ hq33
             refine DXA.tail [6] ttOk rfl rfl rfl rfl rfl rfl (by kernel_rfl) rfl rfl (by kernel_rfl) ?_
             refine WX.run ttOk rfl ?_
             refine WX.draw [] mixed ?_
             intro bs G0 hΓ0
             refine DX.tab (by kernel_rfl) (fun hT => ?_)
             refine DX.takes (fuel := 40) ttOk [(0, false)] (takesB_of hT (by kernel_rfl)) rfl ?_
             refine DX.callV 1 rfl (by kernel_rfl) rfl rfl rfl rfl rfl rfl (fun _ => rfl) rfl (fun w G bs hI hΓ => f57 w (n + 2) (by omega) (a0h e1 e2) p66 c66 (hΓ.get 115 rfl) p67 c67 (hΓ.get 116 rfl) p68 c68 (hΓ.get 117 rfl) hq32) ?_
             intro hq34
             refine DX.takes (fuel := 37) ttOk [(2, true), (3, true)] (takesB_of hT (by kernel_rfl)) rfl ?_
             refine DX.cases 200 rfl (fun h13 => ?_) (fun h13 => ?_)
             ·skip
              have h13d := (B.nt h13)
              refine DX.takes (fuel := 0) ttOk [(4, true), (5, true), (6, true), (7, true), (8, true), (9, true), (10, true), (11, true), (12, true), (13, true), (14, true), (15, true), (16, true), (17, true), (18, true), (19, true), (20, true), (21, true), (22, true), (23, true), (24, true), (25, true), (26, true), (27, true), (28, true), (29, true), (30, true), (31, true), (32, true), (33, true), (34, true), (35, true), (36, true), (37, true), (38, true), (39, true), (40, true)] (takesB_of hT (by kernel_rfl)) rfl ?_
              refine DX.tail2 [] rfl rfl (by kernel_rfl) ?_
              refine WX.run ttOk rfl ?_
              have hP13 : a0m code = false := by simp only [a0m, h1, h2, h3, h4, h5, h6, h7, h8, h9, h10, h11, h12, e1h, e2h, h13, cond_true, cond_false]
              refine WX.ret ttOk rfl ?_
              intro w1 G bs hI hΓ
              rw [hP13]
              exact ⟨rfl, trivial⟩
             ·skip
              have h13d := (B.nf h13)
              refine DX.takes (fuel := 36) ttOk [(4, false)] (takesB_of hT (by kernel_rfl)) rfl ?_
              refine DX.callV 5 rfl (by kernel_rfl) rfl rfl rfl rfl rfl rfl (fun _ => rfl) rfl (fun w G bs hI hΓ => f57 w (n + 3) (by omega) (a0h e2 (a0h e1 e2)) p72 c72 (hΓ.get 124 rfl) p73 c73 (hΓ.get 125 rfl) p74 c74 (hΓ.get 126 rfl) hq33) ?_
              intro hq35
              refine DX.takes (fuel := 32) ttOk [(6, true), (7, true), (8, true)] (takesB_of hT (by kernel_rfl)) rfl ?_
              refine DX.cases 205 rfl (fun h14 => ?_) (fun h14 => ?_)
              ·skip
               have h14d := (B.nt h14)
               refine DX.takes (fuel := 0) ttOk [(9, true), (10, true), (11, true), (12, true), (13, true), (14, true), (15, true), (16, true), (17, true), (18, true), (19, true), (20, true), (21, true), (22, true), (23, true), (24, true), (25, true), (26, true), (27, true), (28, true), (29, true), (30, true), (31, true), (32, true), (33, true), (34, true), (35, true), (36, true), (37, true), (38, true), (39, true), (40, true)] (takesB_of hT (by kernel_rfl)) rfl ?_
               refine DX.tail2 [] rfl rfl (by kernel_rfl) ?_
               refine WX.run ttOk rfl ?_
               have hP14 : a0m code = false := by simp only [a0m, h1, h2, h3, h4, h5, h6, h7, h8, h9, h10, h11, h12, e1h, e2h, h13, h14, cond_true, cond_false]
               refine WX.ret ttOk rfl ?_
               intro w1 G bs hI hΓ
               rw [hP14]
               exact ⟨rfl, trivial⟩
              ·skip
               have h14d := (B.nf h14)
               refine DX.takes (fuel := 28) ttOk [(9, true), (10, true), (11, false), (12, true)] (takesB_of hT (by kernel_rfl)) rfl ?_
               refine DX.idx 13 1 0 ttOk hΓ0 (by kernel_rfl) rfl rfl rfl rfl rfl rfl rfl rfl rfl rfl rfl e1i ?_
               rintro ad4 ⟨⟩
               refine DX.takes (fuel := 26) ttOk [(14, true)] (takesB_of hT (by kernel_rfl)) rfl ?_
               refine DX.ldE2 15 1 130 e1 ttOk hΓ0 (by kernel_rfl) rfl rfl rfl rfl rfl rfl rfl rfl e1h (fun _ => rfl) (fun _ => rfl) (fun _ => rfl) ?_
               rintro ⟨⟨p75, c75⟩, ⟨p76, c76⟩, ⟨p77, c77⟩⟩ hD4
               refine DX.takes (fuel := 24) ttOk [(16, true)] (takesB_of hT (by kernel_rfl)) rfl ?_
               refine DX.idx 17 1 1 ttOk hD4 (by kernel_rfl) rfl rfl rfl rfl rfl rfl rfl rfl rfl rfl rfl e2i ?_
               rintro ad5 ⟨⟩
               refine DX.takes (fuel := 22) ttOk [(18, true)] (takesB_of hT (by kernel_rfl)) rfl ?_
               refine DX.ldE2 19 1 133 e2 ttOk hD4 (by kernel_rfl) rfl rfl rfl rfl rfl rfl rfl rfl e2h (fun _ => rfl) (fun _ => rfl) (fun _ => rfl) ?_
               rintro ⟨⟨p78, c78⟩, ⟨p79, c79⟩, ⟨p80, c80⟩⟩ hD5
               refine DX.callF 20 136 (fun _ _ h => GoT.ow_rd h) (fun _ f hf => GoT.fak f hf) rfl (by kernel_rfl) rfl rfl rfl rfl rfl rfl (fun _ => rfl) rfl (fun w G bs hI hΓ => f59 w (n + 1) (by omega) e1.vector p76 c76 (hΓ.get 131 rfl) e2.vector p79 c79 (hΓ.get 134 rfl) ((ok_Member ok1).2.1) ((ok_Member ok2).2.1)) (fun _ => rfl) (fun _ => rfl) ?_
               rintro ⟨p81, c81⟩ hq36
               refine DX.takes (fuel := 19) ttOk [(21, true)] (takesB_of hT (by kernel_rfl)) rfl ?_
               refine DX.callV 22 rfl (by kernel_rfl) rfl rfl rfl rfl rfl rfl (fun _ => rfl) rfl (fun w G bs hI hΓ => f52 w (n + 2) (by omega) ((a0h e1 e2).vector.entries) p67 c67 (hΓ.get 116 rfl) ((a34 e1.vector e2.vector).entries) p81 c81 (hΓ.get 136 rfl) (ok_StateVector (ok_Member hq32).2.1) (ok_StateVector hq36)) ?_
               intro hq37
               refine DX.takes (fuel := 15) ttOk [(23, true), (24, true), (25, true)] (takesB_of hT (by kernel_rfl)) rfl ?_
               refine DX.cases 222 rfl (fun h15 => ?_) (fun h15 => ?_)
               ·as_aux_lemma =>
                have h15d := (B.nt h15)
                refine DX.takes (fuel := 0) ttOk [(26, true), (27, true), (28, true), (29, true), (30, true), (31, true), (32, true), (33, true), (34, true), (35, true), (36, true), (37, true), (38, true), (39, true), (40, true)] (takesB_of hT (by kernel_rfl)) rfl ?_
                refine DX.tail2 [] rfl rfl (by kernel_rfl) ?_
                refine WX.run ttOk rfl ?_
                have hP15 : a0m code = false := by simp only [a0m, h1, h2, h3, h4, h5, h6, h7, h8, h9, h10, h11, h12, e1h, e2h, h13, h14, h15, cond_true, cond_false]
                refine WX.ret ttOk rfl ?_
                intro w1 G bs hI hΓ
                rw [hP15]
                exact ⟨rfl, trivial⟩
               ·as_aux_lemma =>
                have h15d := (B.nf h15)
                refine DX.takes (fuel := 13) ttOk [(26, false), (27, true)] (takesB_of hT (by kernel_rfl)) rfl ?_
                refine DX.idx 28 1 1 ttOk hD5 (by kernel_rfl) rfl rfl rfl rfl rfl rfl rfl rfl rfl rfl rfl e2i ?_
                rintro ad6 ⟨⟩
                refine DX.takes (fuel := 11) ttOk [(29, true)] (takesB_of hT (by kernel_rfl)) rfl ?_
                refine DX.ldE2 30 1 138 e2 ttOk hD5 (by kernel_rfl) rfl rfl rfl rfl rfl rfl rfl rfl e2h (fun _ => rfl) (fun _ => rfl) (fun _ => rfl) ?_
                rintro ⟨⟨p82, c82⟩, ⟨p83, c83⟩, ⟨p84, c84⟩⟩ hD6
                refine DX.callF 31 141 (fun _ _ h => GoT.ow_rd h) (fun _ f hf => GoT.fak f hf) rfl (by kernel_rfl) rfl rfl rfl rfl rfl rfl (fun _ => rfl) rfl (fun w G bs hI hΓ => f53 w (n + 2) (by omega) (a0h e1 e2) p66 c66 (hΓ.get 115 rfl) p67 c67 (hΓ.get 116 rfl) p68 c68 (hΓ.get 117 rfl) e2.vector p83 c83 (hΓ.get 139 rfl) hq32 (GoT.okm (α := List TableEntry) (by omega) (ok_StateVector (ok_Member ok2).2.1))) (fun _ => rfl) (fun _ => rfl) ?_
                rintro ⟨p85, c85⟩ hq38
                refine DX.takes (fuel := 5) ttOk [(32, true), (33, true), (34, true), (35, true)] (takesB_of hT (by kernel_rfl)) rfl ?_
                refine DX.cases 232 rfl (fun h16 => ?_) (fun h16 => ?_)
                ·skip
                 have h16d : ((((a10 (a0h e1 e2) e2.vector)).length : Nat) : Int) ≠ 0 := B.nt' h16
                 refine DX.takes (fuel := 0) ttOk [(36, true), (37, true), (38, true), (39, true), (40, true)] (takesB_of hT (by kernel_rfl)) rfl ?_
                 refine DX.tail2 [] rfl rfl (by kernel_rfl) ?_
                 refine WX.run ttOk rfl ?_
                 have hP16 : a0m code = false := by simp only [a0m, h1, h2, h3, h4, h5, h6, h7, h8, h9, h10, h11, h12, e1h, e2h, h13, h14, h15, h16, cond_true, cond_false]
                 refine WX.ret ttOk rfl ?_
                 intro w1 G bs hI hΓ
                 rw [hP16]
                 exact ⟨rfl, trivial⟩
                ·skip
                 have h16d : ((((a10 (a0h e1 e2) e2.vector)).length : Nat) : Int) = 0 := B.nf' h16
                 refine DX.takes (fuel := 3) ttOk [(36, false), (37, false)] (takesB_of hT (by kernel_rfl)) rfl ?_
                 refine DX.callV 38 rfl (by kernel_rfl) rfl rfl rfl rfl rfl rfl (fun _ => rfl) rfl (fun w G bs hI hΓ => f49 w (n + 3) (by omega) (a0h e1 e2) p66 c66 (hΓ.get 115 rfl) p67 c67 (hΓ.get 116 rfl) p68 c68 (hΓ.get 117 rfl) (a0h e2 (a0h e1 e2)) p72 c72 (hΓ.get 124 rfl) p73 c73 (hΓ.get 125 rfl) p74 c74 (hΓ.get 126 rfl) (And.intro (GoT.okm (α := List Str) (by omega) (ok_Name (ok_Member hq32).1)) (And.intro (GoT.okm (α := List TableEntry) (by omega) (ok_StateVector (ok_Member hq32).2.1)) (GoT.okm (α := List Publication) (by omega) (ok_Member hq32).2.2))) hq33) ?_
                 intro hq39
                 refine DX.takes (fuel := 0) ttOk [(39, true), (40, true)] (takesB_of hT (by kernel_rfl)) rfl ?_
                 refine DX.tail2 [] rfl rfl (by kernel_rfl) ?_
                 refine WX.run ttOk rfl ?_
                 refine WX.trim [237, 30, 7, 6, 4, 3] [1, 2, 3, 4, 5, 7, 8, 9, 11, 12, 13, 14, 15, 16, 17, 18, 19, 20, 21, 22, 23, 24, 25, 26, 27, 28, 29, 30, 31, 32, 33, 34, 35, 36, 37, 38, 39, 40, 41, 42, 43, 44, 45, 46, 47, 48, 49, 50, 51, 52, 53, 54, 55, 56, 57, 58, 59, 60, 61, 62, 63, 64, 65, 66, 71, 72, 73, 74, 75, 76, 77, 78, 79, 80, 115, 116, 117, 118, 119, 120, 124, 125, 126, 127, 128, 129] rfl rfl ?_
                 refine WX.cases 237 rfl (fun h17 => ?_) (fun h17 => ?_)
                 ·skip
                  have h17d := (B.nt h17)
                  refine WX.run ttOk rfl ?_
                  have hP17 : a0m code = false := by simp only [a0m, h1, h2, h3, h4, h5, h6, h7, h8, h9, h10, h11, h12, e1h, e2h, h13, h14, h15, h16, h17, cond_true, cond_false]
                  refine WX.ret ttOk rfl ?_
                  intro w1 G bs hI hΓ
                  rw [hP17]
                  exact ⟨rfl, trivial⟩
                 ·skip
                  have h17d := (B.nf h17)
                  refine WX.run ttOk rfl ?_
                  refine WX.loop (ι := Nat) ⟨fun i => (i ≤ e1.publications.length) ∧ (a27 e1 e2 0 = a27 e1 e2 i), fun i => e1.publications.length - i, fun i => [(32, .v (.int .i64 (((i : Nat) : Int)))), (30, .p 30 0), (7, .v (.bool ((a16 ((a06 code).1) ((a06 code).2)).2))), (6, .p 6 0), (4, .p 4 0), (3, .v (.slice (some ad1) (((a1p code)).length) c1))], fun i => [(30, ⟨60, [.slice p66 (((a0h e1 e2).name.parts).length) c66, .slice p67 (((a0h e1 e2).vector.entries).length) c67, .slice p68 (((a0h e1 e2).publications).length) c68]⟩), (6, ⟨60, [.slice p6 (((a16 ((a06 code).1) ((a06 code).2)).1.name.parts).length) c6, .slice p7 (((a16 ((a06 code).1) ((a06 code).2)).1.vector.entries).length) c7, .slice p8 (((a16 ((a06 code).1) ((a06 code).2)).1.publications).length) c8]⟩), (4, ⟨60, [.slice p2 (((a06 code).1.name.parts).length) c2, .slice p3 (((a06 code).1.vector.entries).length) c3, .slice p4 (((a06 code).1.publications).length) c4]⟩)], fun i => [], fun i => [(2, MF.os (some ad1) c1 (a1p code)), (7, MF.os p2 c2 ((a06 code).1.name.parts)), (8, MF.os p3 c3 ((a06 code).1.vector.entries)), (9, MF.os p4 c4 ((a06 code).1.publications)), (14, MF.os p6 c6 ((a16 ((a06 code).1) ((a06 code).2)).1.name.parts)), (15, MF.os p7 c7 ((a16 ((a06 code).1) ((a06 code).2)).1.vector.entries)), (16, MF.os p8 c8 ((a16 ((a06 code).1) ((a06 code).2)).1.publications)), (118, MF.os p66 c66 ((a0h e1 e2).name.parts)), (119, MF.os p67 c67 ((a0h e1 e2).vector.entries)), (120, MF.os p68 c68 ((a0h e1 e2).publications))]⟩ 0 ⟨(Nat.zero_le _), rfl⟩
                   (.cons rfl (.cons rfl (.cons rfl (.cons rfl (.cons rfl (.cons rfl (.nil))))))) (.cons rfl (.cons rfl (.cons rfl (.nil)))) .nil [2, 7, 8, 9, 14, 15, 16, 118, 119, 120] rfl ?_
                  rintro i hpre
                  have hpre_ : (i ≤ e1.publications.length) ∧ (a27 e1 e2 0 = a27 e1 e2 i) := hpre
                  clear hpre
                  obtain ⟨v1, v2⟩ := hpre_
                  have hpl : e1.publications.length ≤ bd (n + 1) := (okl (ok_Member ok1).2.2).1
                  refine WX.run ttOk rfl ?_
                  refine WX.der 143 (MF.rs .der (some ad1) c1 (a1p code)) rfl (fun _ hΓ => (hΓ.get 2 rfl : OwSl _ _ _ _).rd) ?_
                  refine WX.idx 143 0 ttOk rfl rfl rfl rfl rfl rfl rfl rfl rfl rfl e1i ?_
                  rintro ad7 ⟨⟩
                  refine WX.run ttOk rfl ?_
                  refine WX.ldE 143 144 e1 ttOk rfl rfl rfl rfl rfl rfl rfl rfl e1h (fun _ => rfl) (fun _ => rfl) ?_
                  rintro ⟨⟨p86, c86⟩, ⟨p87, c87⟩, ⟨p88, c88⟩⟩
                  refine WX.run ttOk rfl ?_
                  refine WX.cases 244 rfl (fun h18 => ?_) (fun h18 => ?_)
                  ·skip
                   have h18d : (((i : Nat) : Int) < (((e1.publications).length : Nat) : Int)) := B.dt h18
                   refine WX.run ttOk rfl ?_
                   refine WX.der 147 (MF.rs .der p66 c66 ((a0h e1 e2).name.parts)) rfl (fun _ hΓ => (hΓ.get 118 rfl : OwSl _ _ _ _).rd) ?_
                   refine WX.der 148 (MF.rs .der p67 c67 ((a0h e1 e2).vector.entries)) rfl (fun _ hΓ => (hΓ.get 119 rfl : OwSl _ _ _ _).rd) ?_
                   refine WX.der 149 (MF.rs .der p68 c68 ((a0h e1 e2).publications)) rfl (fun _ hΓ => (hΓ.get 120 rfl : OwSl _ _ _ _).rd) ?_
                   refine WX.der 150 (MF.rs .der p6 c6 ((a16 ((a06 code).1) ((a06 code).2)).1.name.parts)) rfl (fun _ hΓ => (hΓ.get 14 rfl : OwSl _ _ _ _).rd) ?_
                   refine WX.der 151 (MF.rs .der p7 c7 ((a16 ((a06 code).1) ((a06 code).2)).1.vector.entries)) rfl (fun _ hΓ => (hΓ.get 15 rfl : OwSl _ _ _ _).rd) ?_
                   refine WX.der 152 (MF.rs .der p8 c8 ((a16 ((a06 code).1) ((a06 code).2)).1.publications)) rfl (fun _ hΓ => (hΓ.get 16 rfl : OwSl _ _ _ _).rd) ?_
                   refine WX.der 153 (MF.rs .der p2 c2 ((a06 code).1.name.parts)) rfl (fun _ hΓ => (hΓ.get 7 rfl : OwSl _ _ _ _).rd) ?_
                   refine WX.der 154 (MF.rs .der p3 c3 ((a06 code).1.vector.entries)) rfl (fun _ hΓ => (hΓ.get 8 rfl : OwSl _ _ _ _).rd) ?_
                   refine WX.der 155 (MF.rs .der p4 c4 ((a06 code).1.publications)) rfl (fun _ hΓ => (hΓ.get 9 rfl : OwSl _ _ _ _).rd) ?_
                   refine WX.draw [] mixed ?_
                   intro bs G0 hΓ0
                   refine DX.tab (by kernel_rfl) (fun hT => ?_)
                   refine DX.takes (fuel := 21) ttOk [(0, false), (1, true)] (takesB_of hT (by kernel_rfl)) rfl ?_
                   refine DX.idx 2 143 0 ttOk hΓ0 (by kernel_rfl) rfl rfl rfl rfl rfl rfl rfl rfl rfl rfl rfl e1i ?_
                   rintro ad8 ⟨⟩
                   refine DX.takes (fuel := 19) ttOk [(3, true)] (takesB_of hT (by kernel_rfl)) rfl ?_
                   refine DX.ldE2 4 143 156 e1 ttOk hΓ0 (by kernel_rfl) rfl rfl rfl rfl rfl rfl rfl rfl e1h (fun _ => rfl) (fun _ => rfl) (fun _ => rfl) ?_
                   rintro ⟨⟨p89, c89⟩, ⟨p90, c90⟩, ⟨p91, c91⟩⟩ hD7
                   refine DX.takes (fuel := 17) ttOk [(5, true)] (takesB_of hT (by kernel_rfl)) rfl ?_
                   have e3i : i < (e1.publications).length := (by first | assumption | omega)
                   obtain ⟨e3, e3h⟩ : ∃ e3, (e1.publications)[i]? = some e3 := ⟨_, List.getElem?_eq_getElem e3i⟩
                   have ok3 : GoT.ok (n + 1) e3 := (okl (ok_Member ok1).2.2).2 _ (List.mem_of_getElem? e3h)
                   refine DX.idx 6 158 i ttOk hD7 (by kernel_rfl) rfl rfl rfl rfl rfl rfl rfl rfl rfl rfl rfl e3i ?_
                   rintro ad9 rfl
                   refine DX.takes (fuel := 15) ttOk [(7, true)] (takesB_of hT (by kernel_rfl)) rfl ?_
                   refine DX.ldE2 8 158 159 e3 ttOk hD7 (by kernel_rfl) rfl rfl rfl rfl rfl rfl rfl rfl e3h (fun _ => rfl) (fun _ => rfl) (fun _ => rfl) ?_
                   rintro ⟨⟨p92, c92⟩, ⟨⟩, ⟨p93, c93⟩⟩ hD8
                   refine DX.takes (fuel := 13) ttOk [(9, true)] (takesB_of hT (by kernel_rfl)) rfl ?_
                   refine DX.idx 10 143 0 ttOk hD8 (by kernel_rfl) rfl rfl rfl rfl rfl rfl rfl rfl rfl rfl rfl e1i ?_
                   rintro ad10 ⟨⟩
                   refine DX.takes (fuel := 11) ttOk [(11, true)] (takesB_of hT (by kernel_rfl)) rfl ?_
                   refine DX.ldE2 12 143 161 e1 ttOk hD8 (by kernel_rfl) rfl rfl rfl rfl rfl rfl rfl rfl e1h (fun _ => rfl) (fun _ => rfl) (fun _ => rfl) ?_
                   rintro ⟨⟨p94, c94⟩, ⟨p95, c95⟩, ⟨p96, c96⟩⟩ hD9
                   refine DX.takes (fuel := 9) ttOk [(13, true)] (takesB_of hT (by kernel_rfl)) rfl ?_
                   refine DX.idx 14 163 i ttOk hD9 (by kernel_rfl) rfl rfl rfl rfl rfl rfl rfl rfl rfl rfl rfl e3i ?_
                   rintro ad11 rfl
                   refine DX.takes (fuel := 7) ttOk [(15, true)] (takesB_of hT (by kernel_rfl)) rfl ?_
                   refine DX.ldE2 16 163 164 e3 ttOk hD9 (by kernel_rfl) rfl rfl rfl rfl rfl rfl rfl rfl e3h (fun _ => rfl) (fun _ => rfl) (fun _ => rfl) ?_
                   rintro ⟨⟨p97, c97⟩, ⟨⟩, ⟨p98, c98⟩⟩ hD10
                   refine DX.callF 17 166 (fun _ _ h => GoT.ow_rd h) (fun _ f hf => GoT.fak f hf) rfl (by kernel_rfl) rfl rfl rfl rfl rfl rfl (fun _ => rfl) rfl (fun w G bs hI hΓ => f42 w (n + 2) (by omega) (a0h e1 e2) p66 c66 (hΓ.get 147 rfl) p67 c67 (hΓ.get 148 rfl) p68 c68 (hΓ.get 149 rfl) e3.publisher p92 c92 (hΓ.get 159 rfl) e3.seq hq32 (GoT.okm (α := List Str) (by omega) (ok_Name (ok_Publication ok3).1)) ((ok_Publication ok3).2.1)) (fun _ => rfl) (fun _ => rfl) ?_
                   rintro ⟨p99, c99⟩ hq40
                   refine DX.takes (fuel := 0) ttOk [(18, true), (19, true), (20, true), (21, true), (22, true)] (takesB_of hT (by kernel_rfl)) rfl ?_
                   refine DX.tail2 [] rfl rfl (by kernel_rfl) ?_
                   refine WX.run ttOk rfl ?_
                   refine WX.trim [270, 33, 32, 30, 7, 6, 4, 3] [2, 7, 8, 9, 14, 15, 16, 118, 119, 120, 143, 147, 148, 149, 150, 151, 152, 153, 154, 155, 166, 167] rfl rfl ?_
                   refine WX.cases 270 rfl (fun h19 => ?_) (fun h19 => ?_)
                   ·skip
                    have h19d := (B.nt h19)
                    refine WX.run ttOk rfl ?_
                    have hP18 : a27 e1 e2 0 = (Ctl.ret false) := by rw [v2]; rw [a27]; simp only [h18, h18d, e3h, h19, cond_true, cond_false, ↓reduceIte, Bool.false_eq_true]
                    have hP19 : a0m code = false := by simp only [a0m, h1, h2, h3, h4, h5, h6, h7, h8, h9, h10, h11, h12, e1h, e2h, h13, h14, h15, h16, h17, hP18, cond_true, cond_false]
                    refine WX.ret ttOk rfl ?_
                    intro w1 G bs hI hΓ
                    rw [hP19]
                    exact ⟨rfl, trivial⟩
                   ·skip
                    have h19d := (B.nf h19)
                    refine WX.run ttOk rfl ?_
                    refine WX.idx 143 0 ttOk rfl rfl rfl rfl rfl rfl rfl rfl rfl rfl e1i ?_
                    rintro ad12 ⟨⟩
                    refine WX.run ttOk rfl ?_
                    refine WX.ldE 143 168 e1 ttOk rfl rfl rfl rfl rfl rfl rfl rfl e1h (fun _ => rfl) (fun _ => rfl) ?_
                    rintro ⟨⟨p100, c100⟩, ⟨p101, c101⟩, ⟨p102, c102⟩⟩
                    refine WX.run ttOk rfl ?_
                    refine WX.idx 170 i ttOk rfl rfl rfl rfl rfl rfl rfl rfl rfl rfl e3i ?_
                    rintro ad13 rfl
                    refine WX.run ttOk rfl ?_
                    refine WX.ldE 170 171 e3 ttOk rfl rfl rfl rfl rfl rfl rfl rfl e3h (fun _ => rfl) (fun _ => rfl) ?_
                    rintro ⟨⟨p103, c103⟩, ⟨⟩, ⟨p104, c104⟩⟩
                    refine WX.callV rfl rfl rfl rfl rfl (fun _ => rfl) rfl (fun w G bs hI hΓ => f51 w (n + 2) (by omega) ((a0o (a0h e1 e2) e3.publisher e3.seq).1) p99 c99 (hΓ.get 166 rfl) e3.content p104 c104 (hΓ.get 172 rfl) hq40 (GoT.okm (α := List UInt8) (by omega) (ok_Publication ok3).2.2)) ?_
                    intro hq41
                    refine WX.run ttOk rfl ?_
                    refine WX.cases 282 rfl (fun h20 => ?_) (fun h20 => ?_)
                    ·as_aux_lemma =>
                     have h20d := (B.nt h20)
                     refine WX.run ttOk rfl ?_
                     have hP20 : a27 e1 e2 0 = (Ctl.ret false) := by rw [v2]; rw [a27]; simp only [h18, h18d, e3h, h19, h20, cond_true, cond_false, ↓reduceIte, Bool.false_eq_true]
                     have hP21 : a0m code = false := by simp only [a0m, h1, h2, h3, h4, h5, h6, h7, h8, h9, h10, h11, h12, e1h, e2h, h13, h14, h15, h16, h17, hP20, cond_true, cond_false]
                     refine WX.ret ttOk rfl ?_
                     intro w1 G bs hI hΓ
                     rw [hP21]
                     exact ⟨rfl, trivial⟩
                    ·as_aux_lemma =>
                     have h20d := (B.nf h20)
                     refine WX.run ttOk rfl ?_
                     refine WX.see rfl rfl rfl (fun _ hΓ => looks_arith rfl rfl rfl rfl (by unfold I64; first | omega | (simp only [List.length_take, List.length_drop] at *; omega) | (dsimp only; omega))) ?_
                     refine WX.run ttOk rfl ?_
                     exact WX.iter (i + 1) ⟨(by omega), (by rw [v2]; rw [a27]; simp only [h18, h18d, e3h, h19, h20, cond_true, cond_false, ↓reduceIte, Bool.false_eq_true])⟩ (by first | (dsimp only; omega) | omega) (.cons rfl (.cons rfl (.cons rfl (.cons rfl (.cons rfl (.cons rfl (.nil))))))) (.cons rfl (.cons rfl (.cons rfl (.nil)))) .nil [2, 7, 8, 9, 14, 15, 16, 118, 119, 120] rfl
                  ·skip
                   have h18d : ¬ (((i : Nat) : Int) < (((e1.publications).length : Nat) : Int)) := B.df h18
                   refine WX.run ttOk rfl ?_
                   have hX1 : a27 e1 e2 0 = (Ctl.nxt i) := by rw [v2]; rw [a27]; simp only [h18, h18d, cond_true, cond_false, ↓reduceIte, Bool.false_eq_true]
                   refine WX.der 173 (MF.rs .der p66 c66 ((a0h e1 e2).name.parts)) rfl (fun _ hΓ => (hΓ.get 118 rfl : OwSl _ _ _ _).rd) ?_
                   refine WX.der 174 (MF.rs .der p67 c67 ((a0h e1 e2).vector.entries)) rfl (fun _ hΓ => (hΓ.get 119 rfl : OwSl _ _ _ _).rd) ?_
                   refine WX.der 175 (MF.rs .der p68 c68 ((a0h e1 e2).publications)) rfl (fun _ hΓ => (hΓ.get 120 rfl : OwSl _ _ _ _).rd) ?_
                   refine WX.der 176 (MF.rs .der p6 c6 ((a16 ((a06 code).1) ((a06 code).2)).1.name.parts)) rfl (fun _ hΓ => (hΓ.get 14 rfl : OwSl _ _ _ _).rd) ?_
                   refine WX.der 177 (MF.rs .der p7 c7 ((a16 ((a06 code).1) ((a06 code).2)).1.vector.entries)) rfl (fun _ hΓ => (hΓ.get 15 rfl : OwSl _ _ _ _).rd) ?_
                   refine WX.der 178 (MF.rs .der p8 c8 ((a16 ((a06 code).1) ((a06 code).2)).1.publications)) rfl (fun _ hΓ => (hΓ.get 16 rfl : OwSl _ _ _ _).rd) ?_
                   refine WX.der 179 (MF.rs .der p2 c2 ((a06 code).1.name.parts)) rfl (fun _ hΓ => (hΓ.get 7 rfl : OwSl _ _ _ _).rd) ?_
                   refine WX.der 180 (MF.rs .der p3 c3 ((a06 code).1.vector.entries)) rfl (fun _ hΓ => (hΓ.get 8 rfl : OwSl _ _ _ _).rd) ?_
                   refine WX.der 181 (MF.rs .der p4 c4 ((a06 code).1.publications)) rfl (fun _ hΓ => (hΓ.get 9 rfl : OwSl _ _ _ _).rd) ?_
                   refine WX.draw [] mixed ?_
                   intro bs G0 hΓ0
                   refine DX.tab (by kernel_rfl) (fun hT => ?_)
                   refine DX.takes (fuel := 24) ttOk [(0, false), (1, true)] (takesB_of hT (by kernel_rfl)) rfl ?_
                   refine DX.idx 2 143 1 ttOk hΓ0 (by kernel_rfl) rfl rfl rfl rfl rfl rfl rfl rfl rfl rfl rfl e2i ?_
                   rintro ad14 ⟨⟩
                   refine DX.ldE2 3 143 182 e2 ttOk hΓ0 (by kernel_rfl) rfl rfl rfl rfl rfl rfl rfl rfl e2h (fun _ => rfl) (fun _ => rfl) (fun _ => rfl) ?_
                   rintro ⟨⟨p105, c105⟩, ⟨p106, c106⟩, ⟨p107, c107⟩⟩ hD11
                   refine DX.takes (fuel := 21) ttOk [(5, false)] (takesB_of hT (by kernel_rfl)) rfl ?_
                   refine DX.callF 4 185 (fun _ _ h => GoT.ow_rd h) (fun _ f hf => GoT.fak f hf) rfl (by kernel_rfl) rfl rfl rfl rfl rfl rfl (fun _ => rfl) rfl (fun w G bs hI hΓ => f47 w (n + 2) (by omega) (a0h e1 e2) p66 c66 (hΓ.get 173 rfl) p67 c67 (hΓ.get 174 rfl) p68 c68 (hΓ.get 175 rfl) e2 p105 c105 (hΓ.get 182 rfl) p106 c106 (hΓ.get 183 rfl) p107 c107 (hΓ.get 184 rfl) hq32 (And.intro (GoT.okm (α := List Str) (by omega) (ok_Name (ok_Member ok2).1)) (And.intro (GoT.okm (α := List TableEntry) (by omega) (ok_StateVector (ok_Member ok2).2.1)) (GoT.okm (α := List Publication) (by omega) (ok_Member ok2).2.2)))) (fun _ => rfl) (fun _ => rfl) ?_
                   rintro ⟨⟨p108, c108⟩, ⟨p109, c109⟩, ⟨p110, c110⟩⟩ hq42
                   refine DX.callV 6 rfl (by kernel_rfl) rfl rfl rfl rfl rfl rfl (fun _ => rfl) rfl (fun w G bs hI hΓ => f46 w (n + 3) (by omega) (a0h (a0h e1 e2) e2) p108 c108 (hΓ.get 185 rfl) p109 c109 (hΓ.get 186 rfl) p110 c110 (hΓ.get 187 rfl) (a0h e1 e2) p66 c66 (hΓ.get 173 rfl) p67 c67 (hΓ.get 174 rfl) p68 c68 (hΓ.get 175 rfl) hq42 (And.intro (GoT.okm (α := List Str) (by omega) (ok_Name (ok_Member hq32).1)) (And.intro (GoT.okm (α := List TableEntry) (by omega) (ok_StateVector (ok_Member hq32).2.1)) (GoT.okm (α := List Publication) (by omega) (ok_Member hq32).2.2)))) ?_
                   intro hq43
                   refine DX.takes (fuel := 18) ttOk [(7, true)] (takesB_of hT (by kernel_rfl)) rfl ?_
                   refine DX.cases 290 rfl (fun h21 => ?_) (fun h21 => ?_)
                   ·skip
                    refine DX.takes (fuel := 15) ttOk [(8, true), (9, true), (10, true)] (takesB_of hT (by kernel_rfl)) rfl ?_
                    refine DX.cases 293 rfl (fun h22 => ?_) (fun h22 => ?_)
                    ·as_aux_lemma =>
                     have h22d := (B.nt h22)
                     refine DX.takes (fuel := 0) ttOk [(11, true), (12, true), (13, true), (14, true), (15, true), (16, true), (17, true), (18, true), (19, true), (20, true), (21, true), (22, true), (23, true), (24, true), (25, true)] (takesB_of hT (by kernel_rfl)) rfl ?_
                     refine DX.tail2 [] rfl rfl (by kernel_rfl) ?_
                     refine WX.run ttOk rfl ?_
                     have hP22 : a0m code = true := by simp only [a0m, h1, h2, h3, h4, h5, h6, h7, h8, h9, h10, h11, h12, e1h, e2h, h13, h14, h15, h16, h17, hX1, h21, h22, cond_true, cond_false]
                     refine WX.ret ttOk rfl ?_
                     intro w1 G bs hI hΓ
                     rw [hP22]
                     exact ⟨rfl, trivial⟩
                    ·as_aux_lemma =>
                     have h22d := (B.nf h22)
                     refine DX.takes (fuel := 7) ttOk [(11, true), (12, false), (13, true), (14, false), (16, true), (17, false), (18, true), (19, false)] (takesB_of hT (by kernel_rfl)) rfl ?_
                     refine DX.callV 15 rfl (by kernel_rfl) rfl rfl rfl rfl rfl rfl (fun _ => rfl) rfl (fun w G bs hI hΓ => f60 w (n + 5) (by omega) ((a16 ((a06 code).1) ((a06 code).2)).1.vector) p7 c7 (hΓ.get 177 rfl) ((a06 code).1.name) p2 c2 (hΓ.get 179 rfl) ((ok_Member hq4).2.1) (GoT.okm (α := List Str) (by omega) (ok_Name (ok_Member hq3.1).1))) ?_
                     intro hq44
                     refine DX.callV 20 rfl (by kernel_rfl) rfl rfl rfl rfl rfl rfl (fun _ => rfl) rfl (fun w G bs hI hΓ => f60 w (n + 2) (by omega) ((a06 code).1.vector) p3 c3 (hΓ.get 180 rfl) ((a06 code).1.name) p2 c2 (hΓ.get 179 rfl) ((ok_Member hq3.1).2.1) ((ok_Member hq3.1).1)) ?_
                     intro hq45
                     refine DX.seeP 21 (by kernel_rfl) rfl rfl rfl rfl (looksP_wrap rfl rfl rfl rfl) ?_
                     refine DX.takes (fuel := 0) ttOk [(22, true), (23, true), (24, true), (25, true)] (takesB_of hT (by kernel_rfl)) rfl ?_
                     refine DX.tail2 [] rfl rfl (by kernel_rfl) ?_
                     refine WX.run ttOk rfl ?_
                     have hP23 : a0m code = ((a11 ((a16 ((a06 code).1) ((a06 code).2)).1.vector) ((a06 code).1.name)) == IntKind.i64.wrap ((a11 ((a06 code).1.vector) ((a06 code).1.name)) + 1)) := by simp only [a0m, h1, h2, h3, h4, h5, h6, h7, h8, h9, h10, h11, h12, e1h, e2h, h13, h14, h15, h16, h17, hX1, h21, h22, cond_true, cond_false]
                     refine WX.ret ttOk rfl ?_
                     intro w1 G bs hI hΓ
                     rw [hP23]
                     exact ⟨rfl, trivial⟩
                   ·skip
                    refine DX.takes (fuel := 0) ttOk [(8, true), (9, true), (10, true), (11, true), (12, true), (13, true), (14, true), (15, true), (16, true), (17, true), (18, true), (19, true), (20, true), (21, true), (22, true), (23, true), (24, true), (25, true)] (takesB_of hT (by kernel_rfl)) rfl ?_
                    refine DX.tail2 [] rfl rfl (by kernel_rfl) ?_
                    refine WX.run ttOk rfl ?_
                    have hP24 : a0m code = false := by simp only [a0m, h1, h2, h3, h4, h5, h6, h7, h8, h9, h10, h11, h12, e1h, e2h, h13, h14, h15, h16, h17, hX1, h21, cond_true, cond_false]
                    refine WX.ret ttOk rfl ?_
                    intro w1 G bs hI hΓ
                    rw [hP24]
                    exact ⟨rfl, trivial⟩
end Go.Proofs.YtolepebgdfdciaaGreat

namespace Go.Stp
theorem mid {α : Type} (p : List α) (e : α) (l : List α) : (p ++ e :: l)[p.length]? = some e := by simp
theorem mid_app {α : Type} (p : List α) (e : α) (l : List α) : (p ++ [e]) ++ l = p ++ e :: l := by simp
theorem mid_len {α : Type} (p : List α) (e : α) : (p ++ [e]).length = p.length + 1 := by simp
def SzR (r left : Int) (s : Nat) : Prop := r = -1 ∨ ((s : Int) ≤ left ∧ r = left - s)
theorem SzR.pos {r left : Int} {s : Nat} (h : SzR r left s) (hr : 0 ≤ r) : (s : Int) ≤ left ∧ r = left - s := by
 rcases h with h | h
 ·omega
 ·exact h
theorem dT {x : Int} (h : x < 0) : decide (x < 0) = true := decide_eq_true h
theorem szL_cons {α : Type} [GoT α] [Sz α] (a : α) (l : List α) : szL (a :: l) = sz a + szL l := by simp [szL]
theorem szL_nil {α : Type} [GoT α] [Sz α] : szL ([] : List α) = 0 := rfl
theorem bne_self_F {α : Type} [BEq α] [LawfulBEq α] (a : α) : (a != a) = false := by simp
theorem bytesLess_self : ∀ l : List UInt8, Op.bytesLess l l = false
 | [] => rfl
 | a :: l => by simp [Op.bytesLess, bytesLess_self l]
theorem l4_zero (a b : List UInt8) : ((bif Op.bytesLess a b then (-1) else bif (!(Op.bytesLess a b || a == b)) then 1 else 0 : Int) = 0) ↔ a = b := by
 cases h : Op.bytesLess a b
 ·by_cases e : a = b
  ·simp [e]
  ·have : (a == b) = false := by simpa using e
   simp [this, e]
 ·constructor
  ·intro x; simp at x
  ·intro e; rw [e, bytesLess_self] at h; cases h
end Go.Stp

namespace Go.Stp
set_option linter.unusedVariables false
set_option linter.unusedSimpArgs false
theorem same_In (a b c : Int) : a2g a b c = a1c a b c := rfl
theorem sEqL_string : ∀ (a b p : List Str), a.length = b.length → slices_Equal_string_L1 (p ++ b) a p.length = (if a.map (fun z : Str => z.toList) = b.map (fun z : Str => z.toList) then none else some false)
 | [], [], p, _ => by simp [slices_Equal_string_L1]
 | x :: a, y :: b, p, h => by
  have ih := sEqL_string a b (p ++ [y]) (by simpa using h)
  rw [mid_app, mid_len] at ih
  simp only [slices_Equal_string_L1, mid]
  by_cases hxy : x.toList = y.toList
  ·simp [hxy, ih]
  ·have hb : (x.toList == y.toList) = false := by simpa using hxy
   simp [hb, hxy]
theorem sEq_string (a b : List Str) : slices_Equal_string a b = decide (a.map (fun z : Str => z.toList) = b.map (fun z : Str => z.toList)) := by
 unfold slices_Equal_string
 by_cases hl : a.length = b.length
 ·have h := sEqL_string a b [] hl
  simp only [List.nil_append, List.length_nil] at h
  simp only [hl, bne_self_F, cond_false, h]
  split <;> simp_all
 ·have hne : a.map (fun z : Str => z.toList) ≠ b.map (fun z : Str => z.toList) := fun h => hl (by simpa using congrArg List.length h)
  have hn : ((a.length : Int) != (b.length : Int)) = true := by simp; omega
  simp [hn, hne]
theorem sEqL_byte : ∀ (a b p : List UInt8), a.length = b.length → slices_Equal_byte_L1 (p ++ b) a p.length = (if a = b then none else some false)
 | [], [], p, _ => by simp [slices_Equal_byte_L1]
 | x :: a, y :: b, p, h => by
  have ih := sEqL_byte a b (p ++ [y]) (by simpa using h)
  rw [mid_app, mid_len] at ih
  simp only [slices_Equal_byte_L1, mid]
  by_cases hxy : x = y
  ·simp [hxy, ih]
  ·have hn : ((x.toNat : Int) != (y.toNat : Int)) = true := by
    have : x.toNat ≠ y.toNat := fun h => hxy (UInt8.toNat_inj.mp h)
    simp; omega
   simp [hn, hxy]
theorem sEq_byte (a b : List UInt8) : slices_Equal_byte a b = decide (a = b) := by
 unfold slices_Equal_byte
 by_cases hl : a.length = b.length
 ·have h := sEqL_byte a b [] hl
  simp only [List.nil_append, List.length_nil] at h
  simp only [hl, bne_self_F, cond_false, h]
  split <;> simp_all
 ·have hne : a ≠ b := fun h => hl (by rw [h])
  have hn : ((a.length : Int) != (b.length : Int)) = true := by simp; omega
  simp [hn, hne]
theorem cNL : ∀ (a b p : List Str), match a0u ⟨p ++ b⟩ a p.length with
  | some k => k ≠ 0 ∧ a.map (fun z : Str => z.toList) ≠ b.map (fun z : Str => z.toList)
  | none => a.length = b.length → a.map (fun z : Str => z.toList) = b.map (fun z : Str => z.toList)
 | [], b, p => by
  simp only [a0u]
  intro h
  cases b with
  | nil => rfl
  | cons => simp at h
 | x :: a, [], p => by simp [a0u]
 | x :: a, y :: b, p => by
  have ih := cNL a b (p ++ [y])
  rw [mid_app, mid_len] at ih
  have hlt : decide (((p.length : Nat) : Int) < (((p ++ y :: b).length : Nat) : Int)) = true := by simp; omega
  simp only [a0u, hlt, cond_true, mid]
  by_cases hk : a0w x y = 0
  ·have e : x.toList = y.toList := (l4_zero _ _).1 hk
   rw [hk]
   simp only [bne_self_F, cond_false]
   revert ih
   cases a0u ⟨p ++ y :: b⟩ a (p.length + 1) with
   | none => intro ih h; simp [e, ih (by simpa using h)]
   | some k => intro ih; exact ⟨ih.1, fun h => ih.2 (by simpa [e] using h)⟩
  ·have hn : (a0w x y != 0) = true := by simpa using hk
   simp only [hn, cond_true]
   exact ⟨hk, fun h => hk ((l4_zero _ _).2 (by simp at h; exact h.1))⟩
theorem same_EqualNames (a b : Name) : a37 a b = a1f a b := by
 unfold a37 a1f a0v
 rw [sEq_string]
 have h : match a0u b a.parts 0 with
  | some k => k ≠ 0 ∧ a.parts.map (fun z : Str => z.toList) ≠ b.parts.map (fun z : Str => z.toList)
  | none => a.parts.length = b.parts.length → a.parts.map (fun z : Str => z.toList) = b.parts.map (fun z : Str => z.toList) := cNL a.parts b.parts []
 revert h
 cases a0u b a.parts 0 with
 | some k => intro ⟨h1, h2⟩; simp [h1, h2]
 | none =>
  intro h
  by_cases hl : a.parts.length = b.parts.length
  ·simp [h hl, hl]
  ·have ne : a.parts.map (fun z : Str => z.toList) ≠ b.parts.map (fun z : Str => z.toList) := fun h => hl (by simpa using congrArg List.length h)
   rcases Nat.lt_or_gt_of_ne hl with c | c
   ·simp [ne, c]
   ·have c' : ¬ a.parts.length < b.parts.length := by omega
    simp [ne, c, c']
theorem same_EqualBytes (a b : List UInt8) : slices_Equal_byte a b = a3d a b := by
 rw [sEq_byte]
 unfold a3d bstr
 rw [ByteArray.toList_mk, ByteArray.toList_mk]
 by_cases e : a = b
 ·simp [e]
 ·have hb : (a == b) = false := by simpa using e
  simp [hb, e]
theorem vPL : ∀ l : List UInt8, a0y l = a1s l ∧ (a1s l = none ∨ a1s l = some false)
 | [] => ⟨rfl, .inl rfl⟩
 | c :: l => by
  obtain ⟨h1, h2⟩ := vPL l
  simp only [a0y, a1s, h1, a1c, ge_iff_le]
  cases decide ((97 : Int) ≤ (c.toNat : Int)) <;> cases decide ((c.toNat : Int) ≤ 122) <;> cases decide ((48 : Int) ≤ (c.toNat : Int)) <;> cases decide ((c.toNat : Int) ≤ 57) <;> cases hc : ((c.toNat : Int) == 45) <;> simp [bne, hc, h2]
theorem same_ValidPart (s : Str) : a28 s = a2h s := by
 unfold a28 a2h
 obtain ⟨h1, h2⟩ := vPL s.data.toList
 rw [h1, same_In]
 rcases h2 with h | h <;> rw [h] <;> cases a1c (((s).size : Nat) : Int) 1 8 <;> rfl
theorem iF_string : ∀ (f : Str → Bool) (l : List Str) (i : Nat), (slices_IndexFunc_string_L1 f l i = none ∧ l.any f = false) ∨ ∃ j : Nat, slices_IndexFunc_string_L1 f l i = some (j : Int) ∧ l.any f = true
 | f, [], i => .inl ⟨rfl, rfl⟩
 | f, x :: l, i => by
  simp only [slices_IndexFunc_string_L1, List.any_cons]
  cases hx : f x
  ·simpa using iF_string f l (i + 1)
  ·exact .inr ⟨i, rfl, rfl⟩
theorem cF_string (l : List Str) (f : Str → Bool) : slices_ContainsFunc_string l f = l.any f := by
 unfold slices_ContainsFunc_string slices_IndexFunc_string
 rcases iF_string f l 0 with ⟨h1, h2⟩ | ⟨j, h1, h2⟩ <;> simp [h1, h2]
theorem vNL : ∀ l : List Str, a2i l = bif l.any (fun e => !(a2h e)) then some false else none
 | [] => rfl
 | x :: l => by
  simp only [a2i, List.any_cons]
  cases (!(a2h x)) <;> simp [vNL l]
theorem same_ValidName (a : Name) : a3e a = a0z a := by
 unfold a3e a0z a3p
 rw [cF_string, vNL]
 simp only [same_ValidPart]
 cases a.parts.any (fun e => !(a2h e)) <;> cases decide ((((a.parts).length : Nat) : Int) ≤ 6) <;> rfl
theorem cmp_l4 (x y : Str) : cmp_Compare_string x y = a0w x y := by
 simp [cmp_Compare_string, cmp_isNaN_string, a0w]
theorem cCL : ∀ (a b p : List Str), (slices_Compare_string_L1 (p ++ b) a p.length = a0u ⟨p ++ b⟩ a p.length ∧ (a0u ⟨p ++ b⟩ a p.length = none → a.length ≤ b.length)) ∨ (slices_Compare_string_L1 (p ++ b) a p.length = some 1 ∧ a0u ⟨p ++ b⟩ a p.length = none ∧ b.length < a.length)
 | [], b, p => .inl ⟨rfl, fun _ => Nat.zero_le _⟩
 | x :: a, [], p => .inr (by simp [slices_Compare_string_L1, a0u])
 | x :: a, y :: b, p => by
  have ih := cCL a b (p ++ [y])
  rw [mid_app, mid_len] at ih
  have hlt : decide (((p.length : Nat) : Int) < (((p ++ y :: b).length : Nat) : Int)) = true := by simp; omega
  have hge : decide (((p.length : Nat) : Int) ≥ (((p ++ y :: b).length : Nat) : Int)) = false := by simp; omega
  simp only [a0u, slices_Compare_string_L1, hlt, hge, cond_true, cond_false, mid, cmp_l4, List.length_cons]
  cases (a0w x y != 0)
  ·simp only [cond_false]
   rcases ih with ⟨h1, h2⟩ | ⟨h1, h2, h3⟩
   ·exact .inl ⟨h1, fun h => by have := h2 h; omega⟩
   ·exact .inr ⟨h1, h2, by omega⟩
  ·exact .inl ⟨rfl, fun h => by cases h⟩
theorem same_CompareNames (a b : Name) : a3f a b = a0v a b := by
 unfold a3f slices_Compare_string a0v
 have h : (slices_Compare_string_L1 b.parts a.parts 0 = a0u b a.parts 0 ∧ (a0u b a.parts 0 = none → a.parts.length ≤ b.parts.length)) ∨ (slices_Compare_string_L1 b.parts a.parts 0 = some 1 ∧ a0u b a.parts 0 = none ∧ b.parts.length < a.parts.length) := cCL a.parts b.parts []
 rcases h with ⟨h1, h2⟩ | ⟨h1, h2, h3⟩
 ·rw [h1]
  cases hs : a0u b a.parts 0 with
  | some k => rfl
  | none =>
   have := h2 hs
   have c : decide ((((a.parts).length : Nat) : Int) > (((b.parts).length : Nat) : Int)) = false := by simp; omega
   simp only [c, cond_false]
 ·rw [h1, h2]
  have c : decide ((((a.parts).length : Nat) : Int) > (((b.parts).length : Nat) : Int)) = true := by simp; omega
  have d : decide ((((a.parts).length : Nat) : Int) < (((b.parts).length : Nat) : Int)) = false := by simp; omega
  simp only [c, d, cond_false, cond_true]
theorem vTL (l : List TableEntry) : ∀ (r : List TableEntry) (i : Nat), a21 l r i = a1t l r i
 | [], _ => rfl
 | x :: r, i => by simp only [a21, a1t, same_ValidName, same_CompareNames, vTL l r]
theorem same_ValidTable (l : List TableEntry) : a2j l = a1u l := by
 unfold a2j a1u
 rw [vTL]
theorem iF_TableEntry : ∀ (f : TableEntry → Bool) (l : List TableEntry) (i : Nat), (slices_IndexFunc_TableEntry_L1 f l i = none ∧ l.any f = false) ∨ ∃ j : Nat, slices_IndexFunc_TableEntry_L1 f l i = some (j : Int) ∧ l.any f = true
 | f, [], i => .inl ⟨rfl, rfl⟩
 | f, x :: l, i => by
  simp only [slices_IndexFunc_TableEntry_L1, List.any_cons]
  cases hx : f x
  ·simpa using iF_TableEntry f l (i + 1)
  ·exact .inr ⟨i, rfl, rfl⟩
theorem cF_TableEntry (l : List TableEntry) (f : TableEntry → Bool) : slices_ContainsFunc_TableEntry l f = l.any f := by
 unfold slices_ContainsFunc_TableEntry slices_IndexFunc_TableEntry
 rcases iF_TableEntry f l 0 with ⟨h1, h2⟩ | ⟨j, h1, h2⟩ <;> simp [h1, h2]
theorem vVL : ∀ l : List TableEntry, a29 l = bif l.any (fun e => !(a1c e.value 1 1000)) then some false else none
 | [] => rfl
 | x :: l => by
  simp only [a29, List.any_cons]
  cases (!(a1c x.value 1 1000)) <;> simp [vVL l]
theorem same_ValidVector' (a : StateVector) : a3j a = a38 a := by
 unfold a3j a38 a3q
 rw [cF_TableEntry, vVL, same_ValidTable]
 simp only [same_In]
 cases a.entries.any (fun e => !(a1c e.value 1 1000)) <;> cases a1u a.entries <;> rfl
theorem ixL (n_ : Name) : ∀ (l : List TableEntry) (i : Nat), slices_IndexFunc_TableEntry_L1 (fun e0_ => a39 n_ e0_) l i = a1b n_ l i
 | [], i => rfl
 | x :: l, i => by
  simp only [slices_IndexFunc_TableEntry_L1, a1b]
  rw [ixL n_ l (i + 1), show a39 n_ x = a1f x.name n_ from same_EqualNames _ _]
theorem same_indexOfName (l : List TableEntry) (n_ : Name) : a0i l n_ = a0c l n_ := by
 unfold a0i slices_IndexFunc_TableEntry a0c
 rw [ixL] <;> (cases a1b n_ l 0 <;> rfl)
theorem same_LookupEntry (l : List TableEntry) (n_ : Name) : a31 l n_ = a2s l n_ := by
 simp only [a31, a2s, same_indexOfName]
theorem same_SeqOf' (v : StateVector) (n_ : Name) : a11 v n_ = a0b v n_ := by
 simp only [a11, a0b, same_LookupEntry]
theorem nTL (a : StateVector) (e1 : TableEntry) (m : Nat) (o : List TableEntry) (k : Int) (hm : 20 - o.length = m) : a2k a e1 o k = a18 a e1 o k := by
 rw [a2k, a18, same_SeqOf']
 by_cases h1 : k < a0b a e1.name
 ·by_cases h2 : ((o.length : Nat) : Int) < 20
  ·simp only [h1, h2, ↓reduceIte]
   exact nTL a e1 (m - 1) _ _ (by simp; omega)
  ·simp only [h1, h2, ↓reduceIte]
 ·simp only [h1, ↓reduceIte]
termination_by m
decreasing_by omega
theorem nTL1 (a b : StateVector) : ∀ (l o : List TableEntry), a2t a b l o = a1d a b l o
 | [], o => rfl
 | e :: l, o => by
  simp only [a2t, a1d, same_SeqOf', nTL a e _ o _ rfl]
  exact nTL1 a b l _
theorem same_NewerThan' (a b : StateVector) : a3g a b = a2l a b := by
 simp only [a3g, a2l, nTL1]
theorem eTL (b : List TableEntry) : ∀ (r : List TableEntry) (i : Nat), slices_EqualFunc_TableEntry_L1 (fun e0_ e1_ => a3a e0_ e1_) b r i = a1z b r i
 | [], i => rfl
 | x :: r, i => by
  have ih := eTL b r (i + 1)
  simp only [slices_EqualFunc_TableEntry_L1, a1z]
  cases hb : b[i]? with
  | none => rfl
  | some e2 =>
   have h : a3a x e2 = (bif a1f x.name e2.name then (x.value == e2.value) else false) := by rw [← same_EqualNames]; rfl
   simp only [h, bne]
   cases a1f x.name e2.name <;> cases (x.value == e2.value) <;> first | rfl | exact ih
theorem same_EqualTables (a b : List TableEntry) : a3s a b = a2c a b := by
 unfold a3s slices_EqualFunc_TableEntry a2c
 rw [eTL] <;> (cases a1z b a 0 <;> rfl)
theorem iF_Publication : ∀ (f : Publication → Bool) (l : List Publication) (i : Nat), (slices_IndexFunc_Publication_L1 f l i = none ∧ l.any f = false) ∨ ∃ j : Nat, slices_IndexFunc_Publication_L1 f l i = some (j : Int) ∧ l.any f = true
 | f, [], i => .inl ⟨rfl, rfl⟩
 | f, x :: l, i => by
  simp only [slices_IndexFunc_Publication_L1, List.any_cons]
  cases hx : f x
  ·simpa using iF_Publication f l (i + 1)
  ·exact .inr ⟨i, rfl, rfl⟩
theorem cF_Publication (l : List Publication) (f : Publication → Bool) : slices_ContainsFunc_Publication l f = l.any f := by
 unfold slices_ContainsFunc_Publication slices_IndexFunc_Publication
 rcases iF_Publication f l 0 with ⟨h1, h2⟩ | ⟨j, h1, h2⟩ <;> simp [h1, h2]
theorem pAL (n_ : Name) (i : Int) : ∀ (l : List Publication) (k : Nat), slices_IndexFunc_Publication_L1 (fun e0_ => a2u i n_ e0_) l k = a13 n_ i l k
 | [], k => rfl
 | x :: l, k => by
  have ih := pAL n_ i l (k + 1)
  have h : a2u i n_ x = (bif (x.seq == i) then a1f x.publisher n_ else false) := by rw [← same_EqualNames]; rfl
  simp only [slices_IndexFunc_Publication_L1, a13, h]
  cases (x.seq == i) <;> cases a1f x.publisher n_ <;> first | rfl | exact ih
theorem same_publishedAt (l : List Publication) (n_ : Name) (i : Int) : a1v l n_ i = a14 l n_ i := by
 unfold a1v slices_IndexFunc_Publication a14
 rw [pAL] <;> (cases a13 n_ i l 0 <;> rfl)
theorem same_FindPublication' (m : Member) (n_ : Name) (i : Int) : a0o m n_ i = a0g m n_ i := by
 simp only [a0o, a0g, same_publishedAt]
theorem wIL (a : Member) : ∀ l : List Publication, a22 a l = bif l.any (fun e => a2v a e) then some false else none
 | [] => rfl
 | x :: l => by
  have ih := wIL a l
  have h : a2v a x = (bif !(a0g a x.publisher x.seq).2 then true else !(a3d (a0g a x.publisher x.seq).1 x.content)) := by
   simp only [a2v, same_FindPublication', same_EqualBytes]
  simp only [a22, List.any_cons, h, ih]
  cases (!(a0g a x.publisher x.seq).2) <;> cases (!(a3d (a0g a x.publisher x.seq).1 x.content)) <;> rfl
theorem same_within (a b : Member) : a3k a b = a25 b a := by
 unfold a3k a25
 rw [cF_Publication, wIL]
 cases b.publications.any (fun e => a2v a e) <;> rfl
theorem same_InSync' (a b : Member) : a32 a b = a2w a b := by
 simp only [a32, a2w, same_EqualTables, same_within]
 cases a25 a b <;> cases a25 b a <;> rfl
theorem vSL : ∀ (l : List TableEntry) (s : Int), a3b l s = a2m l s
 | [], _ => rfl
 | x :: l, s => vSL l _
theorem same_VectorSum' (v : StateVector) : a3r v = a3c v := vSL v.entries 0
theorem vML (m : Member) : ∀ (l : List Publication) (i : Nat), a23 m l i = a1m m l i ∧ (a1m m l i = none ∨ a1m m l i = some false)
 | [], i => ⟨rfl, .inl rfl⟩
 | x :: l, i => by
  obtain ⟨h1, h2⟩ := vML m l (i + 1)
  simp only [a23, a1m, same_In, same_SeqOf', same_publishedAt, h1]
  refine ⟨trivial, ?_⟩
  cases (!(a1c x.seq 1 (a0b m.vector x.publisher))) <;> cases decide ((((x.content).length : Nat) : Int) > 60) <;> cases decide ((a14 (List.take i m.publications) x.publisher x.seq) ≥ 0) <;> first | exact h2 | exact .inr rfl
theorem same_ValidMember' (m : Member) : a1e m = a15 m := by
 obtain ⟨h1, h2⟩ := vML m m.publications 0
 have hb : ((((m.publications).length : Nat) : Int) != (a3c m.vector)) = !((a3c m.vector) == (((m.publications).length : Nat) : Int)) := by rw [bne, BEq.comm]
 simp only [a1e, a15, same_ValidName, same_ValidVector', same_VectorSum', h1, hb]
 rcases h2 with h | h <;> rw [h] <;> cases ((a3c m.vector) == (((m.publications).length : Nat) : Int)) <;> rfl
theorem spL1 (l : List TableEntry) (n_ : Name) : ∀ (m i : Nat), l.length - i = m → i ≤ l.length → a2a l n_ i = i + (l.drop i).findIdx (fun e => !decide (a0v e.name n_ < 0))
 | 0, i, hm, hi => by
  rw [a2a, cT_spec]
  rw [if_neg (by omega), List.drop_eq_nil_of_le (by omega)]
  simp
 | m + 1, i, hm, hi => by
  have hlt : i < l.length := by omega
  have hg : l[i]? = some l[i] := List.getElem?_eq_getElem hlt
  rw [a2a, cT_spec]
  rw [if_pos (by omega), List.drop_eq_getElem_cons hlt, List.findIdx_cons]
  simp only [hg]
  by_cases hc : a0v l[i].name n_ < 0
  ·rw [if_pos hc, spL1 l n_ m (i + 1) (by omega) (by omega)]
   simp only [hc, decide_true, Bool.not_true, cond_false]
   omega
  ·rw [if_neg hc]
   simp only [hc, decide_false, Bool.not_false, cond_true, Nat.add_zero]
theorem ifF (f : TableEntry → Bool) : ∀ (l : List TableEntry) (i : Nat), slices_IndexFunc_TableEntry_L1 f l i = if l.findIdx f < l.length then some ((i + l.findIdx f : Nat) : Int) else none
 | [], i => by simp [slices_IndexFunc_TableEntry_L1]
 | x :: l, i => by
  simp only [slices_IndexFunc_TableEntry_L1, List.findIdx_cons, List.length_cons]
  cases hx : f x
  ·simp only [cond_false]
   rw [ifF f l (i + 1)]
   by_cases h : l.findIdx f < l.length
   ·rw [if_pos h, if_pos (by omega), show i + 1 + l.findIdx f = i + (l.findIdx f + 1) by omega]
   ·rw [if_neg h, if_neg (by omega)]
  ·simp only [cond_true, Nat.add_zero]
   rw [if_pos (by omega)]
theorem fiC {f g : TableEntry → Bool} : ∀ {l : List TableEntry}, (∀ a ∈ l, f a = g a) → l.findIdx f = l.findIdx g
 | [], _ => rfl
 | x :: l, h => by
  rw [List.findIdx_cons, List.findIdx_cons, h x List.mem_cons_self, fiC (fun a ha => h a (List.mem_cons_of_mem _ ha))]
theorem l6N (n_ : Name) : ∀ (l : List TableEntry) (i : Nat), a1b n_ l i = none → ∀ a ∈ l, a1f a.name n_ = false
 | [], i, h, a, ha => by cases ha
 | x :: l, i, h, a, ha => by
  simp only [a1b] at h
  cases hx : a1f x.name n_
  ·rw [hx, cond_false] at h
   rcases List.mem_cons.1 ha with rfl | ha
   ·exact hx
   ·exact l6N n_ l (i + 1) h a ha
  ·rw [hx, cond_true] at h
   cases h
theorem l6S (n_ : Name) : ∀ (l : List TableEntry) (i : Nat) (j : Int), a1b n_ l i = some j → 0 ≤ j
 | [], i, j, h => by cases h
 | x :: l, i, j, h => by
  simp only [a1b] at h
  cases hx : a1f x.name n_
  ·rw [hx, cond_false] at h
   exact l6S n_ l (i + 1) j h
  ·rw [hx, cond_true] at h
   cases h
   omega
theorem same_PutEntry (l : List TableEntry) (n_ : Name) (v : Int) : a0x l n_ v = a03 l n_ v := by
 unfold a0x a03
 rw [cT_impl, cT_spec, same_indexOfName]
 cases hd : decide (a0c l n_ ≥ 0)
 ·have hno : ∀ a ∈ l, a1f a.name n_ = false := by
   cases hx : a1b n_ l 0 with
   | none => exact l6N n_ l 0 hx
   | some j =>
    have h1 := l6S n_ l 0 j hx
    have h2 := of_decide_eq_false hd
    have h3 : a0c l n_ = j := by unfold a0c; rw [hx]
    omega
  have hF : l.findIdx (fun e0_ => a1g n_ e0_) = l.findIdx (fun e => !decide (a0v e.name n_ < 0)) := fiC fun a ha => by
   have h1 := hno a ha
   unfold a1f at h1
   have h2 : a0v a.name n_ ≠ 0 := by simpa using h1
   unfold a1g
   rw [same_CompareNames]
   by_cases hc : a0v a.name n_ < 0
   ·rw [decide_eq_false (show ¬ a0v a.name n_ > 0 by omega), decide_eq_true hc]; rfl
   ·rw [decide_eq_true (show a0v a.name n_ > 0 by omega), decide_eq_false hc]; rfl
  have hS := spL1 l n_ l.length 0 (Nat.sub_zero _) (Nat.zero_le _)
  rw [Nat.zero_add, List.drop_zero, ← hF] at hS
  have hle : l.findIdx (fun e0_ => a1g n_ e0_) ≤ l.length := List.findIdx_le_length
  have hI := ifF (fun e0_ => a1g n_ e0_) l 0
  simp only [cond_false, same_ValidTable, hS]
  by_cases hlt : l.findIdx (fun e0_ => a1g n_ e0_) < l.length
  ·rw [if_pos hlt, Nat.zero_add] at hI
   have hJ : slices_IndexFunc_TableEntry l (fun e0_ => a1g n_ e0_) = ((l.findIdx (fun e0_ => a1g n_ e0_) : Nat) : Int) := by unfold slices_IndexFunc_TableEntry; rw [hI]
   rw [hJ, decide_eq_false (show ¬ ((l.findIdx (fun e0_ => a1g n_ e0_) : Nat) : Int) < 0 by omega), cond_false]
   unfold slices_Insert_TableEntry
   rw [Int.toNat_natCast]
   rfl
  ·rw [if_neg hlt] at hI
   have hJ : slices_IndexFunc_TableEntry l (fun e0_ => a1g n_ e0_) = -1 := by unfold slices_IndexFunc_TableEntry; rw [hI]
   have hE : l.findIdx (fun e0_ => a1g n_ e0_) = l.length := by omega
   rw [hJ, show decide ((-1 : Int) < 0) = true from rfl, cond_true, hE]
   unfold slices_Insert_TableEntry
   rw [Int.toNat_natCast]
   rfl
 ·simp only [cond_true, same_ValidTable]
theorem szL_append {α : Type} [GoT α] [Sz α] (a b : List α) : szL (a ++ b) = szL a + szL b := by simp [szL]
theorem szL_set {α : Type} [GoT α] [Sz α] (x y : α) (hxy : sz x = sz y) : ∀ (l : List α) (i : Nat), l[i]? = some y → szL (l.set i x) = szL l
 | [], i, h => by simp at h
 | z :: l, 0, h => by
  simp at h; subst h
  rw [List.set_cons_zero, szL_cons, szL_cons, hxy]
 | z :: l, i + 1, h => by
  rw [List.set_cons_succ, szL_cons, szL_cons, szL_set x y hxy l i (by simpa using h)]
theorem PutShape.size {l r : List TableEntry} {n_ : Name} {v : Int} (h : PutShape l n_ v r) : sz r ≤ sz l + 1 + sz n_ := by
 cases h with
 | same => omega
 | nil => simp [sz_list, szL_nil]
 | set i e h =>
  have := szL_set ⟨e.name, v⟩ e (by rw [sz_TableEntry, sz_TableEntry]) l i h
  rw [sz_list, sz_list, List.length_set, this]; omega
 | ins i =>
  have h1 := szL_append (l.take i) (l.drop i)
  rw [List.take_append_drop] at h1
  have h2 : szL [(⟨n_, v⟩ : TableEntry)] = sz n_ := by simp [szL, sz_TableEntry]
  rw [sz_list, sz_list, szL_append, szL_append, h2]
  simp only [List.length_append, List.length_take, List.length_drop, List.length_cons, List.length_nil]
  omega
theorem same_AcceptPublication' (m : Member) (x_ : Publication) : a0t m x_ = a0k m x_ := by
 simp only [a0t, a0k, cM_impl, cM_spec, same_SeqOf', same_PutEntry, same_ValidMember', a09, a02]
theorem same_Publish' (m : Member) (b : List UInt8) : a16 m b = a0f m b := by
 simp only [a16, a0f, same_AcceptPublication', same_SeqOf']
theorem cuL (fr : Member) : ∀ (l : List TableEntry) (a : List Str) (b : List TableEntry) (c : List Publication), a2n fr l a b c = a17 fr l a b c
 | [], a, b, c => rfl
 | x :: l, a, b, c => by
  simp only [a2n, a17, same_FindPublication', same_AcceptPublication', cuL fr l]
theorem same_CatchUp' (m fr : Member) : a0h m fr = a07 m fr := by
 simp only [a0h, a07, a10, a0q, same_NewerThan', cM_impl, cM_spec, cuL]
end Go.Stp

namespace Go.Stp
set_option linter.unusedVariables false
set_option linter.unusedSimpArgs false
theorem str_ext {x y : Str} (h : x.toList = y.toList) : x = y := by
 cases x with
 | mk a =>
  cases y with
  | mk b =>
   rw [ByteArray.toList_mk, ByteArray.toList_mk] at h
   rw [Array.toList_inj.1 h]
theorem bL_trans : ∀ a b c : List UInt8, Op.bytesLess a b = true → Op.bytesLess b c = true → Op.bytesLess a c = true
 | _, [], _, h, _ => by simp [Op.bytesLess] at h
 | [], _ :: _, [], _, h => by simp [Op.bytesLess] at h
 | [], _ :: _, _ :: _, _, _ => rfl
 | _ :: _, _ :: _, [], _, h => by simp [Op.bytesLess] at h
 | a :: x, b :: y, c :: z, h1, h2 => by
  simp only [Op.bytesLess, Bool.or_eq_true, Bool.and_eq_true, decide_eq_true_eq, beq_iff_eq] at h1 h2 ⊢
  rcases h1 with h1 | ⟨e1, h1⟩
  ·rcases h2 with h2 | ⟨e2, h2⟩
   ·exact .inl (UInt8.lt_trans h1 h2)
   ·exact .inl (e2 ▸ h1)
  ·rcases h2 with h2 | ⟨e2, h2⟩
   ·exact .inl (e1 ▸ h2)
   ·exact .inr ⟨e1.trans e2, bL_trans x y z h1 h2⟩
theorem bL_tot : ∀ a b : List UInt8, Op.bytesLess a b = false → a ≠ b → Op.bytesLess b a = true
 | [], [], _, h => absurd rfl h
 | [], _ :: _, h, _ => by simp [Op.bytesLess] at h
 | _ :: _, [], _, _ => rfl
 | a :: x, b :: y, h, hn => by
  simp only [Op.bytesLess, Bool.or_eq_false_iff, Bool.and_eq_false_iff, decide_eq_false_iff_not, beq_eq_false_iff_ne] at h
  simp only [Op.bytesLess, Bool.or_eq_true, Bool.and_eq_true, decide_eq_true_eq, beq_iff_eq]
  by_cases e : a = b
  ·subst e
   exact .inr ⟨rfl, bL_tot x y (h.2.resolve_left (fun h => h rfl)) (fun e => hn (by rw [e]))⟩
  ·exact .inl (UInt8.lt_of_le_of_ne (UInt8.not_lt.1 h.1) (fun h => e h.symm))
theorem l4_lt {x y : Str} (h : Op.bytesLess x.toList y.toList = true) : a0w x y = -1 := by unfold a0w; rw [h]; rfl
theorem l4_eq (x : Str) : a0w x x = 0 := by unfold a0w; rw [bytesLess_self]; simp
theorem l4_gt {x y : Str} (h : Op.bytesLess y.toList x.toList = true) : a0w x y = 1 := by
 unfold a0w
 cases h2 : Op.bytesLess x.toList y.toList
 ·have hn : (x.toList == y.toList) = false := by
   simp only [beq_eq_false_iff_ne]
   intro e
   rw [e, bytesLess_self] at h
   cases h
  rw [hn]; rfl
 ·have := bL_trans _ _ _ h h2
  rw [bytesLess_self] at this
  cases this
theorem l4_cases (x y : Str) : (a0w x y = -1 ∧ Op.bytesLess x.toList y.toList = true) ∨ (a0w x y = 0 ∧ x = y) ∨ (a0w x y = 1 ∧ Op.bytesLess y.toList x.toList = true) := by
 cases h : Op.bytesLess x.toList y.toList
 ·by_cases e : x.toList = y.toList
  ·have := str_ext e
   subst this
   exact .inr (.inl ⟨l4_eq x, rfl⟩)
  ·have h2 := bL_tot _ _ h e
   exact .inr (.inr ⟨l4_gt h2, h2⟩)
 ·exact .inl ⟨l4_lt h, rfl⟩
def kc : List Str → List Str → Int
 | [], [] => 0
 | [], _ :: _ => -1
 | _ :: _, [] => 1
 | x :: a, y :: b => bif a0w x y != 0 then a0w x y else kc a b
theorem kc_lt {x y : Str} {a b : List Str} (h : a0w x y = -1) : kc (x :: a) (y :: b) = -1 := by simp [kc, h]
theorem kc_gt {x y : Str} {a b : List Str} (h : a0w x y = 1) : kc (x :: a) (y :: b) = 1 := by simp [kc, h]
theorem kc_eq (x : Str) (a b : List Str) : kc (x :: a) (x :: b) = kc a b := by simp [kc, l4_eq]
theorem kc_self : ∀ a : List Str, kc a a = 0
 | [] => rfl
 | x :: a => by rw [kc_eq, kc_self a]
theorem kc_zero : ∀ {a b : List Str}, kc a b = 0 → a = b
 | [], [], _ => rfl
 | [], _ :: _, h => by simp [kc] at h
 | _ :: _, [], h => by simp [kc] at h
 | x :: a, y :: b, h => by
  rcases l4_cases x y with ⟨e, _⟩ | ⟨_, e⟩ | ⟨e, _⟩
  ·rw [kc_lt e] at h; cases h
  ·subst e; rw [kc_eq] at h; rw [kc_zero h]
  ·rw [kc_gt e] at h; cases h
theorem kc_anti : ∀ a b : List Str, kc b a = - kc a b
 | [], [] => rfl
 | [], _ :: _ => rfl
 | _ :: _, [] => rfl
 | x :: a, y :: b => by
  rcases l4_cases x y with ⟨e, l⟩ | ⟨_, e⟩ | ⟨e, l⟩
  ·rw [kc_lt e, kc_gt (l4_gt l)]; rfl
  ·subst e; rw [kc_eq, kc_eq, kc_anti a b]
  ·rw [kc_gt e, kc_lt (l4_lt l)]
theorem kc_trans : ∀ {a b c : List Str}, kc a b < 0 → kc b c < 0 → kc a c < 0
 | [], [], _, h, _ => by simp [kc] at h
 | [], _ :: _, [], _, h => by simp [kc] at h
 | [], _ :: _, _ :: _, _, _ => by simp [kc]
 | _ :: _, [], _, h, _ => by simp [kc] at h
 | _ :: _, _ :: _, [], _, h => by simp [kc] at h
 | x :: a, y :: b, z :: c, h1, h2 => by
  rcases l4_cases x y with ⟨e, l⟩ | ⟨_, e⟩ | ⟨e, _⟩
  ·rcases l4_cases y z with ⟨e2, l2⟩ | ⟨_, e2⟩ | ⟨e2, _⟩
   ·rw [kc_lt (l4_lt (bL_trans _ _ _ l l2))]; decide
   ·subst e2; rw [kc_lt e]; decide
   ·rw [kc_gt e2] at h2; exact absurd h2 (by decide)
  ·subst e
   rcases l4_cases x z with ⟨e2, l2⟩ | ⟨_, e2⟩ | ⟨e2, _⟩
   ·rw [kc_lt e2]; decide
   ·subst e2; rw [kc_eq] at h1 h2 ⊢; exact kc_trans h1 h2
   ·rw [kc_gt e2] at h2; exact absurd h2 (by decide)
  ·rw [kc_gt e] at h1; exact absurd h1 (by decide)
theorem kc_irr {a : List Str} (h : kc a a < 0) : False := by rw [kc_self] at h; exact absurd h (by decide)
theorem kcL : ∀ (a b p : List Str), (match a0u ⟨p ++ b⟩ a p.length with
  | some r => r
  | none => bif decide (((p.length + a.length : Nat) : Int) < (((p ++ b).length : Nat) : Int)) then -1 else bif decide (((p.length + a.length : Nat) : Int) > (((p ++ b).length : Nat) : Int)) then 1 else 0) = kc a b
 | [], [], p => by simp [a0u, kc]
 | [], y :: b, p => by
  have : decide (((p.length + ([] : List Str).length : Nat) : Int) < (((p ++ y :: b).length : Nat) : Int)) = true := by simp; omega
  simp only [a0u, this, cond_true, kc]
 | x :: a, [], p => by
  have h0 : decide (((p.length : Nat) : Int) < (((p ++ ([] : List Str)).length : Nat) : Int)) = false := by simp
  have h1 : decide (((p.length + (x :: a).length : Nat) : Int) < (((p ++ ([] : List Str)).length : Nat) : Int)) = false := by simp; omega
  have h2 : decide (((p.length + (x :: a).length : Nat) : Int) > (((p ++ ([] : List Str)).length : Nat) : Int)) = true := by simp; omega
  simp only [a0u, h0, h1, h2, cond_true, cond_false, kc]
 | x :: a, y :: b, p => by
  have ih := kcL a b (p ++ [y])
  rw [mid_app, mid_len] at ih
  have hlt : decide (((p.length : Nat) : Int) < (((p ++ y :: b).length : Nat) : Int)) = true := by simp; omega
  have hl : p.length + (x :: a).length = p.length + 1 + a.length := by simp; omega
  rw [hl]
  simp only [a0u, hlt, cond_true, mid, kc]
  cases h : (a0w x y != 0)
  ·simp only [cond_false]; exact ih
  ·simp only [cond_true]
theorem cmpN (a b : Name) : a0v a b = kc a.parts b.parts := by
 have h := kcL a.parts b.parts []
 simp only [List.nil_append, List.length_nil, Nat.zero_add] at h
 exact h
theorem eqN (a b : Name) : a1f a b = decide (a.parts = b.parts) := by
 unfold a1f
 rw [cmpN]
 by_cases e : a.parts = b.parts
 ·rw [e, kc_self]; simp
 ·have : (kc a.parts b.parts == 0) = false := by
   simp only [beq_eq_false_iff_ne]
   exact fun h => e (kc_zero h)
  rw [this]; simp [e]
def sq : List TableEntry → List Str → Int
 | [], _ => 0
 | e :: l, k => if e.name.parts = k then e.value else sq l k
theorem sq_none : ∀ {l : List TableEntry} {k : List Str}, (∀ e ∈ l, e.name.parts ≠ k) → sq l k = 0
 | [], k, _ => rfl
 | e :: l, k, h => by rw [sq, if_neg (h e List.mem_cons_self), sq_none (fun d hd => h d (List.mem_cons_of_mem _ hd))]
theorem sq_at : ∀ {l : List TableEntry} {k : List Str} {j : Nat} {e : TableEntry}, l[j]? = some e → e.name.parts = k → (∀ d ∈ l.take j, d.name.parts ≠ k) → sq l k = e.value
 | e :: l, k, 0, e', h, hk, _ => by
  simp at h; subst h
  rw [sq, if_pos hk]
 | d :: l, k, j + 1, e, h, hk, hn => by
  rw [sq, if_neg (hn d (by rw [List.take_succ_cons]; exact List.mem_cons_self)), sq_at (by simpa using h) hk (fun x hx => hn x (by rw [List.take_succ_cons]; exact List.mem_cons_of_mem _ hx))]
theorem l6F (n : Name) : ∀ (l : List TableEntry) (i : Nat), (a1b n l i = none ∧ ∀ e ∈ l, e.name.parts ≠ n.parts) ∨ ∃ j e, a1b n l i = some ((i + j : Nat) : Int) ∧ l[j]? = some e ∧ e.name.parts = n.parts ∧ ∀ d ∈ l.take j, d.name.parts ≠ n.parts
 | [], i => .inl ⟨rfl, fun e h => by cases h⟩
 | x :: l, i => by
  simp only [a1b, eqN]
  by_cases hx : x.name.parts = n.parts
  ·exact .inr ⟨0, x, by simp [hx], rfl, hx, fun d hd => by simp at hd⟩
  ·rcases l6F n l (i + 1) with ⟨h1, h2⟩ | ⟨j, e, h1, h2, h3, h4⟩
   ·refine .inl ⟨by simp [hx, h1], fun e he => ?_⟩
    rcases List.mem_cons.1 he with rfl | he
    ·exact hx
    ·exact h2 e he
   ·refine .inr ⟨j + 1, e, by simp only [hx, decide_false, cond_false, h1]; congr 2; omega, by simpa using h2, h3, fun d hd => ?_⟩
    rw [List.take_succ_cons] at hd
    rcases List.mem_cons.1 hd with rfl | hd
    ·exact hx
    ·exact h4 d hd
theorem l6Fd (n : Name) (l : List TableEntry) : (a0c l n = -1 ∧ ∀ e ∈ l, e.name.parts ≠ n.parts) ∨ ∃ j e, a0c l n = ((j : Nat) : Int) ∧ l[j]? = some e ∧ e.name.parts = n.parts ∧ ∀ d ∈ l.take j, d.name.parts ≠ n.parts := by
 unfold a0c
 rcases l6F n l 0 with ⟨h1, h2⟩ | ⟨j, e, h1, h2⟩
 ·rw [h1]; exact .inl ⟨rfl, h2⟩
 ·rw [h1]; exact .inr ⟨j, e, by simp, h2⟩
theorem seqOf (v : StateVector) (n : Name) : a0b v n = sq v.entries n.parts := by
 unfold a0b a2s
 rcases l6Fd n v.entries with ⟨h1, h2⟩ | ⟨j, e, h1, h2, h3, h4⟩
 ·rw [h1, sq_none h2]; rfl
 ·rw [h1, sq_at h2 h3 h4]
  have : decide (((j : Nat) : Int) < 0) = false := by simp
  simp only [this, cond_false, Int.toNat_natCast, h2]
def Srt (l : List TableEntry) : Prop := (l.map (fun e => e.name.parts)).Pairwise (fun a b => kc a b < 0)
theorem Srt.cons {e : TableEntry} {l : List TableEntry} : Srt (e :: l) ↔ (∀ d ∈ l, kc e.name.parts d.name.parts < 0) ∧ Srt l := by
 unfold Srt
 rw [List.map_cons, List.pairwise_cons]
 constructor
 ·exact fun h => ⟨fun d hd => h.1 _ (List.mem_map_of_mem hd), h.2⟩
 ·refine fun h => ⟨fun k hk => ?_, h.2⟩
  obtain ⟨d, hd, rfl⟩ := List.mem_map.1 hk
  exact h.1 d hd
theorem vtL : ∀ (r p : List TableEntry), (∀ e ∈ r, a0z e.name = true) → Srt (p ++ r) → a1t (p ++ r) r p.length = none
 | [], p, _, _ => rfl
 | e :: r, p, hv, hs => by
  have ih := vtL r (p ++ [e]) (fun d hd => hv d (List.mem_cons_of_mem _ hd)) (by rw [mid_app]; exact hs)
  rw [mid_app, mid_len] at ih
  have h1 : (!(a0z e.name)) = false := by rw [hv e List.mem_cons_self]; rfl
  simp only [a1t, h1, cond_false, ih]
  rcases List.eq_nil_or_concat p with rfl | ⟨q, d, rfl⟩
  ·rfl
  ·have h2 : decide ((((q.concat d).length : Nat) : Int) > 0) = true := by first | (simp; done) | (simp; omega)
   have h3 : (q.concat d ++ e :: r)[((((q.concat d).length : Nat) : Int) - 1).toNat]? = some d := by
    rw [show ((((q.concat d).length : Nat) : Int) - 1).toNat = q.length by simp, List.concat_eq_append, List.append_assoc]
    exact mid q d _
   have h4 : kc d.name.parts e.name.parts < 0 := by
    unfold Srt at hs
    rw [List.map_append, List.pairwise_append] at hs
    exact hs.2.2 _ (List.mem_map_of_mem (show d ∈ q.concat d by simp)) _ (List.mem_map_of_mem List.mem_cons_self)
   have h5 : decide (a0v d.name e.name ≥ 0) = false := by
    rw [cmpN]
    exact decide_eq_false (by omega)
   simp only [h2, cond_true, h3, h5, cond_false]
theorem vt_of {l : List TableEntry} (hv : ∀ e ∈ l, a0z e.name = true) (hs : Srt l) (hl : l.length ≤ 20) : a1u l = true := by
 unfold a1u
 have h := vtL l [] hv hs
 simp only [List.nil_append, List.length_nil] at h
 rw [h]
 exact decide_eq_true (by omega)
def insT (x : TableEntry) : List TableEntry → List TableEntry
 | [] => [x]
 | e :: l => if kc e.name.parts x.name.parts < 0 then e :: insT x l else x :: e :: l
theorem mem_insT {x d : TableEntry} : ∀ {l : List TableEntry}, d ∈ insT x l → d = x ∨ d ∈ l
 | [], h => .inl (List.mem_singleton.1 h)
 | e :: l, h => by
  rw [insT] at h
  split at h
  ·rcases List.mem_cons.1 h with rfl | h
   ·exact .inr List.mem_cons_self
   ·exact (mem_insT h).imp id (List.mem_cons_of_mem _)
  ·exact (List.mem_cons.1 h)
theorem insT_idx (x : TableEntry) : ∀ l : List TableEntry, l.take (l.findIdx (fun e => !decide (a0v e.name x.name < 0))) ++ [x] ++ l.drop (l.findIdx (fun e => !decide (a0v e.name x.name < 0))) = insT x l
 | [] => rfl
 | e :: l => by
  rw [List.findIdx_cons, insT, cmpN]
  by_cases h : kc e.name.parts x.name.parts < 0
  ·simp only [h, decide_true, Bool.not_true, cond_false, if_true, List.take_succ_cons, List.drop_succ_cons, List.cons_append]
   rw [insT_idx x l]
  ·simp only [h, decide_false, Bool.not_false, cond_true, if_false, List.take_zero, List.drop_zero, List.nil_append, List.cons_append]
theorem insT_srt (x : TableEntry) : ∀ {l : List TableEntry}, Srt l → (∀ e ∈ l, e.name.parts ≠ x.name.parts) → Srt (insT x l)
 | [], _, _ => Srt.cons.2 ⟨fun d h => (by cases h), List.Pairwise.nil⟩
 | e :: l, hs, hn => by
  obtain ⟨h1, h2⟩ := Srt.cons.1 hs
  rw [insT]
  split
  ·rename_i h
   refine Srt.cons.2 ⟨fun d hd => ?_, insT_srt x h2 (fun d hd => hn d (List.mem_cons_of_mem _ hd))⟩
   rcases mem_insT hd with rfl | hd
   ·exact h
   ·exact h1 d hd
  ·rename_i h
   have h0 : kc x.name.parts e.name.parts < 0 := by
    have := kc_anti e.name.parts x.name.parts
    have h3 : kc e.name.parts x.name.parts ≠ 0 := fun hz => hn e List.mem_cons_self (kc_zero hz)
    omega
   refine Srt.cons.2 ⟨fun d hd => ?_, hs⟩
   rcases List.mem_cons.1 hd with rfl | hd
   ·exact h0
   ·exact kc_trans h0 (h1 d hd)
theorem insT_sq (x : TableEntry) (k : List Str) : ∀ {l : List TableEntry}, (∀ e ∈ l, e.name.parts ≠ x.name.parts) → sq (insT x l) k = if x.name.parts = k then x.value else sq l k
 | [], _ => rfl
 | e :: l, hn => by
  rw [insT]
  split
  ·rw [sq, insT_sq x k (fun d hd => hn d (List.mem_cons_of_mem _ hd)), sq]
   by_cases h1 : e.name.parts = k
   ·rw [if_pos h1, if_pos h1, if_neg (fun h2 => hn e List.mem_cons_self (h1.trans h2.symm))]
   ·rw [if_neg h1, if_neg h1]
  ·rw [sq]
theorem insT_len (x : TableEntry) : ∀ l : List TableEntry, (insT x l).length = l.length + 1
 | [] => rfl
 | e :: l => by
  rw [insT]
  split
  ·rw [List.length_cons, insT_len x l, List.length_cons]
  ·rfl
theorem set_names {l : List TableEntry} {j : Nat} {e : TableEntry} (v : Int) (h : l[j]? = some e) : (l.set j ⟨e.name, v⟩).map (fun e => e.name.parts) = l.map (fun e => e.name.parts) := by
 apply List.ext_getElem?
 intro i
 rw [List.getElem?_map, List.getElem?_map, List.getElem?_set]
 by_cases hij : j = i
 ·subst hij
  obtain ⟨hlt, h9⟩ := List.getElem?_eq_some_iff.1 h
  simp [hlt, h9]
 ·simp [hij]
theorem set_sq (v : Int) (k : List Str) : ∀ {l : List TableEntry} {j : Nat} {e : TableEntry}, l[j]? = some e → (∀ d ∈ l.take j, d.name.parts ≠ e.name.parts) → sq (l.set j ⟨e.name, v⟩) k = if e.name.parts = k then v else sq l k
 | d :: l, 0, e, h, _ => by
  simp at h; subst h
  rw [List.set_cons_zero, sq, sq]
  by_cases h1 : d.name.parts = k
  ·rw [if_pos h1, if_pos h1]
  ·rw [if_neg h1, if_neg h1, if_neg h1]
 | d :: l, j + 1, e, h, hn => by
  rw [List.set_cons_succ, sq, set_sq v k (l := l) (j := j) (by simpa using h) (fun x hx => hn x (by rw [List.take_succ_cons]; exact List.mem_cons_of_mem _ hx)), sq]
  by_cases h1 : d.name.parts = k
  ·rw [if_pos h1, if_pos h1, if_neg (fun h2 => hn d (by rw [List.take_succ_cons]; exact List.mem_cons_self) (h1.trans h2.symm))]
  ·rw [if_neg h1, if_neg h1]
def Gd (m : Nat) (l : List TableEntry) : Prop := (∀ e ∈ l, a0z e.name = true ∧ 1 ≤ e.value ∧ e.value ≤ 1000) ∧ Srt l ∧ l.length ≤ m
theorem Gd.nil : Gd 0 [] := ⟨fun e h => (by cases h), List.Pairwise.nil, Nat.le_refl _⟩
theorem Gd.mono {m n : Nat} {l : List TableEntry} (h : Gd m l) (hmn : m ≤ n) : Gd n l := ⟨h.1, h.2.1, Nat.le_trans h.2.2 hmn⟩
theorem Gd.vt {m : Nat} {l : List TableEntry} (h : Gd m l) (hm : m ≤ 20) : a1u l = true := vt_of (fun e he => (h.1 e he).1) h.2.1 (Nat.le_trans h.2.2 hm)
theorem put_gd {m : Nat} {l : List TableEntry} (h : Gd m l) (hm : m + 1 ≤ 20) (n : Name) (v : Int) (hn : a0z n = true) (hv : 1 ≤ v ∧ v ≤ 1000) :
  Gd (m + 1) (a03 l n v).1 ∧ ∀ k, sq (a03 l n v).1 k = if n.parts = k then v else sq l k := by
 unfold a03
 rw [cT_spec]
 rcases l6Fd n l with ⟨h1, h2⟩ | ⟨j, e, h1, h2, h3, h4⟩
 ·have hd : decide (a0c l n ≥ 0) = false := by rw [h1]; rfl
  have hc : a02 n = n := rfl
  have hi := spL1 l n l.length 0 rfl (Nat.zero_le _)
  rw [Nat.zero_add, List.drop_zero] at hi
  rw [hd, hi, hc]
  simp only [cond_false]
  rw [insT_idx ⟨n, v⟩ l]
  have hg : Gd (m + 1) (insT ⟨n, v⟩ l) := ⟨fun e he => by
   rcases mem_insT he with rfl | he
   ·exact ⟨hn, hv⟩
   ·exact h.1 e he, insT_srt _ h.2.1 h2, by rw [insT_len]; have := h.2.2; omega⟩
  rw [hg.vt hm]
  simp only [Bool.not_true, cond_false]
  exact ⟨hg, fun k => insT_sq _ k h2⟩
 ·have hd : decide (a0c l n ≥ 0) = true := by rw [h1]; simp
  rw [hd, h1]
  simp only [cond_true, Int.toNat_natCast, h2]
  have hg : Gd (m + 1) (l.set j ⟨e.name, v⟩) := ⟨fun d hd => by
   rcases List.mem_or_eq_of_mem_set hd with hd | rfl
   ·exact h.1 d hd
   ·exact ⟨(h.1 e (List.mem_of_getElem? h2)).1, hv⟩, by unfold Srt; rw [set_names v h2]; exact h.2.1, by rw [List.length_set]; have := h.2.2; omega⟩
  rw [hg.vt hm]
  simp only [Bool.not_true, cond_false]
  exact ⟨hg, fun k => by rw [set_sq v k h2 (fun d hd => by rw [h3]; exact h4 d hd), h3]⟩
theorem sq_nn {m : Nat} {l : List TableEntry} (h : Gd m l) (k : List Str) : 0 ≤ sq l k := by
 have h1 := h.1
 clear h
 induction l with
 | nil => exact Int.le_refl _
 | cons e l ih =>
  rw [sq]
  split
  ·have := (h1 e List.mem_cons_self).2.1; omega
  ·exact ih (fun d hd => h1 d (List.mem_cons_of_mem _ hd))
theorem sq_mem {m : Nat} {l : List TableEntry} (h : Gd m l) {e : TableEntry} (he : e ∈ l) : sq l e.name.parts = e.value := by
 have h2 := h.2.1
 clear h
 induction l with
 | nil => cases he
 | cons d l ih =>
  obtain ⟨h3, h4⟩ := Srt.cons.1 h2
  rw [sq]
  rcases List.mem_cons.1 he with rfl | he
  ·rw [if_pos rfl]
  ·rw [if_neg (fun e0 => kc_irr (by have := h3 e he; rw [e0] at this; exact this)), ih he h4]
theorem Gd.tail {m : Nat} {e : TableEntry} {l : List TableEntry} (h : Gd m (e :: l)) : Gd m l := ⟨fun d hd => h.1 d (List.mem_cons_of_mem _ hd), (Srt.cons.1 h.2.1).2, by have := h.2.2; rw [List.length_cons] at this; omega⟩
theorem sq_out {m : Nat} {e : TableEntry} {l : List TableEntry} (h : Gd m (e :: l)) {k : List Str} (hk : k = e.name.parts ∨ kc k e.name.parts < 0) : sq l k = 0 := by
 refine sq_none fun d hd e0 => ?_
 have h1 := (Srt.cons.1 h.2.1).1 d hd
 rw [e0] at h1
 rcases hk with rfl | hk
 ·exact kc_irr h1
 ·exact kc_irr (kc_trans hk h1)
theorem gd_ext : ∀ {m n : Nat} {l l' : List TableEntry}, Gd m l → Gd n l' → (∀ k, sq l k = sq l' k) → l = l'
 | m, n, [], [], _, _, _ => rfl
 | m, n, [], e :: l', _, h, he => by
  have h1 := he e.name.parts
  rw [sq_mem h List.mem_cons_self] at h1
  have := (h.1 e List.mem_cons_self).2.1
  have h2 : sq [] e.name.parts = 0 := rfl
  omega
 | m, n, e :: l, [], h, _, he => by
  have h1 := he e.name.parts
  rw [sq_mem h List.mem_cons_self] at h1
  have := (h.1 e List.mem_cons_self).2.1
  have h2 : sq [] e.name.parts = 0 := rfl
  omega
 | m, n, e :: l, e' :: l', h, h', he => by
  have p1 := (h.1 e List.mem_cons_self).2.1
  have p2 := (h'.1 e' List.mem_cons_self).2.1
  have k1 := he e.name.parts
  have k2 := he e'.name.parts
  rw [sq_mem h List.mem_cons_self] at k1
  rw [sq_mem h' List.mem_cons_self] at k2
  by_cases hk : e.name.parts = e'.name.parts
  ·have hv : e.value = e'.value := by rw [k1, hk, sq_mem h' List.mem_cons_self]
   have hee : e = e' := by
    cases e with
    | mk ne ve =>
     cases e' with
     | mk ne' ve' =>
      cases ne
      cases ne'
      simp only at hk hv
      subst hk
      subst hv
      rfl
   subst hee
   rw [gd_ext h.tail h'.tail (fun k => by
    by_cases h0 : k = e.name.parts
    ·rw [sq_out h (.inl h0), sq_out h' (.inl h0)]
    ·have := he k
     rw [sq, sq, if_neg (fun z => h0 z.symm), if_neg (fun z => h0 z.symm)] at this
     exact this)]
  ·exfalso
   by_cases hlt : kc e.name.parts e'.name.parts < 0
   ·rw [sq, if_neg (fun z => hk z.symm), sq_out h' (.inr hlt)] at k1
    omega
   ·have hgt : kc e'.name.parts e.name.parts < 0 := by
     have a1 := kc_anti e.name.parts e'.name.parts
     have a2 : kc e.name.parts e'.name.parts ≠ 0 := fun z => hk (kc_zero z)
     omega
    rw [sq, if_neg hk, sq_out h (.inr hgt)] at k2
    omega
def mx : List TableEntry → List Str → Int
 | [], _ => 0
 | e :: l, k => max (if e.name.parts = k then e.value else 0) (mx l k)
theorem mx_sq {m : Nat} : ∀ {l : List TableEntry}, Gd m l → ∀ k, mx l k = sq l k
 | [], _, k => rfl
 | e :: l, h, k => by
  rw [mx, mx_sq h.tail k, sq]
  have h0 := sq_nn h.tail k
  have h1 := (h.1 e List.mem_cons_self).2.1
  by_cases hk : e.name.parts = k
  ·rw [if_pos hk, if_pos hk, sq_out h (.inl hk.symm)]; omega
  ·rw [if_neg hk, if_neg hk]; omega
theorem ntL2 (a : StateVector) (e : TableEntry) : ∀ (m : Nat) (o : List TableEntry) (k : Int), 20 - o.length = m → o.length ≤ (a18 a e o k).1.length
 | m, o, k, hm => by
  rw [a18]
  split
  ·split
   ·have := ntL2 a e (m - 1) (o ++ [TableEntry.mk (a02 e.name) (IntKind.i64.wrap (k + 1))]) (IntKind.i64.wrap (k + 1)) (by simp; omega)
    rw [List.length_append] at this
    omega
   ·exact Nat.le_refl _
  ·exact Nat.le_refl _
termination_by m => m
decreasing_by omega
theorem ntL1 (a b : StateVector) : ∀ (l o : List TableEntry), o.length ≤ (a1d a b l o).length
 | [], o => Nat.le_refl _
 | e :: l, o => by
  simp only [a1d]
  have h1 := ntL2 a e _ o (a0b b e.name) rfl
  exact Nat.le_trans h1 (ntL1 a b l _)
theorem ntZ (a b : StateVector) : ∀ l : List TableEntry, (a1d a b l [] = [] ∧ ∀ e ∈ l, sq a.entries e.name.parts ≤ sq b.entries e.name.parts) ∨ (0 < (a1d a b l []).length ∧ ∃ e ∈ l, ¬ sq a.entries e.name.parts ≤ sq b.entries e.name.parts)
 | [] => .inl ⟨rfl, fun e h => by cases h⟩
 | e :: l => by
  simp only [a1d]
  by_cases h : a0b b e.name < a0b a e.name
  ·refine .inr ⟨?_, e, List.mem_cons_self, by rw [← seqOf, ← seqOf]; omega⟩
   refine Nat.lt_of_lt_of_le ?_ (ntL1 a b l _)
   rw [a18, if_pos h, if_pos (by simp)]
   refine Nat.lt_of_lt_of_le ?_ (ntL2 a e _ _ _ rfl)
   simp
  ·have h0 : a18 a e [] (a0b b e.name) = ([], a0b b e.name) := by rw [a18, if_neg h]
   rw [h0]
   rcases ntZ a b l with ⟨h1, h2⟩ | ⟨h1, d, hd, h2⟩
   ·refine .inl ⟨h1, fun d hd => ?_⟩
    rcases List.mem_cons.1 hd with rfl | hd
    ·rw [← seqOf, ← seqOf]; omega
    ·exact h2 d hd
   ·exact .inr ⟨h1, d, List.mem_cons_of_mem _ hd, h2⟩
theorem sTL (b : List Str) : ∀ (r : List Str) (i : Nat), a2p b r i = slices_Equal_string_L1 b r i
 | [], i => rfl
 | x :: r, i => by
  simp only [a2p, slices_Equal_string_L1, sTL b r]
  rfl
theorem map_TL : ∀ {a b : List Str}, a.map (fun z : Str => z.toList) = b.map (fun z : Str => z.toList) → a = b
 | [], [], _ => rfl
 | [], _ :: _, h => by simp at h
 | _ :: _, [], h => by simp at h
 | x :: a, y :: b, h => by
  simp only [List.map_cons, List.cons.injEq] at h
  rw [str_ext h.1, map_TL h.2]
open Classical in
theorem sameName_eq (a b : Name) : a3h a b = decide (a = b) := by
 have h : a35 a.parts b.parts = slices_Equal_string a.parts b.parts := by
  unfold a35 slices_Equal_string
  rw [sTL]
  rfl
 unfold a3h
 rw [h, sEq_string]
 by_cases e : a = b
 ·simp [e]
 ·have : ¬ (a.parts.map (fun z : Str => z.toList) = b.parts.map (fun z : Str => z.toList)) := fun hm => e (by cases a; cases b; rw [Name.mk.injEq]; exact map_TL hm)
  simp [this, e]
open Classical in
theorem sRL : ∀ (a b p : List TableEntry), a.length = b.length → a26 (p ++ b) a p.length = (if a = b then none else some false)
 | [], [], p, _ => by simp [a26]
 | x :: a, y :: b, p, h => by
  have ih := sRL a b (p ++ [y]) (by simpa using h)
  rw [mid_app, mid_len] at ih
  simp only [a26, mid, sameName_eq]
  by_cases hv : x.value = y.value
  ·by_cases hn : x.name = y.name
   ·have : x = y := by cases x; cases y; simp only at hv hn; rw [hv, hn]
    simp [this, ih]
   ·have : ¬ x = y := fun e => hn (by rw [e])
    simp [hv, hn, this]
  ·have : ¬ x = y := fun e => hv (by rw [e])
   have h2 : (x.value != y.value) = true := by simpa using hv
   simp [h2, this]
open Classical in
theorem sameRows_eq (a b : List TableEntry) : a2b a b = decide (a = b) := by
 unfold a2b
 by_cases hl : a.length = b.length
 ·have h := sRL a b [] hl
  simp only [List.nil_append, List.length_nil] at h
  simp only [hl, bne_self_F, cond_false, h]
  split <;> simp_all
 ·have hne : a ≠ b := fun h => hl (by rw [h])
  have hn : ((a.length : Int) != (b.length : Int)) = true := by simp; omega
  simp [hn, hne]
theorem sBL : ∀ (a b p : List UInt8), a.length = b.length → a2f (p ++ b) a p.length = (if a = b then none else some false)
 | [], [], p, _ => by simp [a2f]
 | x :: a, y :: b, p, h => by
  have ih := sBL a b (p ++ [y]) (by simpa using h)
  rw [mid_app, mid_len] at ih
  simp only [a2f, mid]
  by_cases hxy : x = y
  ·simp [hxy, ih]
  ·have hn : ((x.toNat : Int) != (y.toNat : Int)) = true := by
    have : x.toNat ≠ y.toNat := fun h => hxy (UInt8.toNat_inj.mp h)
    simp; omega
   simp [hn, hxy]
theorem same_eq (a b : List UInt8) : a2q a b = decide (a = b) := by
 unfold a2q
 by_cases hl : a.length = b.length
 ·have h := sBL a b [] hl
  simp only [List.nil_append, List.length_nil] at h
  simp only [hl, bne_self_F, cond_false, h]
  split <;> simp_all
 ·have hne : a ≠ b := fun h => hl (by rw [h])
  have hn : ((a.length : Int) != (b.length : Int)) = true := by simp; omega
  simp [hn, hne]
theorem l4Of_vn (s : Str) : a0z (a01 s) = true := by
 have h0 : a0z (Name.mk []) = true := rfl
 unfold a01 a20
 cases ((s).toList == ((⟨#[47]⟩ : Str)).toList)
 ·simp only [cond_false]
  cases decide (((((a12 s (47 : UInt8))).length : Nat) : Int) < 2)
  ·simp only [cond_false]
   cases ((a12 s (47 : UInt8)))[0]? with
   | none => exact h0
   | some e1 =>
    dsimp only
    cases (!((e1).toList == ((⟨#[]⟩ : Str)).toList))
    ·simp only [cond_false]
     cases hv : a0z (Name.mk (List.drop 1 (a12 s (47 : UInt8))))
     ·exact h0
     ·exact hv
    ·exact h0
  ·exact h0
 ·exact h0
theorem vvL : ∀ l : List TableEntry, (∀ e ∈ l, 1 ≤ e.value ∧ e.value ≤ 1000) → a29 l = none
 | [], _ => rfl
 | e :: l, h => by
  obtain ⟨h1, h2⟩ := h e List.mem_cons_self
  have : a1c e.value 1 1000 = true := by
   unfold a1c
   rw [show decide (e.value ≥ 1) = true from decide_eq_true h1]
   exact decide_eq_true h2
  simp only [a29, this, Bool.not_true, cond_false]
  exact vvL l (fun d hd => h d (List.mem_cons_of_mem _ hd))
theorem vv_of {m : Nat} {v : StateVector} (h : Gd m v.entries) (hm : m ≤ 20) : a38 v = true := by
 unfold a38
 rw [vvL _ (fun e he => (h.1 e he).2)]
 exact h.vt hm
end Go.Stp

namespace Go.Stp
set_option linter.unusedVariables false
set_option linter.unusedSimpArgs false
theorem l4two (x : UInt8) (hx : ¬ ((x.toNat : Int) = ((47 : UInt8).toNat : Int))) : a12 (⟨#[47, x]⟩ : Str) 47 = [⟨#[]⟩, ⟨#[x]⟩] := by
 have hs : (⟨#[47, x]⟩ : Str).size = 2 := rfl
 have g0 : ((⟨#[47, x]⟩ : Str).data.toList)[0]? = some 47 := rfl
 have g1 : ((⟨#[47, x]⟩ : Str).data.toList)[1]? = some x := rfl
 unfold a12
 rw [a1i, if_pos (by rw [hs]; decide), if_neg (by rw [hs]; decide), g0]
 dsimp only
 rw [if_pos (by decide), a1i, if_pos (by rw [hs]; decide), if_neg (by rw [hs]; decide), g1]
 dsimp only
 rw [if_neg (by simpa using hx), a1i, if_pos (by rw [hs]; decide), if_pos (by rw [hs]; decide), a1i, if_neg (by rw [hs]; decide)]
 rfl
def KA : List Str := [⟨#[97]⟩]
def KB : List Str := [⟨#[98]⟩]
def KC : List Str := [⟨#[99]⟩]
theorem kab : KA ≠ KB := by decide
theorem kac : KA ≠ KC := by decide
theorem kbc : KB ≠ KC := by decide
theorem l4x (x : UInt8) (hx : ¬ ((x.toNat : Int) = ((47 : UInt8).toNat : Int))) (hv : a0z (Name.mk [⟨#[x]⟩]) = true) : (a01 (⟨#[47, x]⟩ : Str)).parts = [⟨#[x]⟩] := by
 unfold a01 a20
 have h1 : ((⟨#[47, x]⟩ : Str).toList == (⟨#[47]⟩ : Str).toList) = false := by
  rw [ByteArray.toList_mk, ByteArray.toList_mk]; simp
 have h2 : ((⟨#[]⟩ : Str).toList == (⟨#[]⟩ : Str).toList) = true := beq_self_eq_true _
 have hd : List.drop 1 [(⟨#[]⟩ : Str), ⟨#[x]⟩] = [⟨#[x]⟩] := rfl
 have hl : decide ((([(⟨#[]⟩ : Str), ⟨#[x]⟩].length : Nat) : Int) < 2) = false := rfl
 have hg : ([(⟨#[]⟩ : Str), ⟨#[x]⟩])[0]? = some ⟨#[]⟩ := rfl
 simp only [h1, cond_false, l4two x hx, hl, hg, h2, Bool.not_true, hd, hv]
def inK (k : List Str) : Prop := k = KA ∨ k = KB ∨ k = KC
def vs : List TableEntry → Int
 | [] => 0
 | e :: l => e.value + vs l
theorem vs3 : ∀ {l : List TableEntry}, Srt l → (∀ e ∈ l, inK e.name.parts) → vs l = sq l KA + sq l KB + sq l KC
 | [], _, _ => rfl
 | e :: l, hs, hk => by
  obtain ⟨h1, h2⟩ := Srt.cons.1 hs
  have ih := vs3 h2 (fun d hd => hk d (List.mem_cons_of_mem _ hd))
  have h0 : sq l e.name.parts = 0 := sq_none (fun d hd e0 => kc_irr (by have := h1 d hd; rw [e0] at this; exact this))
  rw [vs, sq, sq, sq]
  rcases hk e List.mem_cons_self with h | h | h <;> rw [h] at h0 ⊢
  ·rw [if_pos rfl, if_neg kab, if_neg kac]; omega
  ·rw [if_neg (fun e => kab e.symm), if_pos rfl, if_neg kbc]; omega
  ·rw [if_neg (fun e => kac e.symm), if_neg (fun e => kbc e.symm), if_pos rfl]; omega
theorem sq_one (k : List Str) : ∀ l : List TableEntry, sq (l.map (fun e => ⟨e.name, 1⟩)) k ≤ 1
 | [] => by show (0 : Int) ≤ 1; decide
 | e :: l => by
  rw [List.map_cons, sq]
  split
  ·exact Int.le_refl _
  ·exact sq_one k l
theorem vs_one : ∀ l : List TableEntry, vs (l.map (fun e => ⟨e.name, 1⟩)) = l.length
 | [] => rfl
 | e :: l => by rw [List.map_cons, vs, vs_one l, List.length_cons]; show (1 : Int) + _ = _; omega
theorem len3 {l : List TableEntry} (hs : Srt l) (hk : ∀ e ∈ l, inK e.name.parts) : l.length ≤ 3 := by
 have h1 : Srt (l.map (fun e => (⟨e.name, 1⟩ : TableEntry))) := by
  unfold Srt
  rw [List.map_map]
  exact hs
 have h2 := vs3 h1 (fun e he => by
  obtain ⟨d, hd, rfl⟩ := List.mem_map.1 he
  exact hk d hd)
 rw [vs_one] at h2
 have a1 := sq_one KA l
 have a2 := sq_one KB l
 have a3 := sq_one KC l
 omega
theorem put_ok {m : Nat} {l : List TableEntry} (h : Gd m l) (hm : m + 1 ≤ 20) (n : Name) (v : Int) (hn : a0z n = true) (hv : 1 ≤ v ∧ v ≤ 1000) : (a03 l n v).2 = true := by
 unfold a03
 rw [cT_spec]
 rcases l6Fd n l with ⟨h1, h2⟩ | ⟨j, e, h1, h2, h3, h4⟩
 ·have hd : decide (a0c l n ≥ 0) = false := by rw [h1]; rfl
  have hc : a02 n = n := rfl
  have hi := spL1 l n l.length 0 rfl (Nat.zero_le _)
  rw [Nat.zero_add, List.drop_zero] at hi
  rw [hd, hi, hc]
  simp only [cond_false]
  rw [insT_idx ⟨n, v⟩ l]
  have hg : Gd (m + 1) (insT ⟨n, v⟩ l) := ⟨fun e he => by
   rcases mem_insT he with rfl | he
   ·exact ⟨hn, hv⟩
   ·exact h.1 e he, insT_srt _ h.2.1 h2, by rw [insT_len]; have := h.2.2; omega⟩
  rw [hg.vt hm]
  rfl
 ·have hd : decide (a0c l n ≥ 0) = true := by rw [h1]; simp
  rw [hd, h1]
  simp only [cond_true, Int.toNat_natCast, h2]
  have hg : Gd (m + 1) (l.set j ⟨e.name, v⟩) := ⟨fun d hd => by
   rcases List.mem_or_eq_of_mem_set hd with hd | rfl
   ·exact h.1 d hd
   ·exact ⟨(h.1 e (List.mem_of_getElem? h2)).1, hv⟩, by unfold Srt; rw [set_names v h2]; exact h.2.1, by rw [List.length_set]; have := h.2.2; omega⟩
  rw [hg.vt hm]
  rfl
theorem put_nm {P : Name → Prop} (l : List TableEntry) (n : Name) (v : Int) (hl : ∀ e ∈ l, P e.name) (hn : P n) : ∀ e ∈ (a03 l n v).1, P e.name := by
 have h := put_spec l n v
 revert h
 generalize (a03 l n v).1 = r
 intro h
 cases h with
 | same => exact hl
 | nil => exact fun e he => by cases he
 | set i e h =>
  intro d hd
  rcases List.mem_or_eq_of_mem_set hd with hd | rfl
  ·exact hl d hd
  ·exact hl e (List.mem_of_getElem? h)
 | ins i =>
  intro d hd
  rcases List.mem_append.1 hd with hd | hd
  ·rcases List.mem_append.1 hd with hd | hd
   ·exact hl d (List.mem_of_mem_take hd)
   ·obtain rfl := List.mem_singleton.1 hd
    exact hn
  ·exact hl d (List.mem_of_mem_drop hd)
theorem sq_app (k : List Str) (y : List TableEntry) : ∀ {x : List TableEntry}, (∀ e ∈ x, e.name.parts ≠ k) → sq (x ++ y) k = sq y k
 | [], _ => rfl
 | e :: x, h => by rw [List.cons_append, sq, if_neg (h e List.mem_cons_self), sq_app k y (fun d hd => h d (List.mem_cons_of_mem _ hd))]
theorem put_see (l : List TableEntry) (n : Name) (v : Int) (h : (a03 l n v).2 = true) : sq (a03 l n v).1 n.parts = v := by
 revert h
 unfold a03
 rw [cT_spec]
 rcases l6Fd n l with ⟨h1, h2⟩ | ⟨j, e, h1, h2, h3, h4⟩
 ·have hd : decide (a0c l n ≥ 0) = false := by rw [h1]; rfl
  have hc : a02 n = n := rfl
  rw [hd, hc]
  simp only [cond_false]
  generalize a2a l n 0 = i
  cases (!(a1u (List.take i l ++ [TableEntry.mk n v] ++ List.drop i l)))
  ·intro _
   simp only [cond_false]
   rw [List.append_assoc, sq_app _ _ (fun d hd => h2 d (List.mem_of_mem_take hd)), List.cons_append, sq, if_pos rfl]
  ·exact fun h => by cases h
 ·have hd : decide (a0c l n ≥ 0) = true := by rw [h1]; simp
  rw [hd, h1]
  simp only [cond_true, Int.toNat_natCast, h2]
  cases (!(a1u (l.set j (TableEntry.mk e.name v))))
  ·intro _
   simp only [cond_false]
   rw [set_sq v n.parts h2 (fun d hd => by rw [h3]; exact h4 d hd), if_pos h3]
  ·exact fun h => by cases h
def isP (k : List Str) (s : Int) (p : Publication) : Prop := p.seq = s ∧ p.publisher.parts = k
theorem pF (n : Name) (s : Int) : ∀ (l : List Publication) (i : Nat), (a13 n s l i = none ∧ ∀ e ∈ l, ¬ isP n.parts s e) ∨ ∃ j e, a13 n s l i = some ((i + j : Nat) : Int) ∧ l[j]? = some e ∧ isP n.parts s e
 | [], i => .inl ⟨rfl, fun e h => by cases h⟩
 | x :: l, i => by
  have nx (hx : ¬ isP n.parts s x) (he : a13 n s (x :: l) i = a13 n s l (i + 1)) : (a13 n s (x :: l) i = none ∧ ∀ e ∈ x :: l, ¬ isP n.parts s e) ∨ ∃ j e, a13 n s (x :: l) i = some ((i + j : Nat) : Int) ∧ (x :: l)[j]? = some e ∧ isP n.parts s e := by
   rcases pF n s l (i + 1) with ⟨h1, h2⟩ | ⟨j, e, h1, h2, h3⟩
   ·refine .inl ⟨by rw [he, h1], fun e he => ?_⟩
    rcases List.mem_cons.1 he with rfl | he
    ·exact hx
    ·exact h2 e he
   ·exact .inr ⟨j + 1, e, by rw [he, h1]; congr 2; omega, by simpa using h2, h3⟩
  by_cases h1 : x.seq = s
  ·by_cases h2 : x.publisher.parts = n.parts
   ·exact .inr ⟨0, x, by simp only [a13, eqN, h1, h2, beq_self_eq_true, decide_true, cond_true]; rfl, rfl, h1, h2⟩
   ·exact nx (fun h => h2 h.2) (by simp only [a13, eqN, h2, decide_false, cond_false, Bool.cond_self])
  ·exact nx (fun h => h1 h.1) (by
    have : (x.seq == s) = false := by simpa using h1
    simp only [a13, this, cond_false])
theorem pFd (n : Name) (s : Int) (l : List Publication) : (a14 l n s = -1 ∧ ∀ e ∈ l, ¬ isP n.parts s e) ∨ ∃ j e, a14 l n s = ((j : Nat) : Int) ∧ l[j]? = some e ∧ isP n.parts s e := by
 unfold a14
 rcases pF n s l 0 with ⟨h1, h2⟩ | ⟨j, e, h1, h2⟩
 ·rw [h1]; exact .inl ⟨rfl, h2⟩
 ·rw [h1]; exact .inr ⟨j, e, by simp, h2⟩
theorem pFm (m : Member) (n : Name) (s : Int) : (a0g m n s = ([], false) ∧ ∀ e ∈ m.publications, ¬ isP n.parts s e) ∨ ∃ e ∈ m.publications, a0g m n s = (e.content, true) ∧ isP n.parts s e := by
 unfold a0g
 rcases pFd n s m.publications with ⟨h1, h2⟩ | ⟨j, e, h1, h2, h3⟩
 ·rw [h1]; exact .inl ⟨rfl, h2⟩
 ·have : decide (((j : Nat) : Int) < 0) = false := by simp
  rw [h1, this]
  simp only [cond_false, Int.toNat_natCast, h2]
  exact .inr ⟨e, List.mem_of_getElem? h2, rfl, h3⟩
structure GM (h : List Str → Int) (hc : List Str → Int → List UInt8) (m : Member) : Prop where
 gd : Gd 20 m.vector.entries
 ks : ∀ e ∈ m.vector.entries, inK e.name.parts
 le : ∀ k, sq m.vector.entries k ≤ h k
 vn : a0z m.name = true
 ik : inK m.name.parts
 ps : ∀ p ∈ m.publications, 1 ≤ p.seq ∧ p.seq ≤ sq m.vector.entries p.publisher.parts ∧ p.content.length ≤ 60 ∧ p.content = hc p.publisher.parts p.seq
 nd : m.publications.Pairwise (fun p q => ¬ isP q.publisher.parts q.seq p)
 cp : ∀ k s, 1 ≤ s → s ≤ sq m.vector.entries k → ∃ p ∈ m.publications, isP k s p
 su : vs m.vector.entries = m.publications.length
def Tot (h : List Str → Int) : Prop := h KA + h KB + h KC ≤ 11
theorem GM.nn {h : List Str → Int} {hc} {m : Member} (g : GM h hc m) (k : List Str) : 0 ≤ sq m.vector.entries k ∧ sq m.vector.entries k ≤ h k := ⟨sq_nn g.gd k, g.le k⟩
theorem GM.g3 {h : List Str → Int} {hc} {m : Member} (g : GM h hc m) : Gd 3 m.vector.entries := ⟨g.gd.1, g.gd.2.1, len3 g.gd.2.1 g.ks⟩
theorem GM.v11 {h : List Str → Int} {hc} {m : Member} (g : GM h hc m) (t : Tot h) : vs m.vector.entries ≤ 11 := by
 have a := vs3 g.gd.2.1 g.ks
 have b1 := g.nn KA
 have b2 := g.nn KB
 have b3 := g.nn KC
 unfold Tot at t
 omega
theorem GM.hk {h : List Str → Int} {hc} {m : Member} (g : GM h hc m) (t : Tot h) {k : List Str} (hk : inK k) : h k ≤ 11 := by
 have b1 := g.nn KA
 have b2 := g.nn KB
 have b3 := g.nn KC
 unfold Tot at t
 rcases hk with rfl | rfl | rfl <;> omega
theorem vmL (m : Member) : ∀ (r p : List Publication), m.publications = p ++ r → (∀ x ∈ r, 1 ≤ x.seq ∧ x.seq ≤ sq m.vector.entries x.publisher.parts ∧ x.content.length ≤ 60) → (p ++ r).Pairwise (fun p q => ¬ isP q.publisher.parts q.seq p) → a1m m r p.length = none
 | [], p, _, _, _ => rfl
 | x :: r, p, hp, hx, hd => by
  have ih := vmL m r (p ++ [x]) (by rw [mid_app]; exact hp) (fun d hd => hx d (List.mem_cons_of_mem _ hd)) (by rw [mid_app]; exact hd)
  rw [mid_len] at ih
  obtain ⟨a1, a2, a3⟩ := hx x List.mem_cons_self
  have b1 : a1c x.seq 1 (a0b m.vector x.publisher) = true := by
   rw [seqOf]
   unfold a1c
   rw [show decide (x.seq ≥ 1) = true from decide_eq_true a1]
   exact decide_eq_true a2
  have b2 : decide (((x.content.length : Nat) : Int) > 60) = false := decide_eq_false (by omega)
  have b3 : decide (a14 (List.take p.length m.publications) x.publisher x.seq ≥ 0) = false := by
   rw [hp, List.take_left]
   rcases pFd x.publisher x.seq p with ⟨h1, _⟩ | ⟨j, e, _, h2, h3⟩
   ·rw [h1]; rfl
   ·rw [List.pairwise_append] at hd
    exact absurd h3 (hd.2.2 e (List.mem_of_getElem? h2) x List.mem_cons_self)
  simp only [a1m, b1, b2, b3, Bool.not_true, cond_false, ih]
theorem vsL : ∀ (l : List TableEntry) (a : Int), 0 ≤ a → (∀ e ∈ l, 1 ≤ e.value) → a + vs l ≤ 1000 → a2m l a = a + vs l
 | [], a, _, _, _ => by rw [a2m, vs]; omega
 | e :: l, a, h0, h1, h2 => by
  have h3 := h1 e List.mem_cons_self
  have h4 : ∀ d : List TableEntry, (∀ e ∈ d, 1 ≤ e.value) → 0 ≤ vs d := fun d => by
   induction d with
   | nil => exact fun _ => Int.le_refl _
   | cons x d ih =>
    intro h
    have := ih (fun e he => h e (List.mem_cons_of_mem _ he))
    have := h x List.mem_cons_self
    rw [vs]; omega
  have h5 := h4 l (fun d hd => h1 d (List.mem_cons_of_mem _ hd))
  rw [vs] at h2
  rw [a2m, wrap_i64 (by unfold I64; omega), vsL l _ (by omega) (fun d hd => h1 d (List.mem_cons_of_mem _ hd)) (by omega), vs]
  omega
theorem GM.vm {h : List Str → Int} {hc} {m : Member} (g : GM h hc m) (t : Tot h) : a15 m = true := by
 have h11 := g.v11 t
 have hs := g.su
 have h1 : (((m.name.parts.length : Nat) : Int) == 0) = false := by
  rcases g.ik with e | e | e <;> rw [e] <;> rfl
 have h2 : decide (((m.publications.length : Nat) : Int) > 16) = false := decide_eq_false (by omega)
 have h3 := vmL m m.publications [] rfl (fun x hx => ⟨(g.ps x hx).1, (g.ps x hx).2.1, (g.ps x hx).2.2.1⟩) g.nd
 have h4 : a3c m.vector = vs m.vector.entries := by
  have := vsL m.vector.entries 0 (Int.le_refl _) (fun e he => (g.gd.1 e he).2.1) (by omega)
  rw [Int.zero_add] at this
  exact this
 have h5 := vv_of g.gd (Nat.le_refl _)
 rw [List.length_nil] at h3
 unfold a15
 simp only [g.vn, h5, h1, h2, h3, h4, hs, Bool.not_true, cond_false, cond_true, bne_self_F]
theorem acc {h : List Str → Int} {hc : List Str → Int → List UInt8} {m : Member} (g : GM h hc m) (t : Tot h) {n : Name} {s : Int} {c : List UInt8} (hn : a0z n = true) (hk : inK n.parts) (hs : s = sq m.vector.entries n.parts + 1) (hh : s ≤ h n.parts) (hl : c.length ≤ 60) (hcc : c = hc n.parts s) :
  ∃ m', a0k m ⟨n, s, c⟩ = (m', true) ∧ GM h hc m' ∧ m'.name = m.name ∧ (∀ k, sq m'.vector.entries k = if n.parts = k then s else sq m.vector.entries k) ∧ m'.publications = m.publications ++ [⟨n, s, c⟩] := by
 have h0 := (g.nn n.parts).1
 have h11 := g.hk t hk
 obtain ⟨p1, p2⟩ := put_gd g.g3 (by decide) n s hn (by omega)
 have p3 := put_ok g.g3 (by decide) n s hn (by omega)
 have p4 := put_nm (P := fun n => inK n.parts) m.vector.entries n s g.ks hk
 have G : GM h hc ⟨m.name, ⟨(a03 m.vector.entries n s).1⟩, m.publications ++ [⟨n, s, c⟩]⟩ := {
  gd := p1.mono (by decide)
  ks := p4
  le := fun k => by
   show sq (a03 m.vector.entries n s).1 k ≤ h k
   rw [p2]
   split
   ·rename_i e; rw [← e]; exact hh
   ·exact g.le k
  vn := g.vn
  ik := g.ik
  ps := fun p hp => by
   show 1 ≤ p.seq ∧ p.seq ≤ sq (a03 m.vector.entries n s).1 p.publisher.parts ∧ _
   rw [p2]
   rcases List.mem_append.1 hp with hp | hp
   ·obtain ⟨a1, a2, a3⟩ := g.ps p hp
    refine ⟨a1, ?_, a3⟩
    split
    ·rename_i e; rw [← e] at a2; omega
    ·exact a2
   ·obtain rfl := List.mem_singleton.1 hp
    rw [if_pos rfl]
    exact ⟨by show 1 ≤ s; omega, Int.le_refl _, hl, hcc⟩
  nd := by
   show List.Pairwise _ (m.publications ++ [⟨n, s, c⟩])
   rw [List.pairwise_append]
   refine ⟨g.nd, List.pairwise_singleton _ _, fun p hp q hq e => ?_⟩
   obtain rfl := List.mem_singleton.1 hq
   have := (g.ps p hp).2.1
   rw [e.2, e.1] at this
   dsimp only at this
   omega
  cp := fun k s' h1 h2 => by
   have h3 : s' ≤ sq (a03 m.vector.entries n s).1 k := h2
   rw [p2] at h3
   have old (h4 : s' ≤ sq m.vector.entries k) : ∃ p ∈ m.publications ++ [⟨n, s, c⟩], isP k s' p := by
    obtain ⟨p, hp, h5⟩ := g.cp k s' h1 h4
    exact ⟨p, List.mem_append_left _ hp, h5⟩
   split at h3
   ·rename_i e
    by_cases h6 : s' = s
    ·exact ⟨⟨n, s, c⟩, List.mem_append_right _ (List.mem_singleton.2 rfl), h6.symm, e⟩
    ·exact old (by rw [← e]; omega)
   ·exact old h3
  su := by
   have q1 := vs3 p1.2.1 p4
   have q2 := vs3 g.gd.2.1 g.ks
   have q3 := g.su
   show vs (a03 m.vector.entries n s).1 = (((m.publications ++ [(⟨n, s, c⟩ : Publication)]).length : Nat) : Int)
   rw [List.length_append, List.length_singleton, q1, p2, p2, p2]
   rcases hk with e | e | e <;> rw [e] at hs ⊢
   ·rw [if_pos rfl, if_neg kab, if_neg kac]; omega
   ·rw [if_neg (fun e => kab e.symm), if_pos rfl, if_neg kbc]; omega
   ·rw [if_neg (fun e => kac e.symm), if_neg (fun e => kbc e.symm), if_pos rfl]; omega }
 refine ⟨_, ?_, G, rfl, p2, rfl⟩
 have hc1 : a02 n = n := rfl
 have b1 : (s != IntKind.i64.wrap (a0b m.vector n + 1)) = false := by
  rw [seqOf, wrap_i64 (by unfold I64; omega), ← hs]
  exact bne_self_F s
 unfold a0k
 simp only [cM_spec, b1, p3, hc1, G.vm t, Bool.not_true, cond_false]
def seg (n : Name) (k : Int) : Nat → List TableEntry
 | 0 => []
 | c + 1 => ⟨n, k + 1⟩ :: seg n (k + 1) c
theorem seg_len (n : Name) : ∀ (c : Nat) (k : Int), (seg n k c).length = c
 | 0, _ => rfl
 | c + 1, k => by rw [seg, List.length_cons, seg_len n c]
theorem ntS (a : StateVector) (e : TableEntry) (x : Int) (hx : sq a.entries e.name.parts = x) (hx2 : x ≤ 1000) : ∀ (c : Nat) (o : List TableEntry) (k : Int), (x - k).toNat = c → 0 ≤ k → o.length + c ≤ 20 → (a18 a e o k).1 = o ++ seg e.name k c
 | 0, o, k, hc, hk, hl => by
  rw [a18, seqOf, hx, if_neg (by omega)]
  simp [seg]
 | c + 1, o, k, hc, hk, hl => by
  rw [a18, seqOf, hx, if_pos (by omega), if_pos (by omega), wrap_i64 (by unfold I64; omega)]
  have := ntS a e x hx hx2 c (o ++ [⟨e.name, k + 1⟩]) (k + 1) (by omega) (by omega) (by rw [List.length_append, List.length_singleton]; omega)
  have hcp : a02 e.name = e.name := rfl
  rw [hcp, this, seg]
  simp
def miss (b : List TableEntry) : List TableEntry → List TableEntry
 | [] => []
 | e :: l => seg e.name (sq b e.name.parts) (e.value - sq b e.name.parts).toNat ++ miss b l
theorem ntM (a b : StateVector) (hb : ∀ k, 0 ≤ sq b.entries k) : ∀ (l o : List TableEntry), (∀ e ∈ l, sq a.entries e.name.parts = e.value ∧ 1 ≤ e.value ∧ e.value ≤ 1000) → (o.length : Int) + vs l ≤ 20 → a1d a b l o = o ++ miss b.entries l
 | [], o, _, _ => by simp [a1d, miss]
 | e :: l, o, h, hl => by
  obtain ⟨h1, h2, h3⟩ := h e List.mem_cons_self
  have h4 := hb e.name.parts
  have h5 : ∀ d : List TableEntry, (∀ e ∈ d, 1 ≤ e.value) → 0 ≤ vs d := fun d => by
   induction d with
   | nil => exact fun _ => Int.le_refl _
   | cons x d ih =>
    intro h
    have := ih (fun e he => h e (List.mem_cons_of_mem _ he))
    have := h x List.mem_cons_self
    rw [vs]; omega
  have h6 := h5 l (fun d hd => (h d (List.mem_cons_of_mem _ hd)).2.1)
  rw [vs] at hl
  have h7 := ntS a e e.value h1 h3 _ o (a0b b e.name) rfl (by rw [seqOf]; exact h4) (by rw [seqOf]; omega)
  simp only [a1d]
  rcases e0 : a18 a e o (a0b b e.name) with ⟨o2, k⟩
  rw [e0] at h7
  dsimp only at h7 ⊢
  rw [seqOf] at h7
  subst h7
  rw [ntM a b hb l _ (fun d hd => h d (List.mem_cons_of_mem _ hd)) (by rw [List.length_append, seg_len]; omega), miss, List.append_assoc]
def CU (fr : Member) (l : List TableEntry) (m : Member) : Member :=
 ⟨⟨(a17 fr l m.name.parts m.vector.entries m.publications).1⟩, ⟨(a17 fr l m.name.parts m.vector.entries m.publications).2.1⟩, (a17 fr l m.name.parts m.vector.entries m.publications).2.2⟩
theorem CU_cons (fr : Member) (x : TableEntry) (l : List TableEntry) (m : Member) (hf : (a0g fr x.name x.value).2 = true) : CU fr (x :: l) m = CU fr l (a0k m ⟨x.name, x.value, (a0g fr x.name x.value).1⟩).1 := by
 simp only [CU, a17, hf, cond_true]
theorem cu_eq (m fr : Member) : a07 m fr = CU fr (a0q m fr.vector) m := by
 unfold a07 CU
 rw [cM_spec]
structure Ext (h : List Str → Int) (hc : List Str → Int → List UInt8) (m m' : Member) : Prop where
 gm : GM h hc m'
 nm : m'.name = m.name
 ex : ∃ t, m'.publications = m.publications ++ t
theorem segCU {h : List Str → Int} {hc : List Str → Int → List UInt8} {fr : Member} (f : GM h hc fr) (t : Tot h) (n : Name) (hn : a0z n = true) (hk : inK n.parts) (r : List TableEntry) : ∀ (c : Nat) (m : Member) (k : Int), GM h hc m → sq m.vector.entries n.parts = k → k + c ≤ sq fr.vector.entries n.parts →
  ∃ m', CU fr (seg n k c ++ r) m = CU fr r m' ∧ Ext h hc m m' ∧ ∀ q, sq m'.vector.entries q = if n.parts = q then k + c else sq m.vector.entries q
 | 0, m, k, g, hs, hf => ⟨m, rfl, ⟨g, rfl, [], (List.append_nil _).symm⟩, fun q => by
  split
  ·rename_i e; rw [← e, hs]; simp
  ·rfl⟩
 | c + 1, m, k, g, hs, hf => by
  have h0 := (g.nn n.parts).1
  obtain ⟨p, hp, hp2⟩ := f.cp n.parts (k + 1) (by omega) (by omega)
  rcases pFm fr n (k + 1) with ⟨_, h2⟩ | ⟨e, he, h2, h3⟩
  ·exact absurd hp2 (h2 p hp)
  ·obtain ⟨a1, a2, a3, a4⟩ := f.ps e he
   rw [h3.2, h3.1] at a4
   obtain ⟨m1, q1, q2, q3, q4, q5⟩ := acc g t (n := n) (s := k + 1) (c := e.content) hn hk (by rw [hs]) (by have := f.le n.parts; omega) a3 a4
   have q6 := q4 n.parts
   rw [if_pos rfl] at q6
   obtain ⟨m2, r1, r2, r3⟩ := segCU f t n hn hk r c m1 (k + 1) q2 q6 (by omega)
   refine ⟨m2, ?_, ⟨r2.gm, r2.nm.trans q3, ?_⟩, fun q => ?_⟩
   ·rw [seg, List.cons_append, CU_cons _ _ _ _ (by rw [h2])]
    dsimp only
    rw [h2]
    dsimp only
    rw [q1]
    exact r1
   ·obtain ⟨u, hu⟩ := r2.ex
    exact ⟨⟨n, k + 1, e.content⟩ :: u, by rw [hu, q5]; simp⟩
   ·rw [r3, q4]
    split
    ·omega
    ·rfl
theorem missCU {h : List Str → Int} {hc : List Str → Int → List UInt8} {fr : Member} (f : GM h hc fr) (t : Tot h) (b : List TableEntry) : ∀ (l : List TableEntry) (m : Member), GM h hc m → Srt l → (∀ e ∈ l, a0z e.name = true ∧ inK e.name.parts ∧ sq fr.vector.entries e.name.parts = e.value ∧ sq m.vector.entries e.name.parts = sq b e.name.parts ∧ 1 ≤ e.value) →
  Ext h hc m (CU fr (miss b l) m) ∧ ∀ q, sq (CU fr (miss b l) m).vector.entries q = max (sq m.vector.entries q) (sq l q)
 | [], m, g, _, _ => ⟨⟨g, rfl, [], (List.append_nil _).symm⟩, fun q => by
  have := (g.nn q).1
  show sq m.vector.entries q = max (sq m.vector.entries q) 0
  omega⟩
 | e :: l, m, g, hs, he => by
  obtain ⟨s1, s2⟩ := Srt.cons.1 hs
  obtain ⟨e1, e2, e3, e4, e5⟩ := he e List.mem_cons_self
  have hb := (g.nn e.name.parts).1
  have h0 : sq l e.name.parts = 0 := sq_none (fun d hd e0 => kc_irr (by have := s1 d hd; rw [e0] at this; exact this))
  by_cases hlt : sq b e.name.parts ≤ e.value
  ·obtain ⟨m1, q1, q2, q3⟩ := segCU f t e.name e1 e2 (miss b l) (e.value - sq b e.name.parts).toNat m (sq b e.name.parts) g e4 (by rw [e3]; omega)
   obtain ⟨r1, r2⟩ := missCU f t b l m1 q2.gm s2 (fun d hd => by
    obtain ⟨d1, d2, d3, d4, d5⟩ := he d (List.mem_cons_of_mem _ hd)
    refine ⟨d1, d2, d3, ?_, d5⟩
    rw [q3, if_neg (fun e0 => kc_irr (by have := s1 d hd; rw [← e0] at this; exact this)), d4])
   rw [miss, q1]
   refine ⟨⟨r1.gm, r1.nm.trans q2.nm, ?_⟩, fun q => ?_⟩
   ·obtain ⟨u, hu⟩ := r1.ex
    obtain ⟨v, hv⟩ := q2.ex
    exact ⟨v ++ u, by rw [hu, hv, List.append_assoc]⟩
   ·rw [r2, q3, sq]
    split
    ·rename_i eq
     subst eq
     rw [h0]; omega
    ·rfl
  ·have hz : (e.value - sq b e.name.parts).toNat = 0 := by omega
   obtain ⟨r1, r2⟩ := missCU f t b l m g s2 (fun d hd => he d (List.mem_cons_of_mem _ hd))
   rw [miss, hz, seg, List.nil_append]
   refine ⟨r1, fun q => ?_⟩
   rw [r2, sq]
   split
   ·rename_i eq
    subst eq
    rw [h0]; omega
   ·rfl
theorem cu_gm {h : List Str → Int} {hc : List Str → Int → List UInt8} {m fr : Member} (g : GM h hc m) (f : GM h hc fr) (t : Tot h) : Ext h hc m (a07 m fr) ∧ ∀ q, sq (a07 m fr).vector.entries q = max (sq m.vector.entries q) (sq fr.vector.entries q) := by
 have hv := f.v11 t
 have h1 : a0q m fr.vector = miss m.vector.entries fr.vector.entries := by
  unfold a0q a2l
  rw [ntM fr.vector m.vector (fun k => (g.nn k).1) fr.vector.entries [] (fun e he => ⟨sq_mem f.gd he, (f.gd.1 e he).2⟩) (by rw [List.length_nil]; omega)]
  rfl
 rw [cu_eq, h1]
 exact missCU f t m.vector.entries fr.vector.entries m g f.gd.2.1 (fun e he => ⟨(f.gd.1 e he).1, f.ks e he, sq_mem f.gd he, rfl, (f.gd.1 e he).2.1⟩)
theorem GM.mono {h h' : List Str → Int} {hc hc' : List Str → Int → List UInt8} {m : Member} (g : GM h hc m) (a : ∀ k, h k ≤ h' k) (b : ∀ k s, s ≤ h k → hc' k s = hc k s) : GM h' hc' m :=
  { gd := g.gd, ks := g.ks, le := fun k => Int.le_trans (g.le k) (a k), vn := g.vn, ik := g.ik, nd := g.nd, cp := g.cp, su := g.su
    ps := fun p hp => by
      obtain ⟨a1, a2, a3, a4⟩ := g.ps p hp
      exact ⟨a1, a2, a3, by rw [b _ _ (Int.le_trans a2 (g.le _))]; exact a4⟩ }
theorem pub_gm {h : List Str → Int} {hc : List Str → Int → List UInt8} {m : Member} (g : GM h hc m) (ow : sq m.vector.entries m.name.parts = h m.name.parts) (t : h KA + h KB + h KC ≤ 10) {b : List UInt8} (hb : b.length ≤ 60) :
  ∃ h' hc', (∀ k, h' k = if m.name.parts = k then h k + 1 else h k) ∧ (∀ k s, s ≤ h k → hc' k s = hc k s) ∧ Tot h' ∧ GM h' hc' (a0f m b).1 ∧ (a0f m b).1.name = m.name ∧ sq (a0f m b).1.vector.entries m.name.parts = h' m.name.parts := by
 let h' : List Str → Int := fun k => if m.name.parts = k then h k + 1 else h k
 let hc' : List Str → Int → List UInt8 := fun k s => if m.name.parts = k ∧ s = h k + 1 then b else hc k s
 have i1 : ∀ k, h' k = if m.name.parts = k then h k + 1 else h k := fun _ => rfl
 have i2 : ∀ k s, s ≤ h k → hc' k s = hc k s := fun k s hs => if_neg (fun e => by omega)
 have i3 : Tot h' := by
  unfold Tot
  rw [i1, i1, i1]
  rcases g.ik with e | e | e <;> rw [e]
  ·rw [if_pos rfl, if_neg kab, if_neg kac]; omega
  ·rw [if_neg (fun e => kab e.symm), if_pos rfl, if_neg kbc]; omega
  ·rw [if_neg (fun e => kac e.symm), if_neg (fun e => kbc e.symm), if_pos rfl]; omega
 have g' : GM h' hc' m := g.mono (fun k => by rw [i1]; split <;> omega) i2
 have h0 := g'.nn m.name.parts
 have h11 := g'.hk i3 g.ik
 have hw : IntKind.i64.wrap (a0b m.vector m.name + 1) = sq m.vector.entries m.name.parts + 1 := by
  rw [seqOf, wrap_i64 (by unfold I64; omega)]
 obtain ⟨m1, q1, q2, q3, q4, q5⟩ := acc g' i3 (n := m.name) (s := sq m.vector.entries m.name.parts + 1) (c := b) g.vn g.ik rfl (by rw [ow, i1, if_pos rfl]; omega) hb (by rw [ow]; exact (if_pos ⟨rfl, rfl⟩).symm)
 have e1 : (a0f m b).1 = m1 := by
  unfold a0f
  rw [hw, q1]
 refine ⟨h', hc', i1, i2, i3, ?_, ?_, ?_⟩
 ·rw [e1]; exact q2
 ·rw [e1]; exact q3
 ·rw [e1, q4, if_pos rfl, i1, if_pos rfl, ow]
theorem pub_next (m : Member) (b : List UInt8) (h : (a0f m b).2 = true) : a0b (a0f m b).1.vector m.name = IntKind.i64.wrap (a0b m.vector m.name + 1) := by
 revert h
 unfold a0f
 dsimp only
 generalize IntKind.i64.wrap (a0b m.vector m.name + 1) = s
 unfold a0k
 cases (s != IntKind.i64.wrap (a0b m.vector m.name + 1))
 ·cases hp : (a03 m.vector.entries m.name s).2
  ·exact fun h => by cases h
  ·simp only [Bool.not_true, cond_false]
   generalize (!(a15 _)) = v
   cases v
   ·intro _
    rw [seqOf]
    exact put_see _ _ _ hp
   ·exact fun h => by cases h
 ·exact fun h => by cases h
structure GS (h : List Str → Int) (hc : List Str → Int → List UInt8) (l : List Member) : Prop where
 gm : ∀ m ∈ l, GM h hc m ∧ sq m.vector.entries m.name.parts = h m.name.parts
 nm : l.map (fun m => m.name.parts) = [KA, KB, KC]
theorem set_map {l : List Member} {j : Nat} {m m' : Member} (h : l[j]? = some m) (hn : m'.name = m.name) : (l.set j m').map (fun m => m.name.parts) = l.map (fun m => m.name.parts) := by
 rw [List.map_set, hn]
 apply List.ext_getElem?
 intro i
 rw [List.getElem?_set]
 split
 ·rename_i e
  subst e
  have hj : j < l.length := (List.getElem?_eq_some_iff.1 h).1
  rw [if_pos (by rw [List.length_map]; exact hj), List.getElem?_map, h]
  rfl
 ·rfl
theorem nm_ne {l : List Member} (h : l.map (fun m => m.name.parts) = [KA, KB, KC]) {i j : Nat} {a b : Member} (ha : l[i]? = some a) (hb : l[j]? = some b) (hn : a.name.parts = b.name.parts) : i = j := by
 have h1 : ([KA, KB, KC])[i]? = some a.name.parts := by rw [← h, List.getElem?_map, ha]; rfl
 have h2 : ([KA, KB, KC])[j]? = some a.name.parts := by rw [← h, List.getElem?_map, hb, hn]; rfl
 have hnd : ([KA, KB, KC]).Nodup := by simp [kab, kac, kbc]
 have hi : i < ([KA, KB, KC]).length := (List.getElem?_eq_some_iff.1 h1).1
 exact (List.getElem?_inj hi hnd).1 (h1.trans h2.symm)
theorem mem_set_ne {l : List Member} {i : Nat} {m x : Member} (h : x ∈ l.set i m) : x = m ∨ ∃ j, j ≠ i ∧ l[j]? = some x := by
 obtain ⟨j, hj⟩ := List.mem_iff_getElem?.1 h
 rw [List.getElem?_set] at hj
 split at hj
 ·split at hj
  ·exact .inl (Option.some.inj hj).symm
  ·cases hj
 ·rename_i e
  exact .inr ⟨j, fun e0 => e e0.symm, hj⟩
theorem GS.cu {h : List Str → Int} {hc : List Str → Int → List UInt8} {l : List Member} (g : GS h hc l) (t : Tot h) {i j : Nat} {a b : Member} (ha : l[i]? = some a) (hb : l[j]? = some b) : GS h hc (l.set i (a07 a b)) := by
 obtain ⟨a1, a2⟩ := g.gm a (List.mem_of_getElem? ha)
 obtain ⟨b1, b2⟩ := g.gm b (List.mem_of_getElem? hb)
 obtain ⟨c1, c2⟩ := cu_gm a1 b1 t
 refine ⟨fun m hm => ?_, by rw [set_map ha c1.nm]; exact g.nm⟩
 rcases List.mem_or_eq_of_mem_set hm with hm | rfl
 ·exact g.gm m hm
 ·refine ⟨c1.gm, ?_⟩
  rw [c2, c1.nm, a2]
  have := b1.le a.name.parts
  omega
theorem GS.pub {h : List Str → Int} {hc : List Str → Int → List UInt8} {l : List Member} (g : GS h hc l) (t : h KA + h KB + h KC ≤ 10) {i : Nat} {a : Member} (ha : l[i]? = some a) {b : List UInt8} (hb : b.length ≤ 60) : ∃ h' hc', GS h' hc' (l.set i (a0f a b).1) ∧ h' KA + h' KB + h' KC ≤ h KA + h KB + h KC + 1 := by
 obtain ⟨a1, a2⟩ := g.gm a (List.mem_of_getElem? ha)
 obtain ⟨h', hc', i1, i2, i3, i4, i5, i6⟩ := pub_gm a1 a2 t hb
 refine ⟨h', hc', ⟨fun m hm => ?_, by rw [set_map ha i5]; exact g.nm⟩, ?_⟩
 ·rcases mem_set_ne hm with rfl | ⟨j, hj, hm⟩
  ·exact ⟨i4, by rw [i5]; exact i6⟩
  ·obtain ⟨m1, m2⟩ := g.gm m (List.mem_of_getElem? hm)
   refine ⟨m1.mono (fun k => by rw [i1]; split <;> omega) i2, ?_⟩
   rw [i1, if_neg (fun e => hj (nm_ne g.nm hm ha e.symm)), m2]
 ·rw [i1, i1, i1]
  rcases a1.ik with e | e | e <;> rw [e]
  ·rw [if_pos rfl, if_neg kab, if_neg kac]; omega
  ·rw [if_neg (fun e => kab e.symm), if_pos rfl, if_neg kbc]; omega
  ·rw [if_neg (fun e => kac e.symm), if_neg (fun e => kbc e.symm), if_pos rfl]; omega
theorem groupL (b : List UInt8) : ∀ (m : Nat) (i : Int) (l : List Member) (a q : Int) (h : List Str → Int) (hc : List Str → Int → List UInt8), i.toNat = m → GS h hc l → h KA + h KB + h KC + i.toNat ≤ 11 → ∃ h' hc', GS h' hc' (a1x b l i a q).1 ∧ Tot h'
 | 0, i, l, a, q, h, hc, hm, hl, ht => by
  rw [a1x, if_neg (by omega)]
  exact ⟨h, hc, hl, by unfold Tot; omega⟩
 | m + 1, i, l, a, q, h, hc, hm, hl, ht => by
  have hlen : l.length = 3 := by have := congrArg List.length hl.nm; rw [List.length_map] at this; exact this
  rw [a1x, if_pos (by omega)]
  have h1 := l1Below_rng b a q 3
  rcases e0 : a08 b a q 3 with ⟨x, j, k⟩
  rw [e0] at h1
  dsimp only at h1 ⊢
  obtain ⟨e1, he1⟩ : ∃ e, l[x.toNat]? = some e := ⟨_, List.getElem?_eq_getElem (by omega)⟩
  rw [he1]
  dsimp only
  rcases a33 b j k 2 with ⟨y, j2, k2⟩
  dsimp only
  have h2 := l1Below_rng b j2 k2 3
  rcases e3 : a08 b j2 k2 3 with ⟨x3, j3, k3⟩
  rw [e3] at h2
  dsimp only at h2 ⊢
  split
  ·have h4 := len_l1Bytes b j3 k3 x3
   rcases e4 : a19 b j3 k3 x3 with ⟨x4, j4, k4⟩
   rw [e4] at h4
   dsimp only at h4 ⊢
   obtain ⟨h', hc', g1, g2⟩ := hl.pub (by omega) he1 (b := x4) (by omega)
   exact groupL b m _ _ _ _ h' hc' (by omega) g1 (by omega)
  ·obtain ⟨e2, he2⟩ : ∃ e, l[x3.toNat]? = some e := ⟨_, List.getElem?_eq_getElem (by omega)⟩
   rw [he2]
   exact groupL b m _ _ _ _ h hc (by omega) (hl.cu (by unfold Tot; omega) he1 he2) (by omega)
theorem new_gm {k : List Str} (s : Str) (hk : inK k) (hs : (a01 s).parts = k) : GM (fun _ => 0) (fun _ _ => []) (a0e (a01 s)) :=
  { gd := Gd.nil.mono (Nat.zero_le _), ks := fun e he => (by cases he), le := fun k => Int.le_refl _, vn := l4Of_vn s, ik := by show inK (a01 s).parts; rw [hs]; exact hk
    ps := fun p hp => (by cases hp), nd := List.Pairwise.nil, cp := fun k s h1 h2 => (by have h3 : s ≤ 0 := h2; omega), su := rfl }
theorem vnx {k : List Str} (h : k = KA ∨ k = KB ∨ k = KC) : a0z ⟨k⟩ = true := by
 rcases h with rfl | rfl | rfl <;> decide
theorem drawGroup_gs (code : List UInt8) : ∃ h hc, GS h hc (a1p code) ∧ Tot h := by
 have ka : (a01 (⟨#[47, 97]⟩ : Str)).parts = KA := l4x 97 (by decide) (vnx (.inl rfl))
 have kb : (a01 (⟨#[47, 98]⟩ : Str)).parts = KB := l4x 98 (by decide) (vnx (.inr (.inl rfl)))
 have kc : (a01 (⟨#[47, 99]⟩ : Str)).parts = KC := l4x 99 (by decide) (vnx (.inr (.inr rfl)))
 have g0 : GS (fun _ => 0) (fun _ _ => []) [(a0e (a01 (⟨#[47, 97]⟩ : Str))), (a0e (a01 (⟨#[47, 98]⟩ : Str))), (a0e (a01 (⟨#[47, 99]⟩ : Str)))] := by
  refine ⟨fun m hm => ?_, ?_⟩
  ·simp only [List.mem_cons, List.not_mem_nil, or_false] at hm
   rcases hm with rfl | rfl | rfl
   ·exact ⟨new_gm _ (.inl rfl) ka, rfl⟩
   ·exact ⟨new_gm _ (.inr (.inl rfl)) kb, rfl⟩
   ·exact ⟨new_gm _ (.inr (.inr rfl)) kc, rfl⟩
  ·show [(a01 (⟨#[47, 97]⟩ : Str)).parts, (a01 (⟨#[47, 98]⟩ : Str)).parts, (a01 (⟨#[47, 99]⟩ : Str)).parts] = _
   rw [ka, kb, kc]
 unfold a1p
 rcases a1n code with ⟨i, q⟩
 dsimp only
 unfold a2r
 have h1 := l1Below_rng code i q 12
 rcases e0 : a08 code i q 12 with ⟨x, j, k⟩
 rw [e0] at h1
 dsimp only at h1 ⊢
 obtain ⟨h, hc, g1, g2⟩ := groupL code _ x _ j k _ _ rfl g0 (by show (0 : Int) + 0 + 0 + _ ≤ 11; omega)
 rcases e : a1x code ([(a0e (a01 (⟨#[47, 97]⟩ : Str))), (a0e (a01 (⟨#[47, 98]⟩ : Str))), (a0e (a01 (⟨#[47, 99]⟩ : Str)))] : List Member) x j k with ⟨p, q, r, s⟩
 rw [e] at g1
 exact ⟨h, hc, g1, g2⟩
theorem joinI : ∀ (bs : List TableEntry) {m : Nat} {l : List TableEntry}, Gd m l → m + bs.length ≤ 20 → (∀ e ∈ bs, a0z e.name = true ∧ 1 ≤ e.value ∧ e.value ≤ 1000) →
  Gd (m + bs.length) (a2e bs l) ∧ ∀ k, sq (a2e bs l) k = max (sq l k) (mx bs k)
 | [], m, l, h, _, _ => ⟨h, fun k => by
  have := sq_nn h k
  show sq l k = max (sq l k) 0
  omega⟩
 | e :: bs, m, l, h, hm, hb => by
  rw [List.length_cons] at hm ⊢
  obtain ⟨v1, v2, v3⟩ := hb e List.mem_cons_self
  have hb' : ∀ d ∈ bs, a0z d.name = true ∧ 1 ≤ d.value ∧ d.value ≤ 1000 := fun d hd => hb d (List.mem_cons_of_mem _ hd)
  simp only [a2e, same_SeqOf', same_PutEntry, seqOf]
  by_cases hc : e.value > sq l e.name.parts
  ·obtain ⟨g1, g2⟩ := put_gd h (by omega) e.name e.value v1 ⟨v2, v3⟩
   obtain ⟨q1, q2⟩ := joinI bs g1 (by omega) hb'
   simp only [hc, decide_true, cond_true]
   refine ⟨q1.mono (by omega), fun k => ?_⟩
   rw [q2 k, g2 k, mx]
   have h0 := sq_nn h k
   by_cases hk : e.name.parts = k
   ·subst hk; rw [if_pos rfl, if_pos rfl]; omega
   ·rw [if_neg hk, if_neg hk]; omega
  ·obtain ⟨q1, q2⟩ := joinI bs h (by omega) hb'
   simp only [hc, decide_false, cond_false]
   refine ⟨q1.mono (by omega), fun k => ?_⟩
   rw [q2 k, mx]
   have h0 := sq_nn h k
   by_cases hk : e.name.parts = k
   ·subst hk; rw [if_pos rfl]; omega
   ·rw [if_neg hk]; omega
theorem joinI_gd {m n : Nat} {a b : StateVector} (ha : Gd m a.entries) (hb : Gd n b.entries) (h : m + n ≤ 20) : Gd (m + n) (a34 a b).entries ∧ ∀ k, sq (a34 a b).entries k = max (sq a.entries k) (sq b.entries k) := by
 unfold a34
 rw [cT_impl]
 have hl := hb.2.2
 obtain ⟨q1, q2⟩ := joinI b.entries ha (by omega) hb.1
 exact ⟨q1.mono (by omega), fun k => by rw [← mx_sq hb k]; exact q2 k⟩
open Classical in
theorem rr_rows (l : List TableEntry) : a2b l l = true := by rw [sameRows_eq]; exact decide_eq_true rfl
open Classical in
theorem rr_same (l : List UInt8) : a2q l l = true := by rw [same_eq]; exact decide_eq_true rfl
open Classical in
theorem rr_name (a : Name) : a3h a a = true := by rw [sameName_eq]; exact decide_eq_true rfl
theorem rr_memL (b : Member) : ∀ (r p : List Publication), b.publications = p ++ r → a24 b r p.length = none
 | [], p, _ => rfl
 | x :: r, p, h => by
  have ih := rr_memL b r (p ++ [x]) (by rw [mid_app]; exact h)
  rw [mid_len] at ih
  simp only [a24, h, mid, bne_self_F, rr_name, rr_same, Bool.not_true, cond_false, ih]
theorem rr_member (a : Member) : a1l a a = true := by
 have h := rr_memL a a.publications [] rfl
 rw [List.length_nil] at h
 simp only [a1l, rr_name, rr_rows, bne_self_F, Bool.not_true, cond_false, h]
theorem eqtL : ∀ (l p : List TableEntry), a1z (p ++ l) l p.length = none
 | [], p => rfl
 | x :: l, p => by
  have ih := eqtL l (p ++ [x])
  rw [mid_app, mid_len] at ih
  simp only [a1z, mid, bne_self_F, eqN, decide_true, Bool.not_true, cond_false, ih]
theorem eqt (l : List TableEntry) : a2c l l = true := by
 have h := eqtL l []
 rw [List.nil_append, List.length_nil] at h
 simp only [a2c, bne_self_F, cond_false, h]
theorem eqb (l : List UInt8) : a3d l l = true := by
 rw [← same_EqualBytes]
 unfold slices_Equal_byte
 have h := sEqL_byte l l [] rfl
 simp only [List.nil_append, List.length_nil, if_true] at h
 simp only [bne_self_F, cond_false, h]
theorem finds {h : List Str → Int} {hc : List Str → Int → List UInt8} {a b : Member} (ga : GM h hc a) (gb : GM h hc b) (hle : ∀ k, sq a.vector.entries k ≤ sq b.vector.entries k) {p : Publication} (hp : p ∈ a.publications) : a0g b p.publisher p.seq = (p.content, true) := by
 obtain ⟨a1, a2, a3, a4⟩ := ga.ps p hp
 obtain ⟨q, hq, h1⟩ := gb.cp p.publisher.parts p.seq a1 (Int.le_trans a2 (hle _))
 rcases pFm b p.publisher p.seq with ⟨_, h2⟩ | ⟨e, he, h2, h3⟩
 ·exact absurd h1 (h2 q hq)
 ·obtain ⟨b1, b2, b3, b4⟩ := gb.ps e he
  rw [h2, b4, h3.1, h3.2, ← a4]
theorem within {h : List Str → Int} {hc : List Str → Int → List UInt8} {a b : Member} (ga : GM h hc a) (gb : GM h hc b) (hle : ∀ k, sq a.vector.entries k ≤ sq b.vector.entries k) : a25 a b = true := by
 have hL : ∀ l : List Publication, (∀ p ∈ l, p ∈ a.publications) → a22 b l = none := by
  intro l
  induction l with
  | nil => exact fun _ => rfl
  | cons p l ih =>
   intro hl
   have hf := finds ga gb hle (hl p List.mem_cons_self)
   simp only [a22, hf, eqb, Bool.not_true, cond_false]
   exact ih (fun q hq => hl q (List.mem_cons_of_mem _ hq))
 unfold a25
 rw [hL _ (fun _ h => h)]
theorem nt_none {h : List Str → Int} {hc : List Str → Int → List UInt8} {a b : Member} (ga : GM h hc a) (gb : GM h hc b) (hle : ∀ k, sq b.vector.entries k ≤ sq a.vector.entries k) : a0q a b.vector = [] := by
 unfold a0q a2l
 rcases ntZ b.vector a.vector b.vector.entries with ⟨h1, _⟩ | ⟨_, e, he, h2⟩
 ·rw [h1]
 ·exact absurd (hle _) h2
theorem cu_laws {h : List Str → Int} {hc : List Str → Int → List UInt8} {a b : Member} (ga : GM h hc a) (gb : GM h hc b) (t : Tot h) :
  a15 (a07 a b) = true ∧ a15 (a07 b (a07 a b)) = true ∧ (a07 a b).vector.entries = (a34 a.vector b.vector).entries ∧ a0q (a07 a b) b.vector = [] ∧
  a2w (a07 a b) (a07 b (a07 a b)) = true ∧ (∀ p ∈ a.publications, a0g (a07 a b) p.publisher p.seq = (p.content, true)) ∧ a07 (a07 a b) b = a07 a b := by
 obtain ⟨u, hu⟩ := cu_gm ga gb t
 obtain ⟨w, hw⟩ := cu_gm gb u.gm t
 obtain ⟨j1, j2⟩ := joinI_gd ga.g3 gb.g3 (by decide)
 have huw : ∀ k, sq (a07 b (a07 a b)).vector.entries k = sq (a07 a b).vector.entries k := fun k => by rw [hw, hu]; omega
 have hm : a0q (a07 a b) b.vector = [] := nt_none u.gm gb (fun k => by rw [hu]; omega)
 refine ⟨u.gm.vm t, w.gm.vm t, gd_ext u.gm.gd j1 (fun k => by rw [hu, j2]), hm, ?_, fun p hp => finds ga u.gm (fun k => by rw [hu]; omega) hp, ?_⟩
 ·unfold a2w
  rw [← gd_ext w.gm.gd u.gm.gd huw, eqt, within u.gm w.gm (fun k => by rw [huw]; exact Int.le_refl _), within w.gm u.gm (fun k => by rw [huw]; exact Int.le_refl _)]
  rfl
 ·rw [cu_eq (a07 a b) b, hm]
  rfl
end Go.Stp

namespace Go.Stp
open Go.RowKit (Below)
open GoT (X k ok sh fa oa)
def Opens (P : Program) (T : TypeId) (α : Type) [GoT α] : Prop :=
 P.cellsOf T = k α ∧ ∀ {H : Type} {enc : TypeId × Value → H} {w : World} {spare : Nat → Bool} {held : Bool} {fuel : Nat} {cs : List Value} {x : DataW H × List MemPlace}, DataW.trod enc P w 0 spare held fuel T cs = some x →
  ∃ (a : α) (y : X α), cs = sh a y ∧ ok 10 a ∧ All (hp w) (fa .der a y)
theorem opens_byte {P : Program} {T : TypeId} (h : P.underlying T = some (.int .u8)) (hc : P.cellsOf T = 1) : Opens P T UInt8 := ⟨hc, fun h' => by
 obtain ⟨n, rfl, _, hw⟩ := DataW.trod_int h h'
 have hn : 0 ≤ n ∧ n ≤ 255 := by simpa [Lit.wf, IntKind.min, IntKind.max, IntKind.signed, IntKind.bits] using hw
 refine ⟨UInt8.ofNat n.toNat, (), ?_, trivial, (fun _ h_ => by cases h_)⟩
 have : ((UInt8.ofNat n.toNat).toNat : Int) = n := by
  rw [UInt8.toNat_ofNat', Nat.mod_eq_of_lt (by omega)]; omega
 simp only [sh]
 rw [this]⟩
theorem cells?_each {w : World} {a : Addr} {n : Nat} {cs : List Value} (h : w.cells? 0 a n = some cs) : ∀ j u, cs[j]? = some u → w.cell? (a.add j) = some u := by
 intro j u hj
 obtain ⟨_, h1, h2⟩ := World.cells?_some h
 rw [h2 j (by rw [← h1]; exact (List.getElem?_eq_some_iff.1 hj).1)]; exact hj
theorem opens_slice {P : Program} {T E : TypeId} {α : Type} [GoT α] (h : P.underlying T = some (.slice E)) (hc : P.cellsOf T = 1) (he : Opens P E α) : Opens P T (List α) := ⟨hc, fun {H enc w spare held fuel cs x} h' => by
 rcases DataW.trod_slice h h' with ⟨rfl, _⟩ | ⟨a, len, cap, elems, rest, n, _, rfl, _, _, hl, hm, hlen, hel, _, _⟩
 ·exact ⟨[], (none, 0), rfl, ⟨Nat.zero_le _, fun _ h_ => by cases h_⟩, fun f hf => by
   obtain rfl := List.mem_singleton.1 hf
   exact ⟨Nat.zero_le _, Nat.zero_le _, [], fun j u h => by simp at h, rfl⟩⟩
 ·have key : ∀ m, m ≤ len → ∃ (l : List α) (xs : List Value), l.length = m ∧ xs.length = m * k α ∧ RdL (hp w) xs l ∧ (∀ b ∈ l, ok 10 b) ∧ CellsAt (hp w) (some a) xs := by
   intro m
   induction m with
   | zero => exact fun _ => ⟨[], [], rfl, by simp, rfl, by simp, fun j u h => by simp at h⟩
   | succ m ih =>
    intro hmle
    obtain ⟨l, xs, h1, h2, h3, h4, h5⟩ := ih (by omega)
    have hm' := hel m (by omega)
    rw [he.1] at hm'
    obtain ⟨y, hy⟩ : ∃ y, elems[m]? = some y := ⟨_, List.getElem?_eq_getElem (by omega)⟩
    rw [hy, Option.bind_eq_some_iff] at hm'
    obtain ⟨cs', hcs, htr⟩ := hm'
    obtain ⟨b, yb, rfl, hok, hfa⟩ := he.2 htr
    refine ⟨l ++ [b], xs ++ sh b yb, by simp [h1], by rw [List.length_append, h2, GoT.len, Nat.add_mul]; omega, h3.snoc hfa, ?_, ?_⟩
    ·intro c hc
     rcases List.mem_append.1 hc with hc | hc
     ·exact h4 c hc
     ·simp at hc; subst hc; exact hok
    ·intro j u hj
     refine ⟨a, rfl, ?_⟩
     by_cases hlt : j < xs.length
     ·rw [List.getElem?_append_left hlt] at hj
      obtain ⟨a', ha', hg⟩ := h5 j u hj
      simp at ha'; subst ha'; exact hg
     ·rw [List.getElem?_append_right (by omega)] at hj
      have := cells?_each hcs _ _ hj
      rw [addr_add_add, h2, show m * k α + (j - m * k α) = j by omega] at this
      exact this
  obtain ⟨l, xs, h1, h2, h3, h4, h5⟩ := key len (Nat.le_refl _)
  have hm' : len ≤ 9223372036854775807 := by simp only [maxLen] at hm; omega
  refine ⟨l, (some a, cap), by simp [sh, h1], ⟨by show l.length ≤ 9223372036854775807; omega, h4⟩, fun f hf => ?_⟩
  obtain rfl := List.mem_singleton.1 hf
  exact ⟨by omega, by omega, xs, h5, h3⟩⟩
def Arg (P : Program) (T : TypeId) (α : Type) [GoT α] (mk : List Value → Value) : Prop :=
 ∀ {H : Type} {enc : TypeId × Value → H} {W : World} {b0 : Nat} {spare : Nat → Bool} {held : Bool} {v : Value} {d : DataW H} {ps : List MemPlace}, Value.okWide P W .any b0 T v → DataW.Trod enc P W 0 spare held T v d ps →
  ∃ (a : α) (y : X α), v = mk (sh a y) ∧ ok 10 a ∧ All (hp W) (fa .der a y)
theorem arg_slice {P : Program} {T E : TypeId} {α : Type} [GoT α] (h : P.underlying T = some (.slice E)) (ho : Opens P T (List α)) : Arg P T (List α) (fun cs => cs.headD undef) := by
 intro H enc W b0 spare held v d ps hval ⟨fuel, hf⟩
 obtain ⟨a, y, h1, h2, h3⟩ := ho.2 hf
 refine ⟨a, y, ?_, h2, h3⟩
 cases v with
 | agg cs => simp [Value.okWide, h, Cell.okWide, Cell.ok] at hval
 | _ => first | (simp [Value.cells, sh] at h1; done) | (simp [Value.cells, sh] at h1; simp [sh, h1])
theorem trodAll_stays {H : Type} {enc : TypeId × Value → H} {P : Program} (hl : laidOutB P = true) {W W' : World} {sp : Nat → Bool} : ∀ {ts : List TypeId} {vs : List Value} {ds : List (DataW H)} {ps : List MemPlace},
  ts.all (fun t => P.readableRec t && decide (t < P.types.size)) = true → DataW.TrodAll enc P W 0 (fun _ => true) true ts vs ds ps → (∀ p ∈ ps, W.sameAt W' p) → (∀ p ∈ ps, sp p.block = true) → DataW.TrodAll enc P W' 0 sp true ts vs ds ps
 | [], [], [], _, _, h, _, _ => h
 | t :: ts, v :: vs, d :: ds, ps, ha, ⟨p, q, h1, h2, e⟩, hs, hsp => by
  simp only [List.all_cons, Bool.and_eq_true, decide_eq_true_eq] at ha
  subst e
  exact ⟨p, q, WideElems.Trod_stays hl ha.1.1 ha.1.2 h1 (fun x hx => hs x (List.mem_append_left _ hx)) (fun x hx => hsp x (List.mem_append_left _ hx)),
   trodAll_stays hl ha.2 h2 (fun x hx => hs x (List.mem_append_right _ hx)) (fun x hx => hsp x (List.mem_append_right _ hx)), rfl⟩
theorem trodAll_len {H : Type} {enc : TypeId × Value → H} {P : Program} {W : World} {b : Nat} {sp : Nat → Bool} {hd : Bool} : ∀ {ts : List TypeId} {vs : List Value} {ds : List (DataW H)} {ps : List MemPlace}, DataW.TrodAll enc P W b sp hd ts vs ds ps → ds.length = ts.length
 | [], [], [], _, _ => rfl
 | _ :: _, _ :: _, _ :: _, _, ⟨_, _, _, h2, _⟩ => by simp [trodAll_len h2]
theorem law_post {H : Type} {enc : TypeId × Value → H} {P : Program} {f : Func} {s : ChangeSpec} {W W' : World} {args : Array Value} {ds gs : List (DataW H)} {before : List MemPlace} {B : TypeId}
  (hl : laidOutB P = true) (hpar : f.params.toList.all (fun t => P.readableRec t && decide (t < P.types.size)) = true) (hvars : s.vars = []) (hB : f.resultTypes = #[B]) (hu : P.underlying B = some .bool)
  (hfn : ∀ ds : List (DataW H), ds.length = f.params.size → s.fn H ds = { results := [.lit (.bool true)], args := ds })
  (hW : DataW.Whole enc P f.params.toList s.vars false W args.toList ds gs before) (hb : Below W.heap.size W W') : s.post enc P f false true false false W args (.bool true) W' := by
 have hW' := hW
 have hlt : ∀ p ∈ before, p.block < W.heap.size := fun p hp => hW.lt p hp
 obtain ⟨p, q, hA, hV, rfl, hfz, hnd⟩ := hW'
 rw [hvars] at hV
 obtain ⟨rfl, rfl⟩ := ChangeShapes.trodVars_none hV
 have hlen : ds.length = f.params.size := by simpa using trodAll_len hA
 have hdd : s.fn H (ds ++ []) = { results := [.lit (.bool true)], args := ds } := by rw [List.append_nil]; exact hfn ds hlen
 have hres : ∀ (b : Nat) (sp : Nat → Bool) (hd : Bool), DataW.TrodAll enc P W' b sp hd f.resultTypes.toList ((Value.bool true).resultList f.resultTypes.size) (s.fn H (ds ++ [])).results [] := by
  intro b sp hd
  rw [hdd, hB]
  exact trodAll_cons_mk (RowKit.shut_bool hu _) ChangeShapes.trodAll_mk0
 have hargs : ∀ sp : Nat → Bool, (∀ x ∈ p ++ [], sp x.block = true) → DataW.TrodAll enc P W' 0 sp true f.params.toList args.toList (s.fn H (ds ++ [])).args p := by
  intro sp hsp
  rw [hdd]
  exact trodAll_stays hl hpar hA (fun x hx => hb.same (hlt x (by simpa using hx))) (fun x hx => hsp x (by simpa using hx))
 have hvars' : ∀ sp : Nat → Bool, DataW.TrodVars enc P W' sp s.vars (s.fn H (ds ++ [])).vars [] := by
  intro sp; rw [hvars, hdd]; rfl
 have hold : ∀ x ∈ p ++ [], (fun b => decide (b < W.heap.size)) x.block = true := fun x hx => by simpa using hlt x hx
 refine ⟨ds, [], p ++ [], [], p, [], hW, hres _ _ _, hargs _ hold, hvars' _, World.keptBut_mono (fun x hx => ⟨hx, Or.inr (by simpa using hx)⟩) (hb.frame (· ∈ p ++ [])), fun h => (by cases h)⟩
end Go.Stp

namespace Go.Proofs.YtolepebgdfdciaaGreat.Facts
set_option maxRecDepth 100000
theorem laid : laidOutB Tryz.prog = true := by kernel_rfl
theorem rowed : mapsRowed Tryz.prog = true := by kernel_rfl
end Go.Proofs.YtolepebgdfdciaaGreat.Facts

namespace Go.Stp
set_option linter.unusedVariables false
set_option linter.unusedSimpArgs false
theorem groupsL (a b : Member) (H : ∀ p ∈ a.publications, a0o (a0h a b) p.publisher p.seq = (p.content, true)) : ∀ (m i : Nat), a.publications.length - i = m → ∃ j, a27 a b i = Ctl.nxt j := by
 intro m
 induction m with
 | zero =>
  intro i h
  rw [a27, if_neg (by omega)]
  exact ⟨i, rfl⟩
 | succ m ih =>
  intro i h
  obtain ⟨p, hp⟩ : ∃ p, a.publications[i]? = some p := ⟨_, List.getElem?_eq_getElem (by omega)⟩
  have hf := H p (List.mem_of_getElem? hp)
  rw [a27, if_pos (by omega), hp]
  dsimp only
  rw [hf, if_neg (fun h => by cases h), if_neg (by rw [rr_same]; decide)]
  exact ih (i + 1) (by omega)
theorem true_FnGroups (code : List UInt8) (hcode : GoT.ok 10 code) : a0m code = true := by
 obtain ⟨h, hc, g, t⟩ := drawGroup_gs code
 have hlen : (a1p code).length = 3 := by have := congrArg List.length g.nm; rw [List.length_map] at this; exact this
 obtain ⟨a, ha⟩ : ∃ a, (a1p code)[0]? = some a := ⟨_, List.getElem?_eq_getElem (by omega)⟩
 obtain ⟨b, hb⟩ : ∃ b, (a1p code)[1]? = some b := ⟨_, List.getElem?_eq_getElem (by omega)⟩
 obtain ⟨k1, k2, k3, k4, k5, k6, k7⟩ := cu_laws (g.gm a (List.mem_of_getElem? ha)).1 (g.gm b (List.mem_of_getElem? hb)).1 t
 obtain ⟨j, hj⟩ := groupsL a b (fun p hp => by rw [same_CatchUp', same_FindPublication']; exact k6 p hp) _ 0 rfl
 have hN : ∀ x : Name, a3i x = a0e x := fun _ => rfl
 have hM : ∀ (m : Member) (v : StateVector), a10 m v = a0q m v := fun m v => by simp only [a10, a0q, same_NewerThan']
 have c : ∀ x : Bool, (x == x) = true := fun x => beq_self_eq_true x
 have hP : (!((a0f (a06 code).1 (a06 code).2).2)) = false → (a0b (a0f (a06 code).1 (a06 code).2).1.vector (a06 code).1.name == IntKind.i64.wrap (a0b (a06 code).1.vector (a06 code).1.name + 1)) = true := fun h => by
  rw [pub_next _ _ (by simpa using h)]
  exact beq_self_eq_true _
 have hz : (((([] : List TableEntry).length : Nat) : Int) != 0) = false := rfl
 unfold a0m
 cases a3t code
 ·simp only [same_Publish', same_AcceptPublication', same_CatchUp', same_InSync', same_FindPublication', hM, hN, same_ValidMember', same_SeqOf', rr_member, rr_same, rr_rows, c, Bool.not_true, cond_false, ha, hb, k1, k2, ← k3, k4, k5, k7, hz, hj, cond_true]
  cases hv : (!((a0f (a06 code).1 (a06 code).2).2))
  ·simp only [cond_false]
   exact hP hv
  ·rfl
 ·rfl
end Go.Stp
namespace Go.Proofs.YtolepebgdfdciaaGreat
open Go.Stp
open Go.RowKit (Below)
open Go.ChangeShapes Go.WideShapes Go.ChangeAt
namespace LawFnGroups
theorem own : ownKnob Tryz.prog.godebug = none := by kernel_rfl
theorem laid : laidOutB Tryz.prog = true := Facts.laid
set_option maxRecDepth 100000 in
theorem lifted (os : Os) (started : os.Started) (H : Type) (enc : TypeId × Value → H) :
  ReturnsInHanded {} Tryz.checked os 4 .any (Rows.fnGroupsSpec.pre6 enc Tryz.prog Tryz.f4 Rows.fnGroupsRow.domain false) (Rows.fnGroupsSpec.post enc Tryz.prog Tryz.f4 false true false false) := by
 refine returnsInHanded_of_change (C := Tryz.checked) own started (by kernel_rfl) Tryz.func4
  (ChangeSpec.witness6 (enc := enc) (C := Tryz.checked) false ⟨#[], #[.slice none 0 0], []⟩ 8 (by kernel_rfl) (by kernel_rfl) (by kernel_rfl) (by kernel_rfl)) ?_
 intro W base args ds gs before hval0 hW _ _
 have hval : ∀ (j : Nat) t v, Tryz.f4.params[j]? = some t → args[j]? = some v → Value.okWide Tryz.prog W .any base t v := hval0
 have hW' := hW
 obtain ⟨p, q, hA0, _⟩ := hW
 have hA : DataW.TrodAll enc Tryz.prog W 0 (fun _ => true) true Tryz.f4.params.toList args.toList ds p := hA0
 rw [Tryz.params4] at hA hval
 obtain ⟨v0, vs0, d0, ds0, p0, q0, hargs, rfl, rfl, h0, r0⟩ := ChangeShapes.trodAll_cons hA
 obtain ⟨rfl, rfl, rfl⟩ := trodAll_nil r0
 obtain rfl : args = #[v0] := by cases args; simp_all
 obtain ⟨a0, x0, rfl, k0, g0⟩ := (arg_slice Tryz.underlying22 (opens_slice Tryz.underlying22 (by kernel_rfl) (opens_byte Tryz.underlying5 (by kernel_rfl)))) (hval 0 22 _ rfl rfl) h0
 have ht := true_FnGroups a0 k0
 refine (f4 W 0 (by decide) a0 x0.1 x0.2 (g0 (MF.rs .der x0.1 x0.2 a0) (List.mem_cons_self)) k0).2.mono fun e W1 ⟨v, he, hb, hv⟩ => ?_
 rw [ht] at hv
 obtain ⟨rfl, _⟩ := hv
 subst he
 exact ⟨_, rfl, law_post laid (by kernel_rfl) rfl rfl Tryz.underlying4 (fun ds h => by match ds, h with | [_], _ => rfl) hW' hb.below⟩
set_option maxRecDepth 100000 in
theorem c_inPlace : (Rows.fnGroupsRow.inPlace == Tryz.prog.inPlace 4) = true := by kernel_rfl
set_option maxRecDepth 100000 in
theorem c_unfollowed : (Rows.fnGroupsRow.unfollowed == Tryz.prog.unfollowed 4) = true := by kernel_rfl
set_option maxRecDepth 100000 in
theorem c_recurses : (Rows.fnGroupsRow.recurses == Tryz.prog.recurses 4) = true := by kernel_rfl
set_option maxRecDepth 100000 in
theorem c_named : (Rows.fnGroupsRow.named == Tryz.prog.varsNamed 4) = true := by kernel_rfl
set_option maxRecDepth 100000 in
theorem c_read : Tryz.f4.params.all (Tryz.pinned.checked.prog.readableRec ·) = true := by kernel_rfl
set_option maxRecDepth 100000 in
theorem c_maps : (Rows.fnGroupsRow.maps == (Tryz.f4.params.toList ++ Rows.fnGroupsSpec.plain.varTypes Tryz.pinned.checked.prog).any (Tryz.pinned.checked.prog.mapsRec ·)) = true := by kernel_rfl
set_option maxRecDepth 100000 in
theorem c_ifaces : (Rows.fnGroupsRow.ifaces == (Tryz.f4.params.toList ++ Rows.fnGroupsSpec.plain.varTypes Tryz.pinned.checked.prog).any (Tryz.pinned.checked.prog.ifacesRec ·)) = true := by kernel_rfl
set_option maxRecDepth 100000 in
theorem c_loops : (Rows.fnGroupsRow.loops == (Tryz.f4.params.toList ++ Rows.fnGroupsSpec.plain.varTypes Tryz.pinned.checked.prog).any (Tryz.pinned.checked.prog.loopsFrom ·)) = true := by kernel_rfl
set_option maxRecDepth 100000 in
theorem c_wide : (Rows.fnGroupsRow.wideKeys == (Tryz.f4.params.toList ++ Rows.fnGroupsSpec.plain.varTypes Tryz.pinned.checked.prog ++ Tryz.f4.resultTypes.toList).any (Tryz.pinned.checked.prog.wideKeysFrom ·)) = true := by kernel_rfl
set_option maxRecDepth 100000 in
theorem c_rread : Tryz.f4.resultTypes.all (fun t => Tryz.pinned.checked.prog.readableRec t && decide (t < Tryz.pinned.checked.prog.types.size)) = true := by kernel_rfl
set_option maxRecDepth 100000 in
theorem c_veiled : (Rows.fnGroupsRow.veiled == (Tryz.f4.params.toList ++ Rows.fnGroupsSpec.plain.varTypes Tryz.pinned.checked.prog ++ Tryz.f4.resultTypes.toList).any (Tryz.pinned.checked.prog.veiledRec ·)) = true := by kernel_rfl
set_option maxRecDepth 100000 in
theorem c_vfits : Rows.fnGroupsRow.veiledFits Tryz.pinned.checked.prog Tryz.f4.params.toList (Tryz.f4.params.toList ++ Rows.fnGroupsSpec.plain.varTypes Tryz.pinned.checked.prog ++ Tryz.f4.resultTypes.toList) = true := by kernel_rfl
set_option maxRecDepth 100000 in
theorem c_enter : Tryz.pinned.checked.prog.mayEnter = true := by kernel_rfl
set_option maxRecDepth 100000 in
theorem c_heard : Tryz.pinned.checked.prog.stopsHeard = true := by kernel_rfl
set_option maxRecDepth 100000 in
theorem c_lifted : (Rows.fnGroupsRow.lifted == Tryz.pinned.checked.prog.liftsFinal) = true := by kernel_rfl
set_option maxRecDepth 100000 in
theorem c_plainKeys : (Rows.fnGroupsRow.plainKeys == Tryz.pinned.checked.prog.plainKeys) = true := by kernel_rfl
set_option maxRecDepth 100000 in
theorem c_make : (Tryz.pinned.checked.prog.make == some Rows.fnGroupsRow.make) = true := by kernel_rfl
set_option maxRecDepth 100000 in
theorem closed : joinedFacts Tryz.pinned.checked.prog 4 Tryz.f4 Rows.fnGroupsSpec Rows.fnGroupsRow = true := by
 unfold joinedFacts
 rw [show laidOutB Tryz.pinned.checked.prog = true from laid, show mapsRowed Tryz.pinned.checked.prog = true from Facts.rowed, show (Rows.fnGroupsRow.inPlace == Tryz.pinned.checked.prog.inPlace 4) = true from c_inPlace, show (Rows.fnGroupsRow.unfollowed == Tryz.pinned.checked.prog.unfollowed 4) = true from c_unfollowed, show (Rows.fnGroupsRow.recurses == Tryz.pinned.checked.prog.recurses 4) = true from c_recurses, show (Rows.fnGroupsRow.named == Tryz.pinned.checked.prog.varsNamed 4) = true from c_named, c_read, c_maps, c_ifaces, c_loops, c_wide, c_rread, c_veiled, c_vfits, c_enter, c_heard, c_lifted, c_plainKeys, c_make]
 kernel_rfl
theorem over : Rows.fnGroupsRow.holds Tryz.pinned (OpenSpec.ofChange Rows.fnGroupsSpec) :=
 OpenClaim.holds_of_wide 4 Tryz.f4 rfl rfl rfl rfl rfl rfl rfl ⟨rfl, rfl, rfl, rfl, rfl⟩ rfl rfl rfl rfl rfl (by kernel_rfl) Tryz.func4 closed
  (of_decide_eq_true (by kernel_rfl)) (by unfold Func.isWrapper; first | (rw [if_pos (by decide +kernel)]; kernel_rfl) | (rw [if_neg (by decide +kernel)]; exact ⟨rfl, rfl⟩))
  (fun os started H enc _ => lifted os started H enc)
theorem proved : Rows.FnGroupsSaid := over
#print axioms proved
end LawFnGroups
end Go.Proofs.YtolepebgdfdciaaGreat

