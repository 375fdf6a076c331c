/-
  What the proof of one law needs: rules of the program logic, functions as Lean functions, contracts. No condition but what each says. Written by a program (pack.py) out of my own texts.
-/
import Derived.Test.YtdimfabadjfkiaaKFnVecs7
namespace Go.Proofs.Ytdimfabadjfkiaa
open Go.Stp
set_option linter.unusedVariables false
set_option linter.unusedSimpArgs false
set_option maxRecDepth 100000 in
set_option maxHeartbeats 0 in
theorem f4 (w : World) (n : Nat) (hn : n + 8 ≤ 9) (code : (List UInt8)) (pcode : Option Addr) (ccode : Nat) (hpcode : RdSl (hp w) pcode ccode code) (hokcode : GoT.ok 10 code) :
    Does Try.prog 4 #[.slice pcode ((code).length) ccode] w emp (fun (rv : Value) (_ : World) => rv = .bool (laws_FnVecs code) ∧ True) := by
  have hbP := bd_pos n
  have hbS0 : bd (n + 1) = 4 * bd (n) := bd_succ (n := n) (by omega)
  have hbS1 : bd (n + 2) = 4 * bd (n + 1) := bd_succ (n := n + 1) (by omega)
  have hbS2 : bd (n + 3) = 4 * bd (n + 2) := bd_succ (n := n + 2) (by omega)
  have hbS3 : bd (n + 4) = 4 * bd (n + 3) := bd_succ (n := n + 3) (by omega)
  have hbS4 : bd (n + 5) = 4 * bd (n + 4) := bd_succ (n := n + 4) (by omega)
  have hbS5 : bd (n + 6) = 4 * bd (n + 5) := bd_succ (n := n + 5) (by omega)
  have hbS6 : bd (n + 7) = 4 * bd (n + 6) := bd_succ (n := n + 6) (by omega)
  have hbS7 : bd (n + 8) = 4 * bd (n + 7) := bd_succ (n := n + 7) (by omega)
  have hbB := bd_big (n := (n + 8)) (by omega)
  have hbM := bd_mono (show n ≤ n + 8 by omega)
  refine WX.enter (tt := tt) (Γ := [(0, MF.rs .stb pcode ccode code)]) Try.func4 rfl (by kernel_rfl) rfl (allS_cons rfl hpcode allS_nil) ?_
  refine WX.run ttOk rfl ?_
  refine WX.callV rfl rfl rfl rfl rfl (fun _ => rfl) rfl (fun w G bs hI hΓ => f5 w 10 code pcode ccode (hΓ.get 0 rfl) hokcode) ?_
  intro hq1
  refine WX.run ttOk rfl ?_
  refine WX.cases 26 rfl (fun h1 => ?_) (fun h1 => ?_)
  · skip
    refine WX.run ttOk rfl ?_
    have hP1 : laws_FnVecs code = true := by simp only [laws_FnVecs, h1, cond_true, cond_false]
    refine WX.ret ttOk rfl ?_
    intro w1 G bs hI hΓ
    rw [hP1]
    exact ⟨rfl, trivial⟩
  · skip
    have hk1l : ¬ ((((code).length : Nat) : Int) > 1048576) := of_decide_eq_false (show decide ((((code).length : Nat) : Int) > 1048576) = false from h1)
    have hk1 : GoT.ok n code := okl_mk (show (code).length ≤ bd n by omega) (fun _ _ => trivial)
    refine WX.run ttOk rfl ?_
    refine WX.callF 1 (fun _ _ h => GoT.ow_rd h) (fun _ f hf => GoT.fak f hf) rfl rfl rfl rfl rfl (fun _ => rfl) rfl (fun w G bs hI hΓ => f9 w n (by omega) code pcode ccode (hΓ.get 0 rfl) hk1) (fun _ => rfl) (fun _ => rfl) ?_
    rintro ⟨⟨p1, c1⟩, ⟨p2, c2⟩, ⟨p3, c3⟩⟩ hq2
    refine WX.run ttOk rfl ?_
    refine WX.callF 7 (fun _ _ h => GoT.ow_rd h) (fun _ f hf => GoT.fak f hf) rfl rfl rfl rfl rfl (fun _ => rfl) rfl (fun w G bs hI hΓ => f10 w n (by omega) code pcode ccode (hΓ.get 0 rfl) hk1) (fun _ => rfl) (fun _ => rfl) ?_
    rintro ⟨⟨p4, c4⟩, ⟨p5, c5⟩⟩ hq3
    refine WX.run ttOk rfl ?_
    refine WX.callF 11 (fun _ _ h => GoT.ow_rd h) (fun _ f hf => GoT.fak f hf) rfl rfl rfl rfl rfl (fun _ => rfl) rfl (fun w G bs hI hΓ => f11 w n (by omega) code pcode ccode (hΓ.get 0 rfl) hk1) (fun _ => rfl) (fun _ => rfl) ?_
    rintro ⟨⟨p6, c6⟩, ⟨p7, c7⟩⟩ hq4
    refine WX.run ttOk rfl ?_
    refine WX.callF 15 (fun _ _ h => GoT.ow_rd h) (fun _ f hf => GoT.fak f hf) rfl rfl rfl rfl rfl (fun _ => rfl) rfl (fun w G bs hI hΓ => f12 w n (by omega) code pcode ccode (hΓ.get 0 rfl) hk1) (fun _ => rfl) (fun _ => rfl) ?_
    rintro ⟨⟨p8, c8⟩, ⟨p9, c9⟩⟩ hq5
    refine WX.trim [45, 9, 8, 7, 6, 5, 4, 3, 0] [0, 1, 2, 3, 4, 5, 6, 7, 8, 9, 10, 11, 12, 13, 14, 15, 16, 17, 18] rfl rfl ?_
    refine WX.run ttOk rfl ?_
    refine WX.callF 19 (fun _ _ h => GoT.ow_rd h) (fun _ f hf => GoT.fak f hf) rfl rfl rfl rfl rfl (fun _ => rfl) rfl (fun w G bs hI hΓ => f13 w n (by omega) code pcode ccode (hΓ.get 0 rfl) hk1) (fun _ => rfl) (fun _ => rfl) ?_
    rintro ⟨p10, c10⟩ hq6
    refine WX.run ttOk rfl ?_
    refine WX.callF 21 (fun _ _ h => GoT.ow_rd h) (fun _ f hf => GoT.fak f hf) rfl rfl rfl rfl rfl (fun _ => rfl) rfl (fun w G bs hI hΓ => f14 w n (by omega) code pcode ccode (hΓ.get 0 rfl) hk1) (fun _ => rfl) (fun _ => rfl) ?_
    rintro ⟨p11, c11⟩ hq7
    have q1 := drawDec_len code
    refine WX.run ttOk rfl ?_
    have r1 : (code).length ≤ bd n := (okl hk1).1
    have r2 : (spec_DrawDecodeVector code).length ≤ bd (n + 6) := (okl hq7).1
    refine WX.callF 23 (fun _ _ h => GoT.ow_rd h) (fun _ f hf => GoT.fak f hf) rfl rfl rfl rfl rfl (fun _ => rfl) rfl (fun w G bs hI hΓ => f15 w n (by omega) (spec_DrawDecodeVector code) p11 c11 (hΓ.get 21 rfl) (okl_mk (by omega) (fun _ _ => trivial) : GoT.ok n ((spec_DrawDecodeVector code) : List UInt8))) (fun _ => rfl) (fun _ => rfl) ?_
    rintro ⟨p12, c12⟩ hq8
    refine WX.run ttOk rfl ?_
    refine WX.callF 25 (fun _ _ h => GoT.ow_rd h) (fun _ f hf => GoT.fak f hf) rfl rfl rfl rfl rfl (fun _ => rfl) rfl (fun w G bs hI hΓ => f16 w n (by omega) (spec_DrawDecodeVector code) p11 c11 (hΓ.get 21 rfl) (okl_mk (by omega) (fun _ _ => trivial) : GoT.ok n ((spec_DrawDecodeVector code) : List UInt8))) (fun _ => rfl) (fun _ => rfl) ?_
    rintro ⟨p13, c13⟩ hq9
    refine WX.trim [59, 15, 14, 13, 12, 11, 10, 9, 8, 7, 6, 5, 4, 3, 0] [0, 1, 2, 3, 4, 5, 6, 7, 8, 9, 10, 11, 12, 13, 14, 15, 16, 17, 18, 19, 20, 21, 22, 23, 24, 25, 26] rfl rfl ?_
    refine WX.run ttOk rfl ?_
    refine WX.callF 27 (fun _ _ h => GoT.ow_rd h) (fun _ f hf => GoT.fak f hf) rfl rfl rfl rfl rfl (fun _ => rfl) rfl (fun w G bs hI hΓ => f17 w n (by omega) code pcode ccode (hΓ.get 0 rfl) hk1) (fun _ => rfl) (fun _ => rfl) ?_
    rintro ⟨⟨p14, c14⟩, ⟨p15, c15⟩⟩ hq10
    refine WX.run ttOk rfl ?_
    refine WX.draw [] mixed ?_
    intro bs G0 hΓ0
    refine DX.tab (by kernel_rfl) (fun hT => ?_)
    refine DX.takes (fuel := 69) ttOk [(0, false), (1, false), (4, false), (5, false)] (takesB_of hT (by kernel_rfl)) rfl ?_
    refine DX.callF 2 31 (fun _ _ h => GoT.ow_rd h) (fun _ f hf => GoT.fak f hf) rfl (by kernel_rfl) rfl rfl rfl rfl rfl rfl (fun _ => rfl) rfl (fun w G bs hI hΓ => f19 w (n + 1) (by omega) ((spec_DrawJoinVectors code).1) p4 c4 (hΓ.get 7 rfl) ((spec_DrawJoinVectors code).2) p5 c5 (hΓ.get 8 rfl) hq3.1 hq3.2) (fun _ => rfl) (fun _ => rfl) ?_
    rintro ⟨p16, c16⟩ hq11
    refine DX.takes (fuel := 67) ttOk [(3, true)] (takesB_of hT (by kernel_rfl)) rfl ?_
    refine DX.callF 6 33 (fun _ _ h => GoT.ow_rd h) (fun _ f hf => GoT.fak f hf) rfl (by kernel_rfl) rfl rfl rfl rfl rfl rfl (fun _ => rfl) rfl (fun w G bs hI hΓ => f20 w (n + 1) (by omega) ((spec_DrawJoinVectors code).1) p4 c4 (hΓ.get 7 rfl) ((spec_DrawJoinVectors code).2) p5 c5 (hΓ.get 8 rfl) hq3.1 hq3.2) (fun _ => rfl) (fun _ => rfl) ?_
    rintro ⟨p17, c17⟩ hq12
    refine DX.takes (fuel := 65) ttOk [(7, true)] (takesB_of hT (by kernel_rfl)) rfl ?_
    refine DX.callV 8 rfl (by kernel_rfl) rfl rfl rfl rfl rfl rfl (fun _ => rfl) rfl (fun w G bs hI hΓ => f18 w (n + 2) (by omega) ((impl_JoinVectors ((spec_DrawJoinVectors code).1) ((spec_DrawJoinVectors code).2)).entries) p16 c16 (hΓ.get 31 rfl) ((spec_JoinVectors ((spec_DrawJoinVectors code).1) ((spec_DrawJoinVectors code).2)).entries) p17 c17 (hΓ.get 33 rfl) (ok_StateVector hq11) (ok_StateVector hq12)) ?_
    intro hq13
    refine DX.takes (fuel := 62) ttOk [(9, true), (10, true)] (takesB_of hT (by kernel_rfl)) rfl ?_
    refine DX.cases 77 rfl (fun h2 => ?_) (fun h2 => ?_)
    · skip
      have h2d := (B.nt h2)
      refine DX.takes (fuel := 0) ttOk [(11, true), (12, true), (13, true), (14, true), (15, true), (16, true), (17, true), (18, true), (19, true), (20, true), (21, true), (22, true), (23, true), (24, true), (25, true), (26, true), (27, true), (28, true), (29, true), (30, true), (31, true), (32, true), (33, true), (34, true), (35, true), (36, true), (37, true), (38, true), (39, true), (40, true), (41, true), (42, true), (43, true), (44, true), (45, true), (46, true), (47, true), (48, true), (49, true), (50, true), (51, true), (52, true), (53, true), (54, true), (55, true), (56, true), (57, true), (58, true), (59, true), (60, true), (61, true), (62, true), (63, true), (64, true), (65, true), (66, true), (67, true), (68, true), (69, true), (70, true), (71, true), (72, true)] (takesB_of hT (by kernel_rfl)) rfl ?_
      refine DX.tail2 [] rfl rfl (by kernel_rfl) ?_
      refine WX.run ttOk rfl ?_
      have hP2 : laws_FnVecs code = false := by simp only [laws_FnVecs, h1, h2, cond_true, cond_false]
      refine WX.ret ttOk rfl ?_
      intro w1 G bs hI hΓ
      rw [hP2]
      exact ⟨rfl, trivial⟩
    · skip
      have h2d := (B.nf h2)
      refine DX.takes (fuel := 58) ttOk [(11, false), (12, false), (14, false), (15, false)] (takesB_of hT (by kernel_rfl)) rfl ?_
      refine DX.callV 13 rfl (by kernel_rfl) rfl rfl rfl rfl rfl rfl (fun _ => rfl) rfl (fun w G bs hI hΓ => f21 w (n + 2) (by omega) ((spec_DrawVectorLeq code).1) p6 c6 (hΓ.get 11 rfl) ((spec_DrawVectorLeq code).2) p7 c7 (hΓ.get 12 rfl) hq4.1 hq4.2) ?_
      intro hq14
      refine DX.callV 16 rfl (by kernel_rfl) rfl rfl rfl rfl rfl rfl (fun _ => rfl) rfl (fun w G bs hI hΓ => f22 w (n + 2) (by omega) ((spec_DrawVectorLeq code).1) p6 c6 (hΓ.get 11 rfl) ((spec_DrawVectorLeq code).2) p7 c7 (hΓ.get 12 rfl) hq4.1 hq4.2) ?_
      intro hq15
      refine DX.see 17 (mayB_of hT (by kernel_rfl)) rfl rfl rfl rfl (looks_beq ttOk rfl rfl rfl rfl rfl rfl) ?_
      refine DX.takes (fuel := 53) ttOk [(18, true), (19, true)] (takesB_of hT (by kernel_rfl)) rfl ?_
      refine DX.cases 86 rfl (fun h3 => ?_) (fun h3 => ?_)
      · as_aux_lemma =>
        have h3d := (B.nt h3)
        refine DX.takes (fuel := 0) ttOk [(20, true), (21, true), (22, true), (23, true), (24, true), (25, true), (26, true), (27, true), (28, true), (29, true), (30, true), (31, true), (32, true), (33, true), (34, true), (35, true), (36, true), (37, true), (38, true), (39, true), (40, true), (41, true), (42, true), (43, true), (44, true), (45, true), (46, true), (47, true), (48, true), (49, true), (50, true), (51, true), (52, true), (53, true), (54, true), (55, true), (56, true), (57, true), (58, true), (59, true), (60, true), (61, true), (62, true), (63, true), (64, true), (65, true), (66, true), (67, true), (68, true), (69, true), (70, true), (71, true), (72, true)] (takesB_of hT (by kernel_rfl)) rfl ?_
        refine DX.tail2 [] rfl rfl (by kernel_rfl) ?_
        refine WX.run ttOk rfl ?_
        have hP3 : laws_FnVecs code = false := by simp only [laws_FnVecs, h1, h2, h3, cond_true, cond_false]
        refine WX.ret ttOk rfl ?_
        intro w1 G bs hI hΓ
        rw [hP3]
        exact ⟨rfl, trivial⟩
      · as_aux_lemma =>
        have h3d := (B.nf h3)
        refine DX.takes (fuel := 49) ttOk [(20, false), (21, false), (23, false), (24, false)] (takesB_of hT (by kernel_rfl)) rfl ?_
        refine DX.callF 22 35 (fun _ _ h => GoT.ow_rd h) (fun _ f hf => GoT.fak f hf) rfl (by kernel_rfl) rfl rfl rfl rfl rfl rfl (fun _ => rfl) rfl (fun w G bs hI hΓ => f23 w (n + 1) (by omega) ((spec_DrawNewerThan code).1) p8 c8 (hΓ.get 15 rfl) ((spec_DrawNewerThan code).2) p9 c9 (hΓ.get 16 rfl) hq5.1 hq5.2) (fun _ => rfl) (fun _ => rfl) ?_
        rintro ⟨p18, c18⟩ hq16
        refine DX.callF 25 37 (fun _ _ h => GoT.ow_rd h) (fun _ f hf => GoT.fak f hf) rfl (by kernel_rfl) rfl rfl rfl rfl rfl rfl (fun _ => rfl) rfl (fun w G bs hI hΓ => f24 w (n + 1) (by omega) ((spec_DrawNewerThan code).1) p8 c8 (hΓ.get 15 rfl) ((spec_DrawNewerThan code).2) p9 c9 (hΓ.get 16 rfl) hq5.1 hq5.2) (fun _ => rfl) (fun _ => rfl) ?_
        rintro ⟨p19, c19⟩ hq17
        refine DX.callV 26 rfl (by kernel_rfl) rfl rfl rfl rfl rfl rfl (fun _ => rfl) rfl (fun w G bs hI hΓ => f18 w (n + 1) (by omega) (impl_NewerThan ((spec_DrawNewerThan code).1) ((spec_DrawNewerThan code).2)) p18 c18 (hΓ.get 35 rfl) (spec_NewerThan ((spec_DrawNewerThan code).1) ((spec_DrawNewerThan code).2)) p19 c19 (hΓ.get 37 rfl) hq16 hq17) ?_
        intro hq18
        refine DX.takes (fuel := 43) ttOk [(27, true), (28, true), (29, true)] (takesB_of hT (by kernel_rfl)) rfl ?_
        refine DX.cases 96 rfl (fun h4 => ?_) (fun h4 => ?_)
        · skip
          have h4d := (B.nt h4)
          refine DX.takes (fuel := 0) ttOk [(30, true), (31, true), (32, true), (33, true), (34, true), (35, true), (36, true), (37, true), (38, true), (39, true), (40, true), (41, true), (42, true), (43, true), (44, true), (45, true), (46, true), (47, true), (48, true), (49, true), (50, true), (51, true), (52, true), (53, true), (54, true), (55, true), (56, true), (57, true), (58, true), (59, true), (60, true), (61, true), (62, true), (63, true), (64, true), (65, true), (66, true), (67, true), (68, true), (69, true), (70, true), (71, true), (72, true)] (takesB_of hT (by kernel_rfl)) rfl ?_
          refine DX.tail2 [] rfl rfl (by kernel_rfl) ?_
          refine WX.run ttOk rfl ?_
          have hP4 : laws_FnVecs code = false := by simp only [laws_FnVecs, h1, h2, h3, h4, cond_true, cond_false]
          refine WX.ret ttOk rfl ?_
          intro w1 G bs hI hΓ
          rw [hP4]
          exact ⟨rfl, trivial⟩
        · skip
          have h4d := (B.nf h4)
          refine DX.takes (fuel := 41) ttOk [(30, false), (32, false)] (takesB_of hT (by kernel_rfl)) rfl ?_
          refine DX.callF 31 39 (fun _ _ h => GoT.ow_rd h) (fun _ f hf => GoT.fak f hf) rfl (by kernel_rfl) rfl rfl rfl rfl rfl rfl (fun _ => rfl) rfl (fun w G bs hI hΓ => f26 w (n + 1) (by omega) (spec_DrawEncodeVector code) p10 c10 (hΓ.get 19 rfl) hq6) (fun _ => rfl) (fun _ => rfl) ?_
          rintro ⟨p20, c20⟩ hq19
          refine DX.callF 33 41 (fun _ _ h => GoT.ow_rd h) (fun _ f hf => GoT.fak f hf) rfl (by kernel_rfl) rfl rfl rfl rfl rfl rfl (fun _ => rfl) rfl (fun w G bs hI hΓ => f27 w (n + 1) (by omega) (spec_DrawEncodeVector code) p10 c10 (hΓ.get 19 rfl) hq6) (fun _ => rfl) (fun _ => rfl) ?_
          rintro ⟨p21, c21⟩ hq20
          refine DX.callV 34 rfl (by kernel_rfl) rfl rfl rfl rfl rfl rfl (fun _ => rfl) rfl (fun w G bs hI hΓ => f25 w (n + 5) (by omega) (impl_EncodeVector (spec_DrawEncodeVector code)) p20 c20 (hΓ.get 39 rfl) (spec_EncodeVector (spec_DrawEncodeVector code)) p21 c21 (hΓ.get 41 rfl) hq19 hq20) ?_
          intro hq21
          refine DX.takes (fuel := 35) ttOk [(35, true), (36, true), (37, true)] (takesB_of hT (by kernel_rfl)) rfl ?_
          refine DX.cases 104 rfl (fun h5 => ?_) (fun h5 => ?_)
          · skip
            have h5d := (B.nt h5)
            refine DX.takes (fuel := 0) ttOk [(38, true), (39, true), (40, true), (41, true), (42, true), (43, true), (44, true), (45, true), (46, true), (47, true), (48, true), (49, true), (50, true), (51, true), (52, true), (53, true), (54, true), (55, true), (56, true), (57, true), (58, true), (59, true), (60, true), (61, true), (62, true), (63, true), (64, true), (65, true), (66, true), (67, true), (68, true), (69, true), (70, true), (71, true), (72, true)] (takesB_of hT (by kernel_rfl)) rfl ?_
            refine DX.tail2 [] rfl rfl (by kernel_rfl) ?_
            refine WX.run ttOk rfl ?_
            have hP5 : laws_FnVecs code = false := by simp only [laws_FnVecs, h1, h2, h3, h4, h5, cond_true, cond_false]
            refine WX.ret ttOk rfl ?_
            intro w1 G bs hI hΓ
            rw [hP5]
            exact ⟨rfl, trivial⟩
          · skip
            have h5d := (B.nf h5)
            refine DX.takes (fuel := 31) ttOk [(38, true), (39, false), (40, true), (41, false)] (takesB_of hT (by kernel_rfl)) rfl ?_
            refine DX.callV 42 rfl (by kernel_rfl) rfl rfl rfl rfl rfl rfl (fun _ => rfl) rfl (fun w G bs hI hΓ => f18 w n (by omega) ((impl_DecodeVector (spec_DrawDecodeVector code)).1.entries) p12 c12 (hΓ.get 23 rfl) ((spec_DecodeVector (spec_DrawDecodeVector code)).1.entries) p13 c13 (hΓ.get 25 rfl) (ok_StateVector hq8) (ok_StateVector hq9)) ?_
            intro hq22
            refine DX.takes (fuel := 27) ttOk [(43, true), (44, true), (45, true)] (takesB_of hT (by kernel_rfl)) rfl ?_
            refine DX.cases 112 rfl (fun h6 => ?_) (fun h6 => ?_)
            · as_aux_lemma =>
              have h6d := (B.nt h6)
              refine DX.takes (fuel := 0) ttOk [(46, true), (47, true), (48, true), (49, true), (50, true), (51, true), (52, true), (53, true), (54, true), (55, true), (56, true), (57, true), (58, true), (59, true), (60, true), (61, true), (62, true), (63, true), (64, true), (65, true), (66, true), (67, true), (68, true), (69, true), (70, true), (71, true), (72, true)] (takesB_of hT (by kernel_rfl)) rfl ?_
              refine DX.tail2 [] rfl rfl (by kernel_rfl) ?_
              refine WX.run ttOk rfl ?_
              have hP6 : laws_FnVecs code = false := by simp only [laws_FnVecs, h1, h2, h3, h4, h5, h6, cond_true, cond_false]
              refine WX.ret ttOk rfl ?_
              intro w1 G bs hI hΓ
              rw [hP6]
              exact ⟨rfl, trivial⟩
            · as_aux_lemma =>
              have h6d := (B.nf h6)
              refine DX.takes (fuel := 25) ttOk [(46, true), (47, true)] (takesB_of hT (by kernel_rfl)) rfl ?_
              refine DX.see 48 (mayB_of hT (by kernel_rfl)) rfl rfl rfl rfl (looks_beq ttOk rfl rfl rfl rfl rfl rfl) ?_
              refine DX.takes (fuel := 22) ttOk [(49, true), (50, true)] (takesB_of hT (by kernel_rfl)) rfl ?_
              refine DX.cases 117 rfl (fun h7 => ?_) (fun h7 => ?_)
              · skip
                have h7d := (B.nt h7)
                refine DX.takes (fuel := 0) ttOk [(51, true), (52, true), (53, true), (54, true), (55, true), (56, true), (57, true), (58, true), (59, true), (60, true), (61, true), (62, true), (63, true), (64, true), (65, true), (66, true), (67, true), (68, true), (69, true), (70, true), (71, true), (72, true)] (takesB_of hT (by kernel_rfl)) rfl ?_
                refine DX.tail2 [] rfl rfl (by kernel_rfl) ?_
                refine WX.run ttOk rfl ?_
                have hP7 : laws_FnVecs code = false := by simp only [laws_FnVecs, h1, h2, h3, h4, h5, h6, h7, cond_true, cond_false]
                refine WX.ret ttOk rfl ?_
                intro w1 G bs hI hΓ
                rw [hP7]
                exact ⟨rfl, trivial⟩
              · skip
                have h7d := (B.nf h7)
                refine DX.takes (fuel := 18) ttOk [(51, false), (52, false), (54, false), (55, false)] (takesB_of hT (by kernel_rfl)) rfl ?_
                refine DX.callV 53 rfl (by kernel_rfl) rfl rfl rfl rfl rfl rfl (fun _ => rfl) rfl (fun w G bs hI hΓ => f28 w (n + 1) (by omega) ((spec_DrawSeqOf code).1) p14 c14 (hΓ.get 27 rfl) ((spec_DrawSeqOf code).2) p15 c15 (hΓ.get 28 rfl) hq10.1 hq10.2) ?_
                intro hq23
                refine DX.callV 56 rfl (by kernel_rfl) rfl rfl rfl rfl rfl rfl (fun _ => rfl) rfl (fun w G bs hI hΓ => f29 w (n + 1) (by omega) ((spec_DrawSeqOf code).1) p14 c14 (hΓ.get 27 rfl) ((spec_DrawSeqOf code).2) p15 c15 (hΓ.get 28 rfl) hq10.1 hq10.2) ?_
                intro hq24
                refine DX.takes (fuel := 13) ttOk [(57, true), (58, true), (59, true)] (takesB_of hT (by kernel_rfl)) rfl ?_
                refine DX.cases 126 rfl (fun h8 => ?_) (fun h8 => ?_)
                · skip
                  have h8d := B.nt' h8
                  refine DX.takes (fuel := 0) ttOk [(60, true), (61, true), (62, true), (63, true), (64, true), (65, true), (66, true), (67, true), (68, true), (69, true), (70, true), (71, true), (72, true)] (takesB_of hT (by kernel_rfl)) rfl ?_
                  refine DX.tail2 [] rfl rfl (by kernel_rfl) ?_
                  refine WX.run ttOk rfl ?_
                  have hP8 : laws_FnVecs code = false := by simp only [laws_FnVecs, h1, h2, h3, h4, h5, h6, h7, h8, cond_true, cond_false]
                  refine WX.ret ttOk rfl ?_
                  intro w1 G bs hI hΓ
                  rw [hP8]
                  exact ⟨rfl, trivial⟩
                · skip
                  have h8d := B.nf' h8
                  refine DX.takes (fuel := 11) ttOk [(60, false), (62, false)] (takesB_of hT (by kernel_rfl)) rfl ?_
                  refine DX.callV 61 rfl (by kernel_rfl) rfl rfl rfl rfl rfl rfl (fun _ => rfl) rfl (fun w G bs hI hΓ => f30 w (n + 1) (by omega) (spec_DrawEncodeVector code) p10 c10 (hΓ.get 19 rfl) hq6) ?_
                  intro hq25
                  refine DX.callV 63 rfl (by kernel_rfl) rfl rfl rfl rfl rfl rfl (fun _ => rfl) rfl (fun w G bs hI hΓ => f31 w (n + 1) (by omega) (spec_DrawEncodeVector code) p10 c10 (hΓ.get 19 rfl) hq6) ?_
                  intro hq26
                  refine DX.takes (fuel := 6) ttOk [(64, true), (65, true), (66, true)] (takesB_of hT (by kernel_rfl)) rfl ?_
                  refine DX.cases 133 rfl (fun h9 => ?_) (fun h9 => ?_)
                  · as_aux_lemma =>
                    have h9d := B.nt' h9
                    refine DX.takes (fuel := 0) ttOk [(67, true), (68, true), (69, true), (70, true), (71, true), (72, true)] (takesB_of hT (by kernel_rfl)) rfl ?_
                    refine DX.tail2 [] rfl rfl (by kernel_rfl) ?_
                    refine WX.run ttOk rfl ?_
                    have hP9 : laws_FnVecs code = false := by simp only [laws_FnVecs, h1, h2, h3, h4, h5, h6, h7, h8, h9, cond_true, cond_false]
                    refine WX.ret ttOk rfl ?_
                    intro w1 G bs hI hΓ
                    rw [hP9]
                    exact ⟨rfl, trivial⟩
                  · as_aux_lemma =>
                    have h9d := B.nf' h9
                    refine DX.takes (fuel := 4) ttOk [(67, false), (69, false)] (takesB_of hT (by kernel_rfl)) rfl ?_
                    refine DX.callV 68 rfl (by kernel_rfl) rfl rfl rfl rfl rfl rfl (fun _ => rfl) rfl (fun w G bs hI hΓ => f32 w (n + 1) (by omega) (spec_DrawEncodeVector code) p10 c10 (hΓ.get 19 rfl) hq6) ?_
                    intro hq27
                    refine DX.callV 70 rfl (by kernel_rfl) rfl rfl rfl rfl rfl rfl (fun _ => rfl) rfl (fun w G bs hI hΓ => f33 w (n + 1) (by omega) (spec_DrawEncodeVector code) p10 c10 (hΓ.get 19 rfl) hq6) ?_
                    intro hq28
                    refine DX.see 71 (mayB_of hT (by kernel_rfl)) rfl rfl rfl rfl (looks_beq ttOk rfl rfl rfl rfl rfl rfl) ?_
                    refine DX.takes (fuel := 0) ttOk [(72, true)] (takesB_of hT (by kernel_rfl)) rfl ?_
                    refine DX.tail2 [] rfl rfl (by kernel_rfl) ?_
                    refine WX.run ttOk rfl ?_
                    refine WX.trim [139, 15, 14, 13, 12, 5, 4, 3] [1, 2, 3, 4, 5, 6, 7, 8, 9, 10, 11, 12, 13, 14, 15, 16, 17, 18, 19, 20, 21, 22, 23, 24, 25, 26, 27, 28, 29, 30] rfl rfl ?_
                    refine WX.cases 139 rfl (fun h10 => ?_) (fun h10 => ?_)
                    · skip
                      have h10d := (B.nt h10)
                      refine WX.run ttOk rfl ?_
                      have hP10 : laws_FnVecs code = false := by simp only [laws_FnVecs, h1, h2, h3, h4, h5, h6, h7, h8, h9, h10, cond_true, cond_false]
                      refine WX.ret ttOk rfl ?_
                      intro w1 G bs hI hΓ
                      rw [hP10]
                      exact ⟨rfl, trivial⟩
                    · skip
                      have h10d := (B.nf h10)
                      refine WX.run ttOk rfl ?_
                      refine WX.callF 43 (fun _ _ h => GoT.ow_rd h) (fun _ f hf => GoT.fak f hf) rfl rfl rfl rfl rfl (fun _ => rfl) rfl (fun w G bs hI hΓ => f19 w (n + 1) (by omega) ((spec_DrawVecs code).1) p1 c1 (hΓ.get 1 rfl) ((spec_DrawVecs code).2.1) p2 c2 (hΓ.get 2 rfl) hq2.1 hq2.2.1) (fun _ => rfl) (fun _ => rfl) ?_
                      rintro ⟨p22, c22⟩ hq29
                      refine WX.run ttOk rfl ?_
                      refine WX.callF 45 (fun _ _ h => GoT.ow_rd h) (fun _ f hf => GoT.fak f hf) rfl rfl rfl rfl rfl (fun _ => rfl) rfl (fun w G bs hI hΓ => f19 w (n + 2) (by omega) (impl_JoinVectors ((spec_DrawVecs code).1) ((spec_DrawVecs code).2.1)) p22 c22 (hΓ.get 43 rfl) ((spec_DrawVecs code).2.2) p3 c3 (hΓ.get 3 rfl) hq29 (GoT.okm (α := List TableEntry) (by omega) (ok_StateVector hq2.2.2))) (fun _ => rfl) (fun _ => rfl) ?_
                      rintro ⟨p23, c23⟩ hq30
                      refine WX.run ttOk rfl ?_
                      refine WX.draw [6] mixed ?_
                      intro bs G0 hΓ0
                      refine DX.tab (by kernel_rfl) (fun hT => ?_)
                      refine DX.takes (fuel := 4) ttOk [(0, false), (1, false), (2, false)] (takesB_of hT (by kernel_rfl)) rfl ?_
                      refine DX.pend 5 22 ⟨30, [.slice none (0) 0]⟩ ?_
                      refine DXA.callF 3 47 (fun _ _ h => GoT.ow_rd h) (fun _ f hf => GoT.fak f hf) ttOk rfl rfl rfl rfl rfl rfl rfl (by kernel_rfl) (by kernel_rfl) (by kernel_rfl) rfl rfl rfl rfl rfl rfl rfl rfl rfl rfl (fun _ => rfl) rfl rfl (fun w G bs hI hΓ => f19 w (n + 1) (by omega) ((spec_DrawVecs code).2.1) p2 c2 (hΓ.get 2 rfl) ((spec_DrawVecs code).2.2) p3 c3 (hΓ.get 3 rfl) hq2.2.1 hq2.2.2) (fun _ => rfl) (fun _ => rfl) ?_
                      rintro ⟨p24, c24⟩ hq31
                      refine DXA.callF 4 49 (fun _ _ h => GoT.ow_rd h) (fun _ f hf => GoT.fak f hf) ttOk rfl rfl rfl rfl rfl rfl rfl (by kernel_rfl) (by kernel_rfl) (by kernel_rfl) rfl rfl rfl rfl rfl rfl rfl rfl rfl rfl (fun _ => rfl) rfl rfl (fun w G bs hI hΓ => f19 w (n + 2) (by omega) ((spec_DrawVecs code).1) p1 c1 (hΓ.get 1 rfl) (impl_JoinVectors ((spec_DrawVecs code).2.1) ((spec_DrawVecs code).2.2)) p24 c24 (hΓ.get 47 rfl) (GoT.okm (α := List TableEntry) (by omega) (ok_StateVector hq2.1)) hq31) (fun _ => rfl) (fun _ => rfl) ?_
                      rintro ⟨p25, c25⟩ hq32
                      refine DXA.tail [6] ttOk rfl rfl rfl rfl rfl rfl (by kernel_rfl) rfl rfl (by kernel_rfl) ?_
                      refine WX.run ttOk rfl ?_
                      refine WX.callF 51 (fun _ _ h => GoT.ow_rd h) (fun _ f hf => GoT.fak f hf) rfl rfl rfl rfl rfl (fun _ => rfl) rfl (fun w G bs hI hΓ => f26 w (n + 1) (by omega) (spec_DrawEncodeVector code) p10 c10 (hΓ.get 19 rfl) hq6) (fun _ => rfl) (fun _ => rfl) ?_
                      rintro ⟨p26, c26⟩ hq33
                      refine WX.callF 53 (fun _ _ h => GoT.ow_rd h) (fun _ f hf => GoT.fak f hf) rfl rfl rfl rfl rfl (fun _ => rfl) rfl (fun w G bs hI hΓ => f15 w (n + 5) (by omega) (impl_EncodeVector (spec_DrawEncodeVector code)) p26 c26 (hΓ.get 51 rfl) hq33) (fun _ => rfl) (fun _ => rfl) ?_
                      rintro ⟨p27, c27⟩ hq34
                      refine WX.trim [154, 22, 21, 20, 15, 14, 13, 12, 4, 3] [1, 2, 3, 4, 5, 6, 7, 8, 9, 10, 11, 12, 13, 14, 15, 16, 17, 18, 19, 20, 21, 22, 23, 24, 25, 26, 27, 28, 29, 30, 43, 44, 45, 46, 49, 50, 53, 54] rfl rfl ?_
                      refine WX.run ttOk rfl ?_
                      refine WX.callV rfl rfl rfl rfl rfl (fun _ => rfl) rfl (fun w G bs hI hΓ => f32 w (n + 1) (by omega) (spec_DrawEncodeVector code) p10 c10 (hΓ.get 19 rfl) hq6) ?_
                      intro hq35
                      refine WX.see rfl rfl rfl (fun _ hΓ => looks_beq ttOk rfl rfl rfl rfl rfl rfl) ?_
                      refine WX.run ttOk rfl ?_
                      refine WX.cases 161 rfl (fun h11 => ?_) (fun h11 => ?_)
                      · skip
                        have h11d := (B.nt h11)
                        refine WX.run ttOk rfl ?_
                        have hP11 : laws_FnVecs code = false := by simp only [laws_FnVecs, h1, h2, h3, h4, h5, h6, h7, h8, h9, h10, h11, cond_true, cond_false]
                        refine WX.ret ttOk rfl ?_
                        intro w1 G bs hI hΓ
                        rw [hP11]
                        exact ⟨rfl, trivial⟩
                      · skip
                        have h11d := (B.nf h11)
                        refine WX.run ttOk rfl ?_
                        refine WX.cases 163 rfl (fun h12 => ?_) (fun h12 => ?_)
                        · as_aux_lemma =>
                          refine WX.run ttOk rfl ?_
                          refine WX.callV rfl rfl rfl rfl rfl (fun _ => rfl) rfl (fun w G bs hI hΓ => f18 w (n + 5) (by omega) ((impl_DecodeVector (impl_EncodeVector (spec_DrawEncodeVector code))).1.entries) p27 c27 (hΓ.get 53 rfl) ((spec_DrawEncodeVector code).entries) p10 c10 (hΓ.get 19 rfl) (ok_StateVector hq34) (GoT.okm (α := List TableEntry) (by omega) (ok_StateVector hq6))) ?_
                          intro hq36
                          refine WX.trim [168, 163, 161, 22, 21, 20, 15, 14, 13, 4, 3] [1, 2, 3, 4, 5, 6, 7, 8, 9, 10, 11, 12, 13, 14, 15, 16, 17, 18, 19, 20, 21, 22, 23, 24, 25, 26, 27, 28, 29, 30, 43, 44, 45, 46, 49, 50, 53, 54] rfl rfl ?_
                          refine WX.run ttOk rfl ?_
                          refine WX.cases 172 rfl (fun h13 => ?_) (fun h13 => ?_)
                          · skip
                            have h13d := (B.nt h13)
                            refine WX.run ttOk rfl ?_
                            have hP12 : laws_FnVecs code = false := by first | (simp only [laws_FnVecs, h1, h2, h3, h4, h5, h6, h7, h8, h9, h10, h11, h12, h13, cond_true, cond_false]; done) | (unfold laws_FnVecs; rw [h2, h4, h3, h6, h13, h8, h11, h7, h5, h10, h9, h12, h1]; simp only [cond_true, cond_false])
                            refine WX.ret ttOk rfl ?_
                            intro w1 G bs hI hΓ
                            rw [hP12]
                            exact ⟨rfl, trivial⟩
                          · skip
                            have h13d := (B.nf h13)
                            refine WX.run ttOk rfl ?_
                            refine WX.cases 174 rfl (fun h14 => ?_) (fun h14 => ?_)
                            · skip
                              refine WX.run ttOk rfl ?_
                              refine WX.callF 55 (fun _ _ h => GoT.ow_rd h) (fun _ f hf => GoT.fak f hf) rfl rfl rfl rfl rfl (fun _ => rfl) rfl (fun w G bs hI hΓ => f26 w n (by omega) ((impl_DecodeVector (spec_DrawDecodeVector code)).1) p12 c12 (hΓ.get 23 rfl) hq8) (fun _ => rfl) (fun _ => rfl) ?_
                              rintro ⟨p28, c28⟩ hq37
                              refine WX.run ttOk rfl ?_
                              refine WX.callV rfl rfl rfl rfl rfl (fun _ => rfl) rfl (fun w G bs hI hΓ => f25 w (n + 4) (by omega) (impl_EncodeVector ((impl_DecodeVector (spec_DrawDecodeVector code)).1)) p28 c28 (hΓ.get 55 rfl) (spec_DrawDecodeVector code) p11 c11 (hΓ.get 21 rfl) hq37 (okl_mk (by omega) (fun _ _ => trivial) : GoT.ok (n + 4) ((spec_DrawDecodeVector code) : List UInt8))) ?_
                              intro hq38
                              refine WX.run ttOk rfl ?_
                              refine WX.trim [181, 22, 21, 20, 4, 3] [1, 2, 3, 4, 5, 6, 7, 8, 9, 10, 11, 12, 13, 14, 15, 16, 17, 18, 19, 20, 23, 24, 25, 26, 27, 28, 29, 30, 43, 44, 45, 46, 49, 50, 53, 54] rfl rfl ?_
                              refine WX.cases 181 rfl (fun h15 => ?_) (fun h15 => ?_)
                              · as_aux_lemma =>
                                have h15d := (B.nt h15)
                                refine WX.run ttOk rfl ?_
                                have hP13 : laws_FnVecs code = false := by first | (simp only [laws_FnVecs, h1, h2, h3, h4, h5, h6, h7, h8, h9, h10, h11, h12, h13, h14, h15, cond_true, cond_false]; done) | (unfold laws_FnVecs; rw [h2, h4, h3, h6, h13, h8, h11, h15, h7, h5, h10, h9, h12, h14, h1]; simp only [cond_true, cond_false])
                                refine WX.ret ttOk rfl ?_
                                intro w1 G bs hI hΓ
                                rw [hP13]
                                exact ⟨rfl, trivial⟩
                              · as_aux_lemma =>
                                have h15d := (B.nf h15)
                                refine WX.run ttOk rfl ?_
                                refine WX.draw [] mixed ?_
                                intro bs G0 hΓ0
                                refine DX.tab (by kernel_rfl) (fun hT => ?_)
                                refine DX.takes (fuel := 56) ttOk [(0, true), (1, false), (2, true), (3, false)] (takesB_of hT (by kernel_rfl)) rfl ?_
                                refine DX.callV 4 rfl (by kernel_rfl) rfl rfl rfl rfl rfl rfl (fun _ => rfl) rfl (fun w G bs hI hΓ => f18 w (n + 3) (by omega) ((impl_JoinVectors (impl_JoinVectors ((spec_DrawVecs code).1) ((spec_DrawVecs code).2.1)) ((spec_DrawVecs code).2.2)).entries) p23 c23 (hΓ.get 45 rfl) ((impl_JoinVectors ((spec_DrawVecs code).1) (impl_JoinVectors ((spec_DrawVecs code).2.1) ((spec_DrawVecs code).2.2))).entries) p25 c25 (hΓ.get 49 rfl) (ok_StateVector hq30) (ok_StateVector hq32)) ?_
                                intro hq39
                                refine DX.takes (fuel := 54) ttOk [(5, true)] (takesB_of hT (by kernel_rfl)) rfl ?_
                                refine DX.cases 187 rfl (fun h16 => ?_) (fun h16 => ?_)
                                · skip
                                  refine DX.takes (fuel := 50) ttOk [(6, true), (7, false), (8, false), (9, false)] (takesB_of hT (by kernel_rfl)) rfl ?_
                                  refine DX.callF 10 57 (fun _ _ h => GoT.ow_rd h) (fun _ f hf => GoT.fak f hf) rfl (by kernel_rfl) rfl rfl rfl rfl rfl rfl (fun _ => rfl) rfl (fun w G bs hI hΓ => f19 w (n + 1) (by omega) ((spec_DrawVecs code).2.1) p2 c2 (hΓ.get 2 rfl) ((spec_DrawVecs code).1) p1 c1 (hΓ.get 1 rfl) hq2.2.1 hq2.1) (fun _ => rfl) (fun _ => rfl) ?_
                                  rintro ⟨p29, c29⟩ hq40
                                  refine DX.takes (fuel := 48) ttOk [(11, true)] (takesB_of hT (by kernel_rfl)) rfl ?_
                                  refine DX.callV 12 rfl (by kernel_rfl) rfl rfl rfl rfl rfl rfl (fun _ => rfl) rfl (fun w G bs hI hΓ => f18 w (n + 2) (by omega) ((impl_JoinVectors ((spec_DrawVecs code).1) ((spec_DrawVecs code).2.1)).entries) p22 c22 (hΓ.get 43 rfl) ((impl_JoinVectors ((spec_DrawVecs code).2.1) ((spec_DrawVecs code).1)).entries) p29 c29 (hΓ.get 57 rfl) (ok_StateVector hq29) (ok_StateVector hq40)) ?_
                                  intro hq41
                                  refine DX.takes (fuel := 45) ttOk [(13, true), (14, true)] (takesB_of hT (by kernel_rfl)) rfl ?_
                                  refine DX.cases 196 rfl (fun h17 => ?_) (fun h17 => ?_)
                                  · skip
                                    refine DX.takes (fuel := 41) ttOk [(15, false), (16, false), (19, true), (20, false)] (takesB_of hT (by kernel_rfl)) rfl ?_
                                    refine DX.callF 17 59 (fun _ _ h => GoT.ow_rd h) (fun _ f hf => GoT.fak f hf) rfl (by kernel_rfl) rfl rfl rfl rfl rfl rfl (fun _ => rfl) rfl (fun w G bs hI hΓ => f19 w (n + 1) (by omega) ((spec_DrawVecs code).1) p1 c1 (hΓ.get 1 rfl) ((spec_DrawVecs code).1) p1 c1 (hΓ.get 1 rfl) hq2.1 hq2.1) (fun _ => rfl) (fun _ => rfl) ?_
                                    rintro ⟨p30, c30⟩ hq42
                                    refine DX.takes (fuel := 39) ttOk [(18, true)] (takesB_of hT (by kernel_rfl)) rfl ?_
                                    refine DX.callV 21 rfl (by kernel_rfl) rfl rfl rfl rfl rfl rfl (fun _ => rfl) rfl (fun w G bs hI hΓ => f18 w (n + 2) (by omega) ((impl_JoinVectors ((spec_DrawVecs code).1) ((spec_DrawVecs code).1)).entries) p30 c30 (hΓ.get 59 rfl) ((spec_DrawVecs code).1.entries) p1 c1 (hΓ.get 1 rfl) (ok_StateVector hq42) (GoT.okm (α := List TableEntry) (by omega) (ok_StateVector hq2.1))) ?_
                                    intro hq43
                                    refine DX.takes (fuel := 36) ttOk [(22, true), (23, true)] (takesB_of hT (by kernel_rfl)) rfl ?_
                                    refine DX.cases 205 rfl (fun h18 => ?_) (fun h18 => ?_)
                                    · as_aux_lemma =>
                                      refine DX.takes (fuel := 34) ttOk [(24, false), (25, false)] (takesB_of hT (by kernel_rfl)) rfl ?_
                                      refine DX.callV 26 rfl (by kernel_rfl) rfl rfl rfl rfl rfl rfl (fun _ => rfl) rfl (fun w G bs hI hΓ => f21 w (n + 2) (by omega) ((spec_DrawVecs code).1) p1 c1 (hΓ.get 1 rfl) (impl_JoinVectors ((spec_DrawVecs code).1) ((spec_DrawVecs code).2.1)) p22 c22 (hΓ.get 43 rfl) (GoT.okm (α := List TableEntry) (by omega) (ok_StateVector hq2.1)) hq29) ?_
                                      intro hq44
                                      refine DX.takes (fuel := 31) ttOk [(27, true), (28, true)] (takesB_of hT (by kernel_rfl)) rfl ?_
                                      refine DX.cases 210 rfl (fun h19 => ?_) (fun h19 => ?_)
                                      · skip
                                        refine DX.takes (fuel := 29) ttOk [(29, false), (30, false)] (takesB_of hT (by kernel_rfl)) rfl ?_
                                        refine DX.callV 31 rfl (by kernel_rfl) rfl rfl rfl rfl rfl rfl (fun _ => rfl) rfl (fun w G bs hI hΓ => f21 w (n + 2) (by omega) ((spec_DrawVecs code).2.1) p2 c2 (hΓ.get 2 rfl) (impl_JoinVectors ((spec_DrawVecs code).1) ((spec_DrawVecs code).2.1)) p22 c22 (hΓ.get 43 rfl) (GoT.okm (α := List TableEntry) (by omega) (ok_StateVector hq2.2.1)) hq29) ?_
                                        intro hq45
                                        refine DX.takes (fuel := 26) ttOk [(32, true), (33, true)] (takesB_of hT (by kernel_rfl)) rfl ?_
                                        refine DX.cases 215 rfl (fun h20 => ?_) (fun h20 => ?_)
                                        · skip
                                          refine DX.takes (fuel := 25) ttOk [(34, false)] (takesB_of hT (by kernel_rfl)) rfl ?_
                                          refine DX.callV 35 rfl (by kernel_rfl) rfl rfl rfl rfl rfl rfl (fun _ => rfl) rfl (fun w G bs hI hΓ => f32 w (n + 2) (by omega) (impl_JoinVectors ((spec_DrawVecs code).1) ((spec_DrawVecs code).2.1)) p22 c22 (hΓ.get 43 rfl) hq29) ?_
                                          intro hq46
                                          refine DX.takes (fuel := 22) ttOk [(36, true), (37, true)] (takesB_of hT (by kernel_rfl)) rfl ?_
                                          refine DX.cases 219 rfl (fun h21 => ?_) (fun h21 => ?_)
                                          · as_aux_lemma =>
                                            refine DX.takes (fuel := 16) ttOk [(38, false), (39, false), (41, true), (42, false), (43, true), (44, false)] (takesB_of hT (by kernel_rfl)) rfl ?_
                                            refine DX.callV 40 rfl (by kernel_rfl) rfl rfl rfl rfl rfl rfl (fun _ => rfl) rfl (fun w G bs hI hΓ => f21 w (n + 1) (by omega) ((spec_DrawVecs code).1) p1 c1 (hΓ.get 1 rfl) ((spec_DrawVecs code).2.1) p2 c2 (hΓ.get 2 rfl) hq2.1 hq2.2.1) ?_
                                            intro hq47
                                            refine DX.callV 45 rfl (by kernel_rfl) rfl rfl rfl rfl rfl rfl (fun _ => rfl) rfl (fun w G bs hI hΓ => f18 w (n + 2) (by omega) ((impl_JoinVectors ((spec_DrawVecs code).1) ((spec_DrawVecs code).2.1)).entries) p22 c22 (hΓ.get 43 rfl) ((spec_DrawVecs code).2.1.entries) p2 c2 (hΓ.get 2 rfl) (ok_StateVector hq29) (GoT.okm (α := List TableEntry) (by omega) (ok_StateVector hq2.2.1))) ?_
                                            intro hq48
                                            refine DX.see 46 (mayB_of hT (by kernel_rfl)) rfl rfl rfl rfl (looks_beq ttOk rfl rfl rfl rfl rfl rfl) ?_
                                            refine DX.takes (fuel := 11) ttOk [(47, true), (48, true)] (takesB_of hT (by kernel_rfl)) rfl ?_
                                            refine DX.cases 230 rfl (fun h22 => ?_) (fun h22 => ?_)
                                            · skip
                                              refine DX.takes (fuel := 7) ttOk [(49, false), (50, false), (54, false), (55, false)] (takesB_of hT (by kernel_rfl)) rfl ?_
                                              refine DX.callF 51 61 (fun _ _ h => GoT.ow_rd h) (fun _ f hf => GoT.fak f hf) rfl (by kernel_rfl) rfl rfl rfl rfl rfl rfl (fun _ => rfl) rfl (fun w G bs hI hΓ => f23 w (n + 1) (by omega) ((spec_DrawVecs code).1) p1 c1 (hΓ.get 1 rfl) ((spec_DrawVecs code).2.1) p2 c2 (hΓ.get 2 rfl) hq2.1 hq2.2.1) (fun _ => rfl) (fun _ => rfl) ?_
                                              rintro ⟨p31, c31⟩ hq49
                                              refine DX.takes (fuel := 4) ttOk [(52, true), (53, true)] (takesB_of hT (by kernel_rfl)) rfl ?_
                                              refine DX.callV 56 rfl (by kernel_rfl) rfl rfl rfl rfl rfl rfl (fun _ => rfl) rfl (fun w G bs hI hΓ => f21 w (n + 1) (by omega) ((spec_DrawVecs code).1) p1 c1 (hΓ.get 1 rfl) ((spec_DrawVecs code).2.1) p2 c2 (hΓ.get 2 rfl) hq2.1 hq2.2.1) ?_
                                              intro hq50
                                              refine DX.see 57 (mayB_of hT (by kernel_rfl)) rfl rfl rfl rfl (looks_beq ttOk rfl rfl rfl rfl rfl rfl) ?_
                                              refine DX.takes (fuel := 0) ttOk [(58, true), (59, true)] (takesB_of hT (by kernel_rfl)) rfl ?_
                                              refine DX.tail2 [] rfl rfl (by kernel_rfl) ?_
                                              refine WX.run ttOk rfl ?_
                                              have hP14 : laws_FnVecs code = ((((((impl_NewerThan ((spec_DrawVecs code).1) ((spec_DrawVecs code).2.1))).length : Nat) : Int) == 0) == (impl_VectorLeq ((spec_DrawVecs code).1) ((spec_DrawVecs code).2.1))) := by first | (simp only [laws_FnVecs, h1, h2, h3, h4, h5, h6, h7, h8, h9, h10, h11, h12, h13, h14, h15, h16, h17, h18, h19, h20, h21, h22, cond_true, cond_false]; done) | (unfold laws_FnVecs; rw [h16, h22, h2, h17, h4, h3, h6, h13, h8, h11, h18, h15, h20, h7, h19, h5, h10, h9, h21, h12, h14, h1]; simp only [cond_true, cond_false])
                                              refine WX.ret ttOk rfl ?_
                                              intro w1 G bs hI hΓ
                                              rw [hP14]
                                              exact ⟨rfl, trivial⟩
                                            · skip
                                              refine DX.takes (fuel := 0) ttOk [(49, true), (50, true), (51, true), (52, true), (53, true), (54, true), (55, true), (56, true), (57, true), (58, true), (59, true)] (takesB_of hT (by kernel_rfl)) rfl ?_
                                              refine DX.tail2 [] rfl rfl (by kernel_rfl) ?_
                                              refine WX.run ttOk rfl ?_
                                              have hP15 : laws_FnVecs code = false := by first | (simp only [laws_FnVecs, h1, h2, h3, h4, h5, h6, h7, h8, h9, h10, h11, h12, h13, h14, h15, h16, h17, h18, h19, h20, h21, h22, cond_true, cond_false]; done) | (unfold laws_FnVecs; rw [h16, h22, h2, h17, h4, h3, h6, h13, h8, h11, h18, h15, h20, h7, h19, h5, h10, h9, h21, h12, h14, h1]; simp only [cond_true, cond_false])
                                              refine WX.ret ttOk rfl ?_
                                              intro w1 G bs hI hΓ
                                              rw [hP15]
                                              exact ⟨rfl, trivial⟩
                                          · as_aux_lemma =>
                                            refine DX.takes (fuel := 0) ttOk [(38, true), (39, true), (40, true), (41, true), (42, true), (43, true), (44, true), (45, true), (46, true), (47, true), (48, true), (49, true), (50, true), (51, true), (52, true), (53, true), (54, true), (55, true), (56, true), (57, true), (58, true), (59, true)] (takesB_of hT (by kernel_rfl)) rfl ?_
                                            refine DX.tail2 [] rfl rfl (by kernel_rfl) ?_
                                            refine WX.run ttOk rfl ?_
                                            have hP16 : laws_FnVecs code = false := by first | (simp only [laws_FnVecs, h1, h2, h3, h4, h5, h6, h7, h8, h9, h10, h11, h12, h13, h14, h15, h16, h17, h18, h19, h20, h21, cond_true, cond_false]; done) | (unfold laws_FnVecs; rw [h16, h2, h17, h4, h3, h6, h13, h8, h11, h18, h15, h20, h7, h19, h5, h10, h9, h21, h12, h14, h1]; simp only [cond_true, cond_false])
                                            refine WX.ret ttOk rfl ?_
                                            intro w1 G bs hI hΓ
                                            rw [hP16]
                                            exact ⟨rfl, trivial⟩
                                        · skip
                                          refine DX.takes (fuel := 0) ttOk [(34, true), (35, true), (36, true), (37, true), (38, true), (39, true), (40, true), (41, true), (42, true), (43, true), (44, true), (45, true), (46, true), (47, true), (48, true), (49, true), (50, true), (51, true), (52, true), (53, true), (54, true), (55, true), (56, true), (57, true), (58, true), (59, true)] (takesB_of hT (by kernel_rfl)) rfl ?_
                                          refine DX.tail2 [] rfl rfl (by kernel_rfl) ?_
                                          refine WX.run ttOk rfl ?_
                                          have hP17 : laws_FnVecs code = false := by first | (simp only [laws_FnVecs, h1, h2, h3, h4, h5, h6, h7, h8, h9, h10, h11, h12, h13, h14, h15, h16, h17, h18, h19, h20, cond_true, cond_false]; done) | (unfold laws_FnVecs; rw [h16, h2, h17, h4, h3, h6, h13, h8, h11, h18, h15, h20, h7, h19, h5, h10, h9, h12, h14, h1]; simp only [cond_true, cond_false])
                                          refine WX.ret ttOk rfl ?_
                                          intro w1 G bs hI hΓ
                                          rw [hP17]
                                          exact ⟨rfl, trivial⟩
                                      · skip
                                        refine DX.takes (fuel := 0) ttOk [(29, true), (30, true), (31, true), (32, true), (33, true), (34, true), (35, true), (36, true), (37, true), (38, true), (39, true), (40, true), (41, true), (42, true), (43, true), (44, true), (45, true), (46, true), (47, true), (48, true), (49, true), (50, true), (51, true), (52, true), (53, true), (54, true), (55, true), (56, true), (57, true), (58, true), (59, true)] (takesB_of hT (by kernel_rfl)) rfl ?_
                                        refine DX.tail2 [] rfl rfl (by kernel_rfl) ?_
                                        refine WX.run ttOk rfl ?_
                                        have hP18 : laws_FnVecs code = false := by first | (simp only [laws_FnVecs, h1, h2, h3, h4, h5, h6, h7, h8, h9, h10, h11, h12, h13, h14, h15, h16, h17, h18, h19, cond_true, cond_false]; done) | (unfold laws_FnVecs; rw [h16, h2, h17, h4, h3, h6, h13, h8, h11, h18, h15, h7, h19, h5, h10, h9, h12, h14, h1]; simp only [cond_true, cond_false])
                                        refine WX.ret ttOk rfl ?_
                                        intro w1 G bs hI hΓ
                                        rw [hP18]
                                        exact ⟨rfl, trivial⟩
                                    · as_aux_lemma =>
                                      refine DX.takes (fuel := 0) ttOk [(24, true), (25, true), (26, true), (27, true), (28, true), (29, true), (30, true), (31, true), (32, true), (33, true), (34, true), (35, true), (36, true), (37, true), (38, true), (39, true), (40, true), (41, true), (42, true), (43, true), (44, true), (45, true), (46, true), (47, true), (48, true), (49, true), (50, true), (51, true), (52, true), (53, true), (54, true), (55, true), (56, true), (57, true), (58, true), (59, true)] (takesB_of hT (by kernel_rfl)) rfl ?_
                                      refine DX.tail2 [] rfl rfl (by kernel_rfl) ?_
                                      refine WX.run ttOk rfl ?_
                                      have hP19 : laws_FnVecs code = false := by first | (simp only [laws_FnVecs, h1, h2, h3, h4, h5, h6, h7, h8, h9, h10, h11, h12, h13, h14, h15, h16, h17, h18, cond_true, cond_false]; done) | (unfold laws_FnVecs; rw [h16, h2, h17, h4, h3, h6, h13, h8, h11, h18, h15, h7, h5, h10, h9, h12, h14, h1]; simp only [cond_true, cond_false])
                                      refine WX.ret ttOk rfl ?_
                                      intro w1 G bs hI hΓ
                                      rw [hP19]
                                      exact ⟨rfl, trivial⟩
                                  · skip
                                    refine DX.takes (fuel := 0) ttOk [(15, true), (16, true), (17, true), (18, true), (19, true), (20, true), (21, true), (22, true), (23, true), (24, true), (25, true), (26, true), (27, true), (28, true), (29, true), (30, true), (31, true), (32, true), (33, true), (34, true), (35, true), (36, true), (37, true), (38, true), (39, true), (40, true), (41, true), (42, true), (43, true), (44, true), (45, true), (46, true), (47, true), (48, true), (49, true), (50, true), (51, true), (52, true), (53, true), (54, true), (55, true), (56, true), (57, true), (58, true), (59, true)] (takesB_of hT (by kernel_rfl)) rfl ?_
                                    refine DX.tail2 [] rfl rfl (by kernel_rfl) ?_
                                    refine WX.run ttOk rfl ?_
                                    have hP20 : laws_FnVecs code = false := by first | (simp only [laws_FnVecs, h1, h2, h3, h4, h5, h6, h7, h8, h9, h10, h11, h12, h13, h14, h15, h16, h17, cond_true, cond_false]; done) | (unfold laws_FnVecs; rw [h16, h2, h17, h4, h3, h6, h13, h8, h11, h15, h7, h5, h10, h9, h12, h14, h1]; simp only [cond_true, cond_false])
                                    refine WX.ret ttOk rfl ?_
                                    intro w1 G bs hI hΓ
                                    rw [hP20]
                                    exact ⟨rfl, trivial⟩
                                · skip
                                  refine DX.takes (fuel := 0) ttOk [(6, true), (7, true), (8, true), (9, true), (10, true), (11, true), (12, true), (13, true), (14, true), (15, true), (16, true), (17, true), (18, true), (19, true), (20, true), (21, true), (22, true), (23, true), (24, true), (25, true), (26, true), (27, true), (28, true), (29, true), (30, true), (31, true), (32, true), (33, true), (34, true), (35, true), (36, true), (37, true), (38, true), (39, true), (40, true), (41, true), (42, true), (43, true), (44, true), (45, true), (46, true), (47, true), (48, true), (49, true), (50, true), (51, true), (52, true), (53, true), (54, true), (55, true), (56, true), (57, true), (58, true), (59, true)] (takesB_of hT (by kernel_rfl)) rfl ?_
                                  refine DX.tail2 [] rfl rfl (by kernel_rfl) ?_
                                  refine WX.run ttOk rfl ?_
                                  have hP21 : laws_FnVecs code = false := by first | (simp only [laws_FnVecs, h1, h2, h3, h4, h5, h6, h7, h8, h9, h10, h11, h12, h13, h14, h15, h16, cond_true, cond_false]; done) | (unfold laws_FnVecs; rw [h16, h2, h4, h3, h6, h13, h8, h11, h15, h7, h5, h10, h9, h12, h14, h1]; simp only [cond_true, cond_false])
                                  refine WX.ret ttOk rfl ?_
                                  intro w1 G bs hI hΓ
                                  rw [hP21]
                                  exact ⟨rfl, trivial⟩
                            · skip
                              refine WX.run ttOk rfl ?_
                              refine WX.draw [] mixed ?_
                              intro bs G0 hΓ0
                              refine DX.tab (by kernel_rfl) (fun hT => ?_)
                              refine DX.takes (fuel := 56) ttOk [(0, true), (1, false), (2, true), (3, false)] (takesB_of hT (by kernel_rfl)) rfl ?_
                              refine DX.callV 4 rfl (by kernel_rfl) rfl rfl rfl rfl rfl rfl (fun _ => rfl) rfl (fun w G bs hI hΓ => f18 w (n + 3) (by omega) ((impl_JoinVectors (impl_JoinVectors ((spec_DrawVecs code).1) ((spec_DrawVecs code).2.1)) ((spec_DrawVecs code).2.2)).entries) p23 c23 (hΓ.get 45 rfl) ((impl_JoinVectors ((spec_DrawVecs code).1) (impl_JoinVectors ((spec_DrawVecs code).2.1) ((spec_DrawVecs code).2.2))).entries) p25 c25 (hΓ.get 49 rfl) (ok_StateVector hq30) (ok_StateVector hq32)) ?_
                              intro hq51
                              refine DX.takes (fuel := 54) ttOk [(5, true)] (takesB_of hT (by kernel_rfl)) rfl ?_
                              refine DX.cases 187 rfl (fun h23 => ?_) (fun h23 => ?_)
                              · as_aux_lemma =>
                                refine DX.takes (fuel := 50) ttOk [(6, true), (7, false), (8, false), (9, false)] (takesB_of hT (by kernel_rfl)) rfl ?_
                                refine DX.callF 10 63 (fun _ _ h => GoT.ow_rd h) (fun _ f hf => GoT.fak f hf) rfl (by kernel_rfl) rfl rfl rfl rfl rfl rfl (fun _ => rfl) rfl (fun w G bs hI hΓ => f19 w (n + 1) (by omega) ((spec_DrawVecs code).2.1) p2 c2 (hΓ.get 2 rfl) ((spec_DrawVecs code).1) p1 c1 (hΓ.get 1 rfl) hq2.2.1 hq2.1) (fun _ => rfl) (fun _ => rfl) ?_
                                rintro ⟨p32, c32⟩ hq52
                                refine DX.takes (fuel := 48) ttOk [(11, true)] (takesB_of hT (by kernel_rfl)) rfl ?_
                                refine DX.callV 12 rfl (by kernel_rfl) rfl rfl rfl rfl rfl rfl (fun _ => rfl) rfl (fun w G bs hI hΓ => f18 w (n + 2) (by omega) ((impl_JoinVectors ((spec_DrawVecs code).1) ((spec_DrawVecs code).2.1)).entries) p22 c22 (hΓ.get 43 rfl) ((impl_JoinVectors ((spec_DrawVecs code).2.1) ((spec_DrawVecs code).1)).entries) p32 c32 (hΓ.get 63 rfl) (ok_StateVector hq29) (ok_StateVector hq52)) ?_
                                intro hq53
                                refine DX.takes (fuel := 45) ttOk [(13, true), (14, true)] (takesB_of hT (by kernel_rfl)) rfl ?_
                                refine DX.cases 196 rfl (fun h24 => ?_) (fun h24 => ?_)
                                · skip
                                  refine DX.takes (fuel := 41) ttOk [(15, false), (16, false), (19, true), (20, false)] (takesB_of hT (by kernel_rfl)) rfl ?_
                                  refine DX.callF 17 65 (fun _ _ h => GoT.ow_rd h) (fun _ f hf => GoT.fak f hf) rfl (by kernel_rfl) rfl rfl rfl rfl rfl rfl (fun _ => rfl) rfl (fun w G bs hI hΓ => f19 w (n + 1) (by omega) ((spec_DrawVecs code).1) p1 c1 (hΓ.get 1 rfl) ((spec_DrawVecs code).1) p1 c1 (hΓ.get 1 rfl) hq2.1 hq2.1) (fun _ => rfl) (fun _ => rfl) ?_
                                  rintro ⟨p33, c33⟩ hq54
                                  refine DX.takes (fuel := 39) ttOk [(18, true)] (takesB_of hT (by kernel_rfl)) rfl ?_
                                  refine DX.callV 21 rfl (by kernel_rfl) rfl rfl rfl rfl rfl rfl (fun _ => rfl) rfl (fun w G bs hI hΓ => f18 w (n + 2) (by omega) ((impl_JoinVectors ((spec_DrawVecs code).1) ((spec_DrawVecs code).1)).entries) p33 c33 (hΓ.get 65 rfl) ((spec_DrawVecs code).1.entries) p1 c1 (hΓ.get 1 rfl) (ok_StateVector hq54) (GoT.okm (α := List TableEntry) (by omega) (ok_StateVector hq2.1))) ?_
                                  intro hq55
                                  refine DX.takes (fuel := 36) ttOk [(22, true), (23, true)] (takesB_of hT (by kernel_rfl)) rfl ?_
                                  refine DX.cases 205 rfl (fun h25 => ?_) (fun h25 => ?_)
                                  · skip
                                    refine DX.takes (fuel := 34) ttOk [(24, false), (25, false)] (takesB_of hT (by kernel_rfl)) rfl ?_
                                    refine DX.callV 26 rfl (by kernel_rfl) rfl rfl rfl rfl rfl rfl (fun _ => rfl) rfl (fun w G bs hI hΓ => f21 w (n + 2) (by omega) ((spec_DrawVecs code).1) p1 c1 (hΓ.get 1 rfl) (impl_JoinVectors ((spec_DrawVecs code).1) ((spec_DrawVecs code).2.1)) p22 c22 (hΓ.get 43 rfl) (GoT.okm (α := List TableEntry) (by omega) (ok_StateVector hq2.1)) hq29) ?_
                                    intro hq56
                                    refine DX.takes (fuel := 31) ttOk [(27, true), (28, true)] (takesB_of hT (by kernel_rfl)) rfl ?_
                                    refine DX.cases 210 rfl (fun h26 => ?_) (fun h26 => ?_)
                                    · as_aux_lemma =>
                                      refine DX.takes (fuel := 29) ttOk [(29, false), (30, false)] (takesB_of hT (by kernel_rfl)) rfl ?_
                                      refine DX.callV 31 rfl (by kernel_rfl) rfl rfl rfl rfl rfl rfl (fun _ => rfl) rfl (fun w G bs hI hΓ => f21 w (n + 2) (by omega) ((spec_DrawVecs code).2.1) p2 c2 (hΓ.get 2 rfl) (impl_JoinVectors ((spec_DrawVecs code).1) ((spec_DrawVecs code).2.1)) p22 c22 (hΓ.get 43 rfl) (GoT.okm (α := List TableEntry) (by omega) (ok_StateVector hq2.2.1)) hq29) ?_
                                      intro hq57
                                      refine DX.takes (fuel := 26) ttOk [(32, true), (33, true)] (takesB_of hT (by kernel_rfl)) rfl ?_
                                      refine DX.cases 215 rfl (fun h27 => ?_) (fun h27 => ?_)
                                      · skip
                                        refine DX.takes (fuel := 25) ttOk [(34, false)] (takesB_of hT (by kernel_rfl)) rfl ?_
                                        refine DX.callV 35 rfl (by kernel_rfl) rfl rfl rfl rfl rfl rfl (fun _ => rfl) rfl (fun w G bs hI hΓ => f32 w (n + 2) (by omega) (impl_JoinVectors ((spec_DrawVecs code).1) ((spec_DrawVecs code).2.1)) p22 c22 (hΓ.get 43 rfl) hq29) ?_
                                        intro hq58
                                        refine DX.takes (fuel := 22) ttOk [(36, true), (37, true)] (takesB_of hT (by kernel_rfl)) rfl ?_
                                        refine DX.cases 219 rfl (fun h28 => ?_) (fun h28 => ?_)
                                        · skip
                                          refine DX.takes (fuel := 16) ttOk [(38, false), (39, false), (41, true), (42, false), (43, true), (44, false)] (takesB_of hT (by kernel_rfl)) rfl ?_
                                          refine DX.callV 40 rfl (by kernel_rfl) rfl rfl rfl rfl rfl rfl (fun _ => rfl) rfl (fun w G bs hI hΓ => f21 w (n + 1) (by omega) ((spec_DrawVecs code).1) p1 c1 (hΓ.get 1 rfl) ((spec_DrawVecs code).2.1) p2 c2 (hΓ.get 2 rfl) hq2.1 hq2.2.1) ?_
                                          intro hq59
                                          refine DX.callV 45 rfl (by kernel_rfl) rfl rfl rfl rfl rfl rfl (fun _ => rfl) rfl (fun w G bs hI hΓ => f18 w (n + 2) (by omega) ((impl_JoinVectors ((spec_DrawVecs code).1) ((spec_DrawVecs code).2.1)).entries) p22 c22 (hΓ.get 43 rfl) ((spec_DrawVecs code).2.1.entries) p2 c2 (hΓ.get 2 rfl) (ok_StateVector hq29) (GoT.okm (α := List TableEntry) (by omega) (ok_StateVector hq2.2.1))) ?_
                                          intro hq60
                                          refine DX.see 46 (mayB_of hT (by kernel_rfl)) rfl rfl rfl rfl (looks_beq ttOk rfl rfl rfl rfl rfl rfl) ?_
                                          refine DX.takes (fuel := 11) ttOk [(47, true), (48, true)] (takesB_of hT (by kernel_rfl)) rfl ?_
                                          refine DX.cases 230 rfl (fun h29 => ?_) (fun h29 => ?_)
                                          · as_aux_lemma =>
                                            refine DX.takes (fuel := 7) ttOk [(49, false), (50, false), (54, false), (55, false)] (takesB_of hT (by kernel_rfl)) rfl ?_
                                            refine DX.callF 51 67 (fun _ _ h => GoT.ow_rd h) (fun _ f hf => GoT.fak f hf) rfl (by kernel_rfl) rfl rfl rfl rfl rfl rfl (fun _ => rfl) rfl (fun w G bs hI hΓ => f23 w (n + 1) (by omega) ((spec_DrawVecs code).1) p1 c1 (hΓ.get 1 rfl) ((spec_DrawVecs code).2.1) p2 c2 (hΓ.get 2 rfl) hq2.1 hq2.2.1) (fun _ => rfl) (fun _ => rfl) ?_
                                            rintro ⟨p34, c34⟩ hq61
                                            refine DX.takes (fuel := 4) ttOk [(52, true), (53, true)] (takesB_of hT (by kernel_rfl)) rfl ?_
                                            refine DX.callV 56 rfl (by kernel_rfl) rfl rfl rfl rfl rfl rfl (fun _ => rfl) rfl (fun w G bs hI hΓ => f21 w (n + 1) (by omega) ((spec_DrawVecs code).1) p1 c1 (hΓ.get 1 rfl) ((spec_DrawVecs code).2.1) p2 c2 (hΓ.get 2 rfl) hq2.1 hq2.2.1) ?_
                                            intro hq62
                                            refine DX.see 57 (mayB_of hT (by kernel_rfl)) rfl rfl rfl rfl (looks_beq ttOk rfl rfl rfl rfl rfl rfl) ?_
                                            refine DX.takes (fuel := 0) ttOk [(58, true), (59, true)] (takesB_of hT (by kernel_rfl)) rfl ?_
                                            refine DX.tail2 [] rfl rfl (by kernel_rfl) ?_
                                            refine WX.run ttOk rfl ?_
                                            have hP22 : laws_FnVecs code = ((((((impl_NewerThan ((spec_DrawVecs code).1) ((spec_DrawVecs code).2.1))).length : Nat) : Int) == 0) == (impl_VectorLeq ((spec_DrawVecs code).1) ((spec_DrawVecs code).2.1))) := by first | (simp only [laws_FnVecs, h1, h2, h3, h4, h5, h6, h7, h8, h9, h10, h11, h12, h13, h14, h23, h24, h25, h26, h27, h28, h29, cond_true, cond_false]; done) | (unfold laws_FnVecs; rw [h23, h29, h2, h24, h4, h3, h6, h13, h8, h11, h25, h27, h7, h26, h5, h10, h9, h28, h12, h14, h1]; simp only [cond_true, cond_false])
                                            refine WX.ret ttOk rfl ?_
                                            intro w1 G bs hI hΓ
                                            rw [hP22]
                                            exact ⟨rfl, trivial⟩
                                          · as_aux_lemma =>
                                            refine DX.takes (fuel := 0) ttOk [(49, true), (50, true), (51, true), (52, true), (53, true), (54, true), (55, true), (56, true), (57, true), (58, true), (59, true)] (takesB_of hT (by kernel_rfl)) rfl ?_
                                            refine DX.tail2 [] rfl rfl (by kernel_rfl) ?_
                                            refine WX.run ttOk rfl ?_
                                            have hP23 : laws_FnVecs code = false := by first | (simp only [laws_FnVecs, h1, h2, h3, h4, h5, h6, h7, h8, h9, h10, h11, h12, h13, h14, h23, h24, h25, h26, h27, h28, h29, cond_true, cond_false]; done) | (unfold laws_FnVecs; rw [h23, h29, h2, h24, h4, h3, h6, h13, h8, h11, h25, h27, h7, h26, h5, h10, h9, h28, h12, h14, h1]; simp only [cond_true, cond_false])
                                            refine WX.ret ttOk rfl ?_
                                            intro w1 G bs hI hΓ
                                            rw [hP23]
                                            exact ⟨rfl, trivial⟩
                                        · skip
                                          refine DX.takes (fuel := 0) ttOk [(38, true), (39, true), (40, true), (41, true), (42, true), (43, true), (44, true), (45, true), (46, true), (47, true), (48, true), (49, true), (50, true), (51, true), (52, true), (53, true), (54, true), (55, true), (56, true), (57, true), (58, true), (59, true)] (takesB_of hT (by kernel_rfl)) rfl ?_
                                          refine DX.tail2 [] rfl rfl (by kernel_rfl) ?_
                                          refine WX.run ttOk rfl ?_
                                          have hP24 : laws_FnVecs code = false := by first | (simp only [laws_FnVecs, h1, h2, h3, h4, h5, h6, h7, h8, h9, h10, h11, h12, h13, h14, h23, h24, h25, h26, h27, h28, cond_true, cond_false]; done) | (unfold laws_FnVecs; rw [h23, h2, h24, h4, h3, h6, h13, h8, h11, h25, h27, h7, h26, h5, h10, h9, h28, h12, h14, h1]; simp only [cond_true, cond_false])
                                          refine WX.ret ttOk rfl ?_
                                          intro w1 G bs hI hΓ
                                          rw [hP24]
                                          exact ⟨rfl, trivial⟩
                                      · skip
                                        refine DX.takes (fuel := 0) ttOk [(34, true), (35, true), (36, true), (37, true), (38, true), (39, true), (40, true), (41, true), (42, true), (43, true), (44, true), (45, true), (46, true), (47, true), (48, true), (49, true), (50, true), (51, true), (52, true), (53, true), (54, true), (55, true), (56, true), (57, true), (58, true), (59, true)] (takesB_of hT (by kernel_rfl)) rfl ?_
                                        refine DX.tail2 [] rfl rfl (by kernel_rfl) ?_
                                        refine WX.run ttOk rfl ?_
                                        have hP25 : laws_FnVecs code = false := by first | (simp only [laws_FnVecs, h1, h2, h3, h4, h5, h6, h7, h8, h9, h10, h11, h12, h13, h14, h23, h24, h25, h26, h27, cond_true, cond_false]; done) | (unfold laws_FnVecs; rw [h23, h2, h24, h4, h3, h6, h13, h8, h11, h25, h27, h7, h26, h5, h10, h9, h12, h14, h1]; simp only [cond_true, cond_false])
                                        refine WX.ret ttOk rfl ?_
                                        intro w1 G bs hI hΓ
                                        rw [hP25]
                                        exact ⟨rfl, trivial⟩
                                    · as_aux_lemma =>
                                      refine DX.takes (fuel := 0) ttOk [(29, true), (30, true), (31, true), (32, true), (33, true), (34, true), (35, true), (36, true), (37, true), (38, true), (39, true), (40, true), (41, true), (42, true), (43, true), (44, true), (45, true), (46, true), (47, true), (48, true), (49, true), (50, true), (51, true), (52, true), (53, true), (54, true), (55, true), (56, true), (57, true), (58, true), (59, true)] (takesB_of hT (by kernel_rfl)) rfl ?_
                                      refine DX.tail2 [] rfl rfl (by kernel_rfl) ?_
                                      refine WX.run ttOk rfl ?_
                                      have hP26 : laws_FnVecs code = false := by first | (simp only [laws_FnVecs, h1, h2, h3, h4, h5, h6, h7, h8, h9, h10, h11, h12, h13, h14, h23, h24, h25, h26, cond_true, cond_false]; done) | (unfold laws_FnVecs; rw [h23, h2, h24, h4, h3, h6, h13, h8, h11, h25, h7, h26, h5, h10, h9, h12, h14, h1]; simp only [cond_true, cond_false])
                                      refine WX.ret ttOk rfl ?_
                                      intro w1 G bs hI hΓ
                                      rw [hP26]
                                      exact ⟨rfl, trivial⟩
                                  · skip
                                    refine DX.takes (fuel := 0) ttOk [(24, true), (25, true), (26, true), (27, true), (28, true), (29, true), (30, true), (31, true), (32, true), (33, true), (34, true), (35, true), (36, true), (37, true), (38, true), (39, true), (40, true), (41, true), (42, true), (43, true), (44, true), (45, true), (46, true), (47, true), (48, true), (49, true), (50, true), (51, true), (52, true), (53, true), (54, true), (55, true), (56, true), (57, true), (58, true), (59, true)] (takesB_of hT (by kernel_rfl)) rfl ?_
                                    refine DX.tail2 [] rfl rfl (by kernel_rfl) ?_
                                    refine WX.run ttOk rfl ?_
                                    have hP27 : laws_FnVecs code = false := by first | (simp only [laws_FnVecs, h1, h2, h3, h4, h5, h6, h7, h8, h9, h10, h11, h12, h13, h14, h23, h24, h25, cond_true, cond_false]; done) | (unfold laws_FnVecs; rw [h23, h2, h24, h4, h3, h6, h13, h8, h11, h25, h7, h5, h10, h9, h12, h14, h1]; simp only [cond_true, cond_false])
                                    refine WX.ret ttOk rfl ?_
                                    intro w1 G bs hI hΓ
                                    rw [hP27]
                                    exact ⟨rfl, trivial⟩
                                · skip
                                  refine DX.takes (fuel := 0) ttOk [(15, true), (16, true), (17, true), (18, true), (19, true), (20, true), (21, true), (22, true), (23, true), (24, true), (25, true), (26, true), (27, true), (28, true), (29, true), (30, true), (31, true), (32, true), (33, true), (34, true), (35, true), (36, true), (37, true), (38, true), (39, true), (40, true), (41, true), (42, true), (43, true), (44, true), (45, true), (46, true), (47, true), (48, true), (49, true), (50, true), (51, true), (52, true), (53, true), (54, true), (55, true), (56, true), (57, true), (58, true), (59, true)] (takesB_of hT (by kernel_rfl)) rfl ?_
                                  refine DX.tail2 [] rfl rfl (by kernel_rfl) ?_
                                  refine WX.run ttOk rfl ?_
                                  have hP28 : laws_FnVecs code = false := by first | (simp only [laws_FnVecs, h1, h2, h3, h4, h5, h6, h7, h8, h9, h10, h11, h12, h13, h14, h23, h24, cond_true, cond_false]; done) | (unfold laws_FnVecs; rw [h23, h2, h24, h4, h3, h6, h13, h8, h11, h7, h5, h10, h9, h12, h14, h1]; simp only [cond_true, cond_false])
                                  refine WX.ret ttOk rfl ?_
                                  intro w1 G bs hI hΓ
                                  rw [hP28]
                                  exact ⟨rfl, trivial⟩
                              · as_aux_lemma =>
                                refine DX.takes (fuel := 0) ttOk [(6, true), (7, true), (8, true), (9, true), (10, true), (11, true), (12, true), (13, true), (14, true), (15, true), (16, true), (17, true), (18, true), (19, true), (20, true), (21, true), (22, true), (23, true), (24, true), (25, true), (26, true), (27, true), (28, true), (29, true), (30, true), (31, true), (32, true), (33, true), (34, true), (35, true), (36, true), (37, true), (38, true), (39, true), (40, true), (41, true), (42, true), (43, true), (44, true), (45, true), (46, true), (47, true), (48, true), (49, true), (50, true), (51, true), (52, true), (53, true), (54, true), (55, true), (56, true), (57, true), (58, true), (59, true)] (takesB_of hT (by kernel_rfl)) rfl ?_
                                refine DX.tail2 [] rfl rfl (by kernel_rfl) ?_
                                refine WX.run ttOk rfl ?_
                                have hP29 : laws_FnVecs code = false := by first | (simp only [laws_FnVecs, h1, h2, h3, h4, h5, h6, h7, h8, h9, h10, h11, h12, h13, h14, h23, cond_true, cond_false]; done) | (unfold laws_FnVecs; rw [h23, h2, h4, h3, h6, h13, h8, h11, h7, h5, h10, h9, h12, h14, h1]; simp only [cond_true, cond_false])
                                refine WX.ret ttOk rfl ?_
                                intro w1 G bs hI hΓ
                                rw [hP29]
                                exact ⟨rfl, trivial⟩
                        · as_aux_lemma =>
                          refine WX.run ttOk rfl ?_
                          refine WX.trim [174, 172, 22, 21, 20, 14, 13, 4, 3] [1, 2, 3, 4, 5, 6, 7, 8, 9, 10, 11, 12, 13, 14, 15, 16, 17, 18, 19, 20, 21, 22, 23, 24, 25, 26, 27, 28, 29, 30, 43, 44, 45, 46, 49, 50, 53, 54] rfl rfl ?_
                          refine WX.cases 174 rfl (fun h30 => ?_) (fun h30 => ?_)
                          · skip
                            refine WX.run ttOk rfl ?_
                            refine WX.callF 69 (fun _ _ h => GoT.ow_rd h) (fun _ f hf => GoT.fak f hf) rfl rfl rfl rfl rfl (fun _ => rfl) rfl (fun w G bs hI hΓ => f26 w n (by omega) ((impl_DecodeVector (spec_DrawDecodeVector code)).1) p12 c12 (hΓ.get 23 rfl) hq8) (fun _ => rfl) (fun _ => rfl) ?_
                            rintro ⟨p35, c35⟩ hq63
                            refine WX.run ttOk rfl ?_
                            refine WX.callV rfl rfl rfl rfl rfl (fun _ => rfl) rfl (fun w G bs hI hΓ => f25 w (n + 4) (by omega) (impl_EncodeVector ((impl_DecodeVector (spec_DrawDecodeVector code)).1)) p35 c35 (hΓ.get 69 rfl) (spec_DrawDecodeVector code) p11 c11 (hΓ.get 21 rfl) hq63 (okl_mk (by omega) (fun _ _ => trivial) : GoT.ok (n + 4) ((spec_DrawDecodeVector code) : List UInt8))) ?_
                            intro hq64
                            refine WX.run ttOk rfl ?_
                            refine WX.cases 181 rfl (fun h31 => ?_) (fun h31 => ?_)
                            · skip
                              have h31d := (B.nt h31)
                              refine WX.run ttOk rfl ?_
                              have hP30 : laws_FnVecs code = false := by first | (simp only [laws_FnVecs, h1, h2, h3, h4, h5, h6, h7, h8, h9, h10, h11, h12, h30, h31, cond_true, cond_false]; done) | (unfold laws_FnVecs; rw [h2, h4, h3, h6, h8, h11, h31, h7, h5, h10, h9, h12, h30, h1]; simp only [cond_true, cond_false])
                              refine WX.ret ttOk rfl ?_
                              intro w1 G bs hI hΓ
                              rw [hP30]
                              exact ⟨rfl, trivial⟩
                            · skip
                              have h31d := (B.nf h31)
                              refine WX.run ttOk rfl ?_
                              refine WX.draw [] mixed ?_
                              intro bs G0 hΓ0
                              refine DX.tab (by kernel_rfl) (fun hT => ?_)
                              refine DX.takes (fuel := 56) ttOk [(0, true), (1, false), (2, true), (3, false)] (takesB_of hT (by kernel_rfl)) rfl ?_
                              refine DX.callV 4 rfl (by kernel_rfl) rfl rfl rfl rfl rfl rfl (fun _ => rfl) rfl (fun w G bs hI hΓ => f18 w (n + 3) (by omega) ((impl_JoinVectors (impl_JoinVectors ((spec_DrawVecs code).1) ((spec_DrawVecs code).2.1)) ((spec_DrawVecs code).2.2)).entries) p23 c23 (hΓ.get 45 rfl) ((impl_JoinVectors ((spec_DrawVecs code).1) (impl_JoinVectors ((spec_DrawVecs code).2.1) ((spec_DrawVecs code).2.2))).entries) p25 c25 (hΓ.get 49 rfl) (ok_StateVector hq30) (ok_StateVector hq32)) ?_
                              intro hq65
                              refine DX.takes (fuel := 54) ttOk [(5, true)] (takesB_of hT (by kernel_rfl)) rfl ?_
                              refine DX.cases 187 rfl (fun h32 => ?_) (fun h32 => ?_)
                              · as_aux_lemma =>
                                refine DX.takes (fuel := 50) ttOk [(6, true), (7, false), (8, false), (9, false)] (takesB_of hT (by kernel_rfl)) rfl ?_
                                refine DX.callF 10 71 (fun _ _ h => GoT.ow_rd h) (fun _ f hf => GoT.fak f hf) rfl (by kernel_rfl) rfl rfl rfl rfl rfl rfl (fun _ => rfl) rfl (fun w G bs hI hΓ => f19 w (n + 1) (by omega) ((spec_DrawVecs code).2.1) p2 c2 (hΓ.get 2 rfl) ((spec_DrawVecs code).1) p1 c1 (hΓ.get 1 rfl) hq2.2.1 hq2.1) (fun _ => rfl) (fun _ => rfl) ?_
                                rintro ⟨p36, c36⟩ hq66
                                refine DX.takes (fuel := 48) ttOk [(11, true)] (takesB_of hT (by kernel_rfl)) rfl ?_
                                refine DX.callV 12 rfl (by kernel_rfl) rfl rfl rfl rfl rfl rfl (fun _ => rfl) rfl (fun w G bs hI hΓ => f18 w (n + 2) (by omega) ((impl_JoinVectors ((spec_DrawVecs code).1) ((spec_DrawVecs code).2.1)).entries) p22 c22 (hΓ.get 43 rfl) ((impl_JoinVectors ((spec_DrawVecs code).2.1) ((spec_DrawVecs code).1)).entries) p36 c36 (hΓ.get 71 rfl) (ok_StateVector hq29) (ok_StateVector hq66)) ?_
                                intro hq67
                                refine DX.takes (fuel := 45) ttOk [(13, true), (14, true)] (takesB_of hT (by kernel_rfl)) rfl ?_
                                refine DX.cases 196 rfl (fun h33 => ?_) (fun h33 => ?_)
                                · skip
                                  refine DX.takes (fuel := 41) ttOk [(15, false), (16, false), (19, true), (20, false)] (takesB_of hT (by kernel_rfl)) rfl ?_
                                  refine DX.callF 17 73 (fun _ _ h => GoT.ow_rd h) (fun _ f hf => GoT.fak f hf) rfl (by kernel_rfl) rfl rfl rfl rfl rfl rfl (fun _ => rfl) rfl (fun w G bs hI hΓ => f19 w (n + 1) (by omega) ((spec_DrawVecs code).1) p1 c1 (hΓ.get 1 rfl) ((spec_DrawVecs code).1) p1 c1 (hΓ.get 1 rfl) hq2.1 hq2.1) (fun _ => rfl) (fun _ => rfl) ?_
                                  rintro ⟨p37, c37⟩ hq68
                                  refine DX.takes (fuel := 39) ttOk [(18, true)] (takesB_of hT (by kernel_rfl)) rfl ?_
                                  refine DX.callV 21 rfl (by kernel_rfl) rfl rfl rfl rfl rfl rfl (fun _ => rfl) rfl (fun w G bs hI hΓ => f18 w (n + 2) (by omega) ((impl_JoinVectors ((spec_DrawVecs code).1) ((spec_DrawVecs code).1)).entries) p37 c37 (hΓ.get 73 rfl) ((spec_DrawVecs code).1.entries) p1 c1 (hΓ.get 1 rfl) (ok_StateVector hq68) (GoT.okm (α := List TableEntry) (by omega) (ok_StateVector hq2.1))) ?_
                                  intro hq69
                                  refine DX.takes (fuel := 36) ttOk [(22, true), (23, true)] (takesB_of hT (by kernel_rfl)) rfl ?_
                                  refine DX.cases 205 rfl (fun h34 => ?_) (fun h34 => ?_)
                                  · skip
                                    refine DX.takes (fuel := 34) ttOk [(24, false), (25, false)] (takesB_of hT (by kernel_rfl)) rfl ?_
                                    refine DX.callV 26 rfl (by kernel_rfl) rfl rfl rfl rfl rfl rfl (fun _ => rfl) rfl (fun w G bs hI hΓ => f21 w (n + 2) (by omega) ((spec_DrawVecs code).1) p1 c1 (hΓ.get 1 rfl) (impl_JoinVectors ((spec_DrawVecs code).1) ((spec_DrawVecs code).2.1)) p22 c22 (hΓ.get 43 rfl) (GoT.okm (α := List TableEntry) (by omega) (ok_StateVector hq2.1)) hq29) ?_
                                    intro hq70
                                    refine DX.takes (fuel := 31) ttOk [(27, true), (28, true)] (takesB_of hT (by kernel_rfl)) rfl ?_
                                    refine DX.cases 210 rfl (fun h35 => ?_) (fun h35 => ?_)
                                    · as_aux_lemma =>
                                      refine DX.takes (fuel := 29) ttOk [(29, false), (30, false)] (takesB_of hT (by kernel_rfl)) rfl ?_
                                      refine DX.callV 31 rfl (by kernel_rfl) rfl rfl rfl rfl rfl rfl (fun _ => rfl) rfl (fun w G bs hI hΓ => f21 w (n + 2) (by omega) ((spec_DrawVecs code).2.1) p2 c2 (hΓ.get 2 rfl) (impl_JoinVectors ((spec_DrawVecs code).1) ((spec_DrawVecs code).2.1)) p22 c22 (hΓ.get 43 rfl) (GoT.okm (α := List TableEntry) (by omega) (ok_StateVector hq2.2.1)) hq29) ?_
                                      intro hq71
                                      refine DX.takes (fuel := 26) ttOk [(32, true), (33, true)] (takesB_of hT (by kernel_rfl)) rfl ?_
                                      refine DX.cases 215 rfl (fun h36 => ?_) (fun h36 => ?_)
                                      · skip
                                        refine DX.takes (fuel := 25) ttOk [(34, false)] (takesB_of hT (by kernel_rfl)) rfl ?_
                                        refine DX.callV 35 rfl (by kernel_rfl) rfl rfl rfl rfl rfl rfl (fun _ => rfl) rfl (fun w G bs hI hΓ => f32 w (n + 2) (by omega) (impl_JoinVectors ((spec_DrawVecs code).1) ((spec_DrawVecs code).2.1)) p22 c22 (hΓ.get 43 rfl) hq29) ?_
                                        intro hq72
                                        refine DX.takes (fuel := 22) ttOk [(36, true), (37, true)] (takesB_of hT (by kernel_rfl)) rfl ?_
                                        refine DX.cases 219 rfl (fun h37 => ?_) (fun h37 => ?_)
                                        · skip
                                          refine DX.takes (fuel := 16) ttOk [(38, false), (39, false), (41, true), (42, false), (43, true), (44, false)] (takesB_of hT (by kernel_rfl)) rfl ?_
                                          refine DX.callV 40 rfl (by kernel_rfl) rfl rfl rfl rfl rfl rfl (fun _ => rfl) rfl (fun w G bs hI hΓ => f21 w (n + 1) (by omega) ((spec_DrawVecs code).1) p1 c1 (hΓ.get 1 rfl) ((spec_DrawVecs code).2.1) p2 c2 (hΓ.get 2 rfl) hq2.1 hq2.2.1) ?_
                                          intro hq73
                                          refine DX.callV 45 rfl (by kernel_rfl) rfl rfl rfl rfl rfl rfl (fun _ => rfl) rfl (fun w G bs hI hΓ => f18 w (n + 2) (by omega) ((impl_JoinVectors ((spec_DrawVecs code).1) ((spec_DrawVecs code).2.1)).entries) p22 c22 (hΓ.get 43 rfl) ((spec_DrawVecs code).2.1.entries) p2 c2 (hΓ.get 2 rfl) (ok_StateVector hq29) (GoT.okm (α := List TableEntry) (by omega) (ok_StateVector hq2.2.1))) ?_
                                          intro hq74
                                          refine DX.see 46 (mayB_of hT (by kernel_rfl)) rfl rfl rfl rfl (looks_beq ttOk rfl rfl rfl rfl rfl rfl) ?_
                                          refine DX.takes (fuel := 11) ttOk [(47, true), (48, true)] (takesB_of hT (by kernel_rfl)) rfl ?_
                                          refine DX.cases 230 rfl (fun h38 => ?_) (fun h38 => ?_)
                                          · as_aux_lemma =>
                                            refine DX.takes (fuel := 7) ttOk [(49, false), (50, false), (54, false), (55, false)] (takesB_of hT (by kernel_rfl)) rfl ?_
                                            refine DX.callF 51 75 (fun _ _ h => GoT.ow_rd h) (fun _ f hf => GoT.fak f hf) rfl (by kernel_rfl) rfl rfl rfl rfl rfl rfl (fun _ => rfl) rfl (fun w G bs hI hΓ => f23 w (n + 1) (by omega) ((spec_DrawVecs code).1) p1 c1 (hΓ.get 1 rfl) ((spec_DrawVecs code).2.1) p2 c2 (hΓ.get 2 rfl) hq2.1 hq2.2.1) (fun _ => rfl) (fun _ => rfl) ?_
                                            rintro ⟨p38, c38⟩ hq75
                                            refine DX.takes (fuel := 4) ttOk [(52, true), (53, true)] (takesB_of hT (by kernel_rfl)) rfl ?_
                                            refine DX.callV 56 rfl (by kernel_rfl) rfl rfl rfl rfl rfl rfl (fun _ => rfl) rfl (fun w G bs hI hΓ => f21 w (n + 1) (by omega) ((spec_DrawVecs code).1) p1 c1 (hΓ.get 1 rfl) ((spec_DrawVecs code).2.1) p2 c2 (hΓ.get 2 rfl) hq2.1 hq2.2.1) ?_
                                            intro hq76
                                            refine DX.see 57 (mayB_of hT (by kernel_rfl)) rfl rfl rfl rfl (looks_beq ttOk rfl rfl rfl rfl rfl rfl) ?_
                                            refine DX.takes (fuel := 0) ttOk [(58, true), (59, true)] (takesB_of hT (by kernel_rfl)) rfl ?_
                                            refine DX.tail2 [] rfl rfl (by kernel_rfl) ?_
                                            refine WX.run ttOk rfl ?_
                                            have hP31 : laws_FnVecs code = ((((((impl_NewerThan ((spec_DrawVecs code).1) ((spec_DrawVecs code).2.1))).length : Nat) : Int) == 0) == (impl_VectorLeq ((spec_DrawVecs code).1) ((spec_DrawVecs code).2.1))) := by first | (simp only [laws_FnVecs, h1, h2, h3, h4, h5, h6, h7, h8, h9, h10, h11, h12, h30, h31, h32, h33, h34, h35, h36, h37, h38, cond_true, cond_false]; done) | (unfold laws_FnVecs; rw [h32, h38, h2, h33, h4, h3, h6, h8, h11, h34, h31, h36, h7, h35, h5, h10, h9, h37, h12, h30, h1]; simp only [cond_true, cond_false])
                                            refine WX.ret ttOk rfl ?_
                                            intro w1 G bs hI hΓ
                                            rw [hP31]
                                            exact ⟨rfl, trivial⟩
                                          · as_aux_lemma =>
                                            refine DX.takes (fuel := 0) ttOk [(49, true), (50, true), (51, true), (52, true), (53, true), (54, true), (55, true), (56, true), (57, true), (58, true), (59, true)] (takesB_of hT (by kernel_rfl)) rfl ?_
                                            refine DX.tail2 [] rfl rfl (by kernel_rfl) ?_
                                            refine WX.run ttOk rfl ?_
                                            have hP32 : laws_FnVecs code = false := by first | (simp only [laws_FnVecs, h1, h2, h3, h4, h5, h6, h7, h8, h9, h10, h11, h12, h30, h31, h32, h33, h34, h35, h36, h37, h38, cond_true, cond_false]; done) | (unfold laws_FnVecs; rw [h32, h38, h2, h33, h4, h3, h6, h8, h11, h34, h31, h36, h7, h35, h5, h10, h9, h37, h12, h30, h1]; simp only [cond_true, cond_false])
                                            refine WX.ret ttOk rfl ?_
                                            intro w1 G bs hI hΓ
                                            rw [hP32]
                                            exact ⟨rfl, trivial⟩
                                        · skip
                                          refine DX.takes (fuel := 0) ttOk [(38, true), (39, true), (40, true), (41, true), (42, true), (43, true), (44, true), (45, true), (46, true), (47, true), (48, true), (49, true), (50, true), (51, true), (52, true), (53, true), (54, true), (55, true), (56, true), (57, true), (58, true), (59, true)] (takesB_of hT (by kernel_rfl)) rfl ?_
                                          refine DX.tail2 [] rfl rfl (by kernel_rfl) ?_
                                          refine WX.run ttOk rfl ?_
                                          have hP33 : laws_FnVecs code = false := by first | (simp only [laws_FnVecs, h1, h2, h3, h4, h5, h6, h7, h8, h9, h10, h11, h12, h30, h31, h32, h33, h34, h35, h36, h37, cond_true, cond_false]; done) | (unfold laws_FnVecs; rw [h32, h2, h33, h4, h3, h6, h8, h11, h34, h31, h36, h7, h35, h5, h10, h9, h37, h12, h30, h1]; simp only [cond_true, cond_false])
                                          refine WX.ret ttOk rfl ?_
                                          intro w1 G bs hI hΓ
                                          rw [hP33]
                                          exact ⟨rfl, trivial⟩
                                      · skip
                                        refine DX.takes (fuel := 0) ttOk [(34, true), (35, true), (36, true), (37, true), (38, true), (39, true), (40, true), (41, true), (42, true), (43, true), (44, true), (45, true), (46, true), (47, true), (48, true), (49, true), (50, true), (51, true), (52, true), (53, true), (54, true), (55, true), (56, true), (57, true), (58, true), (59, true)] (takesB_of hT (by kernel_rfl)) rfl ?_
                                        refine DX.tail2 [] rfl rfl (by kernel_rfl) ?_
                                        refine WX.run ttOk rfl ?_
                                        have hP34 : laws_FnVecs code = false := by first | (simp only [laws_FnVecs, h1, h2, h3, h4, h5, h6, h7, h8, h9, h10, h11, h12, h30, h31, h32, h33, h34, h35, h36, cond_true, cond_false]; done) | (unfold laws_FnVecs; rw [h32, h2, h33, h4, h3, h6, h8, h11, h34, h31, h36, h7, h35, h5, h10, h9, h12, h30, h1]; simp only [cond_true, cond_false])
                                        refine WX.ret ttOk rfl ?_
                                        intro w1 G bs hI hΓ
                                        rw [hP34]
                                        exact ⟨rfl, trivial⟩
                                    · as_aux_lemma =>
                                      refine DX.takes (fuel := 0) ttOk [(29, true), (30, true), (31, true), (32, true), (33, true), (34, true), (35, true), (36, true), (37, true), (38, true), (39, true), (40, true), (41, true), (42, true), (43, true), (44, true), (45, true), (46, true), (47, true), (48, true), (49, true), (50, true), (51, true), (52, true), (53, true), (54, true), (55, true), (56, true), (57, true), (58, true), (59, true)] (takesB_of hT (by kernel_rfl)) rfl ?_
                                      refine DX.tail2 [] rfl rfl (by kernel_rfl) ?_
                                      refine WX.run ttOk rfl ?_
                                      have hP35 : laws_FnVecs code = false := by first | (simp only [laws_FnVecs, h1, h2, h3, h4, h5, h6, h7, h8, h9, h10, h11, h12, h30, h31, h32, h33, h34, h35, cond_true, cond_false]; done) | (unfold laws_FnVecs; rw [h32, h2, h33, h4, h3, h6, h8, h11, h34, h31, h7, h35, h5, h10, h9, h12, h30, h1]; simp only [cond_true, cond_false])
                                      refine WX.ret ttOk rfl ?_
                                      intro w1 G bs hI hΓ
                                      rw [hP35]
                                      exact ⟨rfl, trivial⟩
                                  · skip
                                    refine DX.takes (fuel := 0) ttOk [(24, true), (25, true), (26, true), (27, true), (28, true), (29, true), (30, true), (31, true), (32, true), (33, true), (34, true), (35, true), (36, true), (37, true), (38, true), (39, true), (40, true), (41, true), (42, true), (43, true), (44, true), (45, true), (46, true), (47, true), (48, true), (49, true), (50, true), (51, true), (52, true), (53, true), (54, true), (55, true), (56, true), (57, true), (58, true), (59, true)] (takesB_of hT (by kernel_rfl)) rfl ?_
                                    refine DX.tail2 [] rfl rfl (by kernel_rfl) ?_
                                    refine WX.run ttOk rfl ?_
                                    have hP36 : laws_FnVecs code = false := by first | (simp only [laws_FnVecs, h1, h2, h3, h4, h5, h6, h7, h8, h9, h10, h11, h12, h30, h31, h32, h33, h34, cond_true, cond_false]; done) | (unfold laws_FnVecs; rw [h32, h2, h33, h4, h3, h6, h8, h11, h34, h31, h7, h5, h10, h9, h12, h30, h1]; simp only [cond_true, cond_false])
                                    refine WX.ret ttOk rfl ?_
                                    intro w1 G bs hI hΓ
                                    rw [hP36]
                                    exact ⟨rfl, trivial⟩
                                · skip
                                  refine DX.takes (fuel := 0) ttOk [(15, true), (16, true), (17, true), (18, true), (19, true), (20, true), (21, true), (22, true), (23, true), (24, true), (25, true), (26, true), (27, true), (28, true), (29, true), (30, true), (31, true), (32, true), (33, true), (34, true), (35, true), (36, true), (37, true), (38, true), (39, true), (40, true), (41, true), (42, true), (43, true), (44, true), (45, true), (46, true), (47, true), (48, true), (49, true), (50, true), (51, true), (52, true), (53, true), (54, true), (55, true), (56, true), (57, true), (58, true), (59, true)] (takesB_of hT (by kernel_rfl)) rfl ?_
                                  refine DX.tail2 [] rfl rfl (by kernel_rfl) ?_
                                  refine WX.run ttOk rfl ?_
                                  have hP37 : laws_FnVecs code = false := by first | (simp only [laws_FnVecs, h1, h2, h3, h4, h5, h6, h7, h8, h9, h10, h11, h12, h30, h31, h32, h33, cond_true, cond_false]; done) | (unfold laws_FnVecs; rw [h32, h2, h33, h4, h3, h6, h8, h11, h31, h7, h5, h10, h9, h12, h30, h1]; simp only [cond_true, cond_false])
                                  refine WX.ret ttOk rfl ?_
                                  intro w1 G bs hI hΓ
                                  rw [hP37]
                                  exact ⟨rfl, trivial⟩
                              · as_aux_lemma =>
                                refine DX.takes (fuel := 0) ttOk [(6, true), (7, true), (8, true), (9, true), (10, true), (11, true), (12, true), (13, true), (14, true), (15, true), (16, true), (17, true), (18, true), (19, true), (20, true), (21, true), (22, true), (23, true), (24, true), (25, true), (26, true), (27, true), (28, true), (29, true), (30, true), (31, true), (32, true), (33, true), (34, true), (35, true), (36, true), (37, true), (38, true), (39, true), (40, true), (41, true), (42, true), (43, true), (44, true), (45, true), (46, true), (47, true), (48, true), (49, true), (50, true), (51, true), (52, true), (53, true), (54, true), (55, true), (56, true), (57, true), (58, true), (59, true)] (takesB_of hT (by kernel_rfl)) rfl ?_
                                refine DX.tail2 [] rfl rfl (by kernel_rfl) ?_
                                refine WX.run ttOk rfl ?_
                                have hP38 : laws_FnVecs code = false := by first | (simp only [laws_FnVecs, h1, h2, h3, h4, h5, h6, h7, h8, h9, h10, h11, h12, h30, h31, h32, cond_true, cond_false]; done) | (unfold laws_FnVecs; rw [h32, h2, h4, h3, h6, h8, h11, h31, h7, h5, h10, h9, h12, h30, h1]; simp only [cond_true, cond_false])
                                refine WX.ret ttOk rfl ?_
                                intro w1 G bs hI hΓ
                                rw [hP38]
                                exact ⟨rfl, trivial⟩
                          · skip
                            refine WX.run ttOk rfl ?_
                            refine WX.draw [] mixed ?_
                            intro bs G0 hΓ0
                            refine DX.tab (by kernel_rfl) (fun hT => ?_)
                            refine DX.takes (fuel := 56) ttOk [(0, true), (1, false), (2, true), (3, false)] (takesB_of hT (by kernel_rfl)) rfl ?_
                            refine DX.callV 4 rfl (by kernel_rfl) rfl rfl rfl rfl rfl rfl (fun _ => rfl) rfl (fun w G bs hI hΓ => f18 w (n + 3) (by omega) ((impl_JoinVectors (impl_JoinVectors ((spec_DrawVecs code).1) ((spec_DrawVecs code).2.1)) ((spec_DrawVecs code).2.2)).entries) p23 c23 (hΓ.get 45 rfl) ((impl_JoinVectors ((spec_DrawVecs code).1) (impl_JoinVectors ((spec_DrawVecs code).2.1) ((spec_DrawVecs code).2.2))).entries) p25 c25 (hΓ.get 49 rfl) (ok_StateVector hq30) (ok_StateVector hq32)) ?_
                            intro hq77
                            refine DX.takes (fuel := 54) ttOk [(5, true)] (takesB_of hT (by kernel_rfl)) rfl ?_
                            refine DX.cases 187 rfl (fun h39 => ?_) (fun h39 => ?_)
                            · skip
                              refine DX.takes (fuel := 50) ttOk [(6, true), (7, false), (8, false), (9, false)] (takesB_of hT (by kernel_rfl)) rfl ?_
                              refine DX.callF 10 77 (fun _ _ h => GoT.ow_rd h) (fun _ f hf => GoT.fak f hf) rfl (by kernel_rfl) rfl rfl rfl rfl rfl rfl (fun _ => rfl) rfl (fun w G bs hI hΓ => f19 w (n + 1) (by omega) ((spec_DrawVecs code).2.1) p2 c2 (hΓ.get 2 rfl) ((spec_DrawVecs code).1) p1 c1 (hΓ.get 1 rfl) hq2.2.1 hq2.1) (fun _ => rfl) (fun _ => rfl) ?_
                              rintro ⟨p39, c39⟩ hq78
                              refine DX.takes (fuel := 48) ttOk [(11, true)] (takesB_of hT (by kernel_rfl)) rfl ?_
                              refine DX.callV 12 rfl (by kernel_rfl) rfl rfl rfl rfl rfl rfl (fun _ => rfl) rfl (fun w G bs hI hΓ => f18 w (n + 2) (by omega) ((impl_JoinVectors ((spec_DrawVecs code).1) ((spec_DrawVecs code).2.1)).entries) p22 c22 (hΓ.get 43 rfl) ((impl_JoinVectors ((spec_DrawVecs code).2.1) ((spec_DrawVecs code).1)).entries) p39 c39 (hΓ.get 77 rfl) (ok_StateVector hq29) (ok_StateVector hq78)) ?_
                              intro hq79
                              refine DX.takes (fuel := 45) ttOk [(13, true), (14, true)] (takesB_of hT (by kernel_rfl)) rfl ?_
                              refine DX.cases 196 rfl (fun h40 => ?_) (fun h40 => ?_)
                              · as_aux_lemma =>
                                refine DX.takes (fuel := 41) ttOk [(15, false), (16, false), (19, true), (20, false)] (takesB_of hT (by kernel_rfl)) rfl ?_
                                refine DX.callF 17 79 (fun _ _ h => GoT.ow_rd h) (fun _ f hf => GoT.fak f hf) rfl (by kernel_rfl) rfl rfl rfl rfl rfl rfl (fun _ => rfl) rfl (fun w G bs hI hΓ => f19 w (n + 1) (by omega) ((spec_DrawVecs code).1) p1 c1 (hΓ.get 1 rfl) ((spec_DrawVecs code).1) p1 c1 (hΓ.get 1 rfl) hq2.1 hq2.1) (fun _ => rfl) (fun _ => rfl) ?_
                                rintro ⟨p40, c40⟩ hq80
                                refine DX.takes (fuel := 39) ttOk [(18, true)] (takesB_of hT (by kernel_rfl)) rfl ?_
                                refine DX.callV 21 rfl (by kernel_rfl) rfl rfl rfl rfl rfl rfl (fun _ => rfl) rfl (fun w G bs hI hΓ => f18 w (n + 2) (by omega) ((impl_JoinVectors ((spec_DrawVecs code).1) ((spec_DrawVecs code).1)).entries) p40 c40 (hΓ.get 79 rfl) ((spec_DrawVecs code).1.entries) p1 c1 (hΓ.get 1 rfl) (ok_StateVector hq80) (GoT.okm (α := List TableEntry) (by omega) (ok_StateVector hq2.1))) ?_
                                intro hq81
                                refine DX.takes (fuel := 36) ttOk [(22, true), (23, true)] (takesB_of hT (by kernel_rfl)) rfl ?_
                                refine DX.cases 205 rfl (fun h41 => ?_) (fun h41 => ?_)
                                · skip
                                  refine DX.takes (fuel := 34) ttOk [(24, false), (25, false)] (takesB_of hT (by kernel_rfl)) rfl ?_
                                  refine DX.callV 26 rfl (by kernel_rfl) rfl rfl rfl rfl rfl rfl (fun _ => rfl) rfl (fun w G bs hI hΓ => f21 w (n + 2) (by omega) ((spec_DrawVecs code).1) p1 c1 (hΓ.get 1 rfl) (impl_JoinVectors ((spec_DrawVecs code).1) ((spec_DrawVecs code).2.1)) p22 c22 (hΓ.get 43 rfl) (GoT.okm (α := List TableEntry) (by omega) (ok_StateVector hq2.1)) hq29) ?_
                                  intro hq82
                                  refine DX.takes (fuel := 31) ttOk [(27, true), (28, true)] (takesB_of hT (by kernel_rfl)) rfl ?_
                                  refine DX.cases 210 rfl (fun h42 => ?_) (fun h42 => ?_)
                                  · skip
                                    refine DX.takes (fuel := 29) ttOk [(29, false), (30, false)] (takesB_of hT (by kernel_rfl)) rfl ?_
                                    refine DX.callV 31 rfl (by kernel_rfl) rfl rfl rfl rfl rfl rfl (fun _ => rfl) rfl (fun w G bs hI hΓ => f21 w (n + 2) (by omega) ((spec_DrawVecs code).2.1) p2 c2 (hΓ.get 2 rfl) (impl_JoinVectors ((spec_DrawVecs code).1) ((spec_DrawVecs code).2.1)) p22 c22 (hΓ.get 43 rfl) (GoT.okm (α := List TableEntry) (by omega) (ok_StateVector hq2.2.1)) hq29) ?_
                                    intro hq83
                                    refine DX.takes (fuel := 26) ttOk [(32, true), (33, true)] (takesB_of hT (by kernel_rfl)) rfl ?_
                                    refine DX.cases 215 rfl (fun h43 => ?_) (fun h43 => ?_)
                                    · as_aux_lemma =>
                                      refine DX.takes (fuel := 25) ttOk [(34, false)] (takesB_of hT (by kernel_rfl)) rfl ?_
                                      refine DX.callV 35 rfl (by kernel_rfl) rfl rfl rfl rfl rfl rfl (fun _ => rfl) rfl (fun w G bs hI hΓ => f32 w (n + 2) (by omega) (impl_JoinVectors ((spec_DrawVecs code).1) ((spec_DrawVecs code).2.1)) p22 c22 (hΓ.get 43 rfl) hq29) ?_
                                      intro hq84
                                      refine DX.takes (fuel := 22) ttOk [(36, true), (37, true)] (takesB_of hT (by kernel_rfl)) rfl ?_
                                      refine DX.cases 219 rfl (fun h44 => ?_) (fun h44 => ?_)
                                      · skip
                                        refine DX.takes (fuel := 16) ttOk [(38, false), (39, false), (41, true), (42, false), (43, true), (44, false)] (takesB_of hT (by kernel_rfl)) rfl ?_
                                        refine DX.callV 40 rfl (by kernel_rfl) rfl rfl rfl rfl rfl rfl (fun _ => rfl) rfl (fun w G bs hI hΓ => f21 w (n + 1) (by omega) ((spec_DrawVecs code).1) p1 c1 (hΓ.get 1 rfl) ((spec_DrawVecs code).2.1) p2 c2 (hΓ.get 2 rfl) hq2.1 hq2.2.1) ?_
                                        intro hq85
                                        refine DX.callV 45 rfl (by kernel_rfl) rfl rfl rfl rfl rfl rfl (fun _ => rfl) rfl (fun w G bs hI hΓ => f18 w (n + 2) (by omega) ((impl_JoinVectors ((spec_DrawVecs code).1) ((spec_DrawVecs code).2.1)).entries) p22 c22 (hΓ.get 43 rfl) ((spec_DrawVecs code).2.1.entries) p2 c2 (hΓ.get 2 rfl) (ok_StateVector hq29) (GoT.okm (α := List TableEntry) (by omega) (ok_StateVector hq2.2.1))) ?_
                                        intro hq86
                                        refine DX.see 46 (mayB_of hT (by kernel_rfl)) rfl rfl rfl rfl (looks_beq ttOk rfl rfl rfl rfl rfl rfl) ?_
                                        refine DX.takes (fuel := 11) ttOk [(47, true), (48, true)] (takesB_of hT (by kernel_rfl)) rfl ?_
                                        refine DX.cases 230 rfl (fun h45 => ?_) (fun h45 => ?_)
                                        · skip
                                          refine DX.takes (fuel := 7) ttOk [(49, false), (50, false), (54, false), (55, false)] (takesB_of hT (by kernel_rfl)) rfl ?_
                                          refine DX.callF 51 81 (fun _ _ h => GoT.ow_rd h) (fun _ f hf => GoT.fak f hf) rfl (by kernel_rfl) rfl rfl rfl rfl rfl rfl (fun _ => rfl) rfl (fun w G bs hI hΓ => f23 w (n + 1) (by omega) ((spec_DrawVecs code).1) p1 c1 (hΓ.get 1 rfl) ((spec_DrawVecs code).2.1) p2 c2 (hΓ.get 2 rfl) hq2.1 hq2.2.1) (fun _ => rfl) (fun _ => rfl) ?_
                                          rintro ⟨p41, c41⟩ hq87
                                          refine DX.takes (fuel := 4) ttOk [(52, true), (53, true)] (takesB_of hT (by kernel_rfl)) rfl ?_
                                          refine DX.callV 56 rfl (by kernel_rfl) rfl rfl rfl rfl rfl rfl (fun _ => rfl) rfl (fun w G bs hI hΓ => f21 w (n + 1) (by omega) ((spec_DrawVecs code).1) p1 c1 (hΓ.get 1 rfl) ((spec_DrawVecs code).2.1) p2 c2 (hΓ.get 2 rfl) hq2.1 hq2.2.1) ?_
                                          intro hq88
                                          refine DX.see 57 (mayB_of hT (by kernel_rfl)) rfl rfl rfl rfl (looks_beq ttOk rfl rfl rfl rfl rfl rfl) ?_
                                          refine DX.takes (fuel := 0) ttOk [(58, true), (59, true)] (takesB_of hT (by kernel_rfl)) rfl ?_
                                          refine DX.tail2 [] rfl rfl (by kernel_rfl) ?_
                                          refine WX.run ttOk rfl ?_
                                          have hP39 : laws_FnVecs code = ((((((impl_NewerThan ((spec_DrawVecs code).1) ((spec_DrawVecs code).2.1))).length : Nat) : Int) == 0) == (impl_VectorLeq ((spec_DrawVecs code).1) ((spec_DrawVecs code).2.1))) := by first | (simp only [laws_FnVecs, h1, h2, h3, h4, h5, h6, h7, h8, h9, h10, h11, h12, h30, h39, h40, h41, h42, h43, h44, h45, cond_true, cond_false]; done) | (unfold laws_FnVecs; rw [h39, h45, h2, h40, h4, h3, h6, h8, h11, h41, h43, h7, h42, h5, h10, h9, h44, h12, h30, h1]; simp only [cond_true, cond_false])
                                          refine WX.ret ttOk rfl ?_
                                          intro w1 G bs hI hΓ
                                          rw [hP39]
                                          exact ⟨rfl, trivial⟩
                                        · skip
                                          refine DX.takes (fuel := 0) ttOk [(49, true), (50, true), (51, true), (52, true), (53, true), (54, true), (55, true), (56, true), (57, true), (58, true), (59, true)] (takesB_of hT (by kernel_rfl)) rfl ?_
                                          refine DX.tail2 [] rfl rfl (by kernel_rfl) ?_
                                          refine WX.run ttOk rfl ?_
                                          have hP40 : laws_FnVecs code = false := by first | (simp only [laws_FnVecs, h1, h2, h3, h4, h5, h6, h7, h8, h9, h10, h11, h12, h30, h39, h40, h41, h42, h43, h44, h45, cond_true, cond_false]; done) | (unfold laws_FnVecs; rw [h39, h45, h2, h40, h4, h3, h6, h8, h11, h41, h43, h7, h42, h5, h10, h9, h44, h12, h30, h1]; simp only [cond_true, cond_false])
                                          refine WX.ret ttOk rfl ?_
                                          intro w1 G bs hI hΓ
                                          rw [hP40]
                                          exact ⟨rfl, trivial⟩
                                      · skip
                                        refine DX.takes (fuel := 0) ttOk [(38, true), (39, true), (40, true), (41, true), (42, true), (43, true), (44, true), (45, true), (46, true), (47, true), (48, true), (49, true), (50, true), (51, true), (52, true), (53, true), (54, true), (55, true), (56, true), (57, true), (58, true), (59, true)] (takesB_of hT (by kernel_rfl)) rfl ?_
                                        refine DX.tail2 [] rfl rfl (by kernel_rfl) ?_
                                        refine WX.run ttOk rfl ?_
                                        have hP41 : laws_FnVecs code = false := by first | (simp only [laws_FnVecs, h1, h2, h3, h4, h5, h6, h7, h8, h9, h10, h11, h12, h30, h39, h40, h41, h42, h43, h44, cond_true, cond_false]; done) | (unfold laws_FnVecs; rw [h39, h2, h40, h4, h3, h6, h8, h11, h41, h43, h7, h42, h5, h10, h9, h44, h12, h30, h1]; simp only [cond_true, cond_false])
                                        refine WX.ret ttOk rfl ?_
                                        intro w1 G bs hI hΓ
                                        rw [hP41]
                                        exact ⟨rfl, trivial⟩
                                    · as_aux_lemma =>
                                      refine DX.takes (fuel := 0) ttOk [(34, true), (35, true), (36, true), (37, true), (38, true), (39, true), (40, true), (41, true), (42, true), (43, true), (44, true), (45, true), (46, true), (47, true), (48, true), (49, true), (50, true), (51, true), (52, true), (53, true), (54, true), (55, true), (56, true), (57, true), (58, true), (59, true)] (takesB_of hT (by kernel_rfl)) rfl ?_
                                      refine DX.tail2 [] rfl rfl (by kernel_rfl) ?_
                                      refine WX.run ttOk rfl ?_
                                      have hP42 : laws_FnVecs code = false := by first | (simp only [laws_FnVecs, h1, h2, h3, h4, h5, h6, h7, h8, h9, h10, h11, h12, h30, h39, h40, h41, h42, h43, cond_true, cond_false]; done) | (unfold laws_FnVecs; rw [h39, h2, h40, h4, h3, h6, h8, h11, h41, h43, h7, h42, h5, h10, h9, h12, h30, h1]; simp only [cond_true, cond_false])
                                      refine WX.ret ttOk rfl ?_
                                      intro w1 G bs hI hΓ
                                      rw [hP42]
                                      exact ⟨rfl, trivial⟩
                                  · skip
                                    refine DX.takes (fuel := 0) ttOk [(29, true), (30, true), (31, true), (32, true), (33, true), (34, true), (35, true), (36, true), (37, true), (38, true), (39, true), (40, true), (41, true), (42, true), (43, true), (44, true), (45, true), (46, true), (47, true), (48, true), (49, true), (50, true), (51, true), (52, true), (53, true), (54, true), (55, true), (56, true), (57, true), (58, true), (59, true)] (takesB_of hT (by kernel_rfl)) rfl ?_
                                    refine DX.tail2 [] rfl rfl (by kernel_rfl) ?_
                                    refine WX.run ttOk rfl ?_
                                    have hP43 : laws_FnVecs code = false := by first | (simp only [laws_FnVecs, h1, h2, h3, h4, h5, h6, h7, h8, h9, h10, h11, h12, h30, h39, h40, h41, h42, cond_true, cond_false]; done) | (unfold laws_FnVecs; rw [h39, h2, h40, h4, h3, h6, h8, h11, h41, h7, h42, h5, h10, h9, h12, h30, h1]; simp only [cond_true, cond_false])
                                    refine WX.ret ttOk rfl ?_
                                    intro w1 G bs hI hΓ
                                    rw [hP43]
                                    exact ⟨rfl, trivial⟩
                                · skip
                                  refine DX.takes (fuel := 0) ttOk [(24, true), (25, true), (26, true), (27, true), (28, true), (29, true), (30, true), (31, true), (32, true), (33, true), (34, true), (35, true), (36, true), (37, true), (38, true), (39, true), (40, true), (41, true), (42, true), (43, true), (44, true), (45, true), (46, true), (47, true), (48, true), (49, true), (50, true), (51, true), (52, true), (53, true), (54, true), (55, true), (56, true), (57, true), (58, true), (59, true)] (takesB_of hT (by kernel_rfl)) rfl ?_
                                  refine DX.tail2 [] rfl rfl (by kernel_rfl) ?_
                                  refine WX.run ttOk rfl ?_
                                  have hP44 : laws_FnVecs code = false := by first | (simp only [laws_FnVecs, h1, h2, h3, h4, h5, h6, h7, h8, h9, h10, h11, h12, h30, h39, h40, h41, cond_true, cond_false]; done) | (unfold laws_FnVecs; rw [h39, h2, h40, h4, h3, h6, h8, h11, h41, h7, h5, h10, h9, h12, h30, h1]; simp only [cond_true, cond_false])
                                  refine WX.ret ttOk rfl ?_
                                  intro w1 G bs hI hΓ
                                  rw [hP44]
                                  exact ⟨rfl, trivial⟩
                              · as_aux_lemma =>
                                refine DX.takes (fuel := 0) ttOk [(15, true), (16, true), (17, true), (18, true), (19, true), (20, true), (21, true), (22, true), (23, true), (24, true), (25, true), (26, true), (27, true), (28, true), (29, true), (30, true), (31, true), (32, true), (33, true), (34, true), (35, true), (36, true), (37, true), (38, true), (39, true), (40, true), (41, true), (42, true), (43, true), (44, true), (45, true), (46, true), (47, true), (48, true), (49, true), (50, true), (51, true), (52, true), (53, true), (54, true), (55, true), (56, true), (57, true), (58, true), (59, true)] (takesB_of hT (by kernel_rfl)) rfl ?_
                                refine DX.tail2 [] rfl rfl (by kernel_rfl) ?_
                                refine WX.run ttOk rfl ?_
                                have hP45 : laws_FnVecs code = false := by first | (simp only [laws_FnVecs, h1, h2, h3, h4, h5, h6, h7, h8, h9, h10, h11, h12, h30, h39, h40, cond_true, cond_false]; done) | (unfold laws_FnVecs; rw [h39, h2, h40, h4, h3, h6, h8, h11, h7, h5, h10, h9, h12, h30, h1]; simp only [cond_true, cond_false])
                                refine WX.ret ttOk rfl ?_
                                intro w1 G bs hI hΓ
                                rw [hP45]
                                exact ⟨rfl, trivial⟩
                            · skip
                              refine DX.takes (fuel := 0) ttOk [(6, true), (7, true), (8, true), (9, true), (10, true), (11, true), (12, true), (13, true), (14, true), (15, true), (16, true), (17, true), (18, true), (19, true), (20, true), (21, true), (22, true), (23, true), (24, true), (25, true), (26, true), (27, true), (28, true), (29, true), (30, true), (31, true), (32, true), (33, true), (34, true), (35, true), (36, true), (37, true), (38, true), (39, true), (40, true), (41, true), (42, true), (43, true), (44, true), (45, true), (46, true), (47, true), (48, true), (49, true), (50, true), (51, true), (52, true), (53, true), (54, true), (55, true), (56, true), (57, true), (58, true), (59, true)] (takesB_of hT (by kernel_rfl)) rfl ?_
                              refine DX.tail2 [] rfl rfl (by kernel_rfl) ?_
                              refine WX.run ttOk rfl ?_
                              have hP46 : laws_FnVecs code = false := by first | (simp only [laws_FnVecs, h1, h2, h3, h4, h5, h6, h7, h8, h9, h10, h11, h12, h30, h39, cond_true, cond_false]; done) | (unfold laws_FnVecs; rw [h39, h2, h4, h3, h6, h8, h11, h7, h5, h10, h9, h12, h30, h1]; simp only [cond_true, cond_false])
                              refine WX.ret ttOk rfl ?_
                              intro w1 G bs hI hΓ
                              rw [hP46]
                              exact ⟨rfl, trivial⟩
end Go.Proofs.Ytdimfabadjfkiaa

namespace Go.Stp
theorem mid {α : Type} (p : List α) (e : α) (l : List α) : (p ++ e :: l)[p.length]? = some e := by simp
theorem mid_app {α : Type} (p : List α) (e : α) (l : List α) : (p ++ [e]) ++ l = p ++ e :: l := by simp
theorem mid_len {α : Type} (p : List α) (e : α) : (p ++ [e]).length = p.length + 1 := by simp
def SzR (r left : Int) (s : Nat) : Prop := r = -1 ∨ ((s : Int) ≤ left ∧ r = left - s)
theorem SzR.pos {r left : Int} {s : Nat} (h : SzR r left s) (hr : 0 ≤ r) : (s : Int) ≤ left ∧ r = left - s := by
  rcases h with h | h
  · omega
  · exact h
theorem dT {x : Int} (h : x < 0) : decide (x < 0) = true := decide_eq_true h
theorem szL_cons {α : Type} [GoT α] [Sz α] (a : α) (l : List α) : szL (a :: l) = sz a + szL l := by simp [szL]
theorem szL_nil {α : Type} [GoT α] [Sz α] : szL ([] : List α) = 0 := rfl
theorem bne_self_F {α : Type} [BEq α] [LawfulBEq α] (a : α) : (a != a) = false := by simp
theorem nbeq_self_F {α : Type} [BEq α] [LawfulBEq α] (a : α) : (!(a == a)) = false := by simp
theorem bytesLess_self : ∀ l : List UInt8, Op.bytesLess l l = false
  | [] => rfl
  | a :: l => by simp [Op.bytesLess, bytesLess_self l]
theorem l4_zero (a b : List UInt8) : ((bif Op.bytesLess a b then (-1) else bif (!(Op.bytesLess a b || a == b)) then 1 else 0 : Int) = 0) ↔ a = b := by
  cases h : Op.bytesLess a b
  · by_cases e : a = b
    · simp [e]
    · have : (a == b) = false := by simpa using e
      simp [this, e]
  · constructor
    · intro x; simp at x
    · intro e; rw [e, bytesLess_self] at h; cases h
end Go.Stp

namespace Go.Stp
set_option linter.unusedVariables false
set_option linter.unusedSimpArgs false
theorem same_In (a b c : Int) : impl_InRange a b c = spec_l1In a b c := rfl
theorem sEqL_string : ∀ (a b p : List Str), a.length = b.length → slices_Equal_string_L1 (p ++ b) a p.length = (if a.map (fun z : Str => z.toList) = b.map (fun z : Str => z.toList) then none else some false)
  | [], [], p, _ => by simp [slices_Equal_string_L1]
  | x :: a, y :: b, p, h => by
    have ih := sEqL_string a b (p ++ [y]) (by simpa using h)
    rw [mid_app, mid_len] at ih
    simp only [slices_Equal_string_L1, mid]
    by_cases hxy : x.toList = y.toList
    · simp [hxy, ih]
    · have hb : (x.toList == y.toList) = false := by simpa using hxy
      simp [hb, hxy]
theorem sEq_string (a b : List Str) : slices_Equal_string a b = decide (a.map (fun z : Str => z.toList) = b.map (fun z : Str => z.toList)) := by
  unfold slices_Equal_string
  by_cases hl : a.length = b.length
  · have h := sEqL_string a b [] hl
    simp only [List.nil_append, List.length_nil] at h
    simp only [hl, bne_self_F, cond_false, h]
    split <;> simp_all
  · have hne : a.map (fun z : Str => z.toList) ≠ b.map (fun z : Str => z.toList) := fun h => hl (by simpa using congrArg List.length h)
    have hn : ((a.length : Int) != (b.length : Int)) = true := by simp; omega
    simp [hn, hne]
theorem cNL : ∀ (a b p : List Str), match spec_CompareNames_L1 ⟨p ++ b⟩ a p.length with
    | some k => k ≠ 0 ∧ a.map (fun z : Str => z.toList) ≠ b.map (fun z : Str => z.toList)
    | none => a.length = b.length → a.map (fun z : Str => z.toList) = b.map (fun z : Str => z.toList)
  | [], b, p => by
    simp only [spec_CompareNames_L1]
    intro h
    cases b with
    | nil => rfl
    | cons => simp at h
  | x :: a, [], p => by simp [spec_CompareNames_L1]
  | x :: a, y :: b, p => by
    have ih := cNL a b (p ++ [y])
    rw [mid_app, mid_len] at ih
    have hlt : decide (((p.length : Nat) : Int) < (((p ++ y :: b).length : Nat) : Int)) = true := by simp; omega
    simp only [spec_CompareNames_L1, hlt, cond_true, mid]
    by_cases hk : spec_l4Cmp x y = 0
    · have e : x.toList = y.toList := (l4_zero _ _).1 hk
      rw [hk]
      simp only [bne_self_F, cond_false]
      revert ih
      cases spec_CompareNames_L1 ⟨p ++ y :: b⟩ a (p.length + 1) with
      | none => intro ih h; simp [e, ih (by simpa using h)]
      | some k => intro ih; exact ⟨ih.1, fun h => ih.2 (by simpa [e] using h)⟩
    · have hn : (spec_l4Cmp x y != 0) = true := by simpa using hk
      simp only [hn, cond_true]
      exact ⟨hk, fun h => hk ((l4_zero _ _).2 (by simp at h; exact h.1))⟩
theorem same_EqualNames (a b : Name) : impl_EqualNames a b = spec_EqualNames a b := by
  unfold impl_EqualNames spec_EqualNames spec_CompareNames
  rw [sEq_string]
  have h : match spec_CompareNames_L1 b a.parts 0 with
    | some k => k ≠ 0 ∧ a.parts.map (fun z : Str => z.toList) ≠ b.parts.map (fun z : Str => z.toList)
    | none => a.parts.length = b.parts.length → a.parts.map (fun z : Str => z.toList) = b.parts.map (fun z : Str => z.toList) := cNL a.parts b.parts []
  revert h
  cases spec_CompareNames_L1 b a.parts 0 with
  | some k => intro ⟨h1, h2⟩; simp [h1, h2]
  | none =>
    intro h
    by_cases hl : a.parts.length = b.parts.length
    · simp [h hl, hl]
    · have ne : a.parts.map (fun z : Str => z.toList) ≠ b.parts.map (fun z : Str => z.toList) := fun h => hl (by simpa using congrArg List.length h)
      rcases Nat.lt_or_gt_of_ne hl with c | c
      · simp [ne, c]
      · have c' : ¬ a.parts.length < b.parts.length := by omega
        simp [ne, c, c']
theorem vPL : ∀ l : List UInt8, impl_ValidPart_L1 l = spec_ValidPart_L1 l ∧ (spec_ValidPart_L1 l = none ∨ spec_ValidPart_L1 l = some false)
  | [] => ⟨rfl, .inl rfl⟩
  | c :: l => by
    obtain ⟨h1, h2⟩ := vPL l
    simp only [impl_ValidPart_L1, spec_ValidPart_L1, h1, spec_l1In, ge_iff_le]
    cases decide ((97 : Int) ≤ (c.toNat : Int)) <;> cases decide ((c.toNat : Int) ≤ 122) <;> cases decide ((48 : Int) ≤ (c.toNat : Int)) <;> cases decide ((c.toNat : Int) ≤ 57) <;> cases hc : ((c.toNat : Int) == 45) <;> simp [bne, hc, h2]
theorem same_ValidPart (s : Str) : impl_ValidPart s = spec_ValidPart s := by
  unfold impl_ValidPart spec_ValidPart
  obtain ⟨h1, h2⟩ := vPL s.data.toList
  rw [h1, same_In]
  rcases h2 with h | h <;> rw [h] <;> cases spec_l1In (((s).size : Nat) : Int) 1 8 <;> rfl
theorem iF_string : ∀ (f : Str → Bool) (l : List Str) (i : Nat), (slices_IndexFunc_string_L1 f l i = none ∧ l.any f = false) ∨ ∃ j : Nat, slices_IndexFunc_string_L1 f l i = some (j : Int) ∧ l.any f = true
  | f, [], i => .inl ⟨rfl, rfl⟩
  | f, x :: l, i => by
    simp only [slices_IndexFunc_string_L1, List.any_cons]
    cases hx : f x
    · simpa using iF_string f l (i + 1)
    · exact .inr ⟨i, rfl, rfl⟩
theorem cF_string (l : List Str) (f : Str → Bool) : slices_ContainsFunc_string l f = l.any f := by
  unfold slices_ContainsFunc_string slices_IndexFunc_string
  rcases iF_string f l 0 with ⟨h1, h2⟩ | ⟨j, h1, h2⟩ <;> simp [h1, h2]
theorem vNL : ∀ l : List Str, spec_ValidName_L1 l = bif l.any (fun e => !(spec_ValidPart e)) then some false else none
  | [] => rfl
  | x :: l => by
    simp only [spec_ValidName_L1, List.any_cons]
    cases (!(spec_ValidPart x)) <;> simp [vNL l]
theorem same_ValidName (a : Name) : impl_ValidName a = spec_ValidName a := by
  unfold impl_ValidName spec_ValidName impl_ValidName_c1
  rw [cF_string, vNL]
  simp only [same_ValidPart]
  cases a.parts.any (fun e => !(spec_ValidPart e)) <;> cases decide ((((a.parts).length : Nat) : Int) ≤ 6) <;> rfl
theorem cmp_l4 (x y : Str) : cmp_Compare_string x y = spec_l4Cmp x y := by
  simp [cmp_Compare_string, cmp_isNaN_string, spec_l4Cmp]
theorem cCL : ∀ (a b p : List Str), (slices_Compare_string_L1 (p ++ b) a p.length = spec_CompareNames_L1 ⟨p ++ b⟩ a p.length ∧ (spec_CompareNames_L1 ⟨p ++ b⟩ a p.length = none → a.length ≤ b.length)) ∨ (slices_Compare_string_L1 (p ++ b) a p.length = some 1 ∧ spec_CompareNames_L1 ⟨p ++ b⟩ a p.length = none ∧ b.length < a.length)
  | [], b, p => .inl ⟨rfl, fun _ => Nat.zero_le _⟩
  | x :: a, [], p => .inr (by simp [slices_Compare_string_L1, spec_CompareNames_L1])
  | x :: a, y :: b, p => by
    have ih := cCL a b (p ++ [y])
    rw [mid_app, mid_len] at ih
    have hlt : decide (((p.length : Nat) : Int) < (((p ++ y :: b).length : Nat) : Int)) = true := by simp; omega
    have hge : decide (((p.length : Nat) : Int) ≥ (((p ++ y :: b).length : Nat) : Int)) = false := by simp; omega
    simp only [spec_CompareNames_L1, slices_Compare_string_L1, hlt, hge, cond_true, cond_false, mid, cmp_l4, List.length_cons]
    cases (spec_l4Cmp x y != 0)
    · simp only [cond_false]
      rcases ih with ⟨h1, h2⟩ | ⟨h1, h2, h3⟩
      · exact .inl ⟨h1, fun h => by have := h2 h; omega⟩
      · exact .inr ⟨h1, h2, by omega⟩
    · exact .inl ⟨rfl, fun h => by cases h⟩
theorem same_CompareNames (a b : Name) : impl_CompareNames a b = spec_CompareNames a b := by
  unfold impl_CompareNames slices_Compare_string spec_CompareNames
  have h : (slices_Compare_string_L1 b.parts a.parts 0 = spec_CompareNames_L1 b a.parts 0 ∧ (spec_CompareNames_L1 b a.parts 0 = none → a.parts.length ≤ b.parts.length)) ∨ (slices_Compare_string_L1 b.parts a.parts 0 = some 1 ∧ spec_CompareNames_L1 b a.parts 0 = none ∧ b.parts.length < a.parts.length) := cCL a.parts b.parts []
  rcases h with ⟨h1, h2⟩ | ⟨h1, h2, h3⟩
  · rw [h1]
    cases hs : spec_CompareNames_L1 b a.parts 0 with
    | some k => rfl
    | none =>
      have := h2 hs
      have c : decide ((((a.parts).length : Nat) : Int) > (((b.parts).length : Nat) : Int)) = false := by simp; omega
      simp only [c, cond_false]
  · rw [h1, h2]
    have c : decide ((((a.parts).length : Nat) : Int) > (((b.parts).length : Nat) : Int)) = true := by simp; omega
    have d : decide ((((a.parts).length : Nat) : Int) < (((b.parts).length : Nat) : Int)) = false := by simp; omega
    simp only [c, d, cond_false, cond_true]
theorem vTL (l : List TableEntry) : ∀ (r : List TableEntry) (i : Nat), impl_ValidTable_L1 l r i = spec_ValidTable_L1 l r i
  | [], _ => rfl
  | x :: r, i => by simp only [impl_ValidTable_L1, spec_ValidTable_L1, same_ValidName, same_CompareNames, vTL l r]
theorem same_ValidTable (l : List TableEntry) : impl_ValidTable l = spec_ValidTable l := by
  unfold impl_ValidTable spec_ValidTable
  rw [vTL]
theorem iF_TableEntry : ∀ (f : TableEntry → Bool) (l : List TableEntry) (i : Nat), (slices_IndexFunc_TableEntry_L1 f l i = none ∧ l.any f = false) ∨ ∃ j : Nat, slices_IndexFunc_TableEntry_L1 f l i = some (j : Int) ∧ l.any f = true
  | f, [], i => .inl ⟨rfl, rfl⟩
  | f, x :: l, i => by
    simp only [slices_IndexFunc_TableEntry_L1, List.any_cons]
    cases hx : f x
    · simpa using iF_TableEntry f l (i + 1)
    · exact .inr ⟨i, rfl, rfl⟩
theorem cF_TableEntry (l : List TableEntry) (f : TableEntry → Bool) : slices_ContainsFunc_TableEntry l f = l.any f := by
  unfold slices_ContainsFunc_TableEntry slices_IndexFunc_TableEntry
  rcases iF_TableEntry f l 0 with ⟨h1, h2⟩ | ⟨j, h1, h2⟩ <;> simp [h1, h2]
theorem vVL : ∀ l : List TableEntry, spec_ValidVector_L1 l = bif l.any (fun e => !(spec_l1In e.value 1 1000)) then some false else none
  | [] => rfl
  | x :: l => by
    simp only [spec_ValidVector_L1, List.any_cons]
    cases (!(spec_l1In x.value 1 1000)) <;> simp [vVL l]
theorem same_ValidVector' (a : StateVector) : impl_ValidVector a = spec_ValidVector a := by
  unfold impl_ValidVector spec_ValidVector impl_ValidVector_c1
  rw [cF_TableEntry, vVL, same_ValidTable]
  simp only [same_In]
  cases a.entries.any (fun e => !(spec_l1In e.value 1 1000)) <;> cases spec_ValidTable a.entries <;> rfl
theorem ixL (n_ : Name) : ∀ (l : List TableEntry) (i : Nat), slices_IndexFunc_TableEntry_L1 (fun e0_ => impl_indexOfName_c1 n_ e0_) l i = spec_l6Find_L1 n_ l i
  | [], i => rfl
  | x :: l, i => by
    simp only [slices_IndexFunc_TableEntry_L1, spec_l6Find_L1]
    rw [ixL n_ l (i + 1), show impl_indexOfName_c1 n_ x = spec_EqualNames x.name n_ from same_EqualNames _ _]
theorem same_indexOfName (l : List TableEntry) (n_ : Name) : impl_indexOfName l n_ = spec_l6Find l n_ := by
  unfold impl_indexOfName slices_IndexFunc_TableEntry spec_l6Find
  rw [ixL] <;> (cases spec_l6Find_L1 n_ l 0 <;> rfl)
theorem same_LookupEntry (l : List TableEntry) (n_ : Name) : impl_LookupEntry l n_ = spec_LookupEntry l n_ := by
  simp only [impl_LookupEntry, spec_LookupEntry, same_indexOfName]
theorem same_SeqOf' (v : StateVector) (n_ : Name) : impl_SeqOf v n_ = spec_SeqOf v n_ := by
  simp only [impl_SeqOf, spec_SeqOf, same_LookupEntry]
theorem nTL (a : StateVector) (e1 : TableEntry) (m : Nat) (o : List TableEntry) (k : Int) (hm : 20 - o.length = m) : impl_NewerThan_L2 a e1 o k = spec_NewerThan_L2 a e1 o k := by
  rw [impl_NewerThan_L2, spec_NewerThan_L2, same_SeqOf']
  by_cases h1 : k < spec_SeqOf a e1.name
  · by_cases h2 : ((o.length : Nat) : Int) < 20
    · simp only [h1, h2, ↓reduceIte]
      exact nTL a e1 (m - 1) _ _ (by simp; omega)
    · simp only [h1, h2, ↓reduceIte]
  · simp only [h1, ↓reduceIte]
termination_by m
decreasing_by omega
theorem nTL1 (a b : StateVector) : ∀ (l o : List TableEntry), impl_NewerThan_L1 a b l o = spec_NewerThan_L1 a b l o
  | [], o => rfl
  | e :: l, o => by
    simp only [impl_NewerThan_L1, spec_NewerThan_L1, same_SeqOf', nTL a e _ o _ rfl]
    exact nTL1 a b l _
theorem same_NewerThan' (a b : StateVector) : impl_NewerThan a b = spec_NewerThan a b := by
  simp only [impl_NewerThan, spec_NewerThan, nTL1]
theorem vSL : ∀ (l : List TableEntry) (s : Int), impl_VectorSum_L1 l s = spec_VectorSum_L1 l s
  | [], _ => rfl
  | x :: l, s => vSL l _
theorem same_VectorSum' (v : StateVector) : impl_VectorSum v = spec_VectorSum v := vSL v.entries 0
theorem spL1 (l : List TableEntry) (n_ : Name) : ∀ (m i : Nat), l.length - i = m → i ≤ l.length → spec_PutEntry_L1 l n_ i = i + (l.drop i).findIdx (fun e => !decide (spec_CompareNames e.name n_ < 0))
  | 0, i, hm, hi => by
    rw [spec_PutEntry_L1, cT_spec]
    rw [if_neg (by omega), List.drop_eq_nil_of_le (by omega)]
    simp
  | m + 1, i, hm, hi => by
    have hlt : i < l.length := by omega
    have hg : l[i]? = some l[i] := List.getElem?_eq_getElem hlt
    rw [spec_PutEntry_L1, cT_spec]
    rw [if_pos (by omega), List.drop_eq_getElem_cons hlt, List.findIdx_cons]
    simp only [hg]
    by_cases hc : spec_CompareNames l[i].name n_ < 0
    · rw [if_pos hc, spL1 l n_ m (i + 1) (by omega) (by omega)]
      simp only [hc, decide_true, Bool.not_true, cond_false]
      omega
    · rw [if_neg hc]
      simp only [hc, decide_false, Bool.not_false, cond_true, Nat.add_zero]
theorem ifF (f : TableEntry → Bool) : ∀ (l : List TableEntry) (i : Nat), slices_IndexFunc_TableEntry_L1 f l i = if l.findIdx f < l.length then some ((i + l.findIdx f : Nat) : Int) else none
  | [], i => by simp [slices_IndexFunc_TableEntry_L1]
  | x :: l, i => by
    simp only [slices_IndexFunc_TableEntry_L1, List.findIdx_cons, List.length_cons]
    cases hx : f x
    · simp only [cond_false]
      rw [ifF f l (i + 1)]
      by_cases h : l.findIdx f < l.length
      · rw [if_pos h, if_pos (by omega), show i + 1 + l.findIdx f = i + (l.findIdx f + 1) by omega]
      · rw [if_neg h, if_neg (by omega)]
    · simp only [cond_true, Nat.add_zero]
      rw [if_pos (by omega)]
theorem fiC {f g : TableEntry → Bool} : ∀ {l : List TableEntry}, (∀ a ∈ l, f a = g a) → l.findIdx f = l.findIdx g
  | [], _ => rfl
  | x :: l, h => by
    rw [List.findIdx_cons, List.findIdx_cons, h x List.mem_cons_self, fiC (fun a ha => h a (List.mem_cons_of_mem _ ha))]
theorem l6N (n_ : Name) : ∀ (l : List TableEntry) (i : Nat), spec_l6Find_L1 n_ l i = none → ∀ a ∈ l, spec_EqualNames a.name n_ = false
  | [], i, h, a, ha => by cases ha
  | x :: l, i, h, a, ha => by
    simp only [spec_l6Find_L1] at h
    cases hx : spec_EqualNames x.name n_
    · rw [hx, cond_false] at h
      rcases List.mem_cons.1 ha with rfl | ha
      · exact hx
      · exact l6N n_ l (i + 1) h a ha
    · rw [hx, cond_true] at h
      cases h
theorem l6S (n_ : Name) : ∀ (l : List TableEntry) (i : Nat) (j : Int), spec_l6Find_L1 n_ l i = some j → 0 ≤ j
  | [], i, j, h => by cases h
  | x :: l, i, j, h => by
    simp only [spec_l6Find_L1] at h
    cases hx : spec_EqualNames x.name n_
    · rw [hx, cond_false] at h
      exact l6S n_ l (i + 1) j h
    · rw [hx, cond_true] at h
      cases h
      omega
theorem same_PutEntry (l : List TableEntry) (n_ : Name) (v : Int) : impl_PutEntry l n_ v = spec_PutEntry l n_ v := by
  unfold impl_PutEntry spec_PutEntry
  rw [cT_impl, cT_spec, same_indexOfName]
  cases hd : decide (spec_l6Find l n_ ≥ 0)
  · have hno : ∀ a ∈ l, spec_EqualNames a.name n_ = false := by
      cases hx : spec_l6Find_L1 n_ l 0 with
      | none => exact l6N n_ l 0 hx
      | some j =>
        have h1 := l6S n_ l 0 j hx
        have h2 := of_decide_eq_false hd
        have h3 : spec_l6Find l n_ = j := by unfold spec_l6Find; rw [hx]
        omega
    have hF : l.findIdx (fun e0_ => impl_PutEntry_c1 n_ e0_) = l.findIdx (fun e => !decide (spec_CompareNames e.name n_ < 0)) := fiC fun a ha => by
      have h1 := hno a ha
      unfold spec_EqualNames at h1
      have h2 : spec_CompareNames a.name n_ ≠ 0 := by simpa using h1
      unfold impl_PutEntry_c1
      rw [same_CompareNames]
      by_cases hc : spec_CompareNames a.name n_ < 0
      · rw [decide_eq_false (show ¬ spec_CompareNames a.name n_ > 0 by omega), decide_eq_true hc]; rfl
      · rw [decide_eq_true (show spec_CompareNames a.name n_ > 0 by omega), decide_eq_false hc]; rfl
    have hS := spL1 l n_ l.length 0 (Nat.sub_zero _) (Nat.zero_le _)
    rw [Nat.zero_add, List.drop_zero, ← hF] at hS
    have hle : l.findIdx (fun e0_ => impl_PutEntry_c1 n_ e0_) ≤ l.length := List.findIdx_le_length
    have hI := ifF (fun e0_ => impl_PutEntry_c1 n_ e0_) l 0
    simp only [cond_false, same_ValidTable, hS]
    by_cases hlt : l.findIdx (fun e0_ => impl_PutEntry_c1 n_ e0_) < l.length
    · rw [if_pos hlt, Nat.zero_add] at hI
      have hJ : slices_IndexFunc_TableEntry l (fun e0_ => impl_PutEntry_c1 n_ e0_) = ((l.findIdx (fun e0_ => impl_PutEntry_c1 n_ e0_) : Nat) : Int) := by unfold slices_IndexFunc_TableEntry; rw [hI]
      rw [hJ, decide_eq_false (show ¬ ((l.findIdx (fun e0_ => impl_PutEntry_c1 n_ e0_) : Nat) : Int) < 0 by omega), cond_false]
      unfold slices_Insert_TableEntry
      rw [Int.toNat_natCast]
      rfl
    · rw [if_neg hlt] at hI
      have hJ : slices_IndexFunc_TableEntry l (fun e0_ => impl_PutEntry_c1 n_ e0_) = -1 := by unfold slices_IndexFunc_TableEntry; rw [hI]
      have hE : l.findIdx (fun e0_ => impl_PutEntry_c1 n_ e0_) = l.length := by omega
      rw [hJ, show decide ((-1 : Int) < 0) = true from rfl, cond_true, hE]
      unfold slices_Insert_TableEntry
      rw [Int.toNat_natCast]
      rfl
  · simp only [cond_true, same_ValidTable]
theorem szL_append {α : Type} [GoT α] [Sz α] (a b : List α) : szL (a ++ b) = szL a + szL b := by simp [szL]
theorem szL_set {α : Type} [GoT α] [Sz α] (x y : α) (hxy : sz x = sz y) : ∀ (l : List α) (i : Nat), l[i]? = some y → szL (l.set i x) = szL l
  | [], i, h => by simp at h
  | z :: l, 0, h => by
    simp at h; subst h
    rw [List.set_cons_zero, szL_cons, szL_cons, hxy]
  | z :: l, i + 1, h => by
    rw [List.set_cons_succ, szL_cons, szL_cons, szL_set x y hxy l i (by simpa using h)]
theorem PutShape.size {l r : List TableEntry} {n_ : Name} {v : Int} (h : PutShape l n_ v r) : sz r ≤ sz l + 1 + sz n_ := by
  cases h with
  | same => omega
  | nil => simp [sz_list, szL_nil]
  | set i e h =>
    have := szL_set ⟨e.name, v⟩ e (by rw [sz_TableEntry, sz_TableEntry]) l i h
    rw [sz_list, sz_list, List.length_set, this]; omega
  | ins i =>
    have h1 := szL_append (l.take i) (l.drop i)
    rw [List.take_append_drop] at h1
    have h2 : szL [(⟨n_, v⟩ : TableEntry)] = sz n_ := by simp [szL, sz_TableEntry]
    rw [sz_list, sz_list, szL_append, szL_append, h2]
    simp only [List.length_append, List.length_take, List.length_drop, List.length_cons, List.length_nil]
    omega
theorem jvL : ∀ (l o : List TableEntry), impl_JoinVectors_L1 l o = spec_JoinVectors_L1 l o
  | [], o => rfl
  | x :: l, o => by
    simp only [impl_JoinVectors_L1, spec_JoinVectors_L1, same_SeqOf', same_PutEntry]
    cases decide (x.value > spec_SeqOf (StateVector.mk o) x.name) <;> exact jvL l _
theorem same_JoinVectors' (a b : StateVector) : impl_JoinVectors a b = spec_JoinVectors a b := by
  simp only [impl_JoinVectors, spec_JoinVectors, cT_impl, cT_spec, jvL]
end Go.Stp

namespace Go.Stp
set_option linter.unusedVariables false
set_option linter.unusedSimpArgs false
set_option maxRecDepth 100000 in
theorem m128 : ∀ m : Fin 256, m.val ||| 128 = ((m.val &&& 127) ||| 128) := by decide
theorem byteE {n : Int} (h : 0 ≤ n ∧ n ≤ 1000000000000) : ((toU8 n) ||| (128 : UInt8)) = toU8 (bitO .or (bitO .and n 127) 128) := by
  apply UInt8.toNat_inj.1
  have a1 : bitO .and n 127 = ((n.toNat &&& 127 : Nat) : Int) := by
    have h2 : (BitVec.ofInt 64 (127 : Int)).toNat = 127 := by decide
    have h3 : n.toNat &&& 127 ≤ 127 := Nat.and_le_right
    simp only [bitO, BitVec.toNat_and, ofI64 (x := n) (by omega), h2]
    exact i64w (by omega)
  have h3 : n.toNat &&& 127 ≤ 127 := Nat.and_le_right
  have h4 : (n.toNat &&& 127) ||| 128 < 2 ^ 8 := Nat.or_lt_two_pow (by omega) (by decide)
  have a2 : bitO .or (bitO .and n 127) 128 = ((((n.toNat &&& 127) ||| 128 : Nat)) : Int) := by
    have h2 : (BitVec.ofInt 64 (128 : Int)).toNat = 128 := by decide
    rw [a1]
    simp only [bitO, BitVec.toNat_or, ofI64 (x := ((n.toNat &&& 127 : Nat) : Int)) (by omega), h2, Int.toNat_natCast]
    exact i64w (by omega)
  rw [a2, UInt8.toNat_or]
  have b1 : (toU8 n).toNat = n.toNat % 256 := by
    unfold toU8
    rw [UInt8.toNat_ofNat']
    omega
  have b2 : (toU8 ((((n.toNat &&& 127) ||| 128 : Nat)) : Int)).toNat = (n.toNat &&& 127) ||| 128 := by
    unfold toU8
    rw [UInt8.toNat_ofNat']
    omega
  have b3 : ((128 : UInt8)).toNat = 128 := rfl
  rw [b1, b2, b3]
  have h5 := m128 ⟨n.toNat % 256, Nat.mod_lt _ (by decide)⟩
  dsimp only at h5
  rw [h5]
  have h6 : n.toNat % 256 &&& 127 = n.toNat &&& 127 := by
    rw [show (127 : Nat) = 2 ^ 7 - 1 from rfl, Nat.and_two_pow_sub_one_eq_mod, Nat.and_two_pow_sub_one_eq_mod]
    omega
  rw [h6]
theorem avE : ∀ (m : Nat) (n : Int) (out : List UInt8) (k : Nat), avI n k → 5 - k = m → impl_AppendVarint_L1 n out = spec_AppendVarint_L1 n out
  | 0, n, out, k, h, hm => by
    have h1 := avI_len h
    have h2 : n < 128 := by unfold avI at h; omega
    rw [impl_AppendVarint_L1, spec_AppendVarint_L1, if_neg (by omega), if_neg (by omega)]
  | m + 1, n, out, k, h, hm => by
    rw [impl_AppendVarint_L1, spec_AppendVarint_L1]
    by_cases hn : n ≥ 128
    · rw [if_pos hn, if_pos (by omega), sh7, byteE (avI_rng h)]
      exact avE m (n / 128) _ (k + 1) (avI_step h hn) (by omega)
    · rw [if_neg hn, if_neg (by omega)]
theorem same_AppendVarint (b : List UInt8) (n_ : Int) : impl_AppendVarint b n_ = spec_AppendVarint b n_ := by
  unfold impl_AppendVarint spec_AppendVarint
  rw [same_In]
  cases hr : spec_l1In n_ 0 1000000000000
  · rfl
  · rw [avE 5 n_ b 0 (avI_0 (inR_specP hr)) rfl]
theorem same_AppendBytes (b s : List UInt8) : impl_AppendBytes b s = spec_AppendBytes b s := by
  simp only [impl_AppendBytes, spec_AppendBytes, same_AppendVarint]
theorem anE : ∀ (l : List Str) (o : List UInt8), impl_AppendName_L1 l o = spec_AppendName_L1 l o
  | [], o => rfl
  | x :: l, o => by simp only [impl_AppendName_L1, spec_AppendName_L1, same_AppendBytes, anE l]
theorem same_AppendName (b : List UInt8) (n_ : Name) : impl_AppendName b n_ = spec_AppendName b n_ := by
  simp only [impl_AppendName, spec_AppendName, same_ValidName, same_AppendVarint, anE]
theorem evE : ∀ (l : List TableEntry) (o : List UInt8), impl_EncodeVector_L1 l o = spec_EncodeVector_L1 l o
  | [], o => rfl
  | x :: l, o => by simp only [impl_EncodeVector_L1, spec_EncodeVector_L1, same_AppendName, same_AppendVarint, evE l]
theorem same_EncodeVector' (v : StateVector) : impl_EncodeVector v = spec_EncodeVector v := by
  simp only [impl_EncodeVector, spec_EncodeVector, same_ValidVector', same_AppendVarint, evE]
theorem rvE (b : List UInt8) (at_ : Int) (ha : 0 ≤ at_) : ∀ (m i : Nat) (n_ : Int), (∃ r, impl_ReadVarint_L1 b m i (at_ + ((i : Nat) : Int)) n_ = .ret r ∧ spec_ReadVarint_L1 b at_ m i n_ = .ret r) ∨ ((∃ x, impl_ReadVarint_L1 b m i (at_ + ((i : Nat) : Int)) n_ = .nxt x) ∧ (spec_ReadVarint_L1 b at_ m i n_ = .ret (0, 0, false) ∨ ∃ y, spec_ReadVarint_L1 b at_ m i n_ = .nxt y))
  | 0, i, n_ => .inr ⟨⟨_, rfl⟩, .inr ⟨_, rfl⟩⟩
  | m + 1, i, n_ => by
    have ih := rvE b at_ ha m (i + 1)
    rw [show at_ + (((i + 1 : Nat)) : Int) = at_ + ((i : Nat) : Int) + 1 by omega] at ih
    simp only [impl_ReadVarint_L1, spec_ReadVarint_L1]
    rw [decide_eq_false (show ¬ at_ < 0 by omega), cond_false]
    by_cases hlt : at_ + ((i : Nat) : Int) < ((b.length : Nat) : Int)
    · rw [decide_eq_true hlt, decide_eq_false (show ¬ at_ ≥ ((b.length : Nat) : Int) - ((i : Nat) : Int) by omega), cond_true, cond_false]
      cases b[(at_ + ((i : Nat) : Int)).toNat]? with
      | none => exact .inl ⟨_, rfl, rfl⟩
      | some e1 =>
        dsimp only
        generalize bitO .or n_ (IntKind.i64.wrap ((bitO .and ((e1).toNat : Int) 127) * 2 ^ (min (Int.toNat (7 * ((i : Nat) : Int))) 64))) = v
        cases decide (((e1).toNat : Int) < 128)
        · exact ih v
        · cases (((e1).toNat : Int) == 0) <;> cases decide (((i : Nat) : Int) > 0) <;> cases decide (v > 1000000000000) <;> exact .inl ⟨_, rfl, rfl⟩
    · rw [decide_eq_false hlt, decide_eq_true (show at_ ≥ ((b.length : Nat) : Int) - ((i : Nat) : Int) by omega), cond_true, cond_false]
      exact .inr ⟨⟨_, rfl⟩, .inl rfl⟩
theorem same_ReadVarint (b : List UInt8) (at_ : Int) : impl_ReadVarint b at_ = spec_ReadVarint b at_ := by
  unfold impl_ReadVarint spec_ReadVarint
  by_cases ha : at_ < 0
  · rw [decide_eq_true ha, cond_true]
    have : spec_ReadVarint_L1 b at_ 6 0 0 = .ret (0, 0, false) := by
      simp only [spec_ReadVarint_L1]
      rw [decide_eq_true ha, cond_true]
    rw [this]
  · rw [decide_eq_false ha, cond_false]
    have h := rvE b at_ (by omega) 6 0 0
    rw [show at_ + (((0 : Nat)) : Int) = at_ by omega] at h
    rcases h with ⟨r, h1, h2⟩ | ⟨⟨x, h1⟩, h2 | ⟨y, h2⟩⟩
    · rw [h1, h2]
    · rw [h1, h2]
    · rw [h1, h2]
theorem same_ReadBytes (b : List UInt8) (at_ most : Int) : impl_ReadBytes b at_ most = spec_ReadBytes b at_ most := by
  simp only [impl_ReadBytes, spec_ReadBytes, same_ReadVarint]
theorem rnE (b : List UInt8) : ∀ (m : Nat) (nx : Int) (o : List Str), impl_ReadName_L1 b m nx o = spec_ReadName_L1 b m nx o
  | 0, nx, o => rfl
  | m + 1, nx, o => by simp only [impl_ReadName_L1, spec_ReadName_L1, same_ReadBytes, rnE b m]
theorem same_ReadName (b : List UInt8) (at_ : Int) : impl_ReadName b at_ = spec_ReadName b at_ := by
  simp only [impl_ReadName, spec_ReadName, same_ReadVarint, same_ValidName, rnE]
theorem dvE (b : List UInt8) : ∀ (m : Nat) (a : Int) (v : List TableEntry), impl_DecodeVector_L1 b m a v = spec_DecodeVector_L1 b m a v
  | 0, a, v => rfl
  | m + 1, a, v => by simp only [impl_DecodeVector_L1, spec_DecodeVector_L1, same_ReadName, same_ReadVarint, dvE b m]
theorem same_DecodeVector' (b : List UInt8) : impl_DecodeVector b = spec_DecodeVector b := by
  simp only [impl_DecodeVector, spec_DecodeVector, same_ReadVarint, same_ValidVector', dvE]
end Go.Stp

namespace Go.Stp
set_option linter.unusedVariables false
set_option linter.unusedSimpArgs false
theorem str_ext {x y : Str} (h : x.toList = y.toList) : x = y := by
  cases x with
  | mk a =>
    cases y with
    | mk b =>
      rw [ByteArray.toList_mk, ByteArray.toList_mk] at h
      rw [Array.toList_inj.1 h]
theorem bL_trans : ∀ a b c : List UInt8, Op.bytesLess a b = true → Op.bytesLess b c = true → Op.bytesLess a c = true
  | _, [], _, h, _ => by simp [Op.bytesLess] at h
  | [], _ :: _, [], _, h => by simp [Op.bytesLess] at h
  | [], _ :: _, _ :: _, _, _ => rfl
  | _ :: _, _ :: _, [], _, h => by simp [Op.bytesLess] at h
  | a :: x, b :: y, c :: z, h1, h2 => by
    simp only [Op.bytesLess, Bool.or_eq_true, Bool.and_eq_true, decide_eq_true_eq, beq_iff_eq] at h1 h2 ⊢
    rcases h1 with h1 | ⟨e1, h1⟩
    · rcases h2 with h2 | ⟨e2, h2⟩
      · exact .inl (UInt8.lt_trans h1 h2)
      · exact .inl (e2 ▸ h1)
    · rcases h2 with h2 | ⟨e2, h2⟩
      · exact .inl (e1 ▸ h2)
      · exact .inr ⟨e1.trans e2, bL_trans x y z h1 h2⟩
theorem bL_tot : ∀ a b : List UInt8, Op.bytesLess a b = false → a ≠ b → Op.bytesLess b a = true
  | [], [], _, h => absurd rfl h
  | [], _ :: _, h, _ => by simp [Op.bytesLess] at h
  | _ :: _, [], _, _ => rfl
  | a :: x, b :: y, h, hn => by
    simp only [Op.bytesLess, Bool.or_eq_false_iff, Bool.and_eq_false_iff, decide_eq_false_iff_not, beq_eq_false_iff_ne] at h
    simp only [Op.bytesLess, Bool.or_eq_true, Bool.and_eq_true, decide_eq_true_eq, beq_iff_eq]
    by_cases e : a = b
    · subst e
      exact .inr ⟨rfl, bL_tot x y (h.2.resolve_left (fun h => h rfl)) (fun e => hn (by rw [e]))⟩
    · exact .inl (UInt8.lt_of_le_of_ne (UInt8.not_lt.1 h.1) (fun h => e h.symm))
theorem l4_lt {x y : Str} (h : Op.bytesLess x.toList y.toList = true) : spec_l4Cmp x y = -1 := by unfold spec_l4Cmp; rw [h]; rfl
theorem l4_eq (x : Str) : spec_l4Cmp x x = 0 := by unfold spec_l4Cmp; rw [bytesLess_self]; simp
theorem l4_gt {x y : Str} (h : Op.bytesLess y.toList x.toList = true) : spec_l4Cmp x y = 1 := by
  unfold spec_l4Cmp
  cases h2 : Op.bytesLess x.toList y.toList
  · have hn : (x.toList == y.toList) = false := by
      simp only [beq_eq_false_iff_ne]
      intro e
      rw [e, bytesLess_self] at h
      cases h
    rw [hn]; rfl
  · have := bL_trans _ _ _ h h2
    rw [bytesLess_self] at this
    cases this
theorem l4_cases (x y : Str) : (spec_l4Cmp x y = -1 ∧ Op.bytesLess x.toList y.toList = true) ∨ (spec_l4Cmp x y = 0 ∧ x = y) ∨ (spec_l4Cmp x y = 1 ∧ Op.bytesLess y.toList x.toList = true) := by
  cases h : Op.bytesLess x.toList y.toList
  · by_cases e : x.toList = y.toList
    · have := str_ext e
      subst this
      exact .inr (.inl ⟨l4_eq x, rfl⟩)
    · have h2 := bL_tot _ _ h e
      exact .inr (.inr ⟨l4_gt h2, h2⟩)
  · exact .inl ⟨l4_lt h, rfl⟩
def kc : List Str → List Str → Int
  | [], [] => 0
  | [], _ :: _ => -1
  | _ :: _, [] => 1
  | x :: a, y :: b => bif spec_l4Cmp x y != 0 then spec_l4Cmp x y else kc a b
theorem kc_lt {x y : Str} {a b : List Str} (h : spec_l4Cmp x y = -1) : kc (x :: a) (y :: b) = -1 := by simp [kc, h]
theorem kc_gt {x y : Str} {a b : List Str} (h : spec_l4Cmp x y = 1) : kc (x :: a) (y :: b) = 1 := by simp [kc, h]
theorem kc_eq (x : Str) (a b : List Str) : kc (x :: a) (x :: b) = kc a b := by simp [kc, l4_eq]
theorem kc_self : ∀ a : List Str, kc a a = 0
  | [] => rfl
  | x :: a => by rw [kc_eq, kc_self a]
theorem kc_zero : ∀ {a b : List Str}, kc a b = 0 → a = b
  | [], [], _ => rfl
  | [], _ :: _, h => by simp [kc] at h
  | _ :: _, [], h => by simp [kc] at h
  | x :: a, y :: b, h => by
    rcases l4_cases x y with ⟨e, _⟩ | ⟨_, e⟩ | ⟨e, _⟩
    · rw [kc_lt e] at h; cases h
    · subst e; rw [kc_eq] at h; rw [kc_zero h]
    · rw [kc_gt e] at h; cases h
theorem kc_anti : ∀ a b : List Str, kc b a = - kc a b
  | [], [] => rfl
  | [], _ :: _ => rfl
  | _ :: _, [] => rfl
  | x :: a, y :: b => by
    rcases l4_cases x y with ⟨e, l⟩ | ⟨_, e⟩ | ⟨e, l⟩
    · rw [kc_lt e, kc_gt (l4_gt l)]; rfl
    · subst e; rw [kc_eq, kc_eq, kc_anti a b]
    · rw [kc_gt e, kc_lt (l4_lt l)]
theorem kc_trans : ∀ {a b c : List Str}, kc a b < 0 → kc b c < 0 → kc a c < 0
  | [], [], _, h, _ => by simp [kc] at h
  | [], _ :: _, [], _, h => by simp [kc] at h
  | [], _ :: _, _ :: _, _, _ => by simp [kc]
  | _ :: _, [], _, h, _ => by simp [kc] at h
  | _ :: _, _ :: _, [], _, h => by simp [kc] at h
  | x :: a, y :: b, z :: c, h1, h2 => by
    rcases l4_cases x y with ⟨e, l⟩ | ⟨_, e⟩ | ⟨e, _⟩
    · rcases l4_cases y z with ⟨e2, l2⟩ | ⟨_, e2⟩ | ⟨e2, _⟩
      · rw [kc_lt (l4_lt (bL_trans _ _ _ l l2))]; decide
      · subst e2; rw [kc_lt e]; decide
      · rw [kc_gt e2] at h2; exact absurd h2 (by decide)
    · subst e
      rcases l4_cases x z with ⟨e2, l2⟩ | ⟨_, e2⟩ | ⟨e2, _⟩
      · rw [kc_lt e2]; decide
      · subst e2; rw [kc_eq] at h1 h2 ⊢; exact kc_trans h1 h2
      · rw [kc_gt e2] at h2; exact absurd h2 (by decide)
    · rw [kc_gt e] at h1; exact absurd h1 (by decide)
theorem kc_irr {a : List Str} (h : kc a a < 0) : False := by rw [kc_self] at h; exact absurd h (by decide)
theorem kcL : ∀ (a b p : List Str), (match spec_CompareNames_L1 ⟨p ++ b⟩ a p.length with
    | some r => r
    | none => bif decide (((p.length + a.length : Nat) : Int) < (((p ++ b).length : Nat) : Int)) then -1 else bif decide (((p.length + a.length : Nat) : Int) > (((p ++ b).length : Nat) : Int)) then 1 else 0) = kc a b
  | [], [], p => by simp [spec_CompareNames_L1, kc]
  | [], y :: b, p => by
    have : decide (((p.length + ([] : List Str).length : Nat) : Int) < (((p ++ y :: b).length : Nat) : Int)) = true := by simp; omega
    simp only [spec_CompareNames_L1, this, cond_true, kc]
  | x :: a, [], p => by
    have h0 : decide (((p.length : Nat) : Int) < (((p ++ ([] : List Str)).length : Nat) : Int)) = false := by simp
    have h1 : decide (((p.length + (x :: a).length : Nat) : Int) < (((p ++ ([] : List Str)).length : Nat) : Int)) = false := by simp; omega
    have h2 : decide (((p.length + (x :: a).length : Nat) : Int) > (((p ++ ([] : List Str)).length : Nat) : Int)) = true := by simp; omega
    simp only [spec_CompareNames_L1, h0, h1, h2, cond_true, cond_false, kc]
  | x :: a, y :: b, p => by
    have ih := kcL a b (p ++ [y])
    rw [mid_app, mid_len] at ih
    have hlt : decide (((p.length : Nat) : Int) < (((p ++ y :: b).length : Nat) : Int)) = true := by simp; omega
    have hl : p.length + (x :: a).length = p.length + 1 + a.length := by simp; omega
    rw [hl]
    simp only [spec_CompareNames_L1, hlt, cond_true, mid, kc]
    cases h : (spec_l4Cmp x y != 0)
    · simp only [cond_false]; exact ih
    · simp only [cond_true]
theorem cmpN (a b : Name) : spec_CompareNames a b = kc a.parts b.parts := by
  have h := kcL a.parts b.parts []
  simp only [List.nil_append, List.length_nil, Nat.zero_add] at h
  exact h
theorem eqN (a b : Name) : spec_EqualNames a b = decide (a.parts = b.parts) := by
  unfold spec_EqualNames
  rw [cmpN]
  by_cases e : a.parts = b.parts
  · rw [e, kc_self]; simp
  · have : (kc a.parts b.parts == 0) = false := by
      simp only [beq_eq_false_iff_ne]
      exact fun h => e (kc_zero h)
    rw [this]; simp [e]
def sq : List TableEntry → List Str → Int
  | [], _ => 0
  | e :: l, k => if e.name.parts = k then e.value else sq l k
theorem sq_none : ∀ {l : List TableEntry} {k : List Str}, (∀ e ∈ l, e.name.parts ≠ k) → sq l k = 0
  | [], k, _ => rfl
  | e :: l, k, h => by rw [sq, if_neg (h e List.mem_cons_self), sq_none (fun d hd => h d (List.mem_cons_of_mem _ hd))]
theorem sq_at : ∀ {l : List TableEntry} {k : List Str} {j : Nat} {e : TableEntry}, l[j]? = some e → e.name.parts = k → (∀ d ∈ l.take j, d.name.parts ≠ k) → sq l k = e.value
  | e :: l, k, 0, e', h, hk, _ => by
    simp at h; subst h
    rw [sq, if_pos hk]
  | d :: l, k, j + 1, e, h, hk, hn => by
    rw [sq, if_neg (hn d (by rw [List.take_succ_cons]; exact List.mem_cons_self)), sq_at (by simpa using h) hk (fun x hx => hn x (by rw [List.take_succ_cons]; exact List.mem_cons_of_mem _ hx))]
theorem l6F (n : Name) : ∀ (l : List TableEntry) (i : Nat), (spec_l6Find_L1 n l i = none ∧ ∀ e ∈ l, e.name.parts ≠ n.parts) ∨ ∃ j e, spec_l6Find_L1 n l i = some ((i + j : Nat) : Int) ∧ l[j]? = some e ∧ e.name.parts = n.parts ∧ ∀ d ∈ l.take j, d.name.parts ≠ n.parts
  | [], i => .inl ⟨rfl, fun e h => by cases h⟩
  | x :: l, i => by
    simp only [spec_l6Find_L1, eqN]
    by_cases hx : x.name.parts = n.parts
    · exact .inr ⟨0, x, by simp [hx], rfl, hx, fun d hd => by simp at hd⟩
    · rcases l6F n l (i + 1) with ⟨h1, h2⟩ | ⟨j, e, h1, h2, h3, h4⟩
      · refine .inl ⟨by simp [hx, h1], fun e he => ?_⟩
        rcases List.mem_cons.1 he with rfl | he
        · exact hx
        · exact h2 e he
      · refine .inr ⟨j + 1, e, by simp only [hx, decide_false, cond_false, h1]; congr 2; omega, by simpa using h2, h3, fun d hd => ?_⟩
        rw [List.take_succ_cons] at hd
        rcases List.mem_cons.1 hd with rfl | hd
        · exact hx
        · exact h4 d hd
theorem l6Fd (n : Name) (l : List TableEntry) : (spec_l6Find l n = -1 ∧ ∀ e ∈ l, e.name.parts ≠ n.parts) ∨ ∃ j e, spec_l6Find l n = ((j : Nat) : Int) ∧ l[j]? = some e ∧ e.name.parts = n.parts ∧ ∀ d ∈ l.take j, d.name.parts ≠ n.parts := by
  unfold spec_l6Find
  rcases l6F n l 0 with ⟨h1, h2⟩ | ⟨j, e, h1, h2⟩
  · rw [h1]; exact .inl ⟨rfl, h2⟩
  · rw [h1]; exact .inr ⟨j, e, by simp, h2⟩
theorem seqOf (v : StateVector) (n : Name) : spec_SeqOf v n = sq v.entries n.parts := by
  unfold spec_SeqOf spec_LookupEntry
  rcases l6Fd n v.entries with ⟨h1, h2⟩ | ⟨j, e, h1, h2, h3, h4⟩
  · rw [h1, sq_none h2]; rfl
  · rw [h1, sq_at h2 h3 h4]
    have : decide (((j : Nat) : Int) < 0) = false := by simp
    simp only [this, cond_false, Int.toNat_natCast, h2]
def Srt (l : List TableEntry) : Prop := (l.map (fun e => e.name.parts)).Pairwise (fun a b => kc a b < 0)
theorem Srt.cons {e : TableEntry} {l : List TableEntry} : Srt (e :: l) ↔ (∀ d ∈ l, kc e.name.parts d.name.parts < 0) ∧ Srt l := by
  unfold Srt
  rw [List.map_cons, List.pairwise_cons]
  constructor
  · exact fun h => ⟨fun d hd => h.1 _ (List.mem_map_of_mem hd), h.2⟩
  · refine fun h => ⟨fun k hk => ?_, h.2⟩
    obtain ⟨d, hd, rfl⟩ := List.mem_map.1 hk
    exact h.1 d hd
theorem vtL : ∀ (r p : List TableEntry), (∀ e ∈ r, spec_ValidName e.name = true) → Srt (p ++ r) → spec_ValidTable_L1 (p ++ r) r p.length = none
  | [], p, _, _ => rfl
  | e :: r, p, hv, hs => by
    have ih := vtL r (p ++ [e]) (fun d hd => hv d (List.mem_cons_of_mem _ hd)) (by rw [mid_app]; exact hs)
    rw [mid_app, mid_len] at ih
    have h1 : (!(spec_ValidName e.name)) = false := by rw [hv e List.mem_cons_self]; rfl
    simp only [spec_ValidTable_L1, h1, cond_false, ih]
    rcases List.eq_nil_or_concat p with rfl | ⟨q, d, rfl⟩
    · rfl
    · have h2 : decide ((((q.concat d).length : Nat) : Int) > 0) = true := by first | (simp; done) | (simp; omega)
      have h3 : (q.concat d ++ e :: r)[((((q.concat d).length : Nat) : Int) - 1).toNat]? = some d := by
        rw [show ((((q.concat d).length : Nat) : Int) - 1).toNat = q.length by simp, List.concat_eq_append, List.append_assoc]
        exact mid q d _
      have h4 : kc d.name.parts e.name.parts < 0 := by
        unfold Srt at hs
        rw [List.map_append, List.pairwise_append] at hs
        exact hs.2.2 _ (List.mem_map_of_mem (show d ∈ q.concat d by simp)) _ (List.mem_map_of_mem List.mem_cons_self)
      have h5 : decide (spec_CompareNames d.name e.name ≥ 0) = false := by
        rw [cmpN]
        exact decide_eq_false (by omega)
      simp only [h2, cond_true, h3, h5, cond_false]
theorem vt_of {l : List TableEntry} (hv : ∀ e ∈ l, spec_ValidName e.name = true) (hs : Srt l) (hl : l.length ≤ 20) : spec_ValidTable l = true := by
  unfold spec_ValidTable
  have h := vtL l [] hv hs
  simp only [List.nil_append, List.length_nil] at h
  rw [h]
  exact decide_eq_true (by omega)
def insT (x : TableEntry) : List TableEntry → List TableEntry
  | [] => [x]
  | e :: l => if kc e.name.parts x.name.parts < 0 then e :: insT x l else x :: e :: l
theorem mem_insT {x d : TableEntry} : ∀ {l : List TableEntry}, d ∈ insT x l → d = x ∨ d ∈ l
  | [], h => .inl (List.mem_singleton.1 h)
  | e :: l, h => by
    rw [insT] at h
    split at h
    · rcases List.mem_cons.1 h with rfl | h
      · exact .inr List.mem_cons_self
      · exact (mem_insT h).imp id (List.mem_cons_of_mem _)
    · exact (List.mem_cons.1 h)
theorem insT_idx (x : TableEntry) : ∀ l : List TableEntry, l.take (l.findIdx (fun e => !decide (spec_CompareNames e.name x.name < 0))) ++ [x] ++ l.drop (l.findIdx (fun e => !decide (spec_CompareNames e.name x.name < 0))) = insT x l
  | [] => rfl
  | e :: l => by
    rw [List.findIdx_cons, insT, cmpN]
    by_cases h : kc e.name.parts x.name.parts < 0
    · simp only [h, decide_true, Bool.not_true, cond_false, if_true, List.take_succ_cons, List.drop_succ_cons, List.cons_append]
      rw [insT_idx x l]
    · simp only [h, decide_false, Bool.not_false, cond_true, if_false, List.take_zero, List.drop_zero, List.nil_append, List.cons_append]
theorem insT_srt (x : TableEntry) : ∀ {l : List TableEntry}, Srt l → (∀ e ∈ l, e.name.parts ≠ x.name.parts) → Srt (insT x l)
  | [], _, _ => Srt.cons.2 ⟨fun d h => (by cases h), List.Pairwise.nil⟩
  | e :: l, hs, hn => by
    obtain ⟨h1, h2⟩ := Srt.cons.1 hs
    rw [insT]
    split
    · rename_i h
      refine Srt.cons.2 ⟨fun d hd => ?_, insT_srt x h2 (fun d hd => hn d (List.mem_cons_of_mem _ hd))⟩
      rcases mem_insT hd with rfl | hd
      · exact h
      · exact h1 d hd
    · rename_i h
      have h0 : kc x.name.parts e.name.parts < 0 := by
        have := kc_anti e.name.parts x.name.parts
        have h3 : kc e.name.parts x.name.parts ≠ 0 := fun hz => hn e List.mem_cons_self (kc_zero hz)
        omega
      refine Srt.cons.2 ⟨fun d hd => ?_, hs⟩
      rcases List.mem_cons.1 hd with rfl | hd
      · exact h0
      · exact kc_trans h0 (h1 d hd)
theorem insT_sq (x : TableEntry) (k : List Str) : ∀ {l : List TableEntry}, (∀ e ∈ l, e.name.parts ≠ x.name.parts) → sq (insT x l) k = if x.name.parts = k then x.value else sq l k
  | [], _ => rfl
  | e :: l, hn => by
    rw [insT]
    split
    · rw [sq, insT_sq x k (fun d hd => hn d (List.mem_cons_of_mem _ hd)), sq]
      by_cases h1 : e.name.parts = k
      · rw [if_pos h1, if_pos h1, if_neg (fun h2 => hn e List.mem_cons_self (h1.trans h2.symm))]
      · rw [if_neg h1, if_neg h1]
    · rw [sq]
theorem insT_len (x : TableEntry) : ∀ l : List TableEntry, (insT x l).length = l.length + 1
  | [] => rfl
  | e :: l => by
    rw [insT]
    split
    · rw [List.length_cons, insT_len x l, List.length_cons]
    · rfl
theorem set_names {l : List TableEntry} {j : Nat} {e : TableEntry} (v : Int) (h : l[j]? = some e) : (l.set j ⟨e.name, v⟩).map (fun e => e.name.parts) = l.map (fun e => e.name.parts) := by
  apply List.ext_getElem?
  intro i
  rw [List.getElem?_map, List.getElem?_map, List.getElem?_set]
  by_cases hij : j = i
  · subst hij
    obtain ⟨hlt, h9⟩ := List.getElem?_eq_some_iff.1 h
    simp [hlt, h9]
  · simp [hij]
theorem set_sq (v : Int) (k : List Str) : ∀ {l : List TableEntry} {j : Nat} {e : TableEntry}, l[j]? = some e → (∀ d ∈ l.take j, d.name.parts ≠ e.name.parts) → sq (l.set j ⟨e.name, v⟩) k = if e.name.parts = k then v else sq l k
  | d :: l, 0, e, h, _ => by
    simp at h; subst h
    rw [List.set_cons_zero, sq, sq]
    by_cases h1 : d.name.parts = k
    · rw [if_pos h1, if_pos h1]
    · rw [if_neg h1, if_neg h1, if_neg h1]
  | d :: l, j + 1, e, h, hn => by
    rw [List.set_cons_succ, sq, set_sq v k (l := l) (j := j) (by simpa using h) (fun x hx => hn x (by rw [List.take_succ_cons]; exact List.mem_cons_of_mem _ hx)), sq]
    by_cases h1 : d.name.parts = k
    · rw [if_pos h1, if_pos h1, if_neg (fun h2 => hn d (by rw [List.take_succ_cons]; exact List.mem_cons_self) (h1.trans h2.symm))]
    · rw [if_neg h1, if_neg h1]
def Gd (m : Nat) (l : List TableEntry) : Prop := (∀ e ∈ l, spec_ValidName e.name = true ∧ 1 ≤ e.value ∧ e.value ≤ 1000) ∧ Srt l ∧ l.length ≤ m
theorem Gd.nil : Gd 0 [] := ⟨fun e h => (by cases h), List.Pairwise.nil, Nat.le_refl _⟩
theorem Gd.mono {m n : Nat} {l : List TableEntry} (h : Gd m l) (hmn : m ≤ n) : Gd n l := ⟨h.1, h.2.1, Nat.le_trans h.2.2 hmn⟩
theorem Gd.vt {m : Nat} {l : List TableEntry} (h : Gd m l) (hm : m ≤ 20) : spec_ValidTable l = true := vt_of (fun e he => (h.1 e he).1) h.2.1 (Nat.le_trans h.2.2 hm)
theorem put_gd {m : Nat} {l : List TableEntry} (h : Gd m l) (hm : m + 1 ≤ 20) (n : Name) (v : Int) (hn : spec_ValidName n = true) (hv : 1 ≤ v ∧ v ≤ 1000) :
    Gd (m + 1) (spec_PutEntry l n v).1 ∧ ∀ k, sq (spec_PutEntry l n v).1 k = if n.parts = k then v else sq l k := by
  unfold spec_PutEntry
  rw [cT_spec]
  rcases l6Fd n l with ⟨h1, h2⟩ | ⟨j, e, h1, h2, h3, h4⟩
  · have hd : decide (spec_l6Find l n ≥ 0) = false := by rw [h1]; rfl
    have hc : spec_l4Copy n = n := rfl
    have hi := spL1 l n l.length 0 rfl (Nat.zero_le _)
    rw [Nat.zero_add, List.drop_zero] at hi
    rw [hd, hi, hc]
    simp only [cond_false]
    rw [insT_idx ⟨n, v⟩ l]
    have hg : Gd (m + 1) (insT ⟨n, v⟩ l) := ⟨fun e he => by
      rcases mem_insT he with rfl | he
      · exact ⟨hn, hv⟩
      · exact h.1 e he, insT_srt _ h.2.1 h2, by rw [insT_len]; have := h.2.2; omega⟩
    rw [hg.vt hm]
    simp only [Bool.not_true, cond_false]
    exact ⟨hg, fun k => insT_sq _ k h2⟩
  · have hd : decide (spec_l6Find l n ≥ 0) = true := by rw [h1]; simp
    rw [hd, h1]
    simp only [cond_true, Int.toNat_natCast, h2]
    have hg : Gd (m + 1) (l.set j ⟨e.name, v⟩) := ⟨fun d hd => by
      rcases List.mem_or_eq_of_mem_set hd with hd | rfl
      · exact h.1 d hd
      · exact ⟨(h.1 e (List.mem_of_getElem? h2)).1, hv⟩, by unfold Srt; rw [set_names v h2]; exact h.2.1, by rw [List.length_set]; have := h.2.2; omega⟩
    rw [hg.vt hm]
    simp only [Bool.not_true, cond_false]
    exact ⟨hg, fun k => by rw [set_sq v k h2 (fun d hd => by rw [h3]; exact h4 d hd), h3]⟩
theorem sq_nn {m : Nat} {l : List TableEntry} (h : Gd m l) (k : List Str) : 0 ≤ sq l k := by
  have h1 := h.1
  clear h
  induction l with
  | nil => exact Int.le_refl _
  | cons e l ih =>
    rw [sq]
    split
    · have := (h1 e List.mem_cons_self).2.1; omega
    · exact ih (fun d hd => h1 d (List.mem_cons_of_mem _ hd))
theorem sq_mem {m : Nat} {l : List TableEntry} (h : Gd m l) {e : TableEntry} (he : e ∈ l) : sq l e.name.parts = e.value := by
  have h2 := h.2.1
  clear h
  induction l with
  | nil => cases he
  | cons d l ih =>
    obtain ⟨h3, h4⟩ := Srt.cons.1 h2
    rw [sq]
    rcases List.mem_cons.1 he with rfl | he
    · rw [if_pos rfl]
    · rw [if_neg (fun e0 => kc_irr (by have := h3 e he; rw [e0] at this; exact this)), ih he h4]
theorem Gd.tail {m : Nat} {e : TableEntry} {l : List TableEntry} (h : Gd m (e :: l)) : Gd m l := ⟨fun d hd => h.1 d (List.mem_cons_of_mem _ hd), (Srt.cons.1 h.2.1).2, by have := h.2.2; rw [List.length_cons] at this; omega⟩
theorem sq_out {m : Nat} {e : TableEntry} {l : List TableEntry} (h : Gd m (e :: l)) {k : List Str} (hk : k = e.name.parts ∨ kc k e.name.parts < 0) : sq l k = 0 := by
  refine sq_none fun d hd e0 => ?_
  have h1 := (Srt.cons.1 h.2.1).1 d hd
  rw [e0] at h1
  rcases hk with rfl | hk
  · exact kc_irr h1
  · exact kc_irr (kc_trans hk h1)
theorem gd_ext : ∀ {m n : Nat} {l l' : List TableEntry}, Gd m l → Gd n l' → (∀ k, sq l k = sq l' k) → l = l'
  | m, n, [], [], _, _, _ => rfl
  | m, n, [], e :: l', _, h, he => by
    have h1 := he e.name.parts
    rw [sq_mem h List.mem_cons_self] at h1
    have := (h.1 e List.mem_cons_self).2.1
    have h2 : sq [] e.name.parts = 0 := rfl
    omega
  | m, n, e :: l, [], h, _, he => by
    have h1 := he e.name.parts
    rw [sq_mem h List.mem_cons_self] at h1
    have := (h.1 e List.mem_cons_self).2.1
    have h2 : sq [] e.name.parts = 0 := rfl
    omega
  | m, n, e :: l, e' :: l', h, h', he => by
    have p1 := (h.1 e List.mem_cons_self).2.1
    have p2 := (h'.1 e' List.mem_cons_self).2.1
    have k1 := he e.name.parts
    have k2 := he e'.name.parts
    rw [sq_mem h List.mem_cons_self] at k1
    rw [sq_mem h' List.mem_cons_self] at k2
    by_cases hk : e.name.parts = e'.name.parts
    · have hv : e.value = e'.value := by rw [k1, hk, sq_mem h' List.mem_cons_self]
      have hee : e = e' := by
        cases e with
        | mk ne ve =>
          cases e' with
          | mk ne' ve' =>
            cases ne
            cases ne'
            simp only at hk hv
            subst hk
            subst hv
            rfl
      subst hee
      rw [gd_ext h.tail h'.tail (fun k => by
        by_cases h0 : k = e.name.parts
        · rw [sq_out h (.inl h0), sq_out h' (.inl h0)]
        · have := he k
          rw [sq, sq, if_neg (fun z => h0 z.symm), if_neg (fun z => h0 z.symm)] at this
          exact this)]
    · exfalso
      by_cases hlt : kc e.name.parts e'.name.parts < 0
      · rw [sq, if_neg (fun z => hk z.symm), sq_out h' (.inr hlt)] at k1
        omega
      · have hgt : kc e'.name.parts e.name.parts < 0 := by
          have a1 := kc_anti e.name.parts e'.name.parts
          have a2 : kc e.name.parts e'.name.parts ≠ 0 := fun z => hk (kc_zero z)
          omega
        rw [sq, if_neg hk, sq_out h (.inr hgt)] at k2
        omega
def mx : List TableEntry → List Str → Int
  | [], _ => 0
  | e :: l, k => max (if e.name.parts = k then e.value else 0) (mx l k)
theorem mx_sq {m : Nat} : ∀ {l : List TableEntry}, Gd m l → ∀ k, mx l k = sq l k
  | [], _, k => rfl
  | e :: l, h, k => by
    rw [mx, mx_sq h.tail k, sq]
    have h0 := sq_nn h.tail k
    have h1 := (h.1 e List.mem_cons_self).2.1
    by_cases hk : e.name.parts = k
    · rw [if_pos hk, if_pos hk, sq_out h (.inl hk.symm)]; omega
    · rw [if_neg hk, if_neg hk]; omega
theorem joinL : ∀ (bs : List TableEntry) {m : Nat} {l : List TableEntry}, Gd m l → m + bs.length ≤ 20 → (∀ e ∈ bs, spec_ValidName e.name = true ∧ 1 ≤ e.value ∧ e.value ≤ 1000) →
    Gd (m + bs.length) (spec_JoinVectors_L1 bs l) ∧ ∀ k, sq (spec_JoinVectors_L1 bs l) k = max (sq l k) (mx bs k)
  | [], m, l, h, _, _ => ⟨h, fun k => by
    have := sq_nn h k
    show sq l k = max (sq l k) 0
    omega⟩
  | e :: bs, m, l, h, hm, hb => by
    rw [List.length_cons] at hm ⊢
    obtain ⟨v1, v2, v3⟩ := hb e List.mem_cons_self
    have hb' : ∀ d ∈ bs, spec_ValidName d.name = true ∧ 1 ≤ d.value ∧ d.value ≤ 1000 := fun d hd => hb d (List.mem_cons_of_mem _ hd)
    simp only [spec_JoinVectors_L1, seqOf]
    by_cases hc : e.value > sq l e.name.parts
    · obtain ⟨g1, g2⟩ := put_gd h (by omega) e.name e.value v1 ⟨v2, v3⟩
      obtain ⟨q1, q2⟩ := joinL bs g1 (by omega) hb'
      simp only [hc, decide_true, cond_true]
      refine ⟨q1.mono (by omega), fun k => ?_⟩
      rw [q2 k, g2 k, mx]
      have h0 := sq_nn h k
      by_cases hk : e.name.parts = k
      · subst hk; rw [if_pos rfl, if_pos rfl]; omega
      · rw [if_neg hk, if_neg hk]; omega
    · obtain ⟨q1, q2⟩ := joinL bs h (by omega) hb'
      simp only [hc, decide_false, cond_false]
      refine ⟨q1.mono (by omega), fun k => ?_⟩
      rw [q2 k, mx]
      have h0 := sq_nn h k
      by_cases hk : e.name.parts = k
      · subst hk; rw [if_pos rfl]; omega
      · rw [if_neg hk]; omega
theorem join_gd {m n : Nat} {a b : StateVector} (ha : Gd m a.entries) (hb : Gd n b.entries) (h : m + n ≤ 20) : Gd (m + n) (spec_JoinVectors a b).entries ∧ ∀ k, sq (spec_JoinVectors a b).entries k = max (sq a.entries k) (sq b.entries k) := by
  unfold spec_JoinVectors
  rw [cT_spec]
  have hl := hb.2.2
  obtain ⟨q1, q2⟩ := joinL b.entries ha (by omega) hb.1
  exact ⟨q1.mono (by omega), fun k => by rw [← mx_sq hb k]; exact q2 k⟩
theorem leqL (a b : StateVector) : ∀ l : List TableEntry, (spec_VectorLeq_L1 a b l = none ∧ ∀ e ∈ l, sq a.entries e.name.parts ≤ sq b.entries e.name.parts) ∨ (spec_VectorLeq_L1 a b l = some false ∧ ∃ e ∈ l, ¬ sq a.entries e.name.parts ≤ sq b.entries e.name.parts)
  | [] => .inl ⟨rfl, fun e h => by cases h⟩
  | e :: l => by
    simp only [spec_VectorLeq_L1, seqOf]
    by_cases h : sq a.entries e.name.parts > sq b.entries e.name.parts
    · exact .inr ⟨by simp [h], e, List.mem_cons_self, by omega⟩
    · rcases leqL a b l with ⟨h1, h2⟩ | ⟨h1, d, hd, h2⟩
      · refine .inl ⟨by simp only [h, decide_false, cond_false, h1], fun d hd => ?_⟩
        rcases List.mem_cons.1 hd with rfl | hd
        · omega
        · exact h2 d hd
      · exact .inr ⟨by simp only [h, decide_false, cond_false, h1], d, List.mem_cons_of_mem _ hd, h2⟩
theorem leq_iff {m n : Nat} {a b : StateVector} (ha : Gd m a.entries) (hb : Gd n b.entries) : spec_VectorLeq a b = true ↔ ∀ k, sq a.entries k ≤ sq b.entries k := by
  unfold spec_VectorLeq
  rcases leqL a b a.entries with ⟨h1, h2⟩ | ⟨h1, d, hd, h2⟩
  · rw [h1]
    refine ⟨fun _ k => ?_, fun _ => rfl⟩
    by_cases hk : ∃ e ∈ a.entries, e.name.parts = k
    · obtain ⟨e, he, rfl⟩ := hk
      exact h2 e he
    · rw [sq_none (l := a.entries) (fun e he z => hk ⟨e, he, z⟩)]
      exact sq_nn hb k
  · rw [h1]
    exact ⟨fun h => (by cases h), fun h => absurd (h _) h2⟩
theorem same_VectorLeq (a b : StateVector) : impl_VectorLeq a b = spec_VectorLeq a b := by
  unfold impl_VectorLeq spec_VectorLeq
  rw [cF_TableEntry]
  have : ∀ l : List TableEntry, (match spec_VectorLeq_L1 a b l with | some r_ => r_ | none => true) = !(l.any fun e => impl_VectorLeq_c1 a b e) := by
    intro l
    induction l with
    | nil => rfl
    | cons e l ih =>
      have h : impl_VectorLeq_c1 a b e = decide (spec_SeqOf a e.name > spec_SeqOf b e.name) := by simp only [impl_VectorLeq_c1, same_SeqOf']
      simp only [spec_VectorLeq_L1, List.any_cons, h]
      cases decide (spec_SeqOf a e.name > spec_SeqOf b e.name)
      · simpa using ih
      · rfl
  rw [← this a.entries]
  rfl
theorem ntL2 (a : StateVector) (e : TableEntry) : ∀ (m : Nat) (o : List TableEntry) (k : Int), 20 - o.length = m → o.length ≤ (spec_NewerThan_L2 a e o k).1.length
  | m, o, k, hm => by
    rw [spec_NewerThan_L2]
    split
    · split
      · have := ntL2 a e (m - 1) (o ++ [TableEntry.mk (spec_l4Copy e.name) (IntKind.i64.wrap (k + 1))]) (IntKind.i64.wrap (k + 1)) (by simp; omega)
        rw [List.length_append] at this
        omega
      · exact Nat.le_refl _
    · exact Nat.le_refl _
termination_by m => m
decreasing_by omega
theorem ntL1 (a b : StateVector) : ∀ (l o : List TableEntry), o.length ≤ (spec_NewerThan_L1 a b l o).length
  | [], o => Nat.le_refl _
  | e :: l, o => by
    simp only [spec_NewerThan_L1]
    have h1 := ntL2 a e _ o (spec_SeqOf b e.name) rfl
    exact Nat.le_trans h1 (ntL1 a b l _)
theorem ntZ (a b : StateVector) : ∀ l : List TableEntry, (spec_NewerThan_L1 a b l [] = [] ∧ ∀ e ∈ l, sq a.entries e.name.parts ≤ sq b.entries e.name.parts) ∨ (0 < (spec_NewerThan_L1 a b l []).length ∧ ∃ e ∈ l, ¬ sq a.entries e.name.parts ≤ sq b.entries e.name.parts)
  | [] => .inl ⟨rfl, fun e h => by cases h⟩
  | e :: l => by
    simp only [spec_NewerThan_L1]
    by_cases h : spec_SeqOf b e.name < spec_SeqOf a e.name
    · refine .inr ⟨?_, e, List.mem_cons_self, by rw [← seqOf, ← seqOf]; omega⟩
      refine Nat.lt_of_lt_of_le ?_ (ntL1 a b l _)
      rw [spec_NewerThan_L2, if_pos h, if_pos (by simp)]
      refine Nat.lt_of_lt_of_le ?_ (ntL2 a e _ _ _ rfl)
      simp
    · have h0 : spec_NewerThan_L2 a e [] (spec_SeqOf b e.name) = ([], spec_SeqOf b e.name) := by rw [spec_NewerThan_L2, if_neg h]
      rw [h0]
      rcases ntZ a b l with ⟨h1, h2⟩ | ⟨h1, d, hd, h2⟩
      · refine .inl ⟨h1, fun d hd => ?_⟩
        rcases List.mem_cons.1 hd with rfl | hd
        · rw [← seqOf, ← seqOf]; omega
        · exact h2 d hd
      · exact .inr ⟨h1, d, List.mem_cons_of_mem _ hd, h2⟩
theorem nt_leq (a b : StateVector) : (((((spec_NewerThan a b).length : Nat) : Int) == 0) == spec_VectorLeq a b) = true := by
  unfold spec_NewerThan spec_VectorLeq
  rcases ntZ a b a.entries with ⟨h1, h2⟩ | ⟨h1, d, hd, h2⟩
  · rcases leqL a b a.entries with ⟨q1, q2⟩ | ⟨q1, d, hd, q2⟩
    · rw [h1, q1]; rfl
    · exact absurd (h2 d hd) q2
  · rcases leqL a b a.entries with ⟨q1, q2⟩ | ⟨q1, d', hd', q2⟩
    · exact absurd (q2 d hd) h2
    · rw [q1]
      have : ((((spec_NewerThan_L1 a b a.entries []).length : Nat) : Int) == 0) = false := by
        simp only [beq_eq_false_iff_ne]; omega
      simp only [this]
      rfl
theorem sTL (b : List Str) : ∀ (r : List Str) (i : Nat), laws_sameTexts_L1 b r i = slices_Equal_string_L1 b r i
  | [], i => rfl
  | x :: r, i => by
    simp only [laws_sameTexts_L1, slices_Equal_string_L1, sTL b r]
    rfl
theorem map_TL : ∀ {a b : List Str}, a.map (fun z : Str => z.toList) = b.map (fun z : Str => z.toList) → a = b
  | [], [], _ => rfl
  | [], _ :: _, h => by simp at h
  | _ :: _, [], h => by simp at h
  | x :: a, y :: b, h => by
    simp only [List.map_cons, List.cons.injEq] at h
    rw [str_ext h.1, map_TL h.2]
open Classical in
theorem sameName_eq (a b : Name) : laws_sameName a b = decide (a = b) := by
  have h : laws_sameTexts a.parts b.parts = slices_Equal_string a.parts b.parts := by
    unfold laws_sameTexts slices_Equal_string
    rw [sTL]
    rfl
  unfold laws_sameName
  rw [h, sEq_string]
  by_cases e : a = b
  · simp [e]
  · have : ¬ (a.parts.map (fun z : Str => z.toList) = b.parts.map (fun z : Str => z.toList)) := fun hm => e (by cases a; cases b; rw [Name.mk.injEq]; exact map_TL hm)
    simp [this, e]
open Classical in
theorem sRL : ∀ (a b p : List TableEntry), a.length = b.length → laws_sameRows_L1 (p ++ b) a p.length = (if a = b then none else some false)
  | [], [], p, _ => by simp [laws_sameRows_L1]
  | x :: a, y :: b, p, h => by
    have ih := sRL a b (p ++ [y]) (by simpa using h)
    rw [mid_app, mid_len] at ih
    simp only [laws_sameRows_L1, mid, sameName_eq]
    by_cases hv : x.value = y.value
    · by_cases hn : x.name = y.name
      · have : x = y := by cases x; cases y; simp only at hv hn; rw [hv, hn]
        simp [this, ih]
      · have : ¬ x = y := fun e => hn (by rw [e])
        simp [hv, hn, this]
    · have : ¬ x = y := fun e => hv (by rw [e])
      have h2 : (x.value != y.value) = true := by simpa using hv
      simp [h2, this]
open Classical in
theorem sameRows_eq (a b : List TableEntry) : laws_sameRows a b = decide (a = b) := by
  unfold laws_sameRows
  by_cases hl : a.length = b.length
  · have h := sRL a b [] hl
    simp only [List.nil_append, List.length_nil] at h
    simp only [hl, bne_self_F, cond_false, h]
    split <;> simp_all
  · have hne : a ≠ b := fun h => hl (by rw [h])
    have hn : ((a.length : Int) != (b.length : Int)) = true := by simp; omega
    simp [hn, hne]
theorem sBL : ∀ (a b p : List UInt8), a.length = b.length → laws_same_L1 (p ++ b) a p.length = (if a = b then none else some false)
  | [], [], p, _ => by simp [laws_same_L1]
  | x :: a, y :: b, p, h => by
    have ih := sBL a b (p ++ [y]) (by simpa using h)
    rw [mid_app, mid_len] at ih
    simp only [laws_same_L1, mid]
    by_cases hxy : x = y
    · simp [hxy, ih]
    · have hn : ((x.toNat : Int) != (y.toNat : Int)) = true := by
        have : x.toNat ≠ y.toNat := fun h => hxy (UInt8.toNat_inj.mp h)
        simp; omega
      simp [hn, hxy]
theorem same_eq (a b : List UInt8) : laws_same a b = decide (a = b) := by
  unfold laws_same
  by_cases hl : a.length = b.length
  · have h := sBL a b [] hl
    simp only [List.nil_append, List.length_nil] at h
    simp only [hl, bne_self_F, cond_false, h]
    split <;> simp_all
  · have hne : a ≠ b := fun h => hl (by rw [h])
    have hn : ((a.length : Int) != (b.length : Int)) = true := by simp; omega
    simp [hn, hne]
theorem l4Of_vn (s : Str) : spec_ValidName (spec_l4Of s) = true := by
  have h0 : spec_ValidName (Name.mk []) = true := rfl
  unfold spec_l4Of spec_ParseName
  cases ((s).toList == ((⟨#[47]⟩ : Str)).toList)
  · simp only [cond_false]
    cases decide (((((spec_l4Split s (47 : UInt8))).length : Nat) : Int) < 2)
    · simp only [cond_false]
      cases ((spec_l4Split s (47 : UInt8)))[0]? with
      | none => exact h0
      | some e1 =>
        dsimp only
        cases (!((e1).toList == ((⟨#[]⟩ : Str)).toList))
        · simp only [cond_false]
          cases hv : spec_ValidName (Name.mk (List.drop 1 (spec_l4Split s (47 : UInt8))))
          · exact h0
          · exact hv
        · exact h0
    · exact h0
  · exact h0
theorem l27G (b : List UInt8) : ∀ (m : Nat) (i : Int) (v : List TableEntry) (a h : Int), i.toNat = m → m ≤ 4 → Gd (4 - m) v → Gd 4 (spec_l27Draw_L1 b i v a h).2.1
  | 0, i, v, a, h, hm, _, hg => by
    rw [spec_l27Draw_L1, if_neg (by omega)]
    exact hg
  | m + 1, i, v, a, h, hm, hl, hg => by
    rw [spec_l27Draw_L1, if_pos (by omega)]
    rcases spec_l1Str b a h ([(⟨#[47, 97]⟩ : Str), (⟨#[47, 98]⟩ : Str), (⟨#[47, 110, 101, 119, 115]⟩ : Str), (⟨#[47, 97, 47, 98]⟩ : Str), (⟨#[47, 99]⟩ : Str)]) with ⟨x, j, k⟩
    dsimp only
    have h1 := l1Below_rng b j k 5
    rcases e : spec_l1Below b j k 5 with ⟨y, j2, k2⟩
    rw [e] at h1
    dsimp only at h1 ⊢
    exact l27G b m _ _ _ _ (by omega) (by omega) ((put_gd hg (by omega) (spec_l4Of x) (1 + y) (l4Of_vn x) (by omega)).1.mono (by omega))
theorem l27Draw_gd (b : List UInt8) (i h : Int) : Gd 4 (spec_l27Draw b i h).1.entries := by
  unfold spec_l27Draw
  have h1 := l1Below_rng b i h 5
  rcases e : spec_l1Below b i h 5 with ⟨x, j, k⟩
  rw [e] at h1
  dsimp only at h1 ⊢
  exact l27G b _ x [] j k rfl (by omega) (Gd.nil.mono (Nat.zero_le _))
theorem drawVecs_gd (code : List UInt8) : Gd 4 (spec_DrawVecs code).1.entries ∧ Gd 4 (spec_DrawVecs code).2.1.entries ∧ Gd 4 (spec_DrawVecs code).2.2.entries := by
  unfold spec_DrawVecs
  rcases spec_l1New code with ⟨i, h⟩
  dsimp only
  have h1 := l27Draw_gd code i h
  rcases e1 : spec_l27Draw code i h with ⟨a, i1, k1⟩
  rw [e1] at h1
  dsimp only at h1 ⊢
  have h2 := l27Draw_gd code i1 k1
  rcases e2 : spec_l27Draw code i1 k1 with ⟨b, i2, k2⟩
  rw [e2] at h2
  dsimp only at h2 ⊢
  have h3 := l27Draw_gd code i2 k2
  rcases e3 : spec_l27Draw code i2 k2 with ⟨c, i3, k3⟩
  rw [e3] at h3
  dsimp only at h3 ⊢
  exact ⟨h1, h2, h3⟩
theorem vvL : ∀ l : List TableEntry, (∀ e ∈ l, 1 ≤ e.value ∧ e.value ≤ 1000) → spec_ValidVector_L1 l = none
  | [], _ => rfl
  | e :: l, h => by
    obtain ⟨h1, h2⟩ := h e List.mem_cons_self
    have : spec_l1In e.value 1 1000 = true := by
      unfold spec_l1In
      rw [show decide (e.value ≥ 1) = true from decide_eq_true h1]
      exact decide_eq_true h2
    simp only [spec_ValidVector_L1, this, Bool.not_true, cond_false]
    exact vvL l (fun d hd => h d (List.mem_cons_of_mem _ hd))
theorem vv_of {m : Nat} {v : StateVector} (h : Gd m v.entries) (hm : m ≤ 20) : spec_ValidVector v = true := by
  unfold spec_ValidVector
  rw [vvL _ (fun e he => (h.1 e he).2)]
  exact h.vt hm
theorem join_laws {a b c : StateVector} (ha : Gd 4 a.entries) (hb : Gd 4 b.entries) (hc : Gd 4 c.entries) :
    (spec_JoinVectors (spec_JoinVectors a b) c).entries = (spec_JoinVectors a (spec_JoinVectors b c)).entries ∧ (spec_JoinVectors a b).entries = (spec_JoinVectors b a).entries ∧ (spec_JoinVectors a a).entries = a.entries ∧
    spec_VectorLeq a (spec_JoinVectors a b) = true ∧ spec_VectorLeq b (spec_JoinVectors a b) = true ∧ spec_ValidVector (spec_JoinVectors a b) = true ∧ (spec_VectorLeq a b = true ↔ (spec_JoinVectors a b).entries = b.entries) := by
  obtain ⟨g1, q1⟩ := join_gd ha hb (by decide)
  obtain ⟨g2, q2⟩ := join_gd hb hc (by decide)
  obtain ⟨g3, q3⟩ := join_gd g1 hc (by decide)
  obtain ⟨g4, q4⟩ := join_gd ha g2 (by decide)
  obtain ⟨g5, q5⟩ := join_gd hb ha (by decide)
  obtain ⟨g6, q6⟩ := join_gd ha ha (by decide)
  refine ⟨gd_ext g3 g4 fun k => ?_, gd_ext g1 g5 fun k => ?_, gd_ext g6 ha fun k => ?_, (leq_iff ha g1).2 fun k => ?_, (leq_iff hb g1).2 fun k => ?_, vv_of g1 (by decide), (leq_iff ha hb).trans ⟨fun h => gd_ext g1 hb fun k => ?_, fun h k => ?_⟩⟩
  · rw [q3, q1, q4, q2]; omega
  · rw [q1, q5]; omega
  · rw [q6]; omega
  · rw [q1]; omega
  · rw [q1]; omega
  · rw [q1]; have := h k; omega
  · have := q1 k
    rw [h] at this
    omega
end Go.Stp

