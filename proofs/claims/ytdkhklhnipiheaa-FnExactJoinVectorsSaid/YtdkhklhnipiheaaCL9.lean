/-
  That functions of the program compute what the Lean functions do. No condition but what each says. Written by a program (gen2.py).
-/
import Derived.Test.YtdkhklhnipiheaaC17
import Derived.Test.YtdkhklhnipiheaaPure
import Derived.Test.YtdkhklhnipiheaaPL9
namespace Go.Proofs.Ytdkhklhnipiheaa
open Go.Stp
set_option linter.unusedVariables false
set_option linter.unusedSimpArgs false
theorem f6 (w : World) (n : Nat) (hn : n + 4 ≤ 9) (aA : StateVector) (paA : Option Addr) (caA : Nat) (hpaA : RdSl (hp w) paA caA aA.entries) (aB : StateVector) (paB : Option Addr) (caB : Nat) (hpaB : RdSl (hp w) paB caB aB.entries) (hokaA : GoT.ok 10 aA) (hokaB : GoT.ok 10 aB) :
    Does Try.prog 6 #[.agg #[.slice paA ((aA.entries).length) caA], .agg #[.slice paB ((aB.entries).length) caB]] w emp (fun (rv : Value) (_ : World) => rv = .bool (laws_FnExactJoinVectors aA aB) ∧ True) := by
  have hbP := bd_pos n
  have hbS0 : bd (n + 1) = 4 * bd (n) := bd_succ (n := n) (by omega)
  have hbS1 : bd (n + 2) = 4 * bd (n + 1) := bd_succ (n := n + 1) (by omega)
  have hbS2 : bd (n + 3) = 4 * bd (n + 2) := bd_succ (n := n + 2) (by omega)
  have hbS3 : bd (n + 4) = 4 * bd (n + 3) := bd_succ (n := n + 3) (by omega)
  have hbB := bd_big (n := (n + 4)) (by omega)
  have hbM := bd_mono (show n ≤ n + 4 by omega)
  refine WX.enter (tt := tt) (Γ := [(0, MF.rs .stb paA caA aA.entries), (1, MF.rs .stb paB caB aB.entries)]) Try.func6 rfl (by kernel_rfl) rfl (allS_cons rfl hpaA (allS_cons rfl hpaB allS_nil)) ?_
  refine WX.run ttOk rfl ?_
  refine WX.callV rfl rfl rfl rfl rfl (fun _ => rfl) rfl (fun w G bs hI hΓ => f12 w 10 aA paA caA (hΓ.get 0 rfl) 1048576 hokaA (show I64 1048576 from (by unfold I64; omega))) ?_
  intro hq1
  refine WX.run ttOk rfl ?_
  refine WX.cases 18 rfl (fun h1 => ?_) (fun h1 => ?_)
  · skip
    have h1d := B.dt h1
    refine WX.run ttOk rfl ?_
    have hP1 : laws_FnExactJoinVectors aA aB = true := by simp only [laws_FnExactJoinVectors, h1, cond_true, cond_false]
    refine WX.ret ttOk rfl ?_
    intro w1 G bs hI hΓ
    rw [hP1]
    exact ⟨rfl, trivial⟩
  · skip
    have h1d := B.df h1
    obtain ⟨hs1, ht1⟩ := (sz_StateVector_R aA 1048576 hokaA (by omega) (by omega)).pos (by omega)
    have hk1 : GoT.ok n aA := GoT.okm (Nat.zero_le n) (Sz.low hokaA (show sz aA ≤ 1048576 by omega))
    refine WX.run ttOk rfl ?_
    refine WX.callV rfl rfl rfl rfl rfl (fun _ => rfl) rfl (fun w G bs hI hΓ => f12 w 10 aB paB caB (hΓ.get 1 rfl) (laws_szStateVector aA 1048576) hokaB hq1) ?_
    intro hq2
    refine WX.run ttOk rfl ?_
    refine WX.cases 23 rfl (fun h2 => ?_) (fun h2 => ?_)
    · skip
      have h2d := B.dt h2
      refine WX.run ttOk rfl ?_
      have hP2 : laws_FnExactJoinVectors aA aB = true := by simp only [laws_FnExactJoinVectors, h1, h2, cond_true, cond_false]
      refine WX.ret ttOk rfl ?_
      intro w1 G bs hI hΓ
      rw [hP2]
      exact ⟨rfl, trivial⟩
    · skip
      have h2d := B.df h2
      obtain ⟨hs2, ht2⟩ := (sz_StateVector_R aB (laws_szStateVector aA 1048576) hokaB (by omega) (by omega)).pos (by omega)
      have hk2 : GoT.ok n aB := GoT.okm (Nat.zero_le n) (Sz.low hokaB (show sz aB ≤ 1048576 by omega))
      refine WX.run ttOk rfl ?_
      refine WX.draw [6] mixed ?_
      intro bs G0 hΓ0
      refine DX.takes (fuel := 5) ttOk [(0, false), (2, false)] (by kernel_rfl) rfl ?_
      refine DX.pend 5 6 ⟨35, [.slice none (0) 0]⟩ ?_
      refine DXA.callF 1 2 (fun _ _ h => GoT.ow_rd h) (fun _ f hf => GoT.fak f hf) ttOk rfl rfl rfl rfl rfl rfl rfl (by kernel_rfl) (by kernel_rfl) (by kernel_rfl) rfl rfl rfl rfl rfl rfl rfl rfl rfl rfl (fun _ => rfl) rfl rfl (fun w G bs hI hΓ => f14 w n (by omega) aA paA caA (hΓ.get 0 rfl) hk1) (fun _ => rfl) (fun _ => rfl) ?_
      rintro ⟨p1, c1⟩ hq3
      refine DXA.callF 3 4 (fun _ _ h => GoT.ow_rd h) (fun _ f hf => GoT.fak f hf) ttOk rfl rfl rfl rfl rfl rfl rfl (by kernel_rfl) (by kernel_rfl) (by kernel_rfl) rfl rfl rfl rfl rfl rfl rfl rfl rfl rfl (fun _ => rfl) rfl rfl (fun w G bs hI hΓ => f14 w n (by omega) aB paB caB (hΓ.get 1 rfl) hk2) (fun _ => rfl) (fun _ => rfl) ?_
      rintro ⟨p2, c2⟩ hq4
      refine DXA.callF 4 6 (fun _ _ h => GoT.ow_rd h) (fun _ f hf => GoT.fak f hf) ttOk rfl rfl rfl rfl rfl rfl rfl (by kernel_rfl) (by kernel_rfl) (by kernel_rfl) rfl rfl rfl rfl rfl rfl rfl rfl rfl rfl (fun _ => rfl) rfl rfl (fun w G bs hI hΓ => f25 w n (by omega) (laws_toStateVector aA) p1 c1 (hΓ.get 2 rfl) (laws_toStateVector aB) p2 c2 (hΓ.get 4 rfl) hq3 hq4) (fun _ => rfl) (fun _ => rfl) ?_
      rintro ⟨p3, c3⟩ hq5
      refine DXA.tail [6] ttOk rfl rfl rfl rfl rfl rfl (by kernel_rfl) rfl rfl (by kernel_rfl) ?_
      refine WX.run ttOk rfl ?_
      refine WX.callF 8 (fun _ _ h => GoT.ow_rd h) (fun _ f hf => GoT.fak f hf) rfl rfl rfl rfl rfl (fun _ => rfl) rfl (fun w G bs hI hΓ => f14 w n (by omega) aA paA caA (hΓ.get 0 rfl) hk1) (fun _ => rfl) (fun _ => rfl) ?_
      rintro ⟨p4, c4⟩ hq6
      refine WX.run ttOk rfl ?_
      refine WX.callF 10 (fun _ _ h => GoT.ow_rd h) (fun _ f hf => GoT.fak f hf) rfl rfl rfl rfl rfl (fun _ => rfl) rfl (fun w G bs hI hΓ => f14 w n (by omega) aB paB caB (hΓ.get 1 rfl) hk2) (fun _ => rfl) (fun _ => rfl) ?_
      rintro ⟨p5, c5⟩ hq7
      refine WX.run ttOk rfl ?_
      refine WX.callF 12 (fun _ _ h => GoT.ow_rd h) (fun _ f hf => GoT.fak f hf) rfl rfl rfl rfl rfl (fun _ => rfl) rfl (fun w G bs hI hΓ => f26 w n (by omega) (laws_toStateVector aA) p4 c4 (hΓ.get 8 rfl) (laws_toStateVector aB) p5 c5 (hΓ.get 10 rfl) hq6 hq7) (fun _ => rfl) (fun _ => rfl) ?_
      rintro ⟨p6, c6⟩ hq8
      refine WX.run ttOk rfl ?_
      refine WX.callV rfl rfl rfl rfl rfl (fun _ => rfl) rfl (fun w G bs hI hΓ => f17 w (n + 1) (by omega) (impl_JoinVectors (laws_toStateVector aA) (laws_toStateVector aB)) p6 c6 (hΓ.get 12 rfl) (spec_JoinVectors (laws_toStateVector aA) (laws_toStateVector aB)) p3 c3 (hΓ.get 6 rfl) hq8 hq5) ?_
      intro hq9
      refine WX.run ttOk rfl ?_
      refine WX.cases 39 rfl (fun h3 => ?_) (fun h3 => ?_)
      · skip
        have h3d := (B.nt h3)
        refine WX.run ttOk rfl ?_
        have hP3 : laws_FnExactJoinVectors aA aB = false := by simp only [laws_FnExactJoinVectors, h1, h2, h3, cond_true, cond_false]
        refine WX.ret ttOk rfl ?_
        intro w1 G bs hI hΓ
        rw [hP3]
        exact ⟨rfl, trivial⟩
      · skip
        have h3d := (B.nf h3)
        refine WX.run ttOk rfl ?_
        refine WX.draw [] mixed ?_
        intro bs G0 hΓ0
        refine DX.takes (fuel := 3) ttOk [(0, false), (1, false)] (by kernel_rfl) rfl ?_
        refine DX.callF 2 14 (fun _ _ h => GoT.ow_rd h) (fun _ f hf => GoT.fak f hf) rfl (by kernel_rfl) rfl rfl rfl rfl rfl rfl (fun _ => rfl) rfl (fun w G bs hI hΓ => f14 w n (by omega) aA paA caA (hΓ.get 0 rfl) hk1) (fun _ => rfl) (fun _ => rfl) ?_
        rintro ⟨p7, c7⟩ hq10
        refine DX.callV 3 rfl (by kernel_rfl) rfl rfl rfl rfl rfl rfl (fun _ => rfl) rfl (fun w G bs hI hΓ => f17 w n (by omega) (laws_toStateVector aA) p4 c4 (hΓ.get 8 rfl) (laws_toStateVector aA) p7 c7 (hΓ.get 14 rfl) hq6 hq10) ?_
        intro hq11
        refine DX.takes (fuel := 0) ttOk [(4, true)] (by kernel_rfl) rfl ?_
        refine DX.tail2 [] rfl rfl (by kernel_rfl) ?_
        refine WX.run ttOk rfl ?_
        refine WX.cases 44 rfl (fun h4 => ?_) (fun h4 => ?_)
        · skip
          have h4d := (B.nt h4)
          refine WX.run ttOk rfl ?_
          have hP4 : laws_FnExactJoinVectors aA aB = false := by simp only [laws_FnExactJoinVectors, h1, h2, h3, h4, cond_true, cond_false]
          refine WX.ret ttOk rfl ?_
          intro w1 G bs hI hΓ
          rw [hP4]
          exact ⟨rfl, trivial⟩
        · skip
          have h4d := (B.nf h4)
          refine WX.run ttOk rfl ?_
          refine WX.draw [] mixed ?_
          intro bs G0 hΓ0
          refine DX.takes (fuel := 3) ttOk [(0, false), (1, false)] (by kernel_rfl) rfl ?_
          refine DX.callF 2 16 (fun _ _ h => GoT.ow_rd h) (fun _ f hf => GoT.fak f hf) rfl (by kernel_rfl) rfl rfl rfl rfl rfl rfl (fun _ => rfl) rfl (fun w G bs hI hΓ => f14 w n (by omega) aB paB caB (hΓ.get 1 rfl) hk2) (fun _ => rfl) (fun _ => rfl) ?_
          rintro ⟨p8, c8⟩ hq12
          refine DX.callV 3 rfl (by kernel_rfl) rfl rfl rfl rfl rfl rfl (fun _ => rfl) rfl (fun w G bs hI hΓ => f17 w n (by omega) (laws_toStateVector aB) p5 c5 (hΓ.get 10 rfl) (laws_toStateVector aB) p8 c8 (hΓ.get 16 rfl) hq7 hq12) ?_
          intro hq13
          refine DX.takes (fuel := 0) ttOk [(4, true)] (by kernel_rfl) rfl ?_
          refine DX.tail2 [] rfl rfl (by kernel_rfl) ?_
          refine WX.run ttOk rfl ?_
          refine WX.cases 49 rfl (fun h5 => ?_) (fun h5 => ?_)
          · skip
            have h5d := (B.nt h5)
            refine WX.run ttOk rfl ?_
            have hP5 : laws_FnExactJoinVectors aA aB = false := by simp only [laws_FnExactJoinVectors, h1, h2, h3, h4, h5, cond_true, cond_false]
            refine WX.ret ttOk rfl ?_
            intro w1 G bs hI hΓ
            rw [hP5]
            exact ⟨rfl, trivial⟩
          · skip
            have h5d := (B.nf h5)
            refine WX.run ttOk rfl ?_
            refine WX.callM [9] 18 rfl (fun _ _ h => GoT.ow_rd h) (fun _ f hf => GoT.fak f hf) rfl rfl rfl rfl rfl (fun _ => rfl) rfl (fun w G bs H hI hH hs hΓ => f18 w n (by omega) (laws_toStateVector aA) p4 c4 1 H hH hs hq6 (show I64 1 from (by unfold I64; omega))) (fun _ => rfl) (fun _ => rfl) ?_
            rintro ⟨⟩ hq14
            have hl1 : ((laws_markStateVector (laws_toStateVector aA) 1).2.entries).length = ((laws_toStateVector aA).entries).length := hq14.2
            refine WX.run ttOk rfl ?_
            refine WX.callM [11] 20 rfl (fun _ _ h => GoT.ow_rd h) (fun _ f hf => GoT.fak f hf) rfl rfl rfl rfl rfl (fun _ => rfl) rfl (fun w G bs H hI hH hs hΓ => f18 w n (by omega) (laws_toStateVector aB) p5 c5 ((laws_markStateVector (laws_toStateVector aA) 1).1) H hH hs hq7 hq14.1.1) (fun _ => rfl) (fun _ => rfl) ?_
            rintro ⟨⟩ hq15
            have hl2 : ((laws_markStateVector (laws_toStateVector aB) ((laws_markStateVector (laws_toStateVector aA) 1).1)).2.entries).length = ((laws_toStateVector aB).entries).length := hq15.2
            refine WX.run ttOk rfl ?_
            refine WX.cases 58 rfl (fun h6 => ?_) (fun h6 => ?_)
            · skip
              have h6d := B.dt h6
              refine WX.run ttOk rfl ?_
              have hP6 : laws_FnExactJoinVectors aA aB = false := by simp only [laws_FnExactJoinVectors, h1, h2, h3, h4, h5, h6, cond_true, cond_false]
              refine WX.ret ttOk rfl ?_
              intro w1 G bs hI hΓ
              rw [hP6]
              exact ⟨rfl, trivial⟩
            · skip
              have h6d := B.df h6
              refine WX.run ttOk rfl ?_
              refine WX.der 22 (MF.rs .der p6 c6 ((impl_JoinVectors (laws_toStateVector aA) (laws_toStateVector aB)).entries)) rfl (fun _ hΓ => (hΓ.get 13 rfl : OwSl _ _ _ _).rd) ?_
              refine WX.der 23 (MF.rs .der p3 c3 ((spec_JoinVectors (laws_toStateVector aA) (laws_toStateVector aB)).entries)) rfl (fun _ hΓ => (hΓ.get 7 rfl : OwSl _ _ _ _).rd) ?_
              refine WX.callV rfl rfl rfl rfl rfl (fun _ => rfl) rfl (fun w G bs hI hΓ => f17 w (n + 1) (by omega) (impl_JoinVectors (laws_toStateVector aA) (laws_toStateVector aB)) p6 c6 (hΓ.get 22 rfl) (spec_JoinVectors (laws_toStateVector aA) (laws_toStateVector aB)) p3 c3 (hΓ.get 23 rfl) hq8 hq5) ?_
              intro hq16
              refine WX.run ttOk rfl ?_
              refine WX.cases 63 rfl (fun h7 => ?_) (fun h7 => ?_)
              · skip
                have h7d := (B.nt h7)
                exact absurd (h3.symm.trans h7) Bool.false_ne_true
              · skip
                have h7d := (B.nf h7)
                refine WX.run ttOk rfl ?_
                refine WX.callM [13] 24 rfl (fun _ _ h => GoT.ow_rd h) (fun _ f hf => GoT.fak f hf) rfl rfl rfl rfl rfl (fun _ => rfl) rfl (fun w G bs H hI hH hs hΓ => f18 w (n + 1) (by omega) (impl_JoinVectors (laws_toStateVector aA) (laws_toStateVector aB)) p6 c6 1 H hH hs hq8 (show I64 1 from (by unfold I64; omega))) (fun _ => rfl) (fun _ => rfl) ?_
                rintro ⟨⟩ hq17
                have hl3 : ((laws_markStateVector (impl_JoinVectors (laws_toStateVector aA) (laws_toStateVector aB)) 1).2.entries).length = ((impl_JoinVectors (laws_toStateVector aA) (laws_toStateVector aB)).entries).length := hq17.2
                refine WX.run ttOk rfl ?_
                refine WX.slot 67 (y := .v (.agg #[.slice p6 (((laws_markStateVector (impl_JoinVectors (laws_toStateVector aA) (laws_toStateVector aB)) 1).2.entries).length) c6])) rfl (fun _ => by show (.agg #[.slice p6 (((impl_JoinVectors (laws_toStateVector aA) (laws_toStateVector aB)).entries).length) c6] : Value) = .agg #[.slice p6 (((laws_markStateVector (impl_JoinVectors (laws_toStateVector aA) (laws_toStateVector aB)) 1).2.entries).length) c6]; simp only [hl3]) ?_
                refine WX.callV rfl rfl rfl rfl rfl (fun _ => rfl) rfl (fun w G bs hI hΓ => f24 w (n + 1) (by omega) ((laws_markStateVector (impl_JoinVectors (laws_toStateVector aA) (laws_toStateVector aB)) 1).2) p6 c6 (hΓ.get 24 rfl) 1 hq17.1.2 (show I64 1 from (by unfold I64; omega))) ?_
                intro hq18
                refine WX.run ttOk rfl ?_
                refine WX.cases 71 rfl (fun h8 => ?_) (fun h8 => ?_)
                · skip
                  have h8d := B.dt h8
                  refine WX.run ttOk rfl ?_
                  have hP7 : laws_FnExactJoinVectors aA aB = false := by simp only [laws_FnExactJoinVectors, h1, h2, h3, h4, h5, h6, h7, h8, cond_true, cond_false]
                  refine WX.ret ttOk rfl ?_
                  intro w1 G bs hI hΓ
                  rw [hP7]
                  exact ⟨rfl, trivial⟩
                · skip
                  have h8d := B.df h8
                  refine WX.run ttOk rfl ?_
                  refine WX.cases 74 rfl (fun h9 => ?_) (fun h9 => ?_)
                  · skip
                    have h9d := B.nt' h9
                    refine WX.run ttOk rfl ?_
                    have hP8 : laws_FnExactJoinVectors aA aB = false := by simp only [laws_FnExactJoinVectors, h1, h2, h3, h4, h5, h6, h7, h8, h9, cond_true, cond_false]
                    refine WX.ret ttOk rfl ?_
                    intro w1 G bs hI hΓ
                    rw [hP8]
                    exact ⟨rfl, trivial⟩
                  · skip
                    have h9d := B.nf' h9
                    refine WX.run ttOk rfl ?_
                    refine WX.der 26 (MF.rs .der p5 c5 ((laws_markStateVector (laws_toStateVector aB) ((laws_markStateVector (laws_toStateVector aA) 1).1)).2.entries)) rfl (fun _ hΓ => (hΓ.get 21 rfl : OwSl _ _ _ _).rd) ?_
                    refine WX.der 27 (MF.rs .der p4 c4 ((laws_markStateVector (laws_toStateVector aA) 1).2.entries)) rfl (fun _ hΓ => (hΓ.get 19 rfl : OwSl _ _ _ _).rd) ?_
                    refine WX.der 28 (MF.rs .der p3 c3 ((spec_JoinVectors (laws_toStateVector aA) (laws_toStateVector aB)).entries)) rfl (fun _ hΓ => (hΓ.get 7 rfl : OwSl _ _ _ _).rd) ?_
                    refine WX.draw [6] mixed ?_
                    intro bs G0 hΓ0
                    refine DX.takes (fuel := 5) ttOk [(0, false), (2, false)] (by kernel_rfl) rfl ?_
                    refine DX.pend 5 13 ⟨35, [.slice none (0) 0]⟩ ?_
                    refine DXA.callF 1 29 (fun _ _ h => GoT.ow_rd h) (fun _ f hf => GoT.fak f hf) ttOk rfl rfl rfl rfl rfl rfl rfl (by kernel_rfl) (by kernel_rfl) (by kernel_rfl) rfl rfl rfl rfl rfl rfl rfl rfl rfl rfl (fun _ => rfl) rfl rfl (fun w G bs hI hΓ => f14 w n (by omega) aA paA caA (hΓ.get 0 rfl) hk1) (fun _ => rfl) (fun _ => rfl) ?_
                    rintro ⟨p9, c9⟩ hq19
                    refine DXA.callF 3 31 (fun _ _ h => GoT.ow_rd h) (fun _ f hf => GoT.fak f hf) ttOk rfl rfl rfl rfl rfl rfl rfl (by kernel_rfl) (by kernel_rfl) (by kernel_rfl) rfl rfl rfl rfl rfl rfl rfl rfl rfl rfl (fun _ => rfl) rfl rfl (fun w G bs hI hΓ => f14 w n (by omega) aB paB caB (hΓ.get 1 rfl) hk2) (fun _ => rfl) (fun _ => rfl) ?_
                    rintro ⟨p10, c10⟩ hq20
                    refine DXA.callF 4 33 (fun _ _ h => GoT.ow_rd h) (fun _ f hf => GoT.fak f hf) ttOk rfl rfl rfl rfl rfl rfl rfl (by kernel_rfl) (by kernel_rfl) (by kernel_rfl) rfl rfl rfl rfl rfl rfl rfl rfl rfl rfl (fun _ => rfl) rfl rfl (fun w G bs hI hΓ => f26 w n (by omega) (laws_toStateVector aA) p9 c9 (hΓ.get 29 rfl) (laws_toStateVector aB) p10 c10 (hΓ.get 31 rfl) hq19 hq20) (fun _ => rfl) (fun _ => rfl) ?_
                    rintro ⟨p11, c11⟩ hq21
                    refine DXA.tail [6] ttOk rfl rfl rfl rfl rfl rfl (by kernel_rfl) rfl rfl (by kernel_rfl) ?_
                    refine WX.run ttOk rfl ?_
                    refine WX.callV rfl rfl rfl rfl rfl (fun _ => rfl) rfl (fun w G bs hI hΓ => f17 w (n + 1) (by omega) (impl_JoinVectors (laws_toStateVector aA) (laws_toStateVector aB)) p11 c11 (hΓ.get 33 rfl) (spec_JoinVectors (laws_toStateVector aA) (laws_toStateVector aB)) p3 c3 (hΓ.get 28 rfl) hq21 hq5) ?_
                    intro hq22
                    refine WX.run ttOk rfl ?_
                    refine WX.cases 83 rfl (fun h10 => ?_) (fun h10 => ?_)
                    · skip
                      have h10d := (B.nt h10)
                      exact absurd (h3.symm.trans h10) Bool.false_ne_true
                    · skip
                      have h10d := (B.nf h10)
                      refine WX.run ttOk rfl ?_
                      refine WX.slot 84 (y := .v (.agg #[.slice p6 (((laws_markStateVector (impl_JoinVectors (laws_toStateVector aA) (laws_toStateVector aB)) 1).2.entries).length) c6])) rfl (fun _ => by show (.agg #[.slice p6 (((impl_JoinVectors (laws_toStateVector aA) (laws_toStateVector aB)).entries).length) c6] : Value) = .agg #[.slice p6 (((laws_markStateVector (impl_JoinVectors (laws_toStateVector aA) (laws_toStateVector aB)) 1).2.entries).length) c6]; simp only [hl3]) ?_
                      refine WX.callV rfl rfl rfl rfl rfl (fun _ => rfl) rfl (fun w G bs hI hΓ => f24 w (n + 1) (by omega) ((laws_markStateVector (impl_JoinVectors (laws_toStateVector aA) (laws_toStateVector aB)) 1).2) p6 c6 (hΓ.get 24 rfl) 1 hq17.1.2 (show I64 1 from (by unfold I64; omega))) ?_
                      intro hq23
                      refine WX.run ttOk rfl ?_
                      refine WX.cases 88 rfl (fun h11 => ?_) (fun h11 => ?_)
                      · skip
                        have h11d := B.dt h11
                        exact absurd (h8.symm.trans h11) Bool.false_ne_true
                      · skip
                        have h11d := B.df h11
                        refine WX.run ttOk rfl ?_
                        refine WX.cases 91 rfl (fun h12 => ?_) (fun h12 => ?_)
                        · skip
                          have h12d := B.nt' h12
                          exact absurd (h9.symm.trans h12) Bool.false_ne_true
                        · skip
                          have h12d := B.nf' h12
                          refine WX.run ttOk rfl ?_
                          have hP9 : laws_FnExactJoinVectors aA aB = true := by simp only [laws_FnExactJoinVectors, h1, h2, h3, h4, h5, h6, h7, h8, h9, h10, h11, h12, cond_true, cond_false]
                          refine WX.ret ttOk rfl ?_
                          intro w1 G bs hI hΓ
                          rw [hP9]
                          exact ⟨rfl, trivial⟩
end Go.Proofs.Ytdkhklhnipiheaa
