/-
  What the proof of one law needs: rules of the program logic, functions as Lean functions, contracts. No condition but what each says. Written by a program (pack.py) out of my own texts.
-/
import Derived.Test.YtfffongneoegbaaGreatKCatchUp4
namespace Go.Proofs.YtfffongneoegbaaGreat
open Go.Stp
set_option linter.unusedVariables false
set_option linter.unusedSimpArgs false
theorem f196 (w : World) (n : Nat) (hn : n + 0 ≤ 9) (v : StateVector) (pv : Option Addr) (cv : Nat) (hpv : RdSl (hp w) pv cv v.entries) (hokv : GoT.ok n v) :
    Does Tryz.prog 196 #[.agg #[.slice pv ((v.entries).length) cv]] w emp (fun (rv : Value) (_ : World) => rv = .int .i64 ((impl_VectorSum v)) ∧ GoT.ok n ((impl_VectorSum v) : Int)) := by
  have hbP := bd_pos n
  have hbB := bd_big (n := n) (by omega)
  refine WX.enter (tt := tt) (Γ := [(0, MF.rs .stb pv cv v.entries)]) Tryz.func196 rfl (by kernel_rfl) rfl (allS_cons rfl hpv allS_nil) ?_
  refine WX.run ttOk rfl ?_
  have r1 : (v.entries).length ≤ bd n := (okl (ok_StateVector hokv)).1
  refine WX.loop (ι := Int × Nat) ⟨fun | (sum_, i) => (i ≤ (v.entries).length) ∧ (-9223372036854775808 ≤ sum_ ∧ sum_ ≤ 9223372036854775807) ∧ (impl_VectorSum_L1 v.entries 0 = impl_VectorSum_L1 ((v.entries).drop i) sum_), fun | (sum_, i) => (v.entries).length - i, fun | (sum_, i) => [(3, .v (.int .i64 (sum_))), (9, .v (.int .i64 (((i : Nat) : Int)))), (8, .v (.int .i64 ((((v.entries).length : Nat) : Int)))), (7, .v (.slice pv ((v.entries).length) cv))], fun | (sum_, i) => [], fun | (sum_, i) => [], fun | (sum_, i) => [(0, MF.rs .stb pv cv v.entries)]⟩ (0, 0) ⟨(Nat.zero_le _), (by first | assumption | omega), rfl⟩
    (.cons rfl (.cons rfl (.cons rfl (.cons rfl (.nil))))) .nil .nil [0] rfl ?_
  rintro ⟨sum_, i⟩ hpre
  have hpre_ : (i ≤ (v.entries).length) ∧ (-9223372036854775808 ≤ sum_ ∧ sum_ ≤ 9223372036854775807) ∧ (impl_VectorSum_L1 v.entries 0 = impl_VectorSum_L1 ((v.entries).drop i) sum_) := hpre
  clear hpre
  obtain ⟨v1, v2, v3⟩ := hpre_
  refine WX.run ttOk rfl ?_
  refine WX.cases 10 rfl (fun h1 => ?_) (fun h1 => ?_)
  · skip
    have h1d := B.dt h1
    have e1i : i < (v.entries).length := (by omega)
    obtain ⟨e1, e1h⟩ : ∃ e1, (v.entries)[i]? = some e1 := ⟨_, List.getElem?_eq_getElem e1i⟩
    have ok1 : GoT.ok n e1 := (okl (ok_StateVector hokv)).2 _ (List.mem_of_getElem? e1h)
    refine WX.run ttOk rfl ?_
    refine WX.idx 0 i ttOk rfl rfl rfl rfl rfl rfl rfl rfl rfl rfl e1i ?_
    rintro ad1 rfl
    refine WX.ldE 0 1 e1 ttOk rfl rfl rfl rfl rfl rfl rfl rfl e1h (fun _ => rfl) (fun _ => rfl) ?_
    rintro ⟨⟨p1, c1⟩, ⟨⟩⟩
    refine WX.run ttOk rfl ?_
    refine WX.see rfl rfl rfl (fun _ hΓ => looks_wrap rfl rfl rfl rfl) ?_
    refine WX.run ttOk rfl ?_
    refine WX.see rfl rfl rfl (fun _ hΓ => looks_arith rfl rfl rfl rfl (by unfold I64; first | omega | (dsimp only; omega))) ?_
    refine WX.run ttOk rfl ?_
    exact WX.iter (IntKind.i64.wrap (sum_ + e1.value), i + 1) ⟨(by omega), (i64_wrap _), (by rw [v3, drop_get e1h]; simp only [impl_VectorSum_L1, cond_true, cond_false])⟩ (by first | (dsimp only; omega) | omega) (.cons rfl (.cons rfl (.cons rfl (.cons rfl (.nil))))) .nil .nil [0] rfl
  · skip
    have h1d := B.df h1
    refine WX.run ttOk rfl ?_
    have hX1 : impl_VectorSum_L1 v.entries 0 = sum_ := by rw [v3, List.drop_eq_nil_of_le (show (v.entries).length ≤ i by omega)]; simp only [impl_VectorSum_L1, cond_true, cond_false]
    have hP1 : impl_VectorSum v = sum_ := by simp only [impl_VectorSum, hX1, cond_true, cond_false]
    refine WX.ret ttOk rfl ?_
    intro w1 G bs hI hΓ
    rw [hP1]
    exact ⟨rfl, v2⟩
theorem f181 (w : World) (n : Nat) (hn : n + 0 ≤ 9) (v : StateVector) (pv : Option Addr) (cv : Nat) (hpv : RdSl (hp w) pv cv v.entries) (hokv : GoT.ok n v) :
    Does Tryz.prog 181 #[.agg #[.slice pv ((v.entries).length) cv]] w emp (fun (rv : Value) (_ : World) => rv = .int .i64 ((spec_VectorSum v)) ∧ GoT.ok n ((spec_VectorSum v) : Int)) := by
  have hbP := bd_pos n
  have hbB := bd_big (n := n) (by omega)
  refine WX.enter (tt := tt) (Γ := [(0, MF.rs .stb pv cv v.entries)]) Tryz.func181 rfl (by kernel_rfl) rfl (allS_cons rfl hpv allS_nil) ?_
  refine WX.run ttOk rfl ?_
  have r1 : (v.entries).length ≤ bd n := (okl (ok_StateVector hokv)).1
  refine WX.loop (ι := Int × Nat) ⟨fun | (n_, i) => (i ≤ (v.entries).length) ∧ (-9223372036854775808 ≤ n_ ∧ n_ ≤ 9223372036854775807) ∧ (spec_VectorSum_L1 v.entries 0 = spec_VectorSum_L1 ((v.entries).drop i) n_), fun | (n_, i) => (v.entries).length - i, fun | (n_, i) => [(3, .v (.int .i64 (n_))), (4, .v (.int .i64 (((i : Nat) : Int)))), (1, .p 1 0)], fun | (n_, i) => [(1, ⟨39, [.slice pv ((v.entries).length) cv]⟩)], fun | (n_, i) => [], fun | (n_, i) => [(0, MF.rs .stb pv cv v.entries)]⟩ (0, 0) ⟨(Nat.zero_le _), (by first | assumption | omega), rfl⟩
    (.cons rfl (.cons rfl (.cons rfl (.nil)))) (.cons rfl (.nil)) .nil [0] rfl ?_
  rintro ⟨n_, i⟩ hpre
  have hpre_ : (i ≤ (v.entries).length) ∧ (-9223372036854775808 ≤ n_ ∧ n_ ≤ 9223372036854775807) ∧ (spec_VectorSum_L1 v.entries 0 = spec_VectorSum_L1 ((v.entries).drop i) n_) := hpre
  clear hpre
  obtain ⟨v1, v2, v3⟩ := hpre_
  refine WX.run ttOk rfl ?_
  refine WX.cases 9 rfl (fun h1 => ?_) (fun h1 => ?_)
  · skip
    have h1d := B.dt h1
    have e1i : i < (v.entries).length := (by omega)
    obtain ⟨e1, e1h⟩ : ∃ e1, (v.entries)[i]? = some e1 := ⟨_, List.getElem?_eq_getElem e1i⟩
    have ok1 : GoT.ok n e1 := (okl (ok_StateVector hokv)).2 _ (List.mem_of_getElem? e1h)
    refine WX.run ttOk rfl ?_
    refine WX.idx 0 i ttOk rfl rfl rfl rfl rfl rfl rfl rfl rfl rfl e1i ?_
    rintro ad1 rfl
    refine WX.run ttOk rfl ?_
    refine WX.ldE 0 1 e1 ttOk rfl rfl rfl rfl rfl rfl rfl rfl e1h (fun _ => rfl) (fun _ => rfl) ?_
    rintro ⟨⟨p1, c1⟩, ⟨⟩⟩
    refine WX.see rfl rfl rfl (fun _ hΓ => looks_wrap rfl rfl rfl rfl) ?_
    refine WX.run ttOk rfl ?_
    refine WX.see rfl rfl rfl (fun _ hΓ => looks_arith rfl rfl rfl rfl (by unfold I64; first | omega | (dsimp only; omega))) ?_
    refine WX.run ttOk rfl ?_
    exact WX.iter (IntKind.i64.wrap (n_ + e1.value), i + 1) ⟨(by omega), (i64_wrap _), (by rw [v3, drop_get e1h]; simp only [spec_VectorSum_L1, cond_true, cond_false])⟩ (by first | (dsimp only; omega) | omega) (.cons rfl (.cons rfl (.cons rfl (.nil)))) (.cons rfl (.nil)) .nil [0] rfl
  · skip
    have h1d := B.df h1
    refine WX.run ttOk rfl ?_
    have hX1 : spec_VectorSum_L1 v.entries 0 = n_ := by rw [v3, List.drop_eq_nil_of_le (show (v.entries).length ≤ i by omega)]; simp only [spec_VectorSum_L1, cond_true, cond_false]
    have hP1 : spec_VectorSum v = n_ := by simp only [spec_VectorSum, hX1, cond_true, cond_false]
    refine WX.ret ttOk rfl ?_
    intro w1 G bs hI hΓ
    rw [hP1]
    exact ⟨rfl, v2⟩
theorem f73 (w : World) (n : Nat) (hn : n + 0 ≤ 9) (m : Member) (pmName : Option Addr) (cmName : Nat) (hpmName : RdSl (hp w) pmName cmName m.name.parts) (pmVector : Option Addr) (cmVector : Nat) (hpmVector : RdSl (hp w) pmVector cmVector m.vector.entries) (pmPublications : Option Addr) (cmPublications : Nat) (hpmPublications : RdSl (hp w) pmPublications cmPublications m.publications) (hokm : GoT.ok n m) :
    Does Tryz.prog 73 #[.agg #[.slice pmName ((m.name.parts).length) cmName, .slice pmVector ((m.vector.entries).length) cmVector, .slice pmPublications ((m.publications).length) cmPublications]] w emp (fun (rv : Value) (_ : World) => rv = .bool (impl_ValidMember m) ∧ True) := by
  have hbP := bd_pos n
  have hbB := bd_big (n := n) (by omega)
  refine WX.enter (tt := tt) (Γ := [(0, MF.rs .stb pmName cmName m.name.parts), (1, MF.rs .stb pmVector cmVector m.vector.entries), (2, MF.rs .stb pmPublications cmPublications m.publications)]) Tryz.func73 rfl (by kernel_rfl) rfl (allS_cons rfl hpmName (allS_cons rfl hpmVector (allS_cons rfl hpmPublications allS_nil))) ?_
  refine WX.run ttOk rfl ?_
  refine WX.callV rfl rfl rfl rfl rfl (fun _ => rfl) rfl (fun w G bs hI hΓ => f193 w n (by omega) m.name pmName cmName (hΓ.get 0 rfl) ((ok_Member hokm).1)) ?_
  intro hq1
  refine WX.run ttOk rfl ?_
  refine WX.cases 9 rfl (fun h1 => ?_) (fun h1 => ?_)
  · skip
    have h1d := (B.nt h1)
    refine WX.run ttOk rfl ?_
    have hP1 : impl_ValidMember m = false := by simp only [impl_ValidMember, h1, cond_true, cond_false]
    refine WX.ret ttOk rfl ?_
    intro w1 G bs hI hΓ
    rw [hP1]
    exact ⟨rfl, trivial⟩
  · skip
    have h1d := (B.nf h1)
    refine WX.run ttOk rfl ?_
    refine WX.cases 16 rfl (fun h2 => ?_) (fun h2 => ?_)
    · skip
      have h2d := B.et h2
      refine WX.run ttOk rfl ?_
      have hP2 : impl_ValidMember m = false := by simp only [impl_ValidMember, h1, h2, cond_true, cond_false]
      refine WX.ret ttOk rfl ?_
      intro w1 G bs hI hΓ
      rw [hP2]
      exact ⟨rfl, trivial⟩
    · skip
      have h2d := B.ef h2
      refine WX.run ttOk rfl ?_
      refine WX.callV rfl rfl rfl rfl rfl (fun _ => rfl) rfl (fun w G bs hI hΓ => f194 w n (by omega) m.vector pmVector cmVector (hΓ.get 1 rfl) ((ok_Member hokm).2.1)) ?_
      intro hq2
      refine WX.run ttOk rfl ?_
      refine WX.cases 22 rfl (fun h3 => ?_) (fun h3 => ?_)
      · skip
        have h3d := (B.nt h3)
        refine WX.run ttOk rfl ?_
        have hP3 : impl_ValidMember m = false := by simp only [impl_ValidMember, h1, h2, h3, cond_true, cond_false]
        refine WX.ret ttOk rfl ?_
        intro w1 G bs hI hΓ
        rw [hP3]
        exact ⟨rfl, trivial⟩
      · skip
        have h3d := (B.nf h3)
        refine WX.run ttOk rfl ?_
        refine WX.cases 27 rfl (fun h4 => ?_) (fun h4 => ?_)
        · skip
          have h4d := B.dt h4
          refine WX.run ttOk rfl ?_
          have hP4 : impl_ValidMember m = false := by simp only [impl_ValidMember, h1, h2, h3, h4, cond_true, cond_false]
          refine WX.ret ttOk rfl ?_
          intro w1 G bs hI hΓ
          rw [hP4]
          exact ⟨rfl, trivial⟩
        · skip
          have h4d := B.df h4
          refine WX.run ttOk rfl ?_
          have r1 : (m.publications).length ≤ bd n := (okl (ok_Member hokm).2.2).1
          refine WX.loop (ι := Nat) ⟨fun i => (i ≤ (m.publications).length) ∧ (impl_ValidMember_L1 m m.publications 0 = impl_ValidMember_L1 m ((m.publications).drop i) i), fun i => (m.publications).length - i, fun i => [(31, .v (.int .i64 (((i : Nat) : Int)))), (30, .v (.int .i64 ((((m.publications).length : Nat) : Int)))), (29, .v (.slice pmPublications ((m.publications).length) cmPublications)), (1, .p 1 0)], fun i => [(1, ⟨42, [.slice pmName ((m.name.parts).length) cmName, .slice pmVector ((m.vector.entries).length) cmVector, .slice pmPublications ((m.publications).length) cmPublications]⟩)], fun i => [], fun i => [(0, MF.rs .stb pmName cmName m.name.parts), (1, MF.rs .stb pmVector cmVector m.vector.entries), (2, MF.rs .stb pmPublications cmPublications m.publications)]⟩ 0 ⟨(Nat.zero_le _), rfl⟩
            (.cons rfl (.cons rfl (.cons rfl (.cons rfl (.nil))))) (.cons rfl (.nil)) .nil [0, 1, 2] rfl ?_
          rintro i hpre
          have hpre_ : (i ≤ (m.publications).length) ∧ (impl_ValidMember_L1 m m.publications 0 = impl_ValidMember_L1 m ((m.publications).drop i) i) := hpre
          clear hpre
          obtain ⟨v1, v2⟩ := hpre_
          refine WX.run ttOk rfl ?_
          refine WX.cases 32 rfl (fun h5 => ?_) (fun h5 => ?_)
          · skip
            have h5d := B.dt h5
            have e1i : i < (m.publications).length := (by omega)
            obtain ⟨e1, e1h⟩ : ∃ e1, (m.publications)[i]? = some e1 := ⟨_, List.getElem?_eq_getElem e1i⟩
            have ok1 : GoT.ok n e1 := (okl (ok_Member hokm).2.2).2 _ (List.mem_of_getElem? e1h)
            refine WX.run ttOk rfl ?_
            refine WX.idx 2 i ttOk rfl rfl rfl rfl rfl rfl rfl rfl rfl rfl e1i ?_
            rintro ad1 rfl
            refine WX.ldE 2 3 e1 ttOk rfl rfl rfl rfl rfl rfl rfl rfl e1h (fun _ => rfl) (fun _ => rfl) ?_
            rintro ⟨⟨p1, c1⟩, ⟨⟩, ⟨p2, c2⟩⟩
            refine WX.run ttOk rfl ?_
            refine WX.draw [] mixed ?_
            intro bs G0 hΓ0
            refine DX.takes (fuel := 21) ttOk [(0, true), (1, false), (2, true), (3, false), (4, true), (5, false)] (by kernel_rfl) rfl ?_
            refine DX.callV 6 rfl (by kernel_rfl) rfl rfl rfl rfl rfl rfl (fun _ => rfl) rfl (fun w G bs hI hΓ => f69 w n (by omega) m.vector pmVector cmVector (hΓ.get 1 rfl) e1.publisher p1 c1 (hΓ.get 3 rfl) ((ok_Member hokm).2.1) ((ok_Publication ok1).1)) ?_
            intro hq3
            refine DX.callV 7 rfl (by kernel_rfl) rfl rfl rfl rfl rfl rfl (fun _ => rfl) rfl (fun w G bs hI hΓ => f167 w n (by omega) e1.seq 1 (impl_SeqOf m.vector e1.publisher) ((ok_Publication ok1).2.1) (show I64 1 from (by unfold I64; omega)) hq3) ?_
            intro hq4
            refine DX.takes (fuel := 17) ttOk [(8, true), (9, true)] (by kernel_rfl) rfl ?_
            refine DX.cases 45 rfl (fun h6 => ?_) (fun h6 => ?_)
            · skip
              have h6d := (B.nt h6)
              refine DX.takes (fuel := 0) ttOk [(10, true), (11, true), (12, true), (13, true), (14, true), (15, true), (16, true), (17, true), (18, true), (19, true), (20, true), (21, true), (22, true), (23, true), (24, true), (25, true), (26, true)] (by kernel_rfl) rfl ?_
              refine DX.tail2 [] rfl rfl (by kernel_rfl) ?_
              refine WX.run ttOk rfl ?_
              have hP5 : impl_ValidMember_L1 m m.publications 0 = (some false) := by rw [v2, drop_get e1h]; simp only [impl_ValidMember_L1, h6, cond_true, cond_false]
              have hP6 : impl_ValidMember m = false := by simp only [impl_ValidMember, h1, h2, h3, h4, hP5, cond_true, cond_false]
              refine WX.ret ttOk rfl ?_
              intro w1 G bs hI hΓ
              rw [hP6]
              exact ⟨rfl, trivial⟩
            · skip
              have h6d := (B.nf h6)
              have h6r := inR_impl (B.nf h6)
              refine DX.takes (fuel := 11) ttOk [(10, true), (11, false), (12, true), (13, true), (14, true), (15, true)] (by kernel_rfl) rfl ?_
              refine DX.cases 51 rfl (fun h7 => ?_) (fun h7 => ?_)
              · skip
                have h7d := B.dt h7
                refine DX.takes (fuel := 0) ttOk [(16, true), (17, true), (18, true), (19, true), (20, true), (21, true), (22, true), (23, true), (24, true), (25, true), (26, true)] (by kernel_rfl) rfl ?_
                refine DX.tail2 [] rfl rfl (by kernel_rfl) ?_
                refine WX.run ttOk rfl ?_
                have hP7 : impl_ValidMember_L1 m m.publications 0 = (some false) := by rw [v2, drop_get e1h]; simp only [impl_ValidMember_L1, h6, h7, cond_true, cond_false]
                have hP8 : impl_ValidMember m = false := by simp only [impl_ValidMember, h1, h2, h3, h4, hP7, cond_true, cond_false]
                refine WX.ret ttOk rfl ?_
                intro w1 G bs hI hΓ
                rw [hP8]
                exact ⟨rfl, trivial⟩
              · skip
                have h7d := B.df h7
                refine DX.takes (fuel := 8) ttOk [(16, true), (17, false), (18, true)] (by kernel_rfl) rfl ?_
                refine DX.seeP 19 (by kernel_rfl) rfl rfl rfl rfl (looksP_slH i ttOk rfl rfl rfl rfl (by simp) (Nat.le_trans (show i ≤ (m.publications).length from (by omega)) (hΓ0.get 2 rfl : RdSl _ _ _ _).1)) ?_
                refine DX.slot 55 (y := .v (.slice (some ad1) (((List.take i m.publications)).length) cmPublications)) rfl (fun _ => by rw [show ((List.take i m.publications)).length = i from (by simp only [List.length_take]; have z_ := (show i ≤ (m.publications).length from (by omega)); omega)]) ?_
                refine DX.der 5 (MF.rs .der (some ad1) cmPublications (List.take i m.publications)) rfl (fun _ hΓ => RdSl.pre (hΓ.get 2 rfl : RdSl _ _ _ _) i) ?_
                refine DX.takes (fuel := 3) ttOk [(20, true), (21, false), (22, true), (23, false)] (by kernel_rfl) rfl ?_
                refine DX.callV 24 rfl (by kernel_rfl) rfl rfl rfl rfl rfl rfl (fun _ => rfl) rfl (fun w G bs hI hΓ => f195 w n (by omega) (List.take i m.publications) (some ad1) cmPublications (hΓ.get 5 rfl) e1.publisher p1 c1 (hΓ.get 3 rfl) e1.seq (okl_mk (by first | assumption | omega | (simp only [List.length_append, List.length_cons, List.length_nil, List.length_set, List.length_map, List.length_take, List.length_drop]; omega) | (simp; omega)) (fun a ha => (okl (ok_Member hokm).2.2).2 a (List.mem_of_mem_take ha)) : GoT.ok n ((List.take i m.publications) : List Publication)) ((ok_Publication ok1).1) ((ok_Publication ok1).2.1)) ?_
                intro hq5
                have q1 := lt_publishedAt (List.take i m.publications) e1.publisher e1.seq
                refine DX.takes (fuel := 0) ttOk [(25, true), (26, true)] (by kernel_rfl) rfl ?_
                refine DX.tail2 [] rfl rfl (by kernel_rfl) ?_
                refine WX.run ttOk rfl ?_
                refine WX.cases 62 rfl (fun h8 => ?_) (fun h8 => ?_)
                · skip
                  have h8d := B.dt h8
                  refine WX.run ttOk rfl ?_
                  have hP9 : impl_ValidMember_L1 m m.publications 0 = (some false) := by rw [v2, drop_get e1h]; simp only [impl_ValidMember_L1, h6, h7, h8, cond_true, cond_false]
                  have hP10 : impl_ValidMember m = false := by simp only [impl_ValidMember, h1, h2, h3, h4, hP9, cond_true, cond_false]
                  refine WX.ret ttOk rfl ?_
                  intro w1 G bs hI hΓ
                  rw [hP10]
                  exact ⟨rfl, trivial⟩
                · skip
                  have h8d := B.df h8
                  refine WX.run ttOk rfl ?_
                  refine WX.see rfl rfl rfl (fun _ hΓ => looks_arith rfl rfl rfl rfl (by unfold I64; first | omega | (dsimp only; omega))) ?_
                  refine WX.run ttOk rfl ?_
                  exact WX.iter (i + 1) ⟨(by omega), (by rw [v2, drop_get e1h]; simp only [impl_ValidMember_L1, h6, h7, h8, cond_true, cond_false])⟩ (by first | (dsimp only; omega) | omega) (.cons rfl (.cons rfl (.cons rfl (.cons rfl (.nil))))) (.cons rfl (.nil)) .nil [0, 1, 2] rfl
          · skip
            have h5d := B.df h5
            refine WX.run ttOk rfl ?_
            have hX1 : impl_ValidMember_L1 m m.publications 0 = none := by rw [v2, List.drop_eq_nil_of_le (show (m.publications).length ≤ i by omega)]; simp only [impl_ValidMember_L1, cond_true, cond_false]
            refine WX.draw [] mixed ?_
            intro bs G0 hΓ0
            refine DX.takes (fuel := 3) ttOk [(0, true), (1, false), (3, true), (4, false), (5, true)] (by kernel_rfl) rfl ?_
            refine DX.callV 2 rfl (by kernel_rfl) rfl rfl rfl rfl rfl rfl (fun _ => rfl) rfl (fun w G bs hI hΓ => f196 w n (by omega) m.vector pmVector cmVector (hΓ.get 1 rfl) ((ok_Member hokm).2.1)) ?_
            intro hq6
            refine DX.takes (fuel := 0) ttOk [(6, true), (7, true)] (by kernel_rfl) rfl ?_
            refine DX.tail2 [] rfl rfl (by kernel_rfl) ?_
            refine WX.run ttOk rfl ?_
            have hP11 : impl_ValidMember m = ((impl_VectorSum m.vector) == (((m.publications).length : Nat) : Int)) := by simp only [impl_ValidMember, h1, h2, h3, h4, hX1, cond_true, cond_false]
            refine WX.ret ttOk rfl ?_
            intro w1 G bs hI hΓ
            rw [hP11]
            exact ⟨rfl, trivial⟩
theorem f64 (w : World) (n : Nat) (hn : n + 0 ≤ 9) (m : Member) (pmName : Option Addr) (cmName : Nat) (hpmName : RdSl (hp w) pmName cmName m.name.parts) (pmVector : Option Addr) (cmVector : Nat) (hpmVector : RdSl (hp w) pmVector cmVector m.vector.entries) (pmPublications : Option Addr) (cmPublications : Nat) (hpmPublications : RdSl (hp w) pmPublications cmPublications m.publications) (hokm : GoT.ok n m) :
    Does Tryz.prog 64 #[.agg #[.slice pmName ((m.name.parts).length) cmName, .slice pmVector ((m.vector.entries).length) cmVector, .slice pmPublications ((m.publications).length) cmPublications]] w emp (fun (rv : Value) (_ : World) => rv = .bool (spec_ValidMember m) ∧ True) := by
  have hbP := bd_pos n
  have hbB := bd_big (n := n) (by omega)
  refine WX.enter (tt := tt) (Γ := [(0, MF.rs .stb pmName cmName m.name.parts), (1, MF.rs .stb pmVector cmVector m.vector.entries), (2, MF.rs .stb pmPublications cmPublications m.publications)]) Tryz.func64 rfl (by kernel_rfl) rfl (allS_cons rfl hpmName (allS_cons rfl hpmVector (allS_cons rfl hpmPublications allS_nil))) ?_
  refine WX.run ttOk rfl ?_
  refine WX.draw [] mixed ?_
  intro bs G0 hΓ0
  refine DX.takes (fuel := 30) ttOk [(0, true), (1, false)] (by kernel_rfl) rfl ?_
  refine DX.callV 2 rfl (by kernel_rfl) rfl rfl rfl rfl rfl rfl (fun _ => rfl) rfl (fun w G bs hI hΓ => f179 w n (by omega) m.name pmName cmName (hΓ.get 0 rfl) ((ok_Member hokm).1)) ?_
  intro hq1
  refine DX.takes (fuel := 27) ttOk [(3, true), (4, true)] (by kernel_rfl) rfl ?_
  refine DX.cases 9 rfl (fun h1 => ?_) (fun h1 => ?_)
  · skip
    have h1d := (B.nt h1)
    refine DX.takes (fuel := 0) ttOk [(5, true), (6, true), (7, true), (8, true), (9, true), (10, true), (11, true), (12, true), (13, true), (14, true), (15, true), (16, true), (17, true), (18, true), (19, true), (20, true), (21, true), (22, true), (23, true), (24, true), (25, true), (26, true), (27, true), (28, true), (29, true), (30, true), (31, true)] (by kernel_rfl) rfl ?_
    refine DX.tail2 [] rfl rfl (by kernel_rfl) ?_
    refine WX.run ttOk rfl ?_
    have hP1 : spec_ValidMember m = false := by simp only [spec_ValidMember, h1, cond_true, cond_false]
    refine WX.ret ttOk rfl ?_
    intro w1 G bs hI hΓ
    rw [hP1]
    exact ⟨rfl, trivial⟩
  · skip
    have h1d := (B.nf h1)
    refine DX.takes (fuel := 20) ttOk [(5, true), (6, true), (7, false), (8, true), (9, true), (10, true), (11, true)] (by kernel_rfl) rfl ?_
    refine DX.cases 16 rfl (fun h2 => ?_) (fun h2 => ?_)
    · skip
      have h2d := B.et h2
      refine DX.takes (fuel := 0) ttOk [(12, true), (13, true), (14, true), (15, true), (16, true), (17, true), (18, true), (19, true), (20, true), (21, true), (22, true), (23, true), (24, true), (25, true), (26, true), (27, true), (28, true), (29, true), (30, true), (31, true)] (by kernel_rfl) rfl ?_
      refine DX.tail2 [] rfl rfl (by kernel_rfl) ?_
      refine WX.run ttOk rfl ?_
      have hP2 : spec_ValidMember m = false := by simp only [spec_ValidMember, h1, h2, cond_true, cond_false]
      refine WX.ret ttOk rfl ?_
      intro w1 G bs hI hΓ
      rw [hP2]
      exact ⟨rfl, trivial⟩
    · skip
      have h2d := B.ef h2
      refine DX.takes (fuel := 18) ttOk [(12, true), (13, false)] (by kernel_rfl) rfl ?_
      refine DX.callV 14 rfl (by kernel_rfl) rfl rfl rfl rfl rfl rfl (fun _ => rfl) rfl (fun w G bs hI hΓ => f180 w n (by omega) m.vector pmVector cmVector (hΓ.get 1 rfl) ((ok_Member hokm).2.1)) ?_
      intro hq2
      refine DX.takes (fuel := 14) ttOk [(15, true), (16, true), (17, true)] (by kernel_rfl) rfl ?_
      refine DX.cases 22 rfl (fun h3 => ?_) (fun h3 => ?_)
      · skip
        have h3d := (B.nt h3)
        refine DX.takes (fuel := 0) ttOk [(18, true), (19, true), (20, true), (21, true), (22, true), (23, true), (24, true), (25, true), (26, true), (27, true), (28, true), (29, true), (30, true), (31, true)] (by kernel_rfl) rfl ?_
        refine DX.tail2 [] rfl rfl (by kernel_rfl) ?_
        refine WX.run ttOk rfl ?_
        have hP3 : spec_ValidMember m = false := by simp only [spec_ValidMember, h1, h2, h3, cond_true, cond_false]
        refine WX.ret ttOk rfl ?_
        intro w1 G bs hI hΓ
        rw [hP3]
        exact ⟨rfl, trivial⟩
      · skip
        have h3d := (B.nf h3)
        refine DX.takes (fuel := 8) ttOk [(18, true), (19, false), (20, true), (21, true), (22, true), (23, true)] (by kernel_rfl) rfl ?_
        refine DX.cases 28 rfl (fun h4 => ?_) (fun h4 => ?_)
        · skip
          have h4d := B.dt h4
          refine DX.takes (fuel := 0) ttOk [(24, true), (25, true), (26, true), (27, true), (28, true), (29, true), (30, true), (31, true)] (by kernel_rfl) rfl ?_
          refine DX.tail2 [] rfl rfl (by kernel_rfl) ?_
          refine WX.run ttOk rfl ?_
          have hP4 : spec_ValidMember m = false := by simp only [spec_ValidMember, h1, h2, h3, h4, cond_true, cond_false]
          refine WX.ret ttOk rfl ?_
          intro w1 G bs hI hΓ
          rw [hP4]
          exact ⟨rfl, trivial⟩
        · skip
          have h4d := B.df h4
          refine DX.takes (fuel := 3) ttOk [(24, true), (25, false), (26, true), (27, true), (28, false)] (by kernel_rfl) rfl ?_
          refine DX.callV 29 rfl (by kernel_rfl) rfl rfl rfl rfl rfl rfl (fun _ => rfl) rfl (fun w G bs hI hΓ => f181 w n (by omega) m.vector pmVector cmVector (hΓ.get 1 rfl) ((ok_Member hokm).2.1)) ?_
          intro hq3
          refine DX.takes (fuel := 0) ttOk [(30, true), (31, true)] (by kernel_rfl) rfl ?_
          refine DX.tail2 [] rfl rfl (by kernel_rfl) ?_
          refine WX.run ttOk rfl ?_
          refine WX.cases 36 rfl (fun h5 => ?_) (fun h5 => ?_)
          · skip
            have h5d := B.nt' h5
            refine WX.run ttOk rfl ?_
            have hP5 : spec_ValidMember m = false := by simp only [spec_ValidMember, h1, h2, h3, h4, h5, cond_true, cond_false]
            refine WX.ret ttOk rfl ?_
            intro w1 G bs hI hΓ
            rw [hP5]
            exact ⟨rfl, trivial⟩
          · skip
            have h5d := B.nf' h5
            refine WX.run ttOk rfl ?_
            have r1 : (m.publications).length ≤ bd n := (okl (ok_Member hokm).2.2).1
            refine WX.loop (ι := Nat) ⟨fun i => (i ≤ (m.publications).length) ∧ (spec_ValidMember_L1 m m.publications 0 = spec_ValidMember_L1 m ((m.publications).drop i) i), fun i => (m.publications).length - i, fun i => [(3, .v (.int .i64 (((i : Nat) : Int)))), (1, .p 1 0)], fun i => [(1, ⟨42, [.slice pmName ((m.name.parts).length) cmName, .slice pmVector ((m.vector.entries).length) cmVector, .slice pmPublications ((m.publications).length) cmPublications]⟩)], fun i => [], fun i => [(0, MF.rs .stb pmName cmName m.name.parts), (1, MF.rs .stb pmVector cmVector m.vector.entries), (2, MF.rs .stb pmPublications cmPublications m.publications)]⟩ 0 ⟨(Nat.zero_le _), rfl⟩
              (.cons rfl (.cons rfl (.nil))) (.cons rfl (.nil)) .nil [0, 1, 2] rfl ?_
            rintro i hpre
            have hpre_ : (i ≤ (m.publications).length) ∧ (spec_ValidMember_L1 m m.publications 0 = spec_ValidMember_L1 m ((m.publications).drop i) i) := hpre
            clear hpre
            obtain ⟨v1, v2⟩ := hpre_
            refine WX.run ttOk rfl ?_
            refine WX.cases 41 rfl (fun h6 => ?_) (fun h6 => ?_)
            · skip
              have h6d := B.dt h6
              have e1i : i < (m.publications).length := (by omega)
              obtain ⟨e1, e1h⟩ : ∃ e1, (m.publications)[i]? = some e1 := ⟨_, List.getElem?_eq_getElem e1i⟩
              have ok1 : GoT.ok n e1 := (okl (ok_Member hokm).2.2).2 _ (List.mem_of_getElem? e1h)
              refine WX.run ttOk rfl ?_
              refine WX.idx 2 i ttOk rfl rfl rfl rfl rfl rfl rfl rfl rfl rfl e1i ?_
              rintro ad1 rfl
              refine WX.ldE 2 3 e1 ttOk rfl rfl rfl rfl rfl rfl rfl rfl e1h (fun _ => rfl) (fun _ => rfl) ?_
              rintro ⟨⟨p1, c1⟩, ⟨⟩, ⟨p2, c2⟩⟩
              refine WX.run ttOk rfl ?_
              refine WX.draw [] mixed ?_
              intro bs G0 hΓ0
              refine DX.takes (fuel := 21) ttOk [(0, true), (1, false), (2, true), (3, false), (4, true), (5, false)] (by kernel_rfl) rfl ?_
              refine DX.callV 6 rfl (by kernel_rfl) rfl rfl rfl rfl rfl rfl (fun _ => rfl) rfl (fun w G bs hI hΓ => f61 w n (by omega) m.vector pmVector cmVector (hΓ.get 1 rfl) e1.publisher p1 c1 (hΓ.get 3 rfl) ((ok_Member hokm).2.1) ((ok_Publication ok1).1)) ?_
              intro hq4
              refine DX.callV 7 rfl (by kernel_rfl) rfl rfl rfl rfl rfl rfl (fun _ => rfl) rfl (fun w G bs hI hΓ => f160 w n (by omega) e1.seq 1 (spec_SeqOf m.vector e1.publisher) ((ok_Publication ok1).2.1) (show I64 1 from (by unfold I64; omega)) hq4) ?_
              intro hq5
              refine DX.takes (fuel := 17) ttOk [(8, true), (9, true)] (by kernel_rfl) rfl ?_
              refine DX.cases 58 rfl (fun h7 => ?_) (fun h7 => ?_)
              · skip
                have h7d := (B.nt h7)
                refine DX.takes (fuel := 0) ttOk [(10, true), (11, true), (12, true), (13, true), (14, true), (15, true), (16, true), (17, true), (18, true), (19, true), (20, true), (21, true), (22, true), (23, true), (24, true), (25, true), (26, true)] (by kernel_rfl) rfl ?_
                refine DX.tail2 [] rfl rfl (by kernel_rfl) ?_
                refine WX.run ttOk rfl ?_
                have hP6 : spec_ValidMember_L1 m m.publications 0 = (some false) := by rw [v2, drop_get e1h]; simp only [spec_ValidMember_L1, h7, cond_true, cond_false]
                have hP7 : spec_ValidMember m = false := by simp only [spec_ValidMember, h1, h2, h3, h4, h5, hP6, cond_true, cond_false]
                refine WX.ret ttOk rfl ?_
                intro w1 G bs hI hΓ
                rw [hP7]
                exact ⟨rfl, trivial⟩
              · skip
                have h7d := (B.nf h7)
                have h7r := inR_spec (B.nf h7)
                refine DX.takes (fuel := 11) ttOk [(10, true), (11, false), (12, true), (13, true), (14, true), (15, true)] (by kernel_rfl) rfl ?_
                refine DX.cases 64 rfl (fun h8 => ?_) (fun h8 => ?_)
                · skip
                  have h8d := B.dt h8
                  refine DX.takes (fuel := 0) ttOk [(16, true), (17, true), (18, true), (19, true), (20, true), (21, true), (22, true), (23, true), (24, true), (25, true), (26, true)] (by kernel_rfl) rfl ?_
                  refine DX.tail2 [] rfl rfl (by kernel_rfl) ?_
                  refine WX.run ttOk rfl ?_
                  have hP8 : spec_ValidMember_L1 m m.publications 0 = (some false) := by rw [v2, drop_get e1h]; simp only [spec_ValidMember_L1, h7, h8, cond_true, cond_false]
                  have hP9 : spec_ValidMember m = false := by simp only [spec_ValidMember, h1, h2, h3, h4, h5, hP8, cond_true, cond_false]
                  refine WX.ret ttOk rfl ?_
                  intro w1 G bs hI hΓ
                  rw [hP9]
                  exact ⟨rfl, trivial⟩
                · skip
                  have h8d := B.df h8
                  refine DX.takes (fuel := 8) ttOk [(16, true), (17, false), (18, true)] (by kernel_rfl) rfl ?_
                  refine DX.seeP 19 (by kernel_rfl) rfl rfl rfl rfl (looksP_slH i ttOk rfl rfl rfl rfl (by simp) (Nat.le_trans (show i ≤ (m.publications).length from (by omega)) (hΓ0.get 2 rfl : RdSl _ _ _ _).1)) ?_
                  refine DX.slot 68 (y := .v (.slice (some ad1) (((List.take i m.publications)).length) cmPublications)) rfl (fun _ => by rw [show ((List.take i m.publications)).length = i from (by simp only [List.length_take]; have z_ := (show i ≤ (m.publications).length from (by omega)); omega)]) ?_
                  refine DX.der 5 (MF.rs .der (some ad1) cmPublications (List.take i m.publications)) rfl (fun _ hΓ => RdSl.pre (hΓ.get 2 rfl : RdSl _ _ _ _) i) ?_
                  refine DX.takes (fuel := 3) ttOk [(20, true), (21, false), (22, true), (23, false)] (by kernel_rfl) rfl ?_
                  refine DX.callV 24 rfl (by kernel_rfl) rfl rfl rfl rfl rfl rfl (fun _ => rfl) rfl (fun w G bs hI hΓ => f182 w n (by omega) (List.take i m.publications) (some ad1) cmPublications (hΓ.get 5 rfl) e1.publisher p1 c1 (hΓ.get 3 rfl) e1.seq (okl_mk (by first | assumption | omega | (simp only [List.length_append, List.length_cons, List.length_nil, List.length_set, List.length_map, List.length_take, List.length_drop]; omega) | (simp; omega)) (fun a ha => (okl (ok_Member hokm).2.2).2 a (List.mem_of_mem_take ha)) : GoT.ok n ((List.take i m.publications) : List Publication)) ((ok_Publication ok1).1) ((ok_Publication ok1).2.1)) ?_
                  intro hq6
                  have q1 := lt_l28Find (List.take i m.publications) e1.publisher e1.seq
                  refine DX.takes (fuel := 0) ttOk [(25, true), (26, true)] (by kernel_rfl) rfl ?_
                  refine DX.tail2 [] rfl rfl (by kernel_rfl) ?_
                  refine WX.run ttOk rfl ?_
                  refine WX.cases 75 rfl (fun h9 => ?_) (fun h9 => ?_)
                  · skip
                    have h9d := B.dt h9
                    refine WX.run ttOk rfl ?_
                    have hP10 : spec_ValidMember_L1 m m.publications 0 = (some false) := by rw [v2, drop_get e1h]; simp only [spec_ValidMember_L1, h7, h8, h9, cond_true, cond_false]
                    have hP11 : spec_ValidMember m = false := by simp only [spec_ValidMember, h1, h2, h3, h4, h5, hP10, cond_true, cond_false]
                    refine WX.ret ttOk rfl ?_
                    intro w1 G bs hI hΓ
                    rw [hP11]
                    exact ⟨rfl, trivial⟩
                  · skip
                    have h9d := B.df h9
                    refine WX.run ttOk rfl ?_
                    refine WX.see rfl rfl rfl (fun _ hΓ => looks_arith rfl rfl rfl rfl (by unfold I64; first | omega | (dsimp only; omega))) ?_
                    refine WX.run ttOk rfl ?_
                    exact WX.iter (i + 1) ⟨(by omega), (by rw [v2, drop_get e1h]; simp only [spec_ValidMember_L1, h7, h8, h9, cond_true, cond_false])⟩ (by first | (dsimp only; omega) | omega) (.cons rfl (.cons rfl (.nil))) (.cons rfl (.nil)) .nil [0, 1, 2] rfl
            · skip
              have h6d := B.df h6
              refine WX.run ttOk rfl ?_
              have hX1 : spec_ValidMember_L1 m m.publications 0 = none := by rw [v2, List.drop_eq_nil_of_le (show (m.publications).length ≤ i by omega)]; simp only [spec_ValidMember_L1, cond_true, cond_false]
              have hP12 : spec_ValidMember m = true := by simp only [spec_ValidMember, h1, h2, h3, h4, h5, hX1, cond_true, cond_false]
              refine WX.ret ttOk rfl ?_
              intro w1 G bs hI hΓ
              rw [hP12]
              exact ⟨rfl, trivial⟩
end Go.Proofs.YtfffongneoegbaaGreat

namespace Go.Stp
set_option linter.unusedVariables false
set_option linter.unusedSimpArgs false
def slices_Insert_TableEntry (s : List TableEntry) (i : Int) (v : List TableEntry) : List TableEntry := s.take i.toNat ++ v ++ s.drop i.toNat
end Go.Stp

namespace Go.Proofs.YtfffongneoegbaaGreat
open Go.Stp
set_option linter.unusedVariables false
set_option linter.unusedSimpArgs false
theorem ok_slices_Insert_TableEntry {n : Nat} {s v : List TableEntry} (hn : n + 1 ≤ 9) (i : Int) (h : GoT.ok n s) (hv : GoT.ok n v) : GoT.ok (n + 1) (slices_Insert_TableEntry s i v) := by
  have hbS0 := bd_succ (n := n) (by omega)
  have h1 := (okl h).1
  have h2 := (okl hv).1
  refine okl_mk (by unfold slices_Insert_TableEntry; simp only [List.length_append, List.length_take, List.length_drop]; omega) (fun a ha => GoT.okm (Nat.le_succ n) ?_)
  unfold slices_Insert_TableEntry at ha
  rcases List.mem_append.1 ha with ha | ha
  · rcases List.mem_append.1 ha with ha | ha
    · exact (okl h).2 a (List.mem_of_mem_take ha)
    · exact (okl hv).2 a ha
  · exact (okl h).2 a (List.mem_of_mem_drop ha)
theorem len_slices_Insert_TableEntry (s : List TableEntry) (i : Int) (v : List TableEntry) : (slices_Insert_TableEntry s i v).length = s.length + v.length := by
  unfold slices_Insert_TableEntry; simp only [List.length_append, List.length_take, List.length_drop]; omega
theorem f191 (w : World) (n : Nat) (hn : n + 1 ≤ 9) (s : List TableEntry) (ps : Option Addr) (cs : Nat) (i : Int) (v : List TableEntry) (pv : Option Addr) (cv : Nat) (H : GH) (hH : Le H (hp w)) (hown : Sep H (GoT.oa s (ps, cs) ++ GoT.oa v (pv, cv))) (hq0 : 0 ≤ i ∧ i ≤ (s.length : Int)) (hq1 : 0 < v.length) (hoks : GoT.ok n s) (hoki : GoT.ok n i) (hokv : GoT.ok n v) :
    Does Tryz.prog 191 #[.slice ps ((s).length) cs, .int .i64 i, .slice pv ((v).length) cv] w H (Post w H (fun x : GoT.X (List TableEntry) => (GoT.sh ((slices_Insert_TableEntry s i v) : List TableEntry) x).headD undef) (fun x => GoT.oa ((slices_Insert_TableEntry s i v) : List TableEntry) x) (GoT.ok (n + 1) ((slices_Insert_TableEntry s i v) : List TableEntry))) := by
  obtain ⟨m, rfl⟩ : ∃ m : Nat, i = (m : Int) := ⟨i.toNat, by omega⟩
  have hms : m ≤ s.length := by omega
  have hok := ok_slices_Insert_TableEntry hn (m : Int) hoks hokv
  have hlD := (len_slices_Insert_TableEntry s (m : Int) v).symm
  have hbP := bd_pos n
  have hbS0 := bd_succ (n := n) (by omega)
  have hbB := bd_big (n := n + 1) (by omega)
  have r1 : (s).length ≤ bd n := (okl hoks).1
  have r2 : (v).length ≤ bd n := (okl hokv).1
  refine WX.enterM (tt := tt) (Γ := []) 0 Tryz.func191 rfl (by kernel_rfl) rfl allS_nil hH hown (fun f hf => (List.mem_append.1 hf).elim (fun hf => GoT.oak f hf) (fun hf => GoT.oak f hf)) rfl ?_
  refine WX.run ttOk rfl ?_
  refine WX.see rfl rfl rfl (fun _ hΓ => looks_slL m ttOk rfl rfl rfl rfl rfl hms) ?_
  refine WX.run ttOk rfl ?_
  refine WX.cases 16 rfl (fun h1 => ?_) (fun h1 => ?_)
  · have := B.et h1; omega
  refine WX.run ttOk rfl ?_
  refine WX.cases 22 rfl (fun h2 => ?_) (fun h2 => ?_)
  · have h2d := B.et h2
    have hm : m = s.length := by omega
    have hP : slices_Insert_TableEntry s (m : Int) v = s ++ v := by unfold slices_Insert_TableEntry; simp [hm]
    refine WX.run ttOk rfl ?_
    refine WX.opn (kk := 2) 501 0 2 rfl rfl rfl ?_
    intro xs hx
    refine WX.opn (kk := 2) 502 1 3 rfl rfl rfl ?_
    intro ys hy
    refine WX.know (fun G hΓ => (hΓ.get 3 rfl : OwL _ _ _).rd.one) ?_
    intro hone
    refine WX.appR1 501 502 (s.length + v.length) ttOk rfl rfl rfl rfl rfl rfl rfl rfl rfl rfl rfl rfl rfl hone rfl (by omega) (by omega) (fun _ _ => rfl) ?_
    intro p1 c1
    refine WX.turn [2, 3] 4 rfl (fun h hs => ol_app hs) (gs := [MF.ol (xs ++ ys) (s ++ v)]) rfl ?_
    refine WX.seal 501 4 5 rfl rfl (show s.length + v.length = (s ++ v).length by simp) rfl rfl ?_
    refine WX.run ttOk rfl ?_
    refine WX.slot 6 (y := .v (.slice p1 (s ++ v).length c1)) rfl (fun _ => by rw [List.length_append]) ?_
    refine WX.ret ttOk rfl ?_
    intro w1 G bs hI hΓ
    rw [hP] at hok ⊢
    exact Post.of [6] (p1, c1) hI hΓ rfl rfl rfl hok
  · have h2d := B.ef h2
    have hm : m < s.length := by omega
    refine WX.run ttOk rfl ?_
    refine WX.see rfl rfl rfl (fun _ hΓ => looks_arith rfl rfl rfl rfl (by unfold I64; omega)) ?_
    refine WX.run ttOk rfl ?_
    refine WX.see rfl rfl rfl (fun _ hΓ => looks_cap ttOk rfl rfl rfl rfl) ?_
    refine WX.run ttOk rfl ?_
    refine WX.opn (kk := 2) 501 0 2 rfl rfl rfl ?_
    intro xs hx
    refine WX.opn (kk := 2) 502 1 3 rfl rfl rfl ?_
    intro ys hy
    refine WX.know (fun G hΓ => (hΓ.get 2 rfl : OwL _ _ _).rd.one) ?_
    intro honx
    refine WX.know (fun G hΓ => (hΓ.get 3 rfl : OwL _ _ _).rd.one) ?_
    intro hone
    refine WX.cap 501 rfl ?_
    intro hcap
    have hcap' : s.length ≤ cs := hcap
    refine WX.cases 31 rfl (fun h3 => ?_) (fun h3 => ?_)
    · have h3d := B.dt h3
      refine WX.run ttOk rfl ?_
      refine WX.see rfl rfl rfl (fun _ hΓ => looks_slH m ttOk rfl rfl rfl rfl rfl (by omega)) ?_
      refine WX.run ttOk rfl ?_
      refine WX.see rfl rfl rfl (fun _ hΓ => looks_arith rfl rfl rfl rfl (by unfold I64; omega)) ?_
      refine WX.run ttOk rfl ?_
      refine WX.see rfl rfl rfl (fun _ hΓ => looks_arith rfl rfl rfl rfl (by unfold I64; omega)) ?_
      refine WX.appZ 501 m (s.length + v.length - m) ttOk rfl rfl rfl rfl rfl rfl rfl rfl rfl (by omega) rfl rfl hms (by omega) (show cs < m + (s.length + v.length - m) by omega) (by omega) (by omega) rfl ?_
      intro pq cq
      refine WX.run ttOk rfl ?_
      refine WX.see rfl rfl rfl (fun _ hΓ => looks_slL m ttOk rfl rfl rfl rfl rfl (by omega)) ?_
      refine WX.run ttOk rfl ?_
      refine WX.cpy 40 m v.length ys ttOk rfl rfl rfl rfl rfl rfl rfl rfl rfl (show min v.length (m + (s.length + v.length - m) - m) = v.length by omega) (show m + v.length ≤ m + (s.length + v.length - m) by omega) hy hone (fun w G bs hI => src_cells0 (σ := 502) hI rfl) rfl ?_
      refine WX.run ttOk rfl ?_
      · refine WX.draw [8] mixed ?_
        intro bs G0 hΓ0
        refine DX.takes (fuel := 6) ttOk [(0, true), (1, true), (2, true)] (by kernel_rfl) rfl ?_
        refine DX.seeP 3 (by kernel_rfl) rfl rfl rfl rfl (looksP_arith rfl rfl rfl rfl (by unfold I64; omega)) ?_
        refine DX.seeP 4 (by kernel_rfl) rfl rfl rfl rfl (looksP_slL (m + v.length) ttOk rfl rfl rfl rfl (by omega) (by omega)) ?_
        refine DX.takes (fuel := 2) ttOk [(5, true), (6, true)] (by kernel_rfl) rfl ?_
        refine DX.seeP 7 (by kernel_rfl) rfl rfl rfl rfl (looksP_slL m ttOk rfl rfl rfl rfl rfl (by omega)) ?_
        refine DX.tail2 [8] rfl rfl (by kernel_rfl) ?_
        refine WX.cpy 40 (m + v.length) (s.length - m) ((xs.drop (m * 2)).take ((s.length - m) * 2)) ttOk rfl rfl rfl rfl rfl rfl rfl rfl rfl (show min (s.length - m) (m + (s.length + v.length - m) - (m + v.length)) = s.length - m by omega) (show m + v.length + (s.length - m) ≤ m + (s.length + v.length - m) by omega) (by rw [List.length_take, List.length_drop, hx, Nat.sub_mul]; omega) (fun u hu => honx u (List.mem_of_mem_drop (List.mem_of_mem_take hu))) (fun w G bs hI => src_cells (σ := 501) hI rfl m (s.length - m) (show m + (s.length - m) ≤ s.length by omega)) rfl ?_
        have hX := ins_new (zs := zrep (s.length + v.length - m) ([.slice none (0) 0, .int .i64 (0)] : List Value)) (v := v.length) hx hy (zrep_len ([.slice none (0) 0, .int .i64 (0)] : List Value) (s.length + v.length - m)) hms
        replace hlD : m + (s.length + v.length - m) = (slices_Insert_TableEntry s (m : Int) v).length := by omega
        refine WX.run ttOk rfl ?_
        refine WX.turn [2, 3] 4 rfl (fun h hs => by rw [show (((xs.take (m * 2) ++ zrep (s.length + v.length - m) ([.slice none (0) 0, .int .i64 (0)] : List Value)).take (m * 2) ++ ys ++ (xs.take (m * 2) ++ zrep (s.length + v.length - m) ([.slice none (0) 0, .int .i64 (0)] : List Value)).drop (m * 2 + ys.length)).take ((m + v.length) * 2) ++ ((xs.drop (m * 2)).take ((s.length - m) * 2)) ++ ((xs.take (m * 2) ++ zrep (s.length + v.length - m) ([.slice none (0) 0, .int .i64 (0)] : List Value)).take (m * 2) ++ ys ++ (xs.take (m * 2) ++ zrep (s.length + v.length - m) ([.slice none (0) 0, .int .i64 (0)] : List Value)).drop (m * 2 + ys.length)).drop ((m + v.length) * 2 + ((xs.drop (m * 2)).take ((s.length - m) * 2)).length)) = xs.take (m * 2) ++ ys ++ xs.drop (m * 2) from hX]; exact ol_insert m (by omega) hs) (gs := [MF.ol (((xs.take (m * 2) ++ zrep (s.length + v.length - m) ([.slice none (0) 0, .int .i64 (0)] : List Value)).take (m * 2) ++ ys ++ (xs.take (m * 2) ++ zrep (s.length + v.length - m) ([.slice none (0) 0, .int .i64 (0)] : List Value)).drop (m * 2 + ys.length)).take ((m + v.length) * 2) ++ ((xs.drop (m * 2)).take ((s.length - m) * 2)) ++ ((xs.take (m * 2) ++ zrep (s.length + v.length - m) ([.slice none (0) 0, .int .i64 (0)] : List Value)).take (m * 2) ++ ys ++ (xs.take (m * 2) ++ zrep (s.length + v.length - m) ([.slice none (0) 0, .int .i64 (0)] : List Value)).drop (m * 2 + ys.length)).drop ((m + v.length) * 2 + ((xs.drop (m * 2)).take ((s.length - m) * 2)).length)) (slices_Insert_TableEntry s (m : Int) v)]) rfl ?_
        refine WX.seal 40 4 5 rfl rfl (show _ = (slices_Insert_TableEntry s (m : Int) v).length from hlD) rfl rfl ?_
        refine WX.slot 6 (y := .v (.slice pq (slices_Insert_TableEntry s (m : Int) v).length cq)) rfl (fun _ => by rw [show (slices_Insert_TableEntry s (m : Int) v).length = _ from hlD.symm]) ?_
        refine WX.ret ttOk rfl ?_
        intro w1 G bs hI hΓ
        exact Post.of [6] (pq, cq) hI hΓ rfl rfl rfl hok
    · have h3d := B.df h3
      refine WX.run ttOk rfl ?_
      refine WX.see rfl rfl rfl (fun _ hΓ => looks_arith rfl rfl rfl rfl (by unfold I64; omega)) ?_
      refine WX.run ttOk rfl ?_
      refine WX.see rfl rfl rfl (fun _ hΓ => looks_slH (s.length + v.length) ttOk rfl rfl rfl rfl rfl (by omega)) ?_
      refine WX.widen 501 (s.length + v.length) rfl (show s.length ≤ s.length + v.length by omega) (show s.length + v.length ≤ cs by omega) (fun _ => rfl) ?_
      intro jk hjk
      refine WX.run ttOk rfl ?_
      refine WX.see rfl rfl rfl (fun _ hΓ => looks_arith rfl rfl rfl rfl (by unfold I64; omega)) ?_
      refine WX.run ttOk rfl ?_
      refine WX.see rfl rfl rfl (fun _ hΓ => looks_slL (m + v.length) ttOk rfl rfl rfl rfl rfl (by omega)) ?_
      refine WX.ovl (T := 37) (tR := 4) 502 501 (m + v.length) ttOk rfl rfl rfl rfl rfl (fun _ => rfl) Tryz.func293 (by kernel_rfl) (by kernel_rfl) (by kernel_rfl) (by kernel_rfl) rfl rfl rfl rfl rfl rfl rfl (show 0 < v.length from hq1) (show m + v.length < s.length + v.length by omega) ?_
      refine WX.run ttOk rfl ?_
      · refine WX.draw [8] mixed ?_
        intro bs G0 hΓ0
        refine DX.takes (fuel := 6) ttOk [(0, true), (1, true), (2, true)] (by kernel_rfl) rfl ?_
        refine DX.seeP 3 (by kernel_rfl) rfl rfl rfl rfl (looksP_arith rfl rfl rfl rfl (by unfold I64; omega)) ?_
        refine DX.seeP 4 (by kernel_rfl) rfl rfl rfl rfl (looksP_slL (m + v.length) ttOk rfl rfl rfl rfl (by omega) (by omega)) ?_
        refine DX.takes (fuel := 2) ttOk [(5, true), (6, true)] (by kernel_rfl) rfl ?_
        refine DX.seeP 7 (by kernel_rfl) rfl rfl rfl rfl (looksP_slL m ttOk rfl rfl rfl rfl rfl (by omega)) ?_
        refine DX.tail2 [8] rfl rfl (by kernel_rfl) ?_
        refine WX.cpy 501 (m + v.length) (s.length - m) (((xs ++ jk).drop (m * 2)).take ((s.length - m) * 2)) ttOk rfl rfl rfl rfl rfl rfl rfl rfl rfl (show min (s.length + v.length - m) (s.length + v.length - (m + v.length)) = s.length - m by omega) (show m + v.length + (s.length - m) ≤ s.length + v.length by omega) (by rw [List.length_take, List.length_drop, List.length_append, hx, hjk, Nat.sub_mul]; omega) (fun u hu => ?_) (fun w G bs hI => src_cells (σ := 501) hI rfl m (s.length - m) (show m + (s.length - m) ≤ s.length + v.length by omega)) rfl ?_
        · refine honx u ?_
          have h6 : (((xs ++ jk).drop (m * 2)).take ((s.length - m) * 2)) = ((xs.drop (m * 2)).take ((s.length - m) * 2)) := by rw [List.drop_append_of_le_length (by rw [hx]; exact Nat.mul_le_mul_right _ hms), List.take_append_of_le_length (by rw [List.length_drop, hx, Nat.sub_mul]; exact Nat.le_refl _)]
          rw [h6] at hu
          exact List.mem_of_mem_drop (List.mem_of_mem_take hu)
        refine WX.run ttOk rfl ?_
        refine WX.see rfl rfl rfl (fun _ hΓ => looks_slL m ttOk rfl rfl rfl rfl rfl (by omega)) ?_
        refine WX.run ttOk rfl ?_
        refine WX.cpy 501 m v.length ys ttOk rfl rfl rfl rfl rfl rfl rfl rfl rfl (show min v.length (s.length + v.length - m) = v.length by omega) (show m + v.length ≤ s.length + v.length by omega) hy hone (fun w G bs hI => src_cells0 (σ := 502) hI rfl) rfl ?_
        have hX := ins_old (n := s.length) (v := v.length) hx hy hjk hms
        refine WX.run ttOk rfl ?_
        refine WX.turn [2, 3] 4 rfl (fun h hs => by rw [show (((xs ++ jk).take ((m + v.length) * 2) ++ (((xs ++ jk).drop (m * 2)).take ((s.length - m) * 2)) ++ (xs ++ jk).drop ((m + v.length) * 2 + (((xs ++ jk).drop (m * 2)).take ((s.length - m) * 2)).length)).take (m * 2) ++ ys ++ ((xs ++ jk).take ((m + v.length) * 2) ++ (((xs ++ jk).drop (m * 2)).take ((s.length - m) * 2)) ++ (xs ++ jk).drop ((m + v.length) * 2 + (((xs ++ jk).drop (m * 2)).take ((s.length - m) * 2)).length)).drop (m * 2 + ys.length)) = xs.take (m * 2) ++ ys ++ xs.drop (m * 2) from hX]; exact ol_insert m (by omega) hs) (gs := [MF.ol (((xs ++ jk).take ((m + v.length) * 2) ++ (((xs ++ jk).drop (m * 2)).take ((s.length - m) * 2)) ++ (xs ++ jk).drop ((m + v.length) * 2 + (((xs ++ jk).drop (m * 2)).take ((s.length - m) * 2)).length)).take (m * 2) ++ ys ++ ((xs ++ jk).take ((m + v.length) * 2) ++ (((xs ++ jk).drop (m * 2)).take ((s.length - m) * 2)) ++ (xs ++ jk).drop ((m + v.length) * 2 + (((xs ++ jk).drop (m * 2)).take ((s.length - m) * 2)).length)).drop (m * 2 + ys.length)) (slices_Insert_TableEntry s (m : Int) v)]) rfl ?_
        refine WX.seal 501 4 5 rfl rfl (show _ = (slices_Insert_TableEntry s (m : Int) v).length from hlD) rfl rfl ?_
        refine WX.slot 6 (y := .v (.slice ps (slices_Insert_TableEntry s (m : Int) v).length cs)) rfl (fun _ => by rw [show (slices_Insert_TableEntry s (m : Int) v).length = _ from hlD.symm]) ?_
        refine WX.ret ttOk rfl ?_
        intro w1 G bs hI hΓ
        exact Post.of [6] (ps, cs) hI hΓ rfl rfl rfl hok
end Go.Proofs.YtfffongneoegbaaGreat

namespace Go.Stp
set_option linter.unusedVariables false
set_option linter.unusedSimpArgs false
def impl_copyTable_c1 (e_ : TableEntry) : Bool :=
  true
def impl_keepTable_L1 (keepq : TableEntry → Bool) : List TableEntry → (List TableEntry) → (List TableEntry)
  | [], out => ((out) : List TableEntry)
  | e1 :: rest_, out =>
    bif keepq e1 then
      impl_keepTable_L1 keepq rest_ (((out ++ [(TableEntry.mk (impl_copyName e1.name) e1.value)])) : List TableEntry)
    else
      impl_keepTable_L1 keepq rest_ ((out) : List TableEntry)
def impl_keepTable (l : (List TableEntry)) (keepq : TableEntry → Bool) : (List TableEntry) :=
  match impl_keepTable_L1 keepq l ([] : List TableEntry) with
    | out =>
      out
def impl_copyTable (l : (List TableEntry)) : (List TableEntry) :=
  (impl_keepTable l (fun e0_ => (impl_copyTable_c1 e0_)))
theorem kTL : ∀ (l o : List TableEntry), impl_keepTable_L1 (fun e0_ => impl_copyTable_c1 e0_) l o = o ++ l
  | [], o => by simp [impl_keepTable_L1]
  | x :: l, o => by
    simp only [impl_keepTable_L1]
    rw [show impl_copyTable_c1 x = true from rfl, cond_true, kTL l]
    simp [impl_copyName]
theorem cT_impl (l : List TableEntry) : impl_copyTable l = l := by simp [impl_copyTable, impl_keepTable, kTL]
theorem len_copyTable (l : List TableEntry) : (impl_copyTable l).length = l.length := by rw [cT_impl]
def spec_l6Copy_L1 : List TableEntry → (List TableEntry) → (List TableEntry)
  | [], out => ((out) : List TableEntry)
  | e1 :: rest_, out =>
    spec_l6Copy_L1 rest_ (((out ++ [(TableEntry.mk (spec_l4Copy e1.name) e1.value)])) : List TableEntry)
def spec_l6Copy (l : (List TableEntry)) : (List TableEntry) :=
  match spec_l6Copy_L1 l ([] : List TableEntry) with
    | out =>
      out
theorem l6L : ∀ (l o : List TableEntry), spec_l6Copy_L1 l o = o ++ l
  | [], o => by simp [spec_l6Copy_L1]
  | x :: l, o => by
    simp only [spec_l6Copy_L1]
    rw [l6L l]
    simp [spec_l4Copy]
theorem cT_spec (l : List TableEntry) : spec_l6Copy l = l := by simp [spec_l6Copy, l6L]
theorem len_l6Copy (l : List TableEntry) : (spec_l6Copy l).length = l.length := by rw [cT_spec]
def impl_PutEntry_c1 (n_ : Name) (e_ : TableEntry) : Bool :=
  (decide ((impl_CompareNames e_.name n_) > 0))
def impl_PutEntry (l : (List TableEntry)) (n_ : Name) (v : Int) : (List TableEntry) × Bool :=
  bif decide ((impl_indexOfName l n_) ≥ 0) then
    match ((impl_copyTable l))[((impl_indexOfName l n_)).toNat]? with
      | none => default
      | some e1 =>
        bif (!(impl_ValidTable ((impl_copyTable l).set (((impl_indexOfName l n_)).toNat) (TableEntry.mk e1.name v)))) then
          ((impl_copyTable l), false)
        else
          (((impl_copyTable l).set (((impl_indexOfName l n_)).toNat) (TableEntry.mk e1.name v)), true)
  else
    bif decide ((slices_IndexFunc_TableEntry l (fun e0_ => (impl_PutEntry_c1 n_ e0_))) < 0) then
      bif (!(impl_ValidTable (slices_Insert_TableEntry (impl_copyTable l) (((l).length : Nat) : Int) ([(TableEntry.mk (impl_copyName n_) v)])))) then
        ((impl_copyTable l), false)
      else
        ((slices_Insert_TableEntry (impl_copyTable l) (((l).length : Nat) : Int) ([(TableEntry.mk (impl_copyName n_) v)])), true)
    else
      bif (!(impl_ValidTable (slices_Insert_TableEntry (impl_copyTable l) (slices_IndexFunc_TableEntry l (fun e0_ => (impl_PutEntry_c1 n_ e0_))) ([(TableEntry.mk (impl_copyName n_) v)])))) then
        ((impl_copyTable l), false)
      else
        ((slices_Insert_TableEntry (impl_copyTable l) (slices_IndexFunc_TableEntry l (fun e0_ => (impl_PutEntry_c1 n_ e0_))) ([(TableEntry.mk (impl_copyName n_) v)])), true)
def spec_PutEntry_L1 (l : (List TableEntry)) (n_ : Name) (i : Nat) : Nat :=
  if ((i : Nat) : Int) < ((((spec_l6Copy l)).length : Nat) : Int) then
    match ((spec_l6Copy l))[i]? with
      | none => default
      | some e2 =>
        if (spec_CompareNames e2.name n_) < 0 then
          spec_PutEntry_L1 l n_ (i + 1)
        else
          i
  else
    i
termination_by (spec_l6Copy l).length - i
decreasing_by all_goals (simp_wf; omega)
def spec_PutEntry (l : (List TableEntry)) (n_ : Name) (v : Int) : (List TableEntry) × Bool :=
  bif decide ((spec_l6Find l n_) ≥ 0) then
    match ((spec_l6Copy l))[((spec_l6Find l n_)).toNat]? with
      | none => default
      | some e1 =>
        bif (!(spec_ValidTable ((spec_l6Copy l).set (((spec_l6Find l n_)).toNat) (TableEntry.mk e1.name v)))) then
          ((spec_l6Copy l), false)
        else
          (((spec_l6Copy l).set (((spec_l6Find l n_)).toNat) (TableEntry.mk e1.name v)), true)
  else
    match spec_PutEntry_L1 l n_ 0 with
      | i =>
        bif (!(spec_ValidTable (((List.take i (spec_l6Copy l)) ++ [(TableEntry.mk (spec_l4Copy n_) v)]) ++ (List.drop i (spec_l6Copy l))))) then
          ((spec_l6Copy l), false)
        else
          ((((List.take i (spec_l6Copy l)) ++ [(TableEntry.mk (spec_l4Copy n_) v)]) ++ (List.drop i (spec_l6Copy l))), true)
inductive PutShape (l : List TableEntry) (n_ : Name) (v : Int) : List TableEntry → Prop
  | same : PutShape l n_ v l
  | nil : PutShape l n_ v []
  | set (i : Nat) (e : TableEntry) (h : l[i]? = some e) : PutShape l n_ v (l.set i ⟨e.name, v⟩)
  | ins (i : Nat) : PutShape l n_ v (l.take i ++ [⟨n_, v⟩] ++ l.drop i)
theorem PutShape.len {l r : List TableEntry} {n_ : Name} {v : Int} (h : PutShape l n_ v r) : r.length ≤ l.length + 1 := by
  cases h with
  | same => exact Nat.le_succ _
  | nil => exact Nat.zero_le _
  | set i e h => rw [List.length_set]; exact Nat.le_succ _
  | ins i => simp only [List.length_append, List.length_take, List.length_drop, List.length_cons, List.length_nil]; omega
theorem PutShape.els {l r : List TableEntry} {n_ : Name} {v : Int} {k : Nat} (h : PutShape l n_ v r) (hl : ∀ a ∈ l, GoT.ok k a) (hn : GoT.ok k n_) (hv : GoT.ok k v) : ∀ a ∈ r, GoT.ok k a := by
  intro a ha
  cases h with
  | same => exact hl a ha
  | nil => cases ha
  | set i e h =>
    rcases List.mem_or_eq_of_mem_set ha with ha | rfl
    · exact hl a ha
    · exact ⟨(ok_TableEntry (hl e (List.mem_of_getElem? h))).1, hv⟩
  | ins i =>
    rcases List.mem_append.1 ha with ha | ha
    · rcases List.mem_append.1 ha with ha | ha
      · exact hl a (List.mem_of_mem_take ha)
      · obtain rfl := List.mem_singleton.1 ha
        exact ⟨hn, hv⟩
    · exact hl a (List.mem_of_mem_drop ha)
theorem put_bif {P : List TableEntry → Prop} {c : Bool} {a b : List TableEntry × Bool} (h1 : P a.1) (h2 : P b.1) : P (bif c then a else b).1 := by
  cases c
  · exact h2
  · exact h1
theorem put_impl (l : List TableEntry) (n_ : Name) (v : Int) : PutShape l n_ v (impl_PutEntry l n_ v).1 := by
  unfold impl_PutEntry
  rw [cT_impl]
  refine put_bif ?_ (put_bif (put_bif .same ?_) (put_bif .same ?_))
  · cases h : l[(impl_indexOfName l n_).toNat]? with
    | none => exact .nil
    | some e1 => exact put_bif .same (.set _ e1 h)
  · exact .ins _
  · exact .ins _
theorem put_spec (l : List TableEntry) (n_ : Name) (v : Int) : PutShape l n_ v (spec_PutEntry l n_ v).1 := by
  unfold spec_PutEntry
  rw [cT_spec]
  refine put_bif ?_ (put_bif .same ?_)
  · cases h : l[(spec_l6Find l n_).toNat]? with
    | none => exact .nil
    | some e1 => exact put_bif .same (.set _ e1 h)
  · exact .ins _
end Go.Stp

