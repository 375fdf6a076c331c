/-
  That functions of the program compute what the Lean functions do. No condition but what each says. Written by a program (gen2.py).
-/
import Derived.Test.YtikbfiljomdmiabC9
import Derived.Test.YtikbfiljomdmiabP10
namespace Go.Proofs.Ytikbfiljomdmiab
open Go.Stp
set_option linter.unusedVariables false
set_option linter.unusedSimpArgs false
theorem f84 (w : World) (n : Nat) (hn : n + 0 ≤ 9) (v : StateVector) (pv : Option Addr) (cv : Nat) (hpv : RdSl (hp w) pv cv v.entries) (hokv : GoT.ok n v) :
    Does Try.prog 84 #[.agg #[.slice pv ((v.entries).length) cv]] w emp (fun (rv : Value) (_ : World) => rv = .int .i64 ((impl_VectorSum v)) ∧ GoT.ok n ((impl_VectorSum v) : Int)) := by
  have hbP := bd_pos n
  have hbB := bd_big (n := n) (by omega)
  refine WX.enter (tt := tt) (Γ := [(0, MF.rs .stb pv cv v.entries)]) Try.func84 rfl (by kernel_rfl) rfl (allS_cons rfl hpv allS_nil) ?_
  refine WX.run ttOk rfl ?_
  have r1 : (v.entries).length ≤ bd n := (okl (ok_StateVector hokv)).1
  refine WX.loop (ι := Int × Nat) ⟨fun | (sum_, i) => (i ≤ (v.entries).length) ∧ (-9223372036854775808 ≤ sum_ ∧ sum_ ≤ 9223372036854775807) ∧ (impl_VectorSum_L1 v.entries 0 = impl_VectorSum_L1 ((v.entries).drop i) sum_), fun | (sum_, i) => (v.entries).length - i, fun | (sum_, i) => [(3, .v (.int .i64 (sum_))), (9, .v (.int .i64 (((i : Nat) : Int)))), (8, .v (.int .i64 ((((v.entries).length : Nat) : Int)))), (7, .v (.slice pv ((v.entries).length) cv))], fun | (sum_, i) => [], fun | (sum_, i) => [], fun | (sum_, i) => [(0, MF.rs .stb pv cv v.entries)]⟩ (0, 0) ⟨(Nat.zero_le _), (by first | assumption | omega), rfl⟩
    (.cons rfl (.cons rfl (.cons rfl (.cons rfl (.nil))))) .nil .nil [0] rfl ?_
  rintro ⟨sum_, i⟩ hpre
  have hpre_ : (i ≤ (v.entries).length) ∧ (-9223372036854775808 ≤ sum_ ∧ sum_ ≤ 9223372036854775807) ∧ (impl_VectorSum_L1 v.entries 0 = impl_VectorSum_L1 ((v.entries).drop i) sum_) := hpre
  clear hpre
  obtain ⟨v1, v2, v3⟩ := hpre_
  refine WX.run ttOk rfl ?_
  refine WX.cases 10 rfl (fun h1 => ?_) (fun h1 => ?_)
  · skip
    have h1d := B.dt h1
    have e1i : i < (v.entries).length := (by omega)
    obtain ⟨e1, e1h⟩ : ∃ e1, (v.entries)[i]? = some e1 := ⟨_, List.getElem?_eq_getElem e1i⟩
    have ok1 : GoT.ok n e1 := (okl (ok_StateVector hokv)).2 _ (List.mem_of_getElem? e1h)
    refine WX.run ttOk rfl ?_
    refine WX.idx 0 i ttOk rfl rfl rfl rfl rfl rfl rfl rfl rfl rfl e1i ?_
    rintro ad1 rfl
    refine WX.ldE 0 1 e1 ttOk rfl rfl rfl rfl rfl rfl rfl rfl e1h (fun _ => rfl) (fun _ => rfl) ?_
    rintro ⟨⟨p1, c1⟩, ⟨⟩⟩
    refine WX.run ttOk rfl ?_
    refine WX.see rfl rfl rfl (fun _ hΓ => looks_wrap rfl rfl rfl rfl) ?_
    refine WX.run ttOk rfl ?_
    refine WX.see rfl rfl rfl (fun _ hΓ => looks_arith rfl rfl rfl rfl (by unfold I64; omega)) ?_
    refine WX.run ttOk rfl ?_
    exact WX.iter (IntKind.i64.wrap (sum_ + e1.value), i + 1) ⟨(by omega), (i64_wrap _), (by rw [v3, drop_get e1h]; simp only [impl_VectorSum_L1, cond_true, cond_false])⟩ (by dsimp only; omega) (.cons rfl (.cons rfl (.cons rfl (.cons rfl (.nil))))) .nil .nil [0] rfl
  · skip
    have h1d := B.df h1
    refine WX.run ttOk rfl ?_
    have hX1 : impl_VectorSum_L1 v.entries 0 = sum_ := by rw [v3, List.drop_eq_nil_of_le (show (v.entries).length ≤ i by omega)]; simp only [impl_VectorSum_L1, cond_true, cond_false]
    have hP1 : impl_VectorSum v = sum_ := by simp only [impl_VectorSum, hX1, cond_true, cond_false]
    refine WX.ret ttOk rfl ?_
    intro w1 G bs hI hΓ
    rw [hP1]
    exact ⟨rfl, v2⟩
theorem f75 (w : World) (n : Nat) (hn : n + 0 ≤ 9) (v : StateVector) (pv : Option Addr) (cv : Nat) (hpv : RdSl (hp w) pv cv v.entries) (hokv : GoT.ok n v) :
    Does Try.prog 75 #[.agg #[.slice pv ((v.entries).length) cv]] w emp (fun (rv : Value) (_ : World) => rv = .int .i64 ((spec_VectorSum v)) ∧ GoT.ok n ((spec_VectorSum v) : Int)) := by
  have hbP := bd_pos n
  have hbB := bd_big (n := n) (by omega)
  refine WX.enter (tt := tt) (Γ := [(0, MF.rs .stb pv cv v.entries)]) Try.func75 rfl (by kernel_rfl) rfl (allS_cons rfl hpv allS_nil) ?_
  refine WX.run ttOk rfl ?_
  have r1 : (v.entries).length ≤ bd n := (okl (ok_StateVector hokv)).1
  refine WX.loop (ι := Int × Nat) ⟨fun | (n_, i) => (i ≤ (v.entries).length) ∧ (-9223372036854775808 ≤ n_ ∧ n_ ≤ 9223372036854775807) ∧ (spec_VectorSum_L1 v.entries 0 = spec_VectorSum_L1 ((v.entries).drop i) n_), fun | (n_, i) => (v.entries).length - i, fun | (n_, i) => [(3, .v (.int .i64 (n_))), (4, .v (.int .i64 (((i : Nat) : Int)))), (1, .p 1 0)], fun | (n_, i) => [(1, ⟨74, [.slice pv ((v.entries).length) cv]⟩)], fun | (n_, i) => [], fun | (n_, i) => [(0, MF.rs .stb pv cv v.entries)]⟩ (0, 0) ⟨(Nat.zero_le _), (by first | assumption | omega), rfl⟩
    (.cons rfl (.cons rfl (.cons rfl (.nil)))) (.cons rfl (.nil)) .nil [0] rfl ?_
  rintro ⟨n_, i⟩ hpre
  have hpre_ : (i ≤ (v.entries).length) ∧ (-9223372036854775808 ≤ n_ ∧ n_ ≤ 9223372036854775807) ∧ (spec_VectorSum_L1 v.entries 0 = spec_VectorSum_L1 ((v.entries).drop i) n_) := hpre
  clear hpre
  obtain ⟨v1, v2, v3⟩ := hpre_
  refine WX.run ttOk rfl ?_
  refine WX.cases 9 rfl (fun h1 => ?_) (fun h1 => ?_)
  · skip
    have h1d := B.dt h1
    have e1i : i < (v.entries).length := (by omega)
    obtain ⟨e1, e1h⟩ : ∃ e1, (v.entries)[i]? = some e1 := ⟨_, List.getElem?_eq_getElem e1i⟩
    have ok1 : GoT.ok n e1 := (okl (ok_StateVector hokv)).2 _ (List.mem_of_getElem? e1h)
    refine WX.run ttOk rfl ?_
    refine WX.idx 0 i ttOk rfl rfl rfl rfl rfl rfl rfl rfl rfl rfl e1i ?_
    rintro ad1 rfl
    refine WX.run ttOk rfl ?_
    refine WX.ldE 0 1 e1 ttOk rfl rfl rfl rfl rfl rfl rfl rfl e1h (fun _ => rfl) (fun _ => rfl) ?_
    rintro ⟨⟨p1, c1⟩, ⟨⟩⟩
    refine WX.see rfl rfl rfl (fun _ hΓ => looks_wrap rfl rfl rfl rfl) ?_
    refine WX.run ttOk rfl ?_
    refine WX.see rfl rfl rfl (fun _ hΓ => looks_arith rfl rfl rfl rfl (by unfold I64; omega)) ?_
    refine WX.run ttOk rfl ?_
    exact WX.iter (IntKind.i64.wrap (n_ + e1.value), i + 1) ⟨(by omega), (i64_wrap _), (by rw [v3, drop_get e1h]; simp only [spec_VectorSum_L1, cond_true, cond_false])⟩ (by dsimp only; omega) (.cons rfl (.cons rfl (.cons rfl (.nil)))) (.cons rfl (.nil)) .nil [0] rfl
  · skip
    have h1d := B.df h1
    refine WX.run ttOk rfl ?_
    have hX1 : spec_VectorSum_L1 v.entries 0 = n_ := by rw [v3, List.drop_eq_nil_of_le (show (v.entries).length ≤ i by omega)]; simp only [spec_VectorSum_L1, cond_true, cond_false]
    have hP1 : spec_VectorSum v = n_ := by simp only [spec_VectorSum, hX1, cond_true, cond_false]
    refine WX.ret ttOk rfl ?_
    intro w1 G bs hI hΓ
    rw [hP1]
    exact ⟨rfl, v2⟩
theorem f39 (w : World) (n : Nat) (hn : n + 0 ≤ 9) (m : Member) (pmName : Option Addr) (cmName : Nat) (hpmName : RdSl (hp w) pmName cmName m.name.parts) (pmVector : Option Addr) (cmVector : Nat) (hpmVector : RdSl (hp w) pmVector cmVector m.vector.entries) (pmPublications : Option Addr) (cmPublications : Nat) (hpmPublications : RdSl (hp w) pmPublications cmPublications m.publications) (hokm : GoT.ok n m) :
    Does Try.prog 39 #[.agg #[.slice pmName ((m.name.parts).length) cmName, .slice pmVector ((m.vector.entries).length) cmVector, .slice pmPublications ((m.publications).length) cmPublications]] w emp (fun (rv : Value) (_ : World) => rv = .bool (impl_ValidMember m) ∧ True) := by
  have hbP := bd_pos n
  have hbB := bd_big (n := n) (by omega)
  refine WX.enter (tt := tt) (Γ := [(0, MF.rs .stb pmName cmName m.name.parts), (1, MF.rs .stb pmVector cmVector m.vector.entries), (2, MF.rs .stb pmPublications cmPublications m.publications)]) Try.func39 rfl (by kernel_rfl) rfl (allS_cons rfl hpmName (allS_cons rfl hpmVector (allS_cons rfl hpmPublications allS_nil))) ?_
  refine WX.run ttOk rfl ?_
  refine WX.callV rfl rfl rfl rfl rfl (fun _ => rfl) rfl (fun w G bs hI hΓ => f80 w n (by omega) m.name pmName cmName (hΓ.get 0 rfl) ((ok_Member hokm).1)) ?_
  intro hq1
  refine WX.run ttOk rfl ?_
  refine WX.cases 9 rfl (fun h1 => ?_) (fun h1 => ?_)
  · skip
    have h1d := (B.nt h1)
    refine WX.run ttOk rfl ?_
    have hP1 : impl_ValidMember m = false := by simp only [impl_ValidMember, h1, cond_true, cond_false]
    refine WX.ret ttOk rfl ?_
    intro w1 G bs hI hΓ
    rw [hP1]
    exact ⟨rfl, trivial⟩
  · skip
    have h1d := (B.nf h1)
    refine WX.run ttOk rfl ?_
    refine WX.cases 16 rfl (fun h2 => ?_) (fun h2 => ?_)
    · skip
      have h2d := B.et h2
      refine WX.run ttOk rfl ?_
      have hP2 : impl_ValidMember m = false := by simp only [impl_ValidMember, h1, h2, cond_true, cond_false]
      refine WX.ret ttOk rfl ?_
      intro w1 G bs hI hΓ
      rw [hP2]
      exact ⟨rfl, trivial⟩
    · skip
      have h2d := B.ef h2
      refine WX.run ttOk rfl ?_
      refine WX.callV rfl rfl rfl rfl rfl (fun _ => rfl) rfl (fun w G bs hI hΓ => f81 w n (by omega) m.vector pmVector cmVector (hΓ.get 1 rfl) ((ok_Member hokm).2.1)) ?_
      intro hq2
      refine WX.run ttOk rfl ?_
      refine WX.cases 22 rfl (fun h3 => ?_) (fun h3 => ?_)
      · skip
        have h3d := (B.nt h3)
        refine WX.run ttOk rfl ?_
        have hP3 : impl_ValidMember m = false := by simp only [impl_ValidMember, h1, h2, h3, cond_true, cond_false]
        refine WX.ret ttOk rfl ?_
        intro w1 G bs hI hΓ
        rw [hP3]
        exact ⟨rfl, trivial⟩
      · skip
        have h3d := (B.nf h3)
        refine WX.run ttOk rfl ?_
        refine WX.cases 27 rfl (fun h4 => ?_) (fun h4 => ?_)
        · skip
          have h4d := B.dt h4
          refine WX.run ttOk rfl ?_
          have hP4 : impl_ValidMember m = false := by simp only [impl_ValidMember, h1, h2, h3, h4, cond_true, cond_false]
          refine WX.ret ttOk rfl ?_
          intro w1 G bs hI hΓ
          rw [hP4]
          exact ⟨rfl, trivial⟩
        · skip
          have h4d := B.df h4
          refine WX.run ttOk rfl ?_
          have r1 : (m.publications).length ≤ bd n := (okl (ok_Member hokm).2.2).1
          refine WX.loop (ι := Nat) ⟨fun i => (i ≤ (m.publications).length) ∧ (impl_ValidMember_L1 m m.publications 0 = impl_ValidMember_L1 m ((m.publications).drop i) i), fun i => (m.publications).length - i, fun i => [(31, .v (.int .i64 (((i : Nat) : Int)))), (30, .v (.int .i64 ((((m.publications).length : Nat) : Int)))), (29, .v (.slice pmPublications ((m.publications).length) cmPublications)), (1, .p 1 0)], fun i => [(1, ⟨77, [.slice pmName ((m.name.parts).length) cmName, .slice pmVector ((m.vector.entries).length) cmVector, .slice pmPublications ((m.publications).length) cmPublications]⟩)], fun i => [], fun i => [(0, MF.rs .stb pmName cmName m.name.parts), (1, MF.rs .stb pmVector cmVector m.vector.entries), (2, MF.rs .stb pmPublications cmPublications m.publications)]⟩ 0 ⟨(Nat.zero_le _), rfl⟩
            (.cons rfl (.cons rfl (.cons rfl (.cons rfl (.nil))))) (.cons rfl (.nil)) .nil [0, 1, 2] rfl ?_
          rintro i hpre
          have hpre_ : (i ≤ (m.publications).length) ∧ (impl_ValidMember_L1 m m.publications 0 = impl_ValidMember_L1 m ((m.publications).drop i) i) := hpre
          clear hpre
          obtain ⟨v1, v2⟩ := hpre_
          refine WX.run ttOk rfl ?_
          refine WX.cases 32 rfl (fun h5 => ?_) (fun h5 => ?_)
          · skip
            have h5d := B.dt h5
            have e1i : i < (m.publications).length := (by omega)
            obtain ⟨e1, e1h⟩ : ∃ e1, (m.publications)[i]? = some e1 := ⟨_, List.getElem?_eq_getElem e1i⟩
            have ok1 : GoT.ok n e1 := (okl (ok_Member hokm).2.2).2 _ (List.mem_of_getElem? e1h)
            refine WX.run ttOk rfl ?_
            refine WX.idx 2 i ttOk rfl rfl rfl rfl rfl rfl rfl rfl rfl rfl e1i ?_
            rintro ad1 rfl
            refine WX.ldE 2 3 e1 ttOk rfl rfl rfl rfl rfl rfl rfl rfl e1h (fun _ => rfl) (fun _ => rfl) ?_
            rintro ⟨⟨p1, c1⟩, ⟨⟩, ⟨p2, c2⟩⟩
            refine WX.run ttOk rfl ?_
            refine WX.draw [] mixed ?_
            intro bs G0 hΓ0
            refine DX.takes (fuel := 21) ttOk [(0, true), (1, false), (2, true), (3, false), (4, true), (5, false)] (by kernel_rfl) rfl ?_
            refine DX.callV 6 rfl (by kernel_rfl) rfl rfl rfl rfl rfl rfl (fun _ => rfl) rfl (fun w G bs hI hΓ => f82 w n (by omega) m.vector pmVector cmVector (hΓ.get 1 rfl) e1.publisher p1 c1 (hΓ.get 3 rfl) ((ok_Member hokm).2.1) ((ok_Publication ok1).1)) ?_
            intro hq3
            refine DX.callV 7 rfl (by kernel_rfl) rfl rfl rfl rfl rfl rfl (fun _ => rfl) rfl (fun w G bs hI hΓ => f62 w n (by omega) e1.seq 1 (impl_SeqOf m.vector e1.publisher) ((ok_Publication ok1).2.1) (show I64 1 from (by unfold I64; omega)) hq3) ?_
            intro hq4
            refine DX.takes (fuel := 17) ttOk [(8, true), (9, true)] (by kernel_rfl) rfl ?_
            refine DX.cases 45 rfl (fun h6 => ?_) (fun h6 => ?_)
            · skip
              have h6d := (B.nt h6)
              refine DX.takes (fuel := 0) ttOk [(10, true), (11, true), (12, true), (13, true), (14, true), (15, true), (16, true), (17, true), (18, true), (19, true), (20, true), (21, true), (22, true), (23, true), (24, true), (25, true), (26, true)] (by kernel_rfl) rfl ?_
              refine DX.tail [] rfl rfl (by kernel_rfl) ?_
              refine WX.run ttOk rfl ?_
              have hP5 : impl_ValidMember_L1 m m.publications 0 = (some false) := by rw [v2, drop_get e1h]; simp only [impl_ValidMember_L1, h6, cond_true, cond_false]
              have hP6 : impl_ValidMember m = false := by simp only [impl_ValidMember, h1, h2, h3, h4, hP5, cond_true, cond_false]
              refine WX.ret ttOk rfl ?_
              intro w1 G bs hI hΓ
              rw [hP6]
              exact ⟨rfl, trivial⟩
            · skip
              have h6d := (B.nf h6)
              refine DX.takes (fuel := 11) ttOk [(10, true), (11, false), (12, true), (13, true), (14, true), (15, true)] (by kernel_rfl) rfl ?_
              refine DX.cases 51 rfl (fun h7 => ?_) (fun h7 => ?_)
              · skip
                have h7d := B.dt h7
                refine DX.takes (fuel := 0) ttOk [(16, true), (17, true), (18, true), (19, true), (20, true), (21, true), (22, true), (23, true), (24, true), (25, true), (26, true)] (by kernel_rfl) rfl ?_
                refine DX.tail [] rfl rfl (by kernel_rfl) ?_
                refine WX.run ttOk rfl ?_
                have hP7 : impl_ValidMember_L1 m m.publications 0 = (some false) := by rw [v2, drop_get e1h]; simp only [impl_ValidMember_L1, h6, h7, cond_true, cond_false]
                have hP8 : impl_ValidMember m = false := by simp only [impl_ValidMember, h1, h2, h3, h4, hP7, cond_true, cond_false]
                refine WX.ret ttOk rfl ?_
                intro w1 G bs hI hΓ
                rw [hP8]
                exact ⟨rfl, trivial⟩
              · skip
                have h7d := B.df h7
                refine DX.takes (fuel := 8) ttOk [(16, true), (17, false), (18, true)] (by kernel_rfl) rfl ?_
                refine DX.see 19 (by kernel_rfl) rfl rfl rfl rfl (looks_slH i ttOk rfl rfl rfl rfl (by simp) (Nat.le_trans (show i ≤ (m.publications).length from (by omega)) (hΓ0.get 2 rfl : RdSl _ _ _ _).1)) ?_
                refine DX.slot 55 (y := .v (.slice (some ad1) (((List.take i m.publications)).length) cmPublications)) rfl (fun _ => by rw [show ((List.take i m.publications)).length = i from (by simp only [List.length_take]; have z_ := (show i ≤ (m.publications).length from (by omega)); omega)]) ?_
                refine DX.der 5 (MF.rs .der (some ad1) cmPublications (List.take i m.publications)) rfl (fun _ hΓ => RdSl.pre (hΓ.get 2 rfl : RdSl _ _ _ _) i) ?_
                refine DX.takes (fuel := 3) ttOk [(20, true), (21, false), (22, true), (23, false)] (by kernel_rfl) rfl ?_
                refine DX.callV 24 rfl (by kernel_rfl) rfl rfl rfl rfl rfl rfl (fun _ => rfl) rfl (fun w G bs hI hΓ => f83 w n (by omega) (List.take i m.publications) (some ad1) cmPublications (hΓ.get 5 rfl) e1.publisher p1 c1 (hΓ.get 3 rfl) e1.seq (okl_mk (by first | assumption | omega | (simp only [List.length_append, List.length_cons, List.length_nil, List.length_set, List.length_map, List.length_take, List.length_drop]; omega) | (simp; omega)) (fun a ha => (okl (ok_Member hokm).2.2).2 a (List.mem_of_mem_take ha)) : GoT.ok n ((List.take i m.publications) : List Publication)) ((ok_Publication ok1).1) ((ok_Publication ok1).2.1)) ?_
                intro hq5
                have q1 := lt_publishedAt (List.take i m.publications) e1.publisher e1.seq
                refine DX.takes (fuel := 0) ttOk [(25, true), (26, true)] (by kernel_rfl) rfl ?_
                refine DX.tail [] rfl rfl (by kernel_rfl) ?_
                refine WX.run ttOk rfl ?_
                refine WX.cases 62 rfl (fun h8 => ?_) (fun h8 => ?_)
                · skip
                  have h8d := B.dt h8
                  refine WX.run ttOk rfl ?_
                  have hP9 : impl_ValidMember_L1 m m.publications 0 = (some false) := by rw [v2, drop_get e1h]; simp only [impl_ValidMember_L1, h6, h7, h8, cond_true, cond_false]
                  have hP10 : impl_ValidMember m = false := by simp only [impl_ValidMember, h1, h2, h3, h4, hP9, cond_true, cond_false]
                  refine WX.ret ttOk rfl ?_
                  intro w1 G bs hI hΓ
                  rw [hP10]
                  exact ⟨rfl, trivial⟩
                · skip
                  have h8d := B.df h8
                  refine WX.run ttOk rfl ?_
                  refine WX.see rfl rfl rfl (fun _ hΓ => looks_arith rfl rfl rfl rfl (by unfold I64; omega)) ?_
                  refine WX.run ttOk rfl ?_
                  exact WX.iter (i + 1) ⟨(by omega), (by rw [v2, drop_get e1h]; simp only [impl_ValidMember_L1, h6, h7, h8, cond_true, cond_false])⟩ (by dsimp only; omega) (.cons rfl (.cons rfl (.cons rfl (.cons rfl (.nil))))) (.cons rfl (.nil)) .nil [0, 1, 2] rfl
          · skip
            have h5d := B.df h5
            refine WX.run ttOk rfl ?_
            have hX1 : impl_ValidMember_L1 m m.publications 0 = none := by rw [v2, List.drop_eq_nil_of_le (show (m.publications).length ≤ i by omega)]; simp only [impl_ValidMember_L1, cond_true, cond_false]
            refine WX.draw [] mixed ?_
            intro bs G0 hΓ0
            refine DX.takes (fuel := 3) ttOk [(0, true), (1, false), (3, true), (4, false), (5, true)] (by kernel_rfl) rfl ?_
            refine DX.callV 2 rfl (by kernel_rfl) rfl rfl rfl rfl rfl rfl (fun _ => rfl) rfl (fun w G bs hI hΓ => f84 w n (by omega) m.vector pmVector cmVector (hΓ.get 1 rfl) ((ok_Member hokm).2.1)) ?_
            intro hq6
            refine DX.takes (fuel := 0) ttOk [(6, true), (7, true)] (by kernel_rfl) rfl ?_
            refine DX.tail [] rfl rfl (by kernel_rfl) ?_
            refine WX.run ttOk rfl ?_
            have hP11 : impl_ValidMember m = ((impl_VectorSum m.vector) == (((m.publications).length : Nat) : Int)) := by simp only [impl_ValidMember, h1, h2, h3, h4, hX1, cond_true, cond_false]
            refine WX.ret ttOk rfl ?_
            intro w1 G bs hI hΓ
            rw [hP11]
            exact ⟨rfl, trivial⟩
theorem f37 (w : World) (n : Nat) (hn : n + 0 ≤ 9) (m : Member) (pmName : Option Addr) (cmName : Nat) (hpmName : RdSl (hp w) pmName cmName m.name.parts) (pmVector : Option Addr) (cmVector : Nat) (hpmVector : RdSl (hp w) pmVector cmVector m.vector.entries) (pmPublications : Option Addr) (cmPublications : Nat) (hpmPublications : RdSl (hp w) pmPublications cmPublications m.publications) (hokm : GoT.ok n m) :
    Does Try.prog 37 #[.agg #[.slice pmName ((m.name.parts).length) cmName, .slice pmVector ((m.vector.entries).length) cmVector, .slice pmPublications ((m.publications).length) cmPublications]] w emp (fun (rv : Value) (_ : World) => rv = .bool (spec_ValidMember m) ∧ True) := by
  have hbP := bd_pos n
  have hbB := bd_big (n := n) (by omega)
  refine WX.enter (tt := tt) (Γ := [(0, MF.rs .stb pmName cmName m.name.parts), (1, MF.rs .stb pmVector cmVector m.vector.entries), (2, MF.rs .stb pmPublications cmPublications m.publications)]) Try.func37 rfl (by kernel_rfl) rfl (allS_cons rfl hpmName (allS_cons rfl hpmVector (allS_cons rfl hpmPublications allS_nil))) ?_
  refine WX.run ttOk rfl ?_
  refine WX.draw [] mixed ?_
  intro bs G0 hΓ0
  refine DX.takes (fuel := 30) ttOk [(0, true), (1, false)] (by kernel_rfl) rfl ?_
  refine DX.callV 2 rfl (by kernel_rfl) rfl rfl rfl rfl rfl rfl (fun _ => rfl) rfl (fun w G bs hI hΓ => f73 w n (by omega) m.name pmName cmName (hΓ.get 0 rfl) ((ok_Member hokm).1)) ?_
  intro hq1
  refine DX.takes (fuel := 27) ttOk [(3, true), (4, true)] (by kernel_rfl) rfl ?_
  refine DX.cases 9 rfl (fun h1 => ?_) (fun h1 => ?_)
  · skip
    have h1d := (B.nt h1)
    refine DX.takes (fuel := 0) ttOk [(5, true), (6, true), (7, true), (8, true), (9, true), (10, true), (11, true), (12, true), (13, true), (14, true), (15, true), (16, true), (17, true), (18, true), (19, true), (20, true), (21, true), (22, true), (23, true), (24, true), (25, true), (26, true), (27, true), (28, true), (29, true), (30, true), (31, true)] (by kernel_rfl) rfl ?_
    refine DX.tail [] rfl rfl (by kernel_rfl) ?_
    refine WX.run ttOk rfl ?_
    have hP1 : spec_ValidMember m = false := by simp only [spec_ValidMember, h1, cond_true, cond_false]
    refine WX.ret ttOk rfl ?_
    intro w1 G bs hI hΓ
    rw [hP1]
    exact ⟨rfl, trivial⟩
  · skip
    have h1d := (B.nf h1)
    refine DX.takes (fuel := 20) ttOk [(5, true), (6, true), (7, false), (8, true), (9, true), (10, true), (11, true)] (by kernel_rfl) rfl ?_
    refine DX.cases 16 rfl (fun h2 => ?_) (fun h2 => ?_)
    · skip
      have h2d := B.et h2
      refine DX.takes (fuel := 0) ttOk [(12, true), (13, true), (14, true), (15, true), (16, true), (17, true), (18, true), (19, true), (20, true), (21, true), (22, true), (23, true), (24, true), (25, true), (26, true), (27, true), (28, true), (29, true), (30, true), (31, true)] (by kernel_rfl) rfl ?_
      refine DX.tail [] rfl rfl (by kernel_rfl) ?_
      refine WX.run ttOk rfl ?_
      have hP2 : spec_ValidMember m = false := by simp only [spec_ValidMember, h1, h2, cond_true, cond_false]
      refine WX.ret ttOk rfl ?_
      intro w1 G bs hI hΓ
      rw [hP2]
      exact ⟨rfl, trivial⟩
    · skip
      have h2d := B.ef h2
      refine DX.takes (fuel := 18) ttOk [(12, true), (13, false)] (by kernel_rfl) rfl ?_
      refine DX.callV 14 rfl (by kernel_rfl) rfl rfl rfl rfl rfl rfl (fun _ => rfl) rfl (fun w G bs hI hΓ => f74 w n (by omega) m.vector pmVector cmVector (hΓ.get 1 rfl) ((ok_Member hokm).2.1)) ?_
      intro hq2
      refine DX.takes (fuel := 14) ttOk [(15, true), (16, true), (17, true)] (by kernel_rfl) rfl ?_
      refine DX.cases 22 rfl (fun h3 => ?_) (fun h3 => ?_)
      · skip
        have h3d := (B.nt h3)
        refine DX.takes (fuel := 0) ttOk [(18, true), (19, true), (20, true), (21, true), (22, true), (23, true), (24, true), (25, true), (26, true), (27, true), (28, true), (29, true), (30, true), (31, true)] (by kernel_rfl) rfl ?_
        refine DX.tail [] rfl rfl (by kernel_rfl) ?_
        refine WX.run ttOk rfl ?_
        have hP3 : spec_ValidMember m = false := by simp only [spec_ValidMember, h1, h2, h3, cond_true, cond_false]
        refine WX.ret ttOk rfl ?_
        intro w1 G bs hI hΓ
        rw [hP3]
        exact ⟨rfl, trivial⟩
      · skip
        have h3d := (B.nf h3)
        refine DX.takes (fuel := 8) ttOk [(18, true), (19, false), (20, true), (21, true), (22, true), (23, true)] (by kernel_rfl) rfl ?_
        refine DX.cases 28 rfl (fun h4 => ?_) (fun h4 => ?_)
        · skip
          have h4d := B.dt h4
          refine DX.takes (fuel := 0) ttOk [(24, true), (25, true), (26, true), (27, true), (28, true), (29, true), (30, true), (31, true)] (by kernel_rfl) rfl ?_
          refine DX.tail [] rfl rfl (by kernel_rfl) ?_
          refine WX.run ttOk rfl ?_
          have hP4 : spec_ValidMember m = false := by simp only [spec_ValidMember, h1, h2, h3, h4, cond_true, cond_false]
          refine WX.ret ttOk rfl ?_
          intro w1 G bs hI hΓ
          rw [hP4]
          exact ⟨rfl, trivial⟩
        · skip
          have h4d := B.df h4
          refine DX.takes (fuel := 3) ttOk [(24, true), (25, false), (26, true), (27, true), (28, false)] (by kernel_rfl) rfl ?_
          refine DX.callV 29 rfl (by kernel_rfl) rfl rfl rfl rfl rfl rfl (fun _ => rfl) rfl (fun w G bs hI hΓ => f75 w n (by omega) m.vector pmVector cmVector (hΓ.get 1 rfl) ((ok_Member hokm).2.1)) ?_
          intro hq3
          refine DX.takes (fuel := 0) ttOk [(30, true), (31, true)] (by kernel_rfl) rfl ?_
          refine DX.tail [] rfl rfl (by kernel_rfl) ?_
          refine WX.run ttOk rfl ?_
          refine WX.cases 36 rfl (fun h5 => ?_) (fun h5 => ?_)
          · skip
            have h5d := B.nt' h5
            refine WX.run ttOk rfl ?_
            have hP5 : spec_ValidMember m = false := by simp only [spec_ValidMember, h1, h2, h3, h4, h5, cond_true, cond_false]
            refine WX.ret ttOk rfl ?_
            intro w1 G bs hI hΓ
            rw [hP5]
            exact ⟨rfl, trivial⟩
          · skip
            have h5d := B.nf' h5
            refine WX.run ttOk rfl ?_
            have r1 : (m.publications).length ≤ bd n := (okl (ok_Member hokm).2.2).1
            refine WX.loop (ι := Nat) ⟨fun i => (i ≤ (m.publications).length) ∧ (spec_ValidMember_L1 m m.publications 0 = spec_ValidMember_L1 m ((m.publications).drop i) i), fun i => (m.publications).length - i, fun i => [(3, .v (.int .i64 (((i : Nat) : Int)))), (1, .p 1 0)], fun i => [(1, ⟨77, [.slice pmName ((m.name.parts).length) cmName, .slice pmVector ((m.vector.entries).length) cmVector, .slice pmPublications ((m.publications).length) cmPublications]⟩)], fun i => [], fun i => [(0, MF.rs .stb pmName cmName m.name.parts), (1, MF.rs .stb pmVector cmVector m.vector.entries), (2, MF.rs .stb pmPublications cmPublications m.publications)]⟩ 0 ⟨(Nat.zero_le _), rfl⟩
              (.cons rfl (.cons rfl (.nil))) (.cons rfl (.nil)) .nil [0, 1, 2] rfl ?_
            rintro i hpre
            have hpre_ : (i ≤ (m.publications).length) ∧ (spec_ValidMember_L1 m m.publications 0 = spec_ValidMember_L1 m ((m.publications).drop i) i) := hpre
            clear hpre
            obtain ⟨v1, v2⟩ := hpre_
            refine WX.run ttOk rfl ?_
            refine WX.cases 41 rfl (fun h6 => ?_) (fun h6 => ?_)
            · skip
              have h6d := B.dt h6
              have e1i : i < (m.publications).length := (by omega)
              obtain ⟨e1, e1h⟩ : ∃ e1, (m.publications)[i]? = some e1 := ⟨_, List.getElem?_eq_getElem e1i⟩
              have ok1 : GoT.ok n e1 := (okl (ok_Member hokm).2.2).2 _ (List.mem_of_getElem? e1h)
              refine WX.run ttOk rfl ?_
              refine WX.idx 2 i ttOk rfl rfl rfl rfl rfl rfl rfl rfl rfl rfl e1i ?_
              rintro ad1 rfl
              refine WX.ldE 2 3 e1 ttOk rfl rfl rfl rfl rfl rfl rfl rfl e1h (fun _ => rfl) (fun _ => rfl) ?_
              rintro ⟨⟨p1, c1⟩, ⟨⟩, ⟨p2, c2⟩⟩
              refine WX.run ttOk rfl ?_
              refine WX.draw [] mixed ?_
              intro bs G0 hΓ0
              refine DX.takes (fuel := 21) ttOk [(0, true), (1, false), (2, true), (3, false), (4, true), (5, false)] (by kernel_rfl) rfl ?_
              refine DX.callV 6 rfl (by kernel_rfl) rfl rfl rfl rfl rfl rfl (fun _ => rfl) rfl (fun w G bs hI hΓ => f76 w n (by omega) m.vector pmVector cmVector (hΓ.get 1 rfl) e1.publisher p1 c1 (hΓ.get 3 rfl) ((ok_Member hokm).2.1) ((ok_Publication ok1).1)) ?_
              intro hq4
              refine DX.callV 7 rfl (by kernel_rfl) rfl rfl rfl rfl rfl rfl (fun _ => rfl) rfl (fun w G bs hI hΓ => f60 w n (by omega) e1.seq 1 (spec_SeqOf m.vector e1.publisher) ((ok_Publication ok1).2.1) (show I64 1 from (by unfold I64; omega)) hq4) ?_
              intro hq5
              refine DX.takes (fuel := 17) ttOk [(8, true), (9, true)] (by kernel_rfl) rfl ?_
              refine DX.cases 58 rfl (fun h7 => ?_) (fun h7 => ?_)
              · skip
                have h7d := (B.nt h7)
                refine DX.takes (fuel := 0) ttOk [(10, true), (11, true), (12, true), (13, true), (14, true), (15, true), (16, true), (17, true), (18, true), (19, true), (20, true), (21, true), (22, true), (23, true), (24, true), (25, true), (26, true)] (by kernel_rfl) rfl ?_
                refine DX.tail [] rfl rfl (by kernel_rfl) ?_
                refine WX.run ttOk rfl ?_
                have hP6 : spec_ValidMember_L1 m m.publications 0 = (some false) := by rw [v2, drop_get e1h]; simp only [spec_ValidMember_L1, h7, cond_true, cond_false]
                have hP7 : spec_ValidMember m = false := by simp only [spec_ValidMember, h1, h2, h3, h4, h5, hP6, cond_true, cond_false]
                refine WX.ret ttOk rfl ?_
                intro w1 G bs hI hΓ
                rw [hP7]
                exact ⟨rfl, trivial⟩
              · skip
                have h7d := (B.nf h7)
                refine DX.takes (fuel := 11) ttOk [(10, true), (11, false), (12, true), (13, true), (14, true), (15, true)] (by kernel_rfl) rfl ?_
                refine DX.cases 64 rfl (fun h8 => ?_) (fun h8 => ?_)
                · skip
                  have h8d := B.dt h8
                  refine DX.takes (fuel := 0) ttOk [(16, true), (17, true), (18, true), (19, true), (20, true), (21, true), (22, true), (23, true), (24, true), (25, true), (26, true)] (by kernel_rfl) rfl ?_
                  refine DX.tail [] rfl rfl (by kernel_rfl) ?_
                  refine WX.run ttOk rfl ?_
                  have hP8 : spec_ValidMember_L1 m m.publications 0 = (some false) := by rw [v2, drop_get e1h]; simp only [spec_ValidMember_L1, h7, h8, cond_true, cond_false]
                  have hP9 : spec_ValidMember m = false := by simp only [spec_ValidMember, h1, h2, h3, h4, h5, hP8, cond_true, cond_false]
                  refine WX.ret ttOk rfl ?_
                  intro w1 G bs hI hΓ
                  rw [hP9]
                  exact ⟨rfl, trivial⟩
                · skip
                  have h8d := B.df h8
                  refine DX.takes (fuel := 8) ttOk [(16, true), (17, false), (18, true)] (by kernel_rfl) rfl ?_
                  refine DX.see 19 (by kernel_rfl) rfl rfl rfl rfl (looks_slH i ttOk rfl rfl rfl rfl (by simp) (Nat.le_trans (show i ≤ (m.publications).length from (by omega)) (hΓ0.get 2 rfl : RdSl _ _ _ _).1)) ?_
                  refine DX.slot 68 (y := .v (.slice (some ad1) (((List.take i m.publications)).length) cmPublications)) rfl (fun _ => by rw [show ((List.take i m.publications)).length = i from (by simp only [List.length_take]; have z_ := (show i ≤ (m.publications).length from (by omega)); omega)]) ?_
                  refine DX.der 5 (MF.rs .der (some ad1) cmPublications (List.take i m.publications)) rfl (fun _ hΓ => RdSl.pre (hΓ.get 2 rfl : RdSl _ _ _ _) i) ?_
                  refine DX.takes (fuel := 3) ttOk [(20, true), (21, false), (22, true), (23, false)] (by kernel_rfl) rfl ?_
                  refine DX.callV 24 rfl (by kernel_rfl) rfl rfl rfl rfl rfl rfl (fun _ => rfl) rfl (fun w G bs hI hΓ => f77 w n (by omega) (List.take i m.publications) (some ad1) cmPublications (hΓ.get 5 rfl) e1.publisher p1 c1 (hΓ.get 3 rfl) e1.seq (okl_mk (by first | assumption | omega | (simp only [List.length_append, List.length_cons, List.length_nil, List.length_set, List.length_map, List.length_take, List.length_drop]; omega) | (simp; omega)) (fun a ha => (okl (ok_Member hokm).2.2).2 a (List.mem_of_mem_take ha)) : GoT.ok n ((List.take i m.publications) : List Publication)) ((ok_Publication ok1).1) ((ok_Publication ok1).2.1)) ?_
                  intro hq6
                  have q1 := lt_l28Find (List.take i m.publications) e1.publisher e1.seq
                  refine DX.takes (fuel := 0) ttOk [(25, true), (26, true)] (by kernel_rfl) rfl ?_
                  refine DX.tail [] rfl rfl (by kernel_rfl) ?_
                  refine WX.run ttOk rfl ?_
                  refine WX.cases 75 rfl (fun h9 => ?_) (fun h9 => ?_)
                  · skip
                    have h9d := B.dt h9
                    refine WX.run ttOk rfl ?_
                    have hP10 : spec_ValidMember_L1 m m.publications 0 = (some false) := by rw [v2, drop_get e1h]; simp only [spec_ValidMember_L1, h7, h8, h9, cond_true, cond_false]
                    have hP11 : spec_ValidMember m = false := by simp only [spec_ValidMember, h1, h2, h3, h4, h5, hP10, cond_true, cond_false]
                    refine WX.ret ttOk rfl ?_
                    intro w1 G bs hI hΓ
                    rw [hP11]
                    exact ⟨rfl, trivial⟩
                  · skip
                    have h9d := B.df h9
                    refine WX.run ttOk rfl ?_
                    refine WX.see rfl rfl rfl (fun _ hΓ => looks_arith rfl rfl rfl rfl (by unfold I64; omega)) ?_
                    refine WX.run ttOk rfl ?_
                    exact WX.iter (i + 1) ⟨(by omega), (by rw [v2, drop_get e1h]; simp only [spec_ValidMember_L1, h7, h8, h9, cond_true, cond_false])⟩ (by dsimp only; omega) (.cons rfl (.cons rfl (.nil))) (.cons rfl (.nil)) .nil [0, 1, 2] rfl
            · skip
              have h6d := B.df h6
              refine WX.run ttOk rfl ?_
              have hX1 : spec_ValidMember_L1 m m.publications 0 = none := by rw [v2, List.drop_eq_nil_of_le (show (m.publications).length ≤ i by omega)]; simp only [spec_ValidMember_L1, cond_true, cond_false]
              have hP12 : spec_ValidMember m = true := by simp only [spec_ValidMember, h1, h2, h3, h4, h5, hX1, cond_true, cond_false]
              refine WX.ret ttOk rfl ?_
              intro w1 G bs hI hΓ
              rw [hP12]
              exact ⟨rfl, trivial⟩
theorem f91 (w : World) (n : Nat) (hn : n + 0 ≤ 9) (l : Log) (plDurable : Option Addr) (clDurable : Nat) (hplDurable : RdSl (hp w) plDurable clDurable l.durable) (plVolatile : Option Addr) (clVolatile : Nat) (hplVolatile : RdSl (hp w) plVolatile clVolatile l.volatile) (hokl : GoT.ok n l) :
    Does Try.prog 91 #[.agg #[.slice plDurable ((l.durable).length) clDurable, .slice plVolatile ((l.volatile).length) clVolatile]] w emp (Post w emp (fun x : GoT.X (Log) => .agg ⟨GoT.sh ((impl_copyLog l) : Log) x⟩) (fun x => GoT.oa ((impl_copyLog l) : Log) x) (GoT.ok n ((impl_copyLog l) : Log))) := by
  have hbP := bd_pos n
  have hbB := bd_big (n := n) (by omega)
  refine WX.enter (tt := tt) (Γ := [(0, MF.rs .stb plDurable clDurable l.durable), (1, MF.rs .stb plVolatile clVolatile l.volatile)]) Try.func91 rfl (by kernel_rfl) rfl (allS_cons rfl hplDurable (allS_cons rfl hplVolatile allS_nil)) ?_
  refine WX.run ttOk rfl ?_
  refine WX.draw [7] mixed ?_
  intro bs G0 hΓ0
  refine DX.takes (fuel := 4) ttOk [(0, true), (1, false), (3, true), (4, false)] (by kernel_rfl) rfl ?_
  refine DX.callF 2 2 (fun _ _ h => GoT.ow_rd h) (fun _ f hf => GoT.fak f hf) rfl (by kernel_rfl) rfl rfl rfl rfl rfl rfl (fun _ => rfl) rfl (fun w G bs hI hΓ => f95 w n (by omega) l.durable plDurable clDurable (hΓ.get 0 rfl) ((ok_Log hokl).1)) (fun _ => rfl) (fun _ => rfl) ?_
  rintro ⟨p1, c1⟩ hq1
  refine DX.callF 5 4 (fun _ _ h => GoT.ow_rd h) (fun _ f hf => GoT.fak f hf) rfl (by kernel_rfl) rfl rfl rfl rfl rfl rfl (fun _ => rfl) rfl (fun w G bs hI hΓ => f95 w n (by omega) l.volatile plVolatile clVolatile (hΓ.get 1 rfl) ((ok_Log hokl).2)) (fun _ => rfl) (fun _ => rfl) ?_
  rintro ⟨p2, c2⟩ hq2
  refine DX.takes (fuel := 1) ttOk [(6, true)] (by kernel_rfl) rfl ?_
  refine DX.tail [7] rfl rfl (by kernel_rfl) ?_
  refine WX.run ttOk rfl ?_
  have hP1 : impl_copyLog l = (Log.mk (impl_copyRecords l.durable) (impl_copyRecords l.volatile)) := by simp only [impl_copyLog, cond_true, cond_false]
  refine WX.ret ttOk rfl ?_
  intro w1 G bs hI hΓ
  rw [hP1]
  exact Post.of [3, 5] ((p1, c1), (p2, c2)) hI hΓ rfl rfl rfl (And.intro hq1 hq2)
theorem f88 (w : World) (n : Nat) (hn : n + 0 ≤ 9) (l : Log) (plDurable : Option Addr) (clDurable : Nat) (hplDurable : RdSl (hp w) plDurable clDurable l.durable) (plVolatile : Option Addr) (clVolatile : Nat) (hplVolatile : RdSl (hp w) plVolatile clVolatile l.volatile) (hokl : GoT.ok n l) :
    Does Try.prog 88 #[.agg #[.slice plDurable ((l.durable).length) clDurable, .slice plVolatile ((l.volatile).length) clVolatile]] w emp (Post w emp (fun x : GoT.X (Log) => .agg ⟨GoT.sh ((spec_l29Copy l) : Log) x⟩) (fun x => GoT.oa ((spec_l29Copy l) : Log) x) (GoT.ok n ((spec_l29Copy l) : Log))) := by
  have hbP := bd_pos n
  have hbB := bd_big (n := n) (by omega)
  refine WX.enter (tt := tt) (Γ := [(0, MF.rs .stb plDurable clDurable l.durable), (1, MF.rs .stb plVolatile clVolatile l.volatile)]) Try.func88 rfl (by kernel_rfl) rfl (allS_cons rfl hplDurable (allS_cons rfl hplVolatile allS_nil)) ?_
  refine WX.run ttOk rfl ?_
  refine WX.draw [7] mixed ?_
  intro bs G0 hΓ0
  refine DX.takes (fuel := 4) ttOk [(0, true), (1, false), (3, true), (4, false)] (by kernel_rfl) rfl ?_
  refine DX.callF 2 2 (fun _ _ h => GoT.ow_rd h) (fun _ f hf => GoT.fak f hf) rfl (by kernel_rfl) rfl rfl rfl rfl rfl rfl (fun _ => rfl) rfl (fun w G bs hI hΓ => f49 w n (by omega) l.durable plDurable clDurable (hΓ.get 0 rfl) ((ok_Log hokl).1)) (fun _ => rfl) (fun _ => rfl) ?_
  rintro ⟨p1, c1⟩ hq1
  refine DX.callF 5 4 (fun _ _ h => GoT.ow_rd h) (fun _ f hf => GoT.fak f hf) rfl (by kernel_rfl) rfl rfl rfl rfl rfl rfl (fun _ => rfl) rfl (fun w G bs hI hΓ => f49 w n (by omega) l.volatile plVolatile clVolatile (hΓ.get 1 rfl) ((ok_Log hokl).2)) (fun _ => rfl) (fun _ => rfl) ?_
  rintro ⟨p2, c2⟩ hq2
  refine DX.takes (fuel := 1) ttOk [(6, true)] (by kernel_rfl) rfl ?_
  refine DX.tail [7] rfl rfl (by kernel_rfl) ?_
  refine WX.run ttOk rfl ?_
  have hP1 : spec_l29Copy l = (Log.mk (spec_l29Recs l.durable) (spec_l29Recs l.volatile)) := by simp only [spec_l29Copy, cond_true, cond_false]
  refine WX.ret ttOk rfl ?_
  intro w1 G bs hI hΓ
  rw [hP1]
  exact Post.of [3, 5] ((p1, c1), (p2, c2)) hI hΓ rfl rfl rfl (And.intro hq1 hq2)
end Go.Proofs.Ytikbfiljomdmiab
