/-
  What the proof of one law needs: rules of the program logic, functions as Lean functions, contracts. No condition but what each says. Written by a program (pack.py) out of my own texts.
-/
import Derived.Test.YtfffongneoegbaaGreatKPublish3
namespace Go.Proofs.YtfffongneoegbaaGreat
open Go.Stp
set_option linter.unusedVariables false
set_option linter.unusedSimpArgs false
theorem f210 (w : World) (n : Nat) (hn : n + 0 ≤ 9) (s1 : (List Str)) (ps1 : Option Addr) (cs1 : Nat) (hps1 : RdSl (hp w) ps1 cs1 s1) (s2 : (List Str)) (ps2 : Option Addr) (cs2 : Nat) (hps2 : RdSl (hp w) ps2 cs2 s2) (hoks1 : GoT.ok n s1) (hoks2 : GoT.ok n s2) :
    Does Tryz.prog 210 #[.slice ps1 ((s1).length) cs1, .slice ps2 ((s2).length) cs2] w emp (fun (rv : Value) (_ : World) => rv = .bool (slices_Equal_string s1 s2) ∧ True) := by
  have hbP := bd_pos n
  have hbB := bd_big (n := n) (by omega)
  refine WX.enter (tt := tt) (Γ := [(0, MF.rs .stb ps1 cs1 s1), (1, MF.rs .stb ps2 cs2 s2)]) Tryz.func210 rfl (by kernel_rfl) rfl (allS_cons rfl hps1 (allS_cons rfl hps2 allS_nil)) ?_
  refine WX.run ttOk rfl ?_
  refine WX.cases 10 rfl (fun h1 => ?_) (fun h1 => ?_)
  · skip
    have h1d := B.nt' h1
    refine WX.run ttOk rfl ?_
    have hP1 : slices_Equal_string s1 s2 = false := by simp only [slices_Equal_string, h1, cond_true, cond_false]
    refine WX.ret ttOk rfl ?_
    intro w1 G bs hI hΓ
    rw [hP1]
    exact ⟨rfl, trivial⟩
  · skip
    have h1d := B.nf' h1
    refine WX.run ttOk rfl ?_
    have r1 : (s1).length ≤ bd n := (okl hoks1).1
    refine WX.loop (ι := Nat) ⟨fun i => (i ≤ (s1).length) ∧ (slices_Equal_string_L1 s2 s1 0 = slices_Equal_string_L1 s2 ((s1).drop i) i), fun i => (s1).length - i, fun i => [(13, .v (.int .i64 (((i : Nat) : Int)))), (12, .v (.int .i64 ((((s1).length : Nat) : Int)))), (0, .v (.slice ps1 ((s1).length) cs1)), (1, .v (.slice ps2 ((s2).length) cs2))], fun i => [], fun i => [], fun i => [(0, MF.rs .stb ps1 cs1 s1), (1, MF.rs .stb ps2 cs2 s2)]⟩ 0 ⟨(Nat.zero_le _), rfl⟩
      (.cons rfl (.cons rfl (.cons rfl (.cons rfl (.nil))))) .nil .nil [0, 1] rfl ?_
    rintro i hpre
    have hpre_ : (i ≤ (s1).length) ∧ (slices_Equal_string_L1 s2 s1 0 = slices_Equal_string_L1 s2 ((s1).drop i) i) := hpre
    clear hpre
    obtain ⟨v1, v2⟩ := hpre_
    refine WX.run ttOk rfl ?_
    refine WX.cases 14 rfl (fun h2 => ?_) (fun h2 => ?_)
    · skip
      have h2d := B.dt h2
      have e1i : i < (s1).length := (by omega)
      obtain ⟨e1, e1h⟩ : ∃ e1, (s1)[i]? = some e1 := ⟨_, List.getElem?_eq_getElem e1i⟩
      have ok1 : GoT.ok n e1 := (okl hoks1).2 _ (List.mem_of_getElem? e1h)
      refine WX.run ttOk rfl ?_
      refine WX.draw [] mixed ?_
      intro bs G0 hΓ0
      refine DX.takes (fuel := 7) ttOk [(0, true), (1, true)] (by kernel_rfl) rfl ?_
      refine DX.idx 2 0 i ttOk hΓ0 (by kernel_rfl) rfl rfl rfl rfl rfl rfl rfl rfl rfl rfl rfl e1i ?_
      rintro ad1 rfl
      refine DX.ldE 3 0 2 e1 ttOk hΓ0 (by kernel_rfl) rfl rfl rfl rfl rfl rfl rfl rfl e1h (fun _ => rfl) (fun _ => rfl) ?_
      rintro ⟨⟩
      refine DX.takes (fuel := 3) ttOk [(4, true), (5, true)] (by kernel_rfl) rfl ?_
      have e2i : i < (s2).length := (by first | assumption | omega)
      obtain ⟨e2, e2h⟩ : ∃ e2, (s2)[i]? = some e2 := ⟨_, List.getElem?_eq_getElem e2i⟩
      have ok2 : GoT.ok n e2 := (okl hoks2).2 _ (List.mem_of_getElem? e2h)
      refine DX.idx 6 1 i ttOk hΓ0 (by kernel_rfl) rfl rfl rfl rfl rfl rfl rfl rfl rfl rfl rfl e2i ?_
      rintro ad2 rfl
      refine DX.ldE 7 1 2 e2 ttOk hΓ0 (by kernel_rfl) rfl rfl rfl rfl rfl rfl rfl rfl e2h (fun _ => rfl) (fun _ => rfl) ?_
      rintro ⟨⟩
      refine DX.takes (fuel := 0) ttOk [(8, true)] (by kernel_rfl) rfl ?_
      refine DX.tail2 [] rfl rfl (by kernel_rfl) ?_
      refine WX.run ttOk rfl ?_
      refine WX.cases 24 rfl (fun h3 => ?_) (fun h3 => ?_)
      · skip
        have h3d := B.ef (B.nt h3)
        refine WX.run ttOk rfl ?_
        have hP2 : slices_Equal_string_L1 s2 s1 0 = (some false) := by rw [v2, drop_get e1h]; simp only [slices_Equal_string_L1, e2h, h3, cond_true, cond_false]
        have hP3 : slices_Equal_string s1 s2 = false := by simp only [slices_Equal_string, h1, hP2, cond_true, cond_false]
        refine WX.ret ttOk rfl ?_
        intro w1 G bs hI hΓ
        rw [hP3]
        exact ⟨rfl, trivial⟩
      · skip
        have h3d := B.et (B.nf h3)
        refine WX.run ttOk rfl ?_
        refine WX.see rfl rfl rfl (fun _ hΓ => looks_arith rfl rfl rfl rfl (by unfold I64; first | omega | (dsimp only; omega))) ?_
        refine WX.run ttOk rfl ?_
        exact WX.iter (i + 1) ⟨(by omega), (by rw [v2, drop_get e1h]; simp only [slices_Equal_string_L1, e2h, h3, cond_true, cond_false])⟩ (by first | (dsimp only; omega) | omega) (.cons rfl (.cons rfl (.cons rfl (.cons rfl (.nil))))) .nil .nil [0, 1] rfl
    · skip
      have h2d := B.df h2
      refine WX.run ttOk rfl ?_
      have hX1 : slices_Equal_string_L1 s2 s1 0 = none := by rw [v2, List.drop_eq_nil_of_le (show (s1).length ≤ i by omega)]; simp only [slices_Equal_string_L1, cond_true, cond_false]
      have hP4 : slices_Equal_string s1 s2 = true := by simp only [slices_Equal_string, h1, hX1, cond_true, cond_false]
      refine WX.ret ttOk rfl ?_
      intro w1 G bs hI hΓ
      rw [hP4]
      exact ⟨rfl, trivial⟩
theorem f100 (w : World) (n : Nat) (hn : n + 0 ≤ 9) (a : Name) (pa : Option Addr) (ca : Nat) (hpa : RdSl (hp w) pa ca a.parts) (b : Name) (pb : Option Addr) (cb : Nat) (hpb : RdSl (hp w) pb cb b.parts) (hoka : GoT.ok n a) (hokb : GoT.ok n b) :
    Does Tryz.prog 100 #[.agg #[.slice pa ((a.parts).length) ca], .agg #[.slice pb ((b.parts).length) cb]] w emp (fun (rv : Value) (_ : World) => rv = .bool (impl_EqualNames a b) ∧ True) := by
  have hbP := bd_pos n
  have hbB := bd_big (n := n) (by omega)
  refine WX.enter (tt := tt) (Γ := [(0, MF.rs .stb pa ca a.parts), (1, MF.rs .stb pb cb b.parts)]) Tryz.func100 rfl (by kernel_rfl) rfl (allS_cons rfl hpa (allS_cons rfl hpb allS_nil)) ?_
  refine WX.run ttOk rfl ?_
  refine WX.callV rfl rfl rfl rfl rfl (fun _ => rfl) rfl (fun w G bs hI hΓ => f210 w n (by omega) a.parts pa ca (hΓ.get 0 rfl) b.parts pb cb (hΓ.get 1 rfl) (ok_Name hoka) (ok_Name hokb)) ?_
  intro hq1
  refine WX.run ttOk rfl ?_
  have hP1 : impl_EqualNames a b = (slices_Equal_string a.parts b.parts) := by simp only [impl_EqualNames, cond_true, cond_false]
  refine WX.ret ttOk rfl ?_
  intro w1 G bs hI hΓ
  rw [hP1]
  exact ⟨rfl, trivial⟩
theorem f287 (w : World) (n : Nat) (hn : n + 0 ≤ 9) (a : Str) (b : Str) (hoka : GoT.ok n a) (hokb : GoT.ok n b) :
    Does Tryz.prog 287 #[.string a, .string b] w emp (fun (rv : Value) (_ : World) => rv = .int .i64 ((spec_l4Cmp a b)) ∧ GoT.ok n ((spec_l4Cmp a b) : Int)) := by
  have hbP := bd_pos n
  have hbB := bd_big (n := n) (by omega)
  refine WX.enter (tt := tt) (Γ := []) Tryz.func287 rfl (by kernel_rfl) rfl allS_nil ?_
  refine WX.run ttOk rfl ?_
  refine WX.cases 5 rfl (fun h1 => ?_) (fun h1 => ?_)
  · skip
    refine WX.run ttOk rfl ?_
    have hP1 : spec_l4Cmp a b = (-1) := by simp only [spec_l4Cmp, h1, cond_true, cond_false]
    refine WX.ret ttOk rfl ?_
    intro w1 G bs hI hΓ
    rw [hP1]
    exact ⟨rfl, (show I64 (-1) from (by unfold I64; omega))⟩
  · skip
    refine WX.run ttOk rfl ?_
    refine WX.cases 9 rfl (fun h2 => ?_) (fun h2 => ?_)
    · skip
      refine WX.run ttOk rfl ?_
      have hP2 : spec_l4Cmp a b = 1 := by first | (simp only [spec_l4Cmp, h1, h2, cond_true, cond_false]; done) | (unfold spec_l4Cmp; rw [h2, h1]; simp only [cond_true, cond_false])
      refine WX.ret ttOk rfl ?_
      intro w1 G bs hI hΓ
      rw [hP2]
      exact ⟨rfl, (show I64 1 from (by unfold I64; omega))⟩
    · skip
      refine WX.run ttOk rfl ?_
      have hP3 : spec_l4Cmp a b = 0 := by first | (simp only [spec_l4Cmp, h1, h2, cond_true, cond_false]; done) | (unfold spec_l4Cmp; rw [h2, h1]; simp only [cond_true, cond_false])
      refine WX.ret ttOk rfl ?_
      intro w1 G bs hI hΓ
      rw [hP3]
      exact ⟨rfl, (show I64 0 from (by unfold I64; omega))⟩
theorem f177 (w : World) (n : Nat) (hn : n + 0 ≤ 9) (a : Name) (pa : Option Addr) (ca : Nat) (hpa : RdSl (hp w) pa ca a.parts) (b : Name) (pb : Option Addr) (cb : Nat) (hpb : RdSl (hp w) pb cb b.parts) (hoka : GoT.ok n a) (hokb : GoT.ok n b) :
    Does Tryz.prog 177 #[.agg #[.slice pa ((a.parts).length) ca], .agg #[.slice pb ((b.parts).length) cb]] w emp (fun (rv : Value) (_ : World) => rv = .int .i64 ((spec_CompareNames a b)) ∧ GoT.ok n ((spec_CompareNames a b) : Int)) := by
  have hbP := bd_pos n
  have hbB := bd_big (n := n) (by omega)
  refine WX.enter (tt := tt) (Γ := [(0, MF.rs .stb pa ca a.parts), (1, MF.rs .stb pb cb b.parts)]) Tryz.func177 rfl (by kernel_rfl) rfl (allS_cons rfl hpa (allS_cons rfl hpb allS_nil)) ?_
  refine WX.run ttOk rfl ?_
  have r1 : (a.parts).length ≤ bd n := (okl (ok_Name hoka)).1
  refine WX.loop (ι := Nat) ⟨fun i => (i ≤ (a.parts).length) ∧ (spec_CompareNames_L1 b a.parts 0 = spec_CompareNames_L1 b ((a.parts).drop i) i), fun i => (a.parts).length - i, fun i => [(5, .v (.int .i64 (((i : Nat) : Int)))), (3, .p 3 0), (2, .p 2 0)], fun i => [(3, ⟨36, [.slice pb ((b.parts).length) cb]⟩), (2, ⟨36, [.slice pa ((a.parts).length) ca]⟩)], fun i => [], fun i => [(0, MF.rs .stb pa ca a.parts), (1, MF.rs .stb pb cb b.parts)]⟩ 0 ⟨(Nat.zero_le _), rfl⟩
    (.cons rfl (.cons rfl (.cons rfl (.nil)))) (.cons rfl (.cons rfl (.nil))) .nil [0, 1] rfl ?_
  rintro i hpre
  have hpre_ : (i ≤ (a.parts).length) ∧ (spec_CompareNames_L1 b a.parts 0 = spec_CompareNames_L1 b ((a.parts).drop i) i) := hpre
  clear hpre
  obtain ⟨v1, v2⟩ := hpre_
  refine WX.run ttOk rfl ?_
  refine WX.cases 12 rfl (fun h1 => ?_) (fun h1 => ?_)
  · skip
    have h1d := B.dt h1
    have e1i : i < (a.parts).length := (by omega)
    obtain ⟨e1, e1h⟩ : ∃ e1, (a.parts)[i]? = some e1 := ⟨_, List.getElem?_eq_getElem e1i⟩
    have ok1 : GoT.ok n e1 := (okl (ok_Name hoka)).2 _ (List.mem_of_getElem? e1h)
    refine WX.run ttOk rfl ?_
    refine WX.cases 18 rfl (fun h2 => ?_) (fun h2 => ?_)
    · skip
      have h2d := B.dt h2
      refine WX.run ttOk rfl ?_
      refine WX.draw [] mixed ?_
      intro bs G0 hΓ0
      refine DX.takes (fuel := 9) ttOk [(0, true), (1, false), (2, true)] (by kernel_rfl) rfl ?_
      refine DX.idx 3 0 i ttOk hΓ0 (by kernel_rfl) rfl rfl rfl rfl rfl rfl rfl rfl rfl rfl rfl e1i ?_
      rintro ad1 rfl
      refine DX.ldE 4 0 2 e1 ttOk hΓ0 (by kernel_rfl) rfl rfl rfl rfl rfl rfl rfl rfl e1h (fun _ => rfl) (fun _ => rfl) ?_
      rintro ⟨⟩
      refine DX.takes (fuel := 4) ttOk [(5, true), (6, false), (7, true)] (by kernel_rfl) rfl ?_
      have e2i : i < (b.parts).length := (by first | assumption | omega)
      obtain ⟨e2, e2h⟩ : ∃ e2, (b.parts)[i]? = some e2 := ⟨_, List.getElem?_eq_getElem e2i⟩
      have ok2 : GoT.ok n e2 := (okl (ok_Name hokb)).2 _ (List.mem_of_getElem? e2h)
      refine DX.idx 8 1 i ttOk hΓ0 (by kernel_rfl) rfl rfl rfl rfl rfl rfl rfl rfl rfl rfl rfl e2i ?_
      rintro ad2 rfl
      refine DX.ldE 9 1 2 e2 ttOk hΓ0 (by kernel_rfl) rfl rfl rfl rfl rfl rfl rfl rfl e2h (fun _ => rfl) (fun _ => rfl) ?_
      rintro ⟨⟩
      refine DX.callV 10 rfl (by kernel_rfl) rfl rfl rfl rfl rfl rfl (fun _ => rfl) rfl (fun w G bs hI hΓ => f287 w n (by omega) e1 e2 ok1 ok2) ?_
      intro hq1
      refine DX.takes (fuel := 0) ttOk [(11, true)] (by kernel_rfl) rfl ?_
      refine DX.tail2 [] rfl rfl (by kernel_rfl) ?_
      refine WX.run ttOk rfl ?_
      refine WX.cases 33 rfl (fun h3 => ?_) (fun h3 => ?_)
      · skip
        have h3d := B.nt' h3
        refine WX.run ttOk rfl ?_
        have hP1 : spec_CompareNames_L1 b a.parts 0 = (some (spec_l4Cmp e1 e2)) := by rw [v2, drop_get e1h]; simp only [spec_CompareNames_L1, h2, e2h, h3, cond_true, cond_false]
        have hP2 : spec_CompareNames a b = (spec_l4Cmp e1 e2) := by simp only [spec_CompareNames, hP1, cond_true, cond_false]
        refine WX.ret ttOk rfl ?_
        intro w1 G bs hI hΓ
        rw [hP2]
        exact ⟨rfl, hq1⟩
      · skip
        have h3d := B.nf' h3
        refine WX.run ttOk rfl ?_
        refine WX.see rfl rfl rfl (fun _ hΓ => looks_arith rfl rfl rfl rfl (by unfold I64; first | omega | (dsimp only; omega))) ?_
        refine WX.run ttOk rfl ?_
        exact WX.iter (i + 1) ⟨(by omega), (by rw [v2, drop_get e1h]; simp only [spec_CompareNames_L1, h2, e2h, h3, cond_true, cond_false])⟩ (by first | (dsimp only; omega) | omega) (.cons rfl (.cons rfl (.cons rfl (.nil)))) (.cons rfl (.cons rfl (.nil))) .nil [0, 1] rfl
    · skip
      have h2d := B.df h2
      refine WX.run ttOk rfl ?_
      have hX1 : spec_CompareNames_L1 b a.parts 0 = none := by rw [v2, drop_get e1h]; simp only [spec_CompareNames_L1, h2, cond_true, cond_false]
      refine WX.cases 35 rfl (fun h4 => ?_) (fun h4 => ?_)
      · skip
        have h4d := B.dt h4
        refine WX.run ttOk rfl ?_
        have hP3 : spec_CompareNames a b = (-1) := by simp only [spec_CompareNames, hX1, h4, cond_true, cond_false]
        refine WX.ret ttOk rfl ?_
        intro w1 G bs hI hΓ
        rw [hP3]
        exact ⟨rfl, (show I64 (-1) from (by unfold I64; omega))⟩
      · skip
        have h4d := B.df h4
        refine WX.run ttOk rfl ?_
        refine WX.cases 43 rfl (fun h5 => ?_) (fun h5 => ?_)
        · skip
          have h5d := B.dt h5
          refine WX.run ttOk rfl ?_
          have hP4 : spec_CompareNames a b = 1 := by simp only [spec_CompareNames, hX1, h4, h5, cond_true, cond_false]
          refine WX.ret ttOk rfl ?_
          intro w1 G bs hI hΓ
          rw [hP4]
          exact ⟨rfl, (show I64 1 from (by unfold I64; omega))⟩
        · skip
          have h5d := B.df h5
          refine WX.run ttOk rfl ?_
          have hP5 : spec_CompareNames a b = 0 := by simp only [spec_CompareNames, hX1, h4, h5, cond_true, cond_false]
          refine WX.ret ttOk rfl ?_
          intro w1 G bs hI hΓ
          rw [hP5]
          exact ⟨rfl, (show I64 0 from (by unfold I64; omega))⟩
  · skip
    have h1d := B.df h1
    refine WX.run ttOk rfl ?_
    have hX2 : spec_CompareNames_L1 b a.parts 0 = none := by rw [v2, List.drop_eq_nil_of_le (show (a.parts).length ≤ i by omega)]; simp only [spec_CompareNames_L1, cond_true, cond_false]
    refine WX.cases 35 rfl (fun h6 => ?_) (fun h6 => ?_)
    · skip
      have h6d := B.dt h6
      refine WX.run ttOk rfl ?_
      have hP6 : spec_CompareNames a b = (-1) := by simp only [spec_CompareNames, hX2, h6, cond_true, cond_false]
      refine WX.ret ttOk rfl ?_
      intro w1 G bs hI hΓ
      rw [hP6]
      exact ⟨rfl, (show I64 (-1) from (by unfold I64; omega))⟩
    · skip
      have h6d := B.df h6
      refine WX.run ttOk rfl ?_
      refine WX.cases 43 rfl (fun h7 => ?_) (fun h7 => ?_)
      · skip
        have h7d := B.dt h7
        refine WX.run ttOk rfl ?_
        have hP7 : spec_CompareNames a b = 1 := by simp only [spec_CompareNames, hX2, h6, h7, cond_true, cond_false]
        refine WX.ret ttOk rfl ?_
        intro w1 G bs hI hΓ
        rw [hP7]
        exact ⟨rfl, (show I64 1 from (by unfold I64; omega))⟩
      · skip
        have h7d := B.df h7
        refine WX.run ttOk rfl ?_
        have hP8 : spec_CompareNames a b = 0 := by simp only [spec_CompareNames, hX2, h6, h7, cond_true, cond_false]
        refine WX.ret ttOk rfl ?_
        intro w1 G bs hI hΓ
        rw [hP8]
        exact ⟨rfl, (show I64 0 from (by unfold I64; omega))⟩
theorem f92 (w : World) (n : Nat) (hn : n + 0 ≤ 9) (a : Name) (pa : Option Addr) (ca : Nat) (hpa : RdSl (hp w) pa ca a.parts) (b : Name) (pb : Option Addr) (cb : Nat) (hpb : RdSl (hp w) pb cb b.parts) (hoka : GoT.ok n a) (hokb : GoT.ok n b) :
    Does Tryz.prog 92 #[.agg #[.slice pa ((a.parts).length) ca], .agg #[.slice pb ((b.parts).length) cb]] w emp (fun (rv : Value) (_ : World) => rv = .bool (spec_EqualNames a b) ∧ True) := by
  have hbP := bd_pos n
  have hbB := bd_big (n := n) (by omega)
  refine WX.enter (tt := tt) (Γ := [(0, MF.rs .stb pa ca a.parts), (1, MF.rs .stb pb cb b.parts)]) Tryz.func92 rfl (by kernel_rfl) rfl (allS_cons rfl hpa (allS_cons rfl hpb allS_nil)) ?_
  refine WX.run ttOk rfl ?_
  refine WX.callV rfl rfl rfl rfl rfl (fun _ => rfl) rfl (fun w G bs hI hΓ => f177 w n (by omega) a pa ca (hΓ.get 0 rfl) b pb cb (hΓ.get 1 rfl) hoka hokb) ?_
  intro hq1
  refine WX.run ttOk rfl ?_
  have hP1 : spec_EqualNames a b = ((spec_CompareNames a b) == 0) := by simp only [spec_EqualNames, cond_true, cond_false]
  refine WX.ret ttOk rfl ?_
  intro w1 G bs hI hΓ
  rw [hP1]
  exact ⟨rfl, trivial⟩
end Go.Proofs.YtfffongneoegbaaGreat

namespace Go.Stp
set_option linter.unusedVariables false
set_option linter.unusedSimpArgs false
def impl_ValidPart_L1 : List UInt8 → Option (Bool)
  | [] => none
  | e1 :: rest_ =>
    bif decide (((e1).toNat : Int) ≥ 97) then
      bif decide (((e1).toNat : Int) ≤ 122) then
        impl_ValidPart_L1 rest_
      else
        bif decide (((e1).toNat : Int) ≥ 48) then
          bif decide (((e1).toNat : Int) ≤ 57) then
            impl_ValidPart_L1 rest_
          else
            bif (!(((e1).toNat : Int) == 45)) then
              (some false)
            else
              impl_ValidPart_L1 rest_
        else
          bif (!(((e1).toNat : Int) == 45)) then
            (some false)
          else
            impl_ValidPart_L1 rest_
    else
      bif decide (((e1).toNat : Int) ≥ 48) then
        bif decide (((e1).toNat : Int) ≤ 57) then
          impl_ValidPart_L1 rest_
        else
          bif (!(((e1).toNat : Int) == 45)) then
            (some false)
          else
            impl_ValidPart_L1 rest_
      else
        bif (!(((e1).toNat : Int) == 45)) then
          (some false)
        else
          impl_ValidPart_L1 rest_
def impl_ValidPart (s : Str) : Bool :=
  match impl_ValidPart_L1 ((s).data.toList) with
    | some r_ => r_
    | none =>
      (impl_InRange (((s).size : Nat) : Int) 1 8)
def spec_ValidPart_L1 : List UInt8 → Option (Bool)
  | [] => none
  | e1 :: rest_ =>
    bif (!(spec_l1In ((e1).toNat : Int) 97 122)) then
      bif (!(spec_l1In ((e1).toNat : Int) 48 57)) then
        bif (((e1).toNat : Int) != 45) then
          (some false)
        else
          spec_ValidPart_L1 rest_
      else
        spec_ValidPart_L1 rest_
    else
      spec_ValidPart_L1 rest_
def spec_ValidPart (s : Str) : Bool :=
  bif (!(spec_l1In (((s).size : Nat) : Int) 1 8)) then
    false
  else
    match spec_ValidPart_L1 ((s).data.toList) with
      | some r_ => r_
      | none =>
        true
def slices_IndexFunc_string_L1 (fq : Str → Bool) : List Str → Nat → Option (Int)
  | [], i => none
  | e1 :: rest_, i =>
    bif fq e1 then
      (some ((i : Nat) : Int))
    else
      slices_IndexFunc_string_L1 fq rest_ (i + 1)
def slices_IndexFunc_string (s : (List Str)) (fq : Str → Bool) : Int :=
  match slices_IndexFunc_string_L1 fq s 0 with
    | some r_ => r_
    | none =>
      (-1)
def slices_ContainsFunc_string (s : (List Str)) (fq : Str → Bool) : Bool :=
  (decide ((slices_IndexFunc_string s fq) ≥ 0))
def impl_ValidName_c1 (p_ : Str) : Bool :=
  (!(impl_ValidPart p_))
def impl_ValidName (n_ : Name) : Bool :=
  bif decide ((((n_.parts).length : Nat) : Int) ≤ 6) then
    (!(slices_ContainsFunc_string n_.parts (fun e0_ => (impl_ValidName_c1 e0_))))
  else
    false
def spec_ValidName_L1 : List Str → Option (Bool)
  | [] => none
  | e1 :: rest_ =>
    bif (!(spec_ValidPart e1)) then
      (some false)
    else
      spec_ValidName_L1 rest_
def spec_ValidName (n_ : Name) : Bool :=
  match spec_ValidName_L1 n_.parts with
    | some r_ => r_
    | none =>
      (decide ((((n_.parts).length : Nat) : Int) ≤ 6))
end Go.Stp

namespace Go.Proofs.YtfffongneoegbaaGreat
open Go.Stp
set_option linter.unusedVariables false
set_option linter.unusedSimpArgs false
theorem f297 (w : World) (n : Nat) (hn : n + 0 ≤ 9) (s : Str) (hoks : GoT.ok n s) :
    Does Tryz.prog 297 #[.string s] w emp (fun (rv : Value) (_ : World) => rv = .bool (impl_ValidPart s) ∧ True) := by
  have hbP := bd_pos n
  have hbB := bd_big (n := n) (by omega)
  refine WX.enter (tt := tt) (Γ := []) Tryz.func297 rfl (by kernel_rfl) rfl allS_nil ?_
  refine WX.run ttOk rfl ?_
  have r1 : (s).size ≤ bd n := hoks
  refine WX.loop (ι := Nat) ⟨fun i => (i ≤ ((s).data.toList).length) ∧ (impl_ValidPart_L1 ((s).data.toList) = impl_ValidPart_L1 (((s).data.toList).drop i)), fun i => ((s).data.toList).length - i, fun i => [(7, .v (.int .i64 (((i : Nat) : Int)))), (6, .v (.int .i64 ((((s).size : Nat) : Int)))), (0, .v (.string s))], fun i => [], fun i => [], fun i => []⟩ 0 ⟨(Nat.zero_le _), rfl⟩
    (.cons rfl (.cons rfl (.cons rfl (.nil)))) .nil .nil [] rfl ?_
  rintro i hpre
  have hpre_ : (i ≤ ((s).data.toList).length) ∧ (impl_ValidPart_L1 ((s).data.toList) = impl_ValidPart_L1 (((s).data.toList).drop i)) := hpre
  clear hpre
  obtain ⟨v1, v2⟩ := hpre_
  refine WX.run ttOk rfl ?_
  refine WX.cases 8 rfl (fun h1 => ?_) (fun h1 => ?_)
  · skip
    have h1d := B.dt h1
    have e1i : i < ((s).data.toList).length := (by (have hz_ : ((s).data.toList).length = (s).size := by simp); omega)
    obtain ⟨e1, e1h⟩ : ∃ e1, ((s).data.toList)[i]? = some e1 := ⟨_, List.getElem?_eq_getElem e1i⟩
    refine WX.run ttOk rfl ?_
    refine WX.see rfl rfl rfl (fun _ hΓ => looks_strIdx ttOk rfl rfl rfl rfl rfl e1h) ?_
    refine WX.run ttOk rfl ?_
    refine WX.cases 15 rfl (fun h2 => ?_) (fun h2 => ?_)
    · skip
      have h2d := B.dt h2
      refine WX.run ttOk rfl ?_
      refine WX.cases 19 rfl (fun h3 => ?_) (fun h3 => ?_)
      · skip
        have h3d := B.dt h3
        refine WX.run ttOk rfl ?_
        refine WX.see rfl rfl rfl (fun _ hΓ => looks_arith rfl rfl rfl rfl (by unfold I64; first | omega | (dsimp only; omega))) ?_
        refine WX.run ttOk rfl ?_
        exact WX.iter (i + 1) ⟨(by omega), (by rw [v2, drop_get e1h]; simp only [impl_ValidPart_L1, h2, h3, cond_true, cond_false])⟩ (by first | (dsimp only; omega) | omega) (.cons rfl (.cons rfl (.cons rfl (.nil)))) .nil .nil [] rfl
      · skip
        have h3d := B.df h3
        refine WX.run ttOk rfl ?_
        refine WX.cases 22 rfl (fun h4 => ?_) (fun h4 => ?_)
        · skip
          have h4d := B.dt h4
          refine WX.run ttOk rfl ?_
          refine WX.cases 27 rfl (fun h5 => ?_) (fun h5 => ?_)
          · skip
            have h5d := B.dt h5
            refine WX.run ttOk rfl ?_
            refine WX.see rfl rfl rfl (fun _ hΓ => looks_arith rfl rfl rfl rfl (by unfold I64; first | omega | (dsimp only; omega))) ?_
            refine WX.run ttOk rfl ?_
            exact WX.iter (i + 1) ⟨(by omega), (by rw [v2, drop_get e1h]; simp only [impl_ValidPart_L1, h2, h3, h4, h5, cond_true, cond_false])⟩ (by first | (dsimp only; omega) | omega) (.cons rfl (.cons rfl (.cons rfl (.nil)))) .nil .nil [] rfl
          · skip
            have h5d := B.df h5
            refine WX.run ttOk rfl ?_
            refine WX.cases 31 rfl (fun h6 => ?_) (fun h6 => ?_)
            · skip
              have h6d := B.ef (B.nt h6)
              refine WX.run ttOk rfl ?_
              have hP1 : impl_ValidPart_L1 ((s).data.toList) = (some false) := by rw [v2, drop_get e1h]; simp only [impl_ValidPart_L1, h2, h3, h4, h5, h6, cond_true, cond_false]
              have hP2 : impl_ValidPart s = false := by simp only [impl_ValidPart, hP1, cond_true, cond_false]
              refine WX.ret ttOk rfl ?_
              intro w1 G bs hI hΓ
              rw [hP2]
              exact ⟨rfl, trivial⟩
            · skip
              have h6d := B.et (B.nf h6)
              refine WX.run ttOk rfl ?_
              refine WX.see rfl rfl rfl (fun _ hΓ => looks_arith rfl rfl rfl rfl (by unfold I64; first | omega | (dsimp only; omega))) ?_
              refine WX.run ttOk rfl ?_
              exact WX.iter (i + 1) ⟨(by omega), (by rw [v2, drop_get e1h]; simp only [impl_ValidPart_L1, h2, h3, h4, h5, h6, cond_true, cond_false])⟩ (by first | (dsimp only; omega) | omega) (.cons rfl (.cons rfl (.cons rfl (.nil)))) .nil .nil [] rfl
        · skip
          have h4d := B.df h4
          refine WX.run ttOk rfl ?_
          refine WX.cases 31 rfl (fun h7 => ?_) (fun h7 => ?_)
          · skip
            have h7d := B.ef (B.nt h7)
            refine WX.run ttOk rfl ?_
            have hP3 : impl_ValidPart_L1 ((s).data.toList) = (some false) := by rw [v2, drop_get e1h]; simp only [impl_ValidPart_L1, h2, h3, h4, h7, cond_true, cond_false]
            have hP4 : impl_ValidPart s = false := by simp only [impl_ValidPart, hP3, cond_true, cond_false]
            refine WX.ret ttOk rfl ?_
            intro w1 G bs hI hΓ
            rw [hP4]
            exact ⟨rfl, trivial⟩
          · skip
            have h7d := B.et (B.nf h7)
            refine WX.run ttOk rfl ?_
            refine WX.see rfl rfl rfl (fun _ hΓ => looks_arith rfl rfl rfl rfl (by unfold I64; first | omega | (dsimp only; omega))) ?_
            refine WX.run ttOk rfl ?_
            exact WX.iter (i + 1) ⟨(by omega), (by rw [v2, drop_get e1h]; simp only [impl_ValidPart_L1, h2, h3, h4, h7, cond_true, cond_false])⟩ (by first | (dsimp only; omega) | omega) (.cons rfl (.cons rfl (.cons rfl (.nil)))) .nil .nil [] rfl
    · skip
      have h2d := B.df h2
      refine WX.run ttOk rfl ?_
      refine WX.cases 22 rfl (fun h8 => ?_) (fun h8 => ?_)
      · skip
        have h8d := B.dt h8
        refine WX.run ttOk rfl ?_
        refine WX.cases 27 rfl (fun h9 => ?_) (fun h9 => ?_)
        · skip
          have h9d := B.dt h9
          refine WX.run ttOk rfl ?_
          refine WX.see rfl rfl rfl (fun _ hΓ => looks_arith rfl rfl rfl rfl (by unfold I64; first | omega | (dsimp only; omega))) ?_
          refine WX.run ttOk rfl ?_
          exact WX.iter (i + 1) ⟨(by omega), (by rw [v2, drop_get e1h]; simp only [impl_ValidPart_L1, h2, h8, h9, cond_true, cond_false])⟩ (by first | (dsimp only; omega) | omega) (.cons rfl (.cons rfl (.cons rfl (.nil)))) .nil .nil [] rfl
        · skip
          have h9d := B.df h9
          refine WX.run ttOk rfl ?_
          refine WX.cases 31 rfl (fun h10 => ?_) (fun h10 => ?_)
          · skip
            have h10d := B.ef (B.nt h10)
            refine WX.run ttOk rfl ?_
            have hP5 : impl_ValidPart_L1 ((s).data.toList) = (some false) := by rw [v2, drop_get e1h]; simp only [impl_ValidPart_L1, h2, h8, h9, h10, cond_true, cond_false]
            have hP6 : impl_ValidPart s = false := by simp only [impl_ValidPart, hP5, cond_true, cond_false]
            refine WX.ret ttOk rfl ?_
            intro w1 G bs hI hΓ
            rw [hP6]
            exact ⟨rfl, trivial⟩
          · skip
            have h10d := B.et (B.nf h10)
            refine WX.run ttOk rfl ?_
            refine WX.see rfl rfl rfl (fun _ hΓ => looks_arith rfl rfl rfl rfl (by unfold I64; first | omega | (dsimp only; omega))) ?_
            refine WX.run ttOk rfl ?_
            exact WX.iter (i + 1) ⟨(by omega), (by rw [v2, drop_get e1h]; simp only [impl_ValidPart_L1, h2, h8, h9, h10, cond_true, cond_false])⟩ (by first | (dsimp only; omega) | omega) (.cons rfl (.cons rfl (.cons rfl (.nil)))) .nil .nil [] rfl
      · skip
        have h8d := B.df h8
        refine WX.run ttOk rfl ?_
        refine WX.cases 31 rfl (fun h11 => ?_) (fun h11 => ?_)
        · skip
          have h11d := B.ef (B.nt h11)
          refine WX.run ttOk rfl ?_
          have hP7 : impl_ValidPart_L1 ((s).data.toList) = (some false) := by rw [v2, drop_get e1h]; simp only [impl_ValidPart_L1, h2, h8, h11, cond_true, cond_false]
          have hP8 : impl_ValidPart s = false := by simp only [impl_ValidPart, hP7, cond_true, cond_false]
          refine WX.ret ttOk rfl ?_
          intro w1 G bs hI hΓ
          rw [hP8]
          exact ⟨rfl, trivial⟩
        · skip
          have h11d := B.et (B.nf h11)
          refine WX.run ttOk rfl ?_
          refine WX.see rfl rfl rfl (fun _ hΓ => looks_arith rfl rfl rfl rfl (by unfold I64; first | omega | (dsimp only; omega))) ?_
          refine WX.run ttOk rfl ?_
          exact WX.iter (i + 1) ⟨(by omega), (by rw [v2, drop_get e1h]; simp only [impl_ValidPart_L1, h2, h8, h11, cond_true, cond_false])⟩ (by first | (dsimp only; omega) | omega) (.cons rfl (.cons rfl (.cons rfl (.nil)))) .nil .nil [] rfl
  · skip
    have h1d := B.df h1
    refine WX.run ttOk rfl ?_
    have hX1 : impl_ValidPart_L1 ((s).data.toList) = none := by rw [v2, List.drop_eq_nil_of_le (show ((s).data.toList).length ≤ i by (have hz_ : ((s).data.toList).length = (s).size := by simp); omega)]; simp only [impl_ValidPart_L1, cond_true, cond_false]
    refine WX.callV rfl rfl rfl rfl rfl (fun _ => rfl) rfl (fun w G bs hI hΓ => f167 w n (by omega) (((s).size : Nat) : Int) 1 8 (show I64 (((s).size : Nat) : Int) from (by unfold I64; omega)) (show I64 1 from (by unfold I64; omega)) (show I64 8 from (by unfold I64; omega))) ?_
    intro hq1
    refine WX.run ttOk rfl ?_
    have hP9 : impl_ValidPart s = (impl_InRange (((s).size : Nat) : Int) 1 8) := by simp only [impl_ValidPart, hX1, cond_true, cond_false]
    refine WX.ret ttOk rfl ?_
    intro w1 G bs hI hΓ
    rw [hP9]
    exact ⟨rfl, trivial⟩
theorem f288 (w : World) (n : Nat) (hn : n + 0 ≤ 9) (s : Str) (hoks : GoT.ok n s) :
    Does Tryz.prog 288 #[.string s] w emp (fun (rv : Value) (_ : World) => rv = .bool (spec_ValidPart s) ∧ True) := by
  have hbP := bd_pos n
  have hbB := bd_big (n := n) (by omega)
  refine WX.enter (tt := tt) (Γ := []) Tryz.func288 rfl (by kernel_rfl) rfl allS_nil ?_
  refine WX.run ttOk rfl ?_
  have r1 : (s).size ≤ bd n := hoks
  refine WX.callV rfl rfl rfl rfl rfl (fun _ => rfl) rfl (fun w G bs hI hΓ => f160 w n (by omega) (((s).size : Nat) : Int) 1 8 (show I64 (((s).size : Nat) : Int) from (by unfold I64; omega)) (show I64 1 from (by unfold I64; omega)) (show I64 8 from (by unfold I64; omega))) ?_
  intro hq1
  refine WX.run ttOk rfl ?_
  refine WX.cases 8 rfl (fun h1 => ?_) (fun h1 => ?_)
  · skip
    have h1d := (B.nt h1)
    refine WX.run ttOk rfl ?_
    have hP1 : spec_ValidPart s = false := by simp only [spec_ValidPart, h1, cond_true, cond_false]
    refine WX.ret ttOk rfl ?_
    intro w1 G bs hI hΓ
    rw [hP1]
    exact ⟨rfl, trivial⟩
  · skip
    have h1d := (B.nf h1)
    have h1r := inR_spec (B.nf h1)
    refine WX.run ttOk rfl ?_
    refine WX.loop (ι := Nat) ⟨fun i => (i ≤ ((s).data.toList).length) ∧ (spec_ValidPart_L1 ((s).data.toList) = spec_ValidPart_L1 (((s).data.toList).drop i)), fun i => ((s).data.toList).length - i, fun i => [(3, .v (.int .i64 (((i : Nat) : Int)))), (0, .v (.string s))], fun i => [], fun i => [], fun i => []⟩ 0 ⟨(Nat.zero_le _), rfl⟩
      (.cons rfl (.cons rfl (.nil))) .nil .nil [] rfl ?_
    rintro i hpre
    have hpre_ : (i ≤ ((s).data.toList).length) ∧ (spec_ValidPart_L1 ((s).data.toList) = spec_ValidPart_L1 (((s).data.toList).drop i)) := hpre
    clear hpre
    obtain ⟨v1, v2⟩ := hpre_
    refine WX.run ttOk rfl ?_
    refine WX.cases 12 rfl (fun h2 => ?_) (fun h2 => ?_)
    · skip
      have h2d := B.dt h2
      have e1i : i < ((s).data.toList).length := (by (have hz_ : ((s).data.toList).length = (s).size := by simp); omega)
      obtain ⟨e1, e1h⟩ : ∃ e1, ((s).data.toList)[i]? = some e1 := ⟨_, List.getElem?_eq_getElem e1i⟩
      refine WX.run ttOk rfl ?_
      refine WX.see rfl rfl rfl (fun _ hΓ => looks_strIdx ttOk rfl rfl rfl rfl rfl e1h) ?_
      refine WX.see rfl rfl rfl (fun _ hΓ => looks_ofU8 ttOk rfl rfl rfl rfl rfl rfl) ?_
      refine WX.run ttOk rfl ?_
      have r2 : (e1).toNat < 256 := UInt8.toNat_lt _
      refine WX.callV rfl rfl rfl rfl rfl (fun _ => rfl) rfl (fun w G bs hI hΓ => f160 w n (by omega) ((e1).toNat : Int) 97 122 (show I64 ((e1).toNat : Int) from (by unfold I64; omega)) (show I64 97 from (by unfold I64; omega)) (show I64 122 from (by unfold I64; omega))) ?_
      intro hq2
      refine WX.run ttOk rfl ?_
      refine WX.cases 22 rfl (fun h3 => ?_) (fun h3 => ?_)
      · skip
        have h3d := (B.nt h3)
        refine WX.run ttOk rfl ?_
        refine WX.callV rfl rfl rfl rfl rfl (fun _ => rfl) rfl (fun w G bs hI hΓ => f160 w n (by omega) ((e1).toNat : Int) 48 57 (show I64 ((e1).toNat : Int) from (by unfold I64; omega)) (show I64 48 from (by unfold I64; omega)) (show I64 57 from (by unfold I64; omega))) ?_
        intro hq3
        refine WX.run ttOk rfl ?_
        refine WX.cases 27 rfl (fun h4 => ?_) (fun h4 => ?_)
        · skip
          have h4d := (B.nt h4)
          refine WX.run ttOk rfl ?_
          refine WX.cases 30 rfl (fun h5 => ?_) (fun h5 => ?_)
          · skip
            have h5d := B.nt' h5
            refine WX.run ttOk rfl ?_
            have hP2 : spec_ValidPart_L1 ((s).data.toList) = (some false) := by rw [v2, drop_get e1h]; simp only [spec_ValidPart_L1, h3, h4, h5, cond_true, cond_false]
            have hP3 : spec_ValidPart s = false := by simp only [spec_ValidPart, h1, hP2, cond_true, cond_false]
            refine WX.ret ttOk rfl ?_
            intro w1 G bs hI hΓ
            rw [hP3]
            exact ⟨rfl, trivial⟩
          · skip
            have h5d := B.nf' h5
            refine WX.run ttOk rfl ?_
            refine WX.see rfl rfl rfl (fun _ hΓ => looks_arith rfl rfl rfl rfl (by unfold I64; first | omega | (dsimp only; omega))) ?_
            refine WX.run ttOk rfl ?_
            exact WX.iter (i + 1) ⟨(by omega), (by rw [v2, drop_get e1h]; simp only [spec_ValidPart_L1, h3, h4, h5, cond_true, cond_false])⟩ (by first | (dsimp only; omega) | omega) (.cons rfl (.cons rfl (.nil))) .nil .nil [] rfl
        · skip
          have h4d := (B.nf h4)
          have h4r := inR_spec (B.nf h4)
          refine WX.run ttOk rfl ?_
          refine WX.see rfl rfl rfl (fun _ hΓ => looks_arith rfl rfl rfl rfl (by unfold I64; first | omega | (dsimp only; omega))) ?_
          refine WX.run ttOk rfl ?_
          exact WX.iter (i + 1) ⟨(by omega), (by rw [v2, drop_get e1h]; simp only [spec_ValidPart_L1, h3, h4, cond_true, cond_false])⟩ (by first | (dsimp only; omega) | omega) (.cons rfl (.cons rfl (.nil))) .nil .nil [] rfl
      · skip
        have h3d := (B.nf h3)
        have h3r := inR_spec (B.nf h3)
        refine WX.run ttOk rfl ?_
        refine WX.see rfl rfl rfl (fun _ hΓ => looks_arith rfl rfl rfl rfl (by unfold I64; first | omega | (dsimp only; omega))) ?_
        refine WX.run ttOk rfl ?_
        exact WX.iter (i + 1) ⟨(by omega), (by rw [v2, drop_get e1h]; simp only [spec_ValidPart_L1, h3, cond_true, cond_false])⟩ (by first | (dsimp only; omega) | omega) (.cons rfl (.cons rfl (.nil))) .nil .nil [] rfl
    · skip
      have h2d := B.df h2
      refine WX.run ttOk rfl ?_
      have hX1 : spec_ValidPart_L1 ((s).data.toList) = none := by rw [v2, List.drop_eq_nil_of_le (show ((s).data.toList).length ≤ i by (have hz_ : ((s).data.toList).length = (s).size := by simp); omega)]; simp only [spec_ValidPart_L1, cond_true, cond_false]
      have hP4 : spec_ValidPart s = true := by simp only [spec_ValidPart, h1, hX1, cond_true, cond_false]
      refine WX.ret ttOk rfl ?_
      intro w1 G bs hI hΓ
      rw [hP4]
      exact ⟨rfl, trivial⟩
theorem f371 (w : World) (n : Nat) (hn : n + 0 ≤ 9) (s : (List Str)) (ps : Option Addr) (cs : Nat) (hps : RdSl (hp w) ps cs s) (fg : FuncId) (fc : List Value) (fq : Str → Bool) (ff : ∀ w1, Kp emp w w1 → ∀ (e0 : Str) (x0 : GoT.X Str), GoT.ok n e0 → All (hp w1) (GoT.fa .der e0 x0) → Does Tryz.prog fg ([(GoT.sh e0 x0).headD undef] ++ fc).toArray w1 emp (fun rv _ => rv = .bool (fq e0) ∧ True)) (hoks : GoT.ok n s) :
    Does Tryz.prog 371 #[.slice ps ((s).length) cs, .func (.func fg) #[] fc.toArray] w emp (fun (rv : Value) (_ : World) => rv = .int .i64 ((slices_IndexFunc_string s fq)) ∧ GoT.ok n ((slices_IndexFunc_string s fq) : Int)) := by
  have hbP := bd_pos n
  have hbB := bd_big (n := n) (by omega)
  refine WX.enter (tt := tt) (Γ := [(0, MF.rs .stb ps cs s)]) Tryz.func371 rfl (by kernel_rfl) rfl (allS_cons rfl hps allS_nil) ?_
  refine WX.run ttOk rfl ?_
  have r1 : (s).length ≤ bd n := (okl hoks).1
  refine WX.loop (ι := Nat) ⟨fun i => (i ≤ (s).length) ∧ (slices_IndexFunc_string_L1 fq s 0 = slices_IndexFunc_string_L1 fq ((s).drop i) i), fun i => (s).length - i, fun i => [(8, .v (.int .i64 (((i : Nat) : Int)))), (7, .v (.int .i64 ((((s).length : Nat) : Int)))), (0, .v (.slice ps ((s).length) cs)), (1, .v (.func (.func fg) #[] fc.toArray))], fun i => [], fun i => [], fun i => [(0, MF.rs .stb ps cs s)]⟩ 0 ⟨(Nat.zero_le _), rfl⟩
    (.cons rfl (.cons rfl (.cons rfl (.cons rfl (.nil))))) .nil .nil [0] rfl ?_
  rintro i hpre
  have hpre_ : (i ≤ (s).length) ∧ (slices_IndexFunc_string_L1 fq s 0 = slices_IndexFunc_string_L1 fq ((s).drop i) i) := hpre
  clear hpre
  obtain ⟨v1, v2⟩ := hpre_
  refine WX.run ttOk rfl ?_
  refine WX.cases 9 rfl (fun h1 => ?_) (fun h1 => ?_)
  · skip
    have h1d := B.dt h1
    have e1i : i < (s).length := (by omega)
    obtain ⟨e1, e1h⟩ : ∃ e1, (s)[i]? = some e1 := ⟨_, List.getElem?_eq_getElem e1i⟩
    have ok1 : GoT.ok n e1 := (okl hoks).2 _ (List.mem_of_getElem? e1h)
    refine WX.run ttOk rfl ?_
    refine WX.idx 0 i ttOk rfl rfl rfl rfl rfl rfl rfl rfl rfl rfl e1i ?_
    rintro ad1 rfl
    refine WX.ldE 0 1 e1 ttOk rfl rfl rfl rfl rfl rfl rfl rfl e1h (fun _ => rfl) (fun _ => rfl) ?_
    rintro ⟨⟩
    refine WX.callV rfl rfl rfl rfl rfl (fun _ => rfl) rfl (fun w G bs hI hΓ => ff w hI.keep e1 () ok1 All.nil) ?_
    intro hq1
    refine WX.run ttOk rfl ?_
    refine WX.cases 16 rfl (fun h2 => ?_) (fun h2 => ?_)
    · skip
      refine WX.run ttOk rfl ?_
      have hP1 : slices_IndexFunc_string_L1 fq s 0 = (some ((i : Nat) : Int)) := by rw [v2, drop_get e1h]; simp only [slices_IndexFunc_string_L1, h2, cond_true, cond_false]
      have hP2 : slices_IndexFunc_string s fq = ((i : Nat) : Int) := by simp only [slices_IndexFunc_string, hP1, cond_true, cond_false]
      refine WX.ret ttOk rfl ?_
      intro w1 G bs hI hΓ
      rw [hP2]
      exact ⟨rfl, (show I64 ((i : Nat) : Int) from (by unfold I64; omega))⟩
    · skip
      refine WX.run ttOk rfl ?_
      refine WX.see rfl rfl rfl (fun _ hΓ => looks_arith rfl rfl rfl rfl (by unfold I64; first | omega | (dsimp only; omega))) ?_
      refine WX.run ttOk rfl ?_
      exact WX.iter (i + 1) ⟨(by omega), (by rw [v2, drop_get e1h]; simp only [slices_IndexFunc_string_L1, h2, cond_true, cond_false])⟩ (by first | (dsimp only; omega) | omega) (.cons rfl (.cons rfl (.cons rfl (.cons rfl (.nil))))) .nil .nil [0] rfl
  · skip
    have h1d := B.df h1
    refine WX.run ttOk rfl ?_
    have hX1 : slices_IndexFunc_string_L1 fq s 0 = none := by rw [v2, List.drop_eq_nil_of_le (show (s).length ≤ i by omega)]; simp only [slices_IndexFunc_string_L1, cond_true, cond_false]
    have hP3 : slices_IndexFunc_string s fq = (-1) := by simp only [slices_IndexFunc_string, hX1, cond_true, cond_false]
    refine WX.ret ttOk rfl ?_
    intro w1 G bs hI hΓ
    rw [hP3]
    exact ⟨rfl, (show I64 (-1) from (by unfold I64; omega))⟩
theorem ltL_slices_IndexFunc_string : ∀ (f : Str → Bool) (l : List Str) (i : Nat) (j : Int), slices_IndexFunc_string_L1 f l i = some j → j < ((i + l.length : Nat) : Int)
  | f, [], i, j, h => by cases h
  | f, x :: l, i, j, h => by
    simp only [slices_IndexFunc_string_L1] at h
    cases hx : f x
    · rw [hx, cond_false] at h
      have := ltL_slices_IndexFunc_string f l (i + 1) j h
      simp only [List.length_cons]; omega
    · rw [hx, cond_true] at h
      cases h
      simp only [List.length_cons]; omega
theorem ltI_slices_IndexFunc_string (l : List Str) (f : Str → Bool) : slices_IndexFunc_string l f < ((l.length : Nat) : Int) := by
  unfold slices_IndexFunc_string
  cases h : slices_IndexFunc_string_L1 f l 0 with
  | none => show (-1 : Int) < _; omega
  | some j => have := ltL_slices_IndexFunc_string f l 0 j h; show j < _; omega
theorem f295 (w : World) (n : Nat) (hn : n + 0 ≤ 9) (s : (List Str)) (ps : Option Addr) (cs : Nat) (hps : RdSl (hp w) ps cs s) (fg : FuncId) (fc : List Value) (fq : Str → Bool) (ff : ∀ w1, Kp emp w w1 → ∀ (e0 : Str) (x0 : GoT.X Str), GoT.ok n e0 → All (hp w1) (GoT.fa .der e0 x0) → Does Tryz.prog fg ([(GoT.sh e0 x0).headD undef] ++ fc).toArray w1 emp (fun rv _ => rv = .bool (fq e0) ∧ True)) (hoks : GoT.ok n s) :
    Does Tryz.prog 295 #[.slice ps ((s).length) cs, .func (.func fg) #[] fc.toArray] w emp (fun (rv : Value) (_ : World) => rv = .bool (slices_ContainsFunc_string s fq) ∧ True) := by
  have hbP := bd_pos n
  have hbB := bd_big (n := n) (by omega)
  refine WX.enter (tt := tt) (Γ := [(0, MF.rs .stb ps cs s)]) Tryz.func295 rfl (by kernel_rfl) rfl (allS_cons rfl hps allS_nil) ?_
  refine WX.run ttOk rfl ?_
  refine WX.callV rfl rfl rfl rfl rfl (fun _ => rfl) rfl (fun w G bs hI hΓ => f371 w n (by omega) s ps cs (hΓ.get 0 rfl) fg fc fq (fun w1_ hb_ => ff w1_ (hI.keep.trans hb_)) hoks) ?_
  intro hq1
  have q1 := ltI_slices_IndexFunc_string s fq
  refine WX.run ttOk rfl ?_
  have hP1 : slices_ContainsFunc_string s fq = (decide ((slices_IndexFunc_string s fq) ≥ 0)) := by simp only [slices_ContainsFunc_string, cond_true, cond_false]
  refine WX.ret ttOk rfl ?_
  intro w1 G bs hI hΓ
  rw [hP1]
  exact ⟨rfl, trivial⟩
theorem f296 (w : World) (n : Nat) (hn : n + 0 ≤ 9) (p_ : Str) (hokp_ : GoT.ok n p_) :
    Does Tryz.prog 296 #[.string p_] w emp (fun (rv : Value) (_ : World) => rv = .bool (impl_ValidName_c1 p_) ∧ True) := by
  have hbP := bd_pos n
  have hbB := bd_big (n := n) (by omega)
  refine WX.enter (tt := tt) (Γ := []) Tryz.func296 rfl (by kernel_rfl) rfl allS_nil ?_
  refine WX.run ttOk rfl ?_
  refine WX.callV rfl rfl rfl rfl rfl (fun _ => rfl) rfl (fun w G bs hI hΓ => f297 w n (by omega) p_ hokp_) ?_
  intro hq1
  refine WX.run ttOk rfl ?_
  have hP1 : impl_ValidName_c1 p_ = (!(impl_ValidPart p_)) := by simp only [impl_ValidName_c1, cond_true, cond_false]
  refine WX.ret ttOk rfl ?_
  intro w1 G bs hI hΓ
  rw [hP1]
  exact ⟨rfl, trivial⟩
theorem f193 (w : World) (n : Nat) (hn : n + 0 ≤ 9) (n_ : Name) (pn_ : Option Addr) (cn_ : Nat) (hpn_ : RdSl (hp w) pn_ cn_ n_.parts) (hokn_ : GoT.ok n n_) :
    Does Tryz.prog 193 #[.agg #[.slice pn_ ((n_.parts).length) cn_]] w emp (fun (rv : Value) (_ : World) => rv = .bool (impl_ValidName n_) ∧ True) := by
  have hbP := bd_pos n
  have hbB := bd_big (n := n) (by omega)
  refine WX.enter (tt := tt) (Γ := [(0, MF.rs .stb pn_ cn_ n_.parts)]) Tryz.func193 rfl (by kernel_rfl) rfl (allS_cons rfl hpn_ allS_nil) ?_
  refine WX.run ttOk rfl ?_
  refine WX.cases 7 rfl (fun h1 => ?_) (fun h1 => ?_)
  · skip
    have h1d := B.dt h1
    refine WX.run ttOk rfl ?_
    refine WX.callV rfl rfl rfl rfl rfl (fun _ => rfl) rfl (fun w G bs hI hΓ => f295 w n (by omega) n_.parts pn_ cn_ (hΓ.get 0 rfl) 296 [] (fun e0_ => (impl_ValidName_c1 e0_)) (fun w1_ hb_ e0_ x0_ hk0_ hx0_ => f296 w1_ n (by omega) e0_ hk0_) (ok_Name hokn_)) ?_
    intro hq1
    refine WX.run ttOk rfl ?_
    have hP1 : impl_ValidName n_ = (!(slices_ContainsFunc_string n_.parts (fun e0_ => (impl_ValidName_c1 e0_)))) := by simp only [impl_ValidName, h1, cond_true, cond_false]
    refine WX.ret ttOk rfl ?_
    intro w1 G bs hI hΓ
    rw [hP1]
    exact ⟨rfl, trivial⟩
  · skip
    have h1d := B.df h1
    refine WX.run ttOk rfl ?_
    have hP2 : impl_ValidName n_ = false := by simp only [impl_ValidName, h1, cond_true, cond_false]
    refine WX.ret ttOk rfl ?_
    intro w1 G bs hI hΓ
    rw [hP2]
    exact ⟨rfl, trivial⟩
theorem f179 (w : World) (n : Nat) (hn : n + 0 ≤ 9) (n_ : Name) (pn_ : Option Addr) (cn_ : Nat) (hpn_ : RdSl (hp w) pn_ cn_ n_.parts) (hokn_ : GoT.ok n n_) :
    Does Tryz.prog 179 #[.agg #[.slice pn_ ((n_.parts).length) cn_]] w emp (fun (rv : Value) (_ : World) => rv = .bool (spec_ValidName n_) ∧ True) := by
  have hbP := bd_pos n
  have hbB := bd_big (n := n) (by omega)
  refine WX.enter (tt := tt) (Γ := [(0, MF.rs .stb pn_ cn_ n_.parts)]) Tryz.func179 rfl (by kernel_rfl) rfl (allS_cons rfl hpn_ allS_nil) ?_
  refine WX.run ttOk rfl ?_
  have r1 : (n_.parts).length ≤ bd n := (okl (ok_Name hokn_)).1
  refine WX.loop (ι := Nat) ⟨fun i => (i ≤ (n_.parts).length) ∧ (spec_ValidName_L1 n_.parts = spec_ValidName_L1 ((n_.parts).drop i)), fun i => (n_.parts).length - i, fun i => [(3, .v (.int .i64 (((i : Nat) : Int)))), (1, .p 1 0)], fun i => [(1, ⟨36, [.slice pn_ ((n_.parts).length) cn_]⟩)], fun i => [], fun i => [(0, MF.rs .stb pn_ cn_ n_.parts)]⟩ 0 ⟨(Nat.zero_le _), rfl⟩
    (.cons rfl (.cons rfl (.nil))) (.cons rfl (.nil)) .nil [0] rfl ?_
  rintro i hpre
  have hpre_ : (i ≤ (n_.parts).length) ∧ (spec_ValidName_L1 n_.parts = spec_ValidName_L1 ((n_.parts).drop i)) := hpre
  clear hpre
  obtain ⟨v1, v2⟩ := hpre_
  refine WX.run ttOk rfl ?_
  refine WX.cases 8 rfl (fun h1 => ?_) (fun h1 => ?_)
  · skip
    have h1d := B.dt h1
    have e1i : i < (n_.parts).length := (by omega)
    obtain ⟨e1, e1h⟩ : ∃ e1, (n_.parts)[i]? = some e1 := ⟨_, List.getElem?_eq_getElem e1i⟩
    have ok1 : GoT.ok n e1 := (okl (ok_Name hokn_)).2 _ (List.mem_of_getElem? e1h)
    refine WX.run ttOk rfl ?_
    refine WX.idx 0 i ttOk rfl rfl rfl rfl rfl rfl rfl rfl rfl rfl e1i ?_
    rintro ad1 rfl
    refine WX.ldE 0 1 e1 ttOk rfl rfl rfl rfl rfl rfl rfl rfl e1h (fun _ => rfl) (fun _ => rfl) ?_
    rintro ⟨⟩
    refine WX.callV rfl rfl rfl rfl rfl (fun _ => rfl) rfl (fun w G bs hI hΓ => f288 w n (by omega) e1 ok1) ?_
    intro hq1
    refine WX.run ttOk rfl ?_
    refine WX.cases 17 rfl (fun h2 => ?_) (fun h2 => ?_)
    · skip
      have h2d := (B.nt h2)
      refine WX.run ttOk rfl ?_
      have hP1 : spec_ValidName_L1 n_.parts = (some false) := by rw [v2, drop_get e1h]; simp only [spec_ValidName_L1, h2, cond_true, cond_false]
      have hP2 : spec_ValidName n_ = false := by simp only [spec_ValidName, hP1, cond_true, cond_false]
      refine WX.ret ttOk rfl ?_
      intro w1 G bs hI hΓ
      rw [hP2]
      exact ⟨rfl, trivial⟩
    · skip
      have h2d := (B.nf h2)
      refine WX.run ttOk rfl ?_
      refine WX.see rfl rfl rfl (fun _ hΓ => looks_arith rfl rfl rfl rfl (by unfold I64; first | omega | (dsimp only; omega))) ?_
      refine WX.run ttOk rfl ?_
      exact WX.iter (i + 1) ⟨(by omega), (by rw [v2, drop_get e1h]; simp only [spec_ValidName_L1, h2, cond_true, cond_false])⟩ (by first | (dsimp only; omega) | omega) (.cons rfl (.cons rfl (.nil))) (.cons rfl (.nil)) .nil [0] rfl
  · skip
    have h1d := B.df h1
    refine WX.run ttOk rfl ?_
    have hX1 : spec_ValidName_L1 n_.parts = none := by rw [v2, List.drop_eq_nil_of_le (show (n_.parts).length ≤ i by omega)]; simp only [spec_ValidName_L1, cond_true, cond_false]
    have hP3 : spec_ValidName n_ = (decide ((((n_.parts).length : Nat) : Int) ≤ 6)) := by simp only [spec_ValidName, hX1, cond_true, cond_false]
    refine WX.ret ttOk rfl ?_
    intro w1 G bs hI hΓ
    rw [hP3]
    exact ⟨rfl, trivial⟩
end Go.Proofs.YtfffongneoegbaaGreat

namespace Go.Stp
set_option linter.unusedVariables false
set_option linter.unusedSimpArgs false
def cmp_isNaN_string (x_ : Str) : Bool :=
  (!((x_).toList == (x_).toList))
def cmp_Compare_string (x_ : Str) (y : Str) : Int :=
  bif (cmp_isNaN_string x_) then
    bif (cmp_isNaN_string y) then
      0
    else
      (-1)
  else
    bif (cmp_isNaN_string y) then
      1
    else
      bif (Op.bytesLess (x_).toList (y).toList) then
        (-1)
      else
        bif (!(Op.bytesLess (x_).toList (y).toList || (x_).toList == (y).toList)) then
          1
        else
          0
def slices_Compare_string_L1 (s2 : (List Str)) : List Str → Nat → Option (Int)
  | [], i => none
  | e1 :: rest_, i =>
    bif decide (((i : Nat) : Int) ≥ (((s2).length : Nat) : Int)) then
      (some 1)
    else
      match (s2)[i]? with
        | none => default
        | some e2 =>
          bif ((cmp_Compare_string e1 e2) != 0) then
            (some (cmp_Compare_string e1 e2))
          else
            slices_Compare_string_L1 s2 rest_ (i + 1)
def slices_Compare_string (s1 : (List Str)) (s2 : (List Str)) : Int :=
  match slices_Compare_string_L1 s2 s1 0 with
    | some r_ => r_
    | none =>
      bif decide ((((s1).length : Nat) : Int) < (((s2).length : Nat) : Int)) then
        (-1)
      else
        0
def impl_CompareNames (a : Name) (b : Name) : Int :=
  (slices_Compare_string a.parts b.parts)
def impl_ValidTable_L1 (l : (List TableEntry)) : List TableEntry → Nat → Option (Bool)
  | [], i => none
  | e1 :: rest_, i =>
    bif (!(impl_ValidName e1.name)) then
      (some false)
    else
      bif decide (((i : Nat) : Int) > 0) then
        match (l)[(((i : Nat) : Int) - 1).toNat]? with
          | none => default
          | some e2 =>
            bif decide ((impl_CompareNames e2.name e1.name) ≥ 0) then
              (some false)
            else
              impl_ValidTable_L1 l rest_ (i + 1)
      else
        impl_ValidTable_L1 l rest_ (i + 1)
def impl_ValidTable (l : (List TableEntry)) : Bool :=
  match impl_ValidTable_L1 l l 0 with
    | some r_ => r_
    | none =>
      (decide ((((l).length : Nat) : Int) ≤ 20))
def spec_ValidTable_L1 (l : (List TableEntry)) : List TableEntry → Nat → Option (Bool)
  | [], i => none
  | e1 :: rest_, i =>
    bif (!(spec_ValidName e1.name)) then
      (some false)
    else
      bif decide (((i : Nat) : Int) > 0) then
        match (l)[(((i : Nat) : Int) - 1).toNat]? with
          | none => default
          | some e2 =>
            bif decide ((spec_CompareNames e2.name e1.name) ≥ 0) then
              (some false)
            else
              spec_ValidTable_L1 l rest_ (i + 1)
      else
        spec_ValidTable_L1 l rest_ (i + 1)
def spec_ValidTable (l : (List TableEntry)) : Bool :=
  match spec_ValidTable_L1 l l 0 with
    | some r_ => r_
    | none =>
      (decide ((((l).length : Nat) : Int) ≤ 20))
def slices_IndexFunc_TableEntry_L1 (fq : TableEntry → Bool) : List TableEntry → Nat → Option (Int)
  | [], i => none
  | e1 :: rest_, i =>
    bif fq e1 then
      (some ((i : Nat) : Int))
    else
      slices_IndexFunc_TableEntry_L1 fq rest_ (i + 1)
def slices_IndexFunc_TableEntry (s : (List TableEntry)) (fq : TableEntry → Bool) : Int :=
  match slices_IndexFunc_TableEntry_L1 fq s 0 with
    | some r_ => r_
    | none =>
      (-1)
def slices_ContainsFunc_TableEntry (s : (List TableEntry)) (fq : TableEntry → Bool) : Bool :=
  (decide ((slices_IndexFunc_TableEntry s fq) ≥ 0))
def impl_ValidVector_c1 (e_ : TableEntry) : Bool :=
  (!(impl_InRange e_.value 1 1000))
def impl_ValidVector (v : StateVector) : Bool :=
  bif (impl_ValidTable v.entries) then
    (!(slices_ContainsFunc_TableEntry v.entries (fun e0_ => (impl_ValidVector_c1 e0_))))
  else
    false
def spec_ValidVector_L1 : List TableEntry → Option (Bool)
  | [] => none
  | e1 :: rest_ =>
    bif (!(spec_l1In e1.value 1 1000)) then
      (some false)
    else
      spec_ValidVector_L1 rest_
def spec_ValidVector (v : StateVector) : Bool :=
  match spec_ValidVector_L1 v.entries with
    | some r_ => r_
    | none =>
      (spec_ValidTable v.entries)
end Go.Stp

namespace Go.Proofs.YtfffongneoegbaaGreat
open Go.Stp
set_option linter.unusedVariables false
set_option linter.unusedSimpArgs false
theorem f415 (w : World) (n : Nat) (hn : n + 0 ≤ 9) (x_ : Str) (hokx_ : GoT.ok n x_) :
    Does Tryz.prog 415 #[.string x_] w emp (fun (rv : Value) (_ : World) => rv = .bool (cmp_isNaN_string x_) ∧ True) := by
  refine WX.enter (tt := tt) (Γ := []) Tryz.func415 rfl (by kernel_rfl) rfl allS_nil ?_
  refine WX.run ttOk rfl ?_
  have hP1 : cmp_isNaN_string x_ = (!((x_).toList == (x_).toList)) := by simp only [cmp_isNaN_string, cond_true, cond_false]
  refine WX.ret ttOk rfl ?_
  intro w1 G bs hI hΓ
  rw [hP1]
  exact ⟨rfl, trivial⟩
theorem f369 (w : World) (n : Nat) (hn : n + 0 ≤ 9) (x_ : Str) (y : Str) (hokx_ : GoT.ok n x_) (hoky : GoT.ok n y) :
    Does Tryz.prog 369 #[.string x_, .string y] w emp (fun (rv : Value) (_ : World) => rv = .int .i64 ((cmp_Compare_string x_ y)) ∧ GoT.ok n ((cmp_Compare_string x_ y) : Int)) := by
  have hbP := bd_pos n
  have hbB := bd_big (n := n) (by omega)
  refine WX.enter (tt := tt) (Γ := []) Tryz.func369 rfl (by kernel_rfl) rfl allS_nil ?_
  refine WX.run ttOk rfl ?_
  refine WX.callV rfl rfl rfl rfl rfl (fun _ => rfl) rfl (fun w G bs hI hΓ => f415 w n (by omega) x_ hokx_) ?_
  intro hq1
  refine WX.run ttOk rfl ?_
  refine WX.callV rfl rfl rfl rfl rfl (fun _ => rfl) rfl (fun w G bs hI hΓ => f415 w n (by omega) y hoky) ?_
  intro hq2
  refine WX.run ttOk rfl ?_
  refine WX.cases 11 rfl (fun h1 => ?_) (fun h1 => ?_)
  · skip
    refine WX.run ttOk rfl ?_
    refine WX.cases 12 rfl (fun h2 => ?_) (fun h2 => ?_)
    · skip
      refine WX.run ttOk rfl ?_
      have hP1 : cmp_Compare_string x_ y = 0 := by simp only [cmp_Compare_string, h1, h2, cond_true, cond_false]
      refine WX.ret ttOk rfl ?_
      intro w1 G bs hI hΓ
      rw [hP1]
      exact ⟨rfl, (show I64 0 from (by unfold I64; omega))⟩
    · skip
      refine WX.run ttOk rfl ?_
      have hP2 : cmp_Compare_string x_ y = (-1) := by simp only [cmp_Compare_string, h1, h2, cond_true, cond_false]
      refine WX.ret ttOk rfl ?_
      intro w1 G bs hI hΓ
      rw [hP2]
      exact ⟨rfl, (show I64 (-1) from (by unfold I64; omega))⟩
  · skip
    refine WX.run ttOk rfl ?_
    refine WX.cases 13 rfl (fun h3 => ?_) (fun h3 => ?_)
    · skip
      refine WX.run ttOk rfl ?_
      have hP3 : cmp_Compare_string x_ y = 1 := by simp only [cmp_Compare_string, h1, h3, cond_true, cond_false]
      refine WX.ret ttOk rfl ?_
      intro w1 G bs hI hΓ
      rw [hP3]
      exact ⟨rfl, (show I64 1 from (by unfold I64; omega))⟩
    · skip
      refine WX.run ttOk rfl ?_
      refine WX.cases 16 rfl (fun h4 => ?_) (fun h4 => ?_)
      · skip
        refine WX.run ttOk rfl ?_
        have hP4 : cmp_Compare_string x_ y = (-1) := by simp only [cmp_Compare_string, h1, h3, h4, cond_true, cond_false]
        refine WX.ret ttOk rfl ?_
        intro w1 G bs hI hΓ
        rw [hP4]
        exact ⟨rfl, (show I64 (-1) from (by unfold I64; omega))⟩
      · skip
        refine WX.run ttOk rfl ?_
        refine WX.cases 19 rfl (fun h5 => ?_) (fun h5 => ?_)
        · skip
          refine WX.run ttOk rfl ?_
          have hP5 : cmp_Compare_string x_ y = 1 := by first | (simp only [cmp_Compare_string, h1, h3, h4, h5, cond_true, cond_false]; done) | (unfold cmp_Compare_string; rw [h5, h4, h3, h1]; simp only [cond_true, cond_false])
          refine WX.ret ttOk rfl ?_
          intro w1 G bs hI hΓ
          rw [hP5]
          exact ⟨rfl, (show I64 1 from (by unfold I64; omega))⟩
        · skip
          refine WX.run ttOk rfl ?_
          have hP6 : cmp_Compare_string x_ y = 0 := by first | (simp only [cmp_Compare_string, h1, h3, h4, h5, cond_true, cond_false]; done) | (unfold cmp_Compare_string; rw [h5, h4, h3, h1]; simp only [cond_true, cond_false])
          refine WX.ret ttOk rfl ?_
          intro w1 G bs hI hΓ
          rw [hP6]
          exact ⟨rfl, (show I64 0 from (by unfold I64; omega))⟩
theorem f292 (w : World) (n : Nat) (hn : n + 0 ≤ 9) (s1 : (List Str)) (ps1 : Option Addr) (cs1 : Nat) (hps1 : RdSl (hp w) ps1 cs1 s1) (s2 : (List Str)) (ps2 : Option Addr) (cs2 : Nat) (hps2 : RdSl (hp w) ps2 cs2 s2) (hoks1 : GoT.ok n s1) (hoks2 : GoT.ok n s2) :
    Does Tryz.prog 292 #[.slice ps1 ((s1).length) cs1, .slice ps2 ((s2).length) cs2] w emp (fun (rv : Value) (_ : World) => rv = .int .i64 ((slices_Compare_string s1 s2)) ∧ GoT.ok n ((slices_Compare_string s1 s2) : Int)) := by
  have hbP := bd_pos n
  have hbB := bd_big (n := n) (by omega)
  refine WX.enter (tt := tt) (Γ := [(0, MF.rs .stb ps1 cs1 s1), (1, MF.rs .stb ps2 cs2 s2)]) Tryz.func292 rfl (by kernel_rfl) rfl (allS_cons rfl hps1 (allS_cons rfl hps2 allS_nil)) ?_
  refine WX.run ttOk rfl ?_
  have r1 : (s1).length ≤ bd n := (okl hoks1).1
  refine WX.loop (ι := Nat) ⟨fun i => (i ≤ (s1).length) ∧ (slices_Compare_string_L1 s2 s1 0 = slices_Compare_string_L1 s2 ((s1).drop i) i), fun i => (s1).length - i, fun i => [(11, .v (.int .i64 (((i : Nat) : Int)))), (10, .v (.int .i64 ((((s1).length : Nat) : Int)))), (9, .v (.slice ps1 ((s1).length) cs1)), (0, .v (.slice ps1 ((s1).length) cs1)), (1, .v (.slice ps2 ((s2).length) cs2))], fun i => [], fun i => [], fun i => [(0, MF.rs .stb ps1 cs1 s1), (1, MF.rs .stb ps2 cs2 s2)]⟩ 0 ⟨(Nat.zero_le _), rfl⟩
    (.cons rfl (.cons rfl (.cons rfl (.cons rfl (.cons rfl (.nil)))))) .nil .nil [0, 1] rfl ?_
  rintro i hpre
  have hpre_ : (i ≤ (s1).length) ∧ (slices_Compare_string_L1 s2 s1 0 = slices_Compare_string_L1 s2 ((s1).drop i) i) := hpre
  clear hpre
  obtain ⟨v1, v2⟩ := hpre_
  refine WX.run ttOk rfl ?_
  refine WX.cases 12 rfl (fun h1 => ?_) (fun h1 => ?_)
  · skip
    have h1d := B.dt h1
    have e1i : i < (s1).length := (by omega)
    obtain ⟨e1, e1h⟩ : ∃ e1, (s1)[i]? = some e1 := ⟨_, List.getElem?_eq_getElem e1i⟩
    have ok1 : GoT.ok n e1 := (okl hoks1).2 _ (List.mem_of_getElem? e1h)
    refine WX.run ttOk rfl ?_
    refine WX.idx 0 i ttOk rfl rfl rfl rfl rfl rfl rfl rfl rfl rfl e1i ?_
    rintro ad1 rfl
    refine WX.ldE 0 2 e1 ttOk rfl rfl rfl rfl rfl rfl rfl rfl e1h (fun _ => rfl) (fun _ => rfl) ?_
    rintro ⟨⟩
    refine WX.run ttOk rfl ?_
    refine WX.cases 19 rfl (fun h2 => ?_) (fun h2 => ?_)
    · skip
      have h2d := B.dt h2
      refine WX.run ttOk rfl ?_
      have hP1 : slices_Compare_string_L1 s2 s1 0 = (some 1) := by rw [v2, drop_get e1h]; simp only [slices_Compare_string_L1, h2, cond_true, cond_false]
      have hP2 : slices_Compare_string s1 s2 = 1 := by simp only [slices_Compare_string, hP1, cond_true, cond_false]
      refine WX.ret ttOk rfl ?_
      intro w1 G bs hI hΓ
      rw [hP2]
      exact ⟨rfl, (show I64 1 from (by unfold I64; omega))⟩
    · skip
      have h2d := B.df h2
      refine WX.run ttOk rfl ?_
      have e2i : i < (s2).length := (by first | assumption | omega)
      obtain ⟨e2, e2h⟩ : ∃ e2, (s2)[i]? = some e2 := ⟨_, List.getElem?_eq_getElem e2i⟩
      have ok2 : GoT.ok n e2 := (okl hoks2).2 _ (List.mem_of_getElem? e2h)
      refine WX.idx 1 i ttOk rfl rfl rfl rfl rfl rfl rfl rfl rfl rfl e2i ?_
      rintro ad2 rfl
      refine WX.ldE 1 2 e2 ttOk rfl rfl rfl rfl rfl rfl rfl rfl e2h (fun _ => rfl) (fun _ => rfl) ?_
      rintro ⟨⟩
      refine WX.run ttOk rfl ?_
      refine WX.callV rfl rfl rfl rfl rfl (fun _ => rfl) rfl (fun w G bs hI hΓ => f369 w n (by omega) e1 e2 ok1 ok2) ?_
      intro hq1
      refine WX.run ttOk rfl ?_
      refine WX.cases 28 rfl (fun h3 => ?_) (fun h3 => ?_)
      · skip
        have h3d := B.nt' h3
        refine WX.run ttOk rfl ?_
        have hP3 : slices_Compare_string_L1 s2 s1 0 = (some (cmp_Compare_string e1 e2)) := by rw [v2, drop_get e1h]; simp only [slices_Compare_string_L1, h2, e2h, h3, cond_true, cond_false]
        have hP4 : slices_Compare_string s1 s2 = (cmp_Compare_string e1 e2) := by simp only [slices_Compare_string, hP3, cond_true, cond_false]
        refine WX.ret ttOk rfl ?_
        intro w1 G bs hI hΓ
        rw [hP4]
        exact ⟨rfl, hq1⟩
      · skip
        have h3d := B.nf' h3
        refine WX.run ttOk rfl ?_
        refine WX.see rfl rfl rfl (fun _ hΓ => looks_arith rfl rfl rfl rfl (by unfold I64; first | omega | (dsimp only; omega))) ?_
        refine WX.run ttOk rfl ?_
        exact WX.iter (i + 1) ⟨(by omega), (by rw [v2, drop_get e1h]; simp only [slices_Compare_string_L1, h2, e2h, h3, cond_true, cond_false])⟩ (by first | (dsimp only; omega) | omega) (.cons rfl (.cons rfl (.cons rfl (.cons rfl (.cons rfl (.nil)))))) .nil .nil [0, 1] rfl
  · skip
    have h1d := B.df h1
    refine WX.run ttOk rfl ?_
    have hX1 : slices_Compare_string_L1 s2 s1 0 = none := by rw [v2, List.drop_eq_nil_of_le (show (s1).length ≤ i by omega)]; simp only [slices_Compare_string_L1, cond_true, cond_false]
    refine WX.cases 35 rfl (fun h4 => ?_) (fun h4 => ?_)
    · skip
      have h4d := B.dt h4
      refine WX.run ttOk rfl ?_
      have hP5 : slices_Compare_string s1 s2 = (-1) := by simp only [slices_Compare_string, hX1, h4, cond_true, cond_false]
      refine WX.ret ttOk rfl ?_
      intro w1 G bs hI hΓ
      rw [hP5]
      exact ⟨rfl, (show I64 (-1) from (by unfold I64; omega))⟩
    · skip
      have h4d := B.df h4
      refine WX.run ttOk rfl ?_
      have hP6 : slices_Compare_string s1 s2 = 0 := by simp only [slices_Compare_string, hX1, h4, cond_true, cond_false]
      refine WX.ret ttOk rfl ?_
      intro w1 G bs hI hΓ
      rw [hP6]
      exact ⟨rfl, (show I64 0 from (by unfold I64; omega))⟩
theorem f190 (w : World) (n : Nat) (hn : n + 0 ≤ 9) (a : Name) (pa : Option Addr) (ca : Nat) (hpa : RdSl (hp w) pa ca a.parts) (b : Name) (pb : Option Addr) (cb : Nat) (hpb : RdSl (hp w) pb cb b.parts) (hoka : GoT.ok n a) (hokb : GoT.ok n b) :
    Does Tryz.prog 190 #[.agg #[.slice pa ((a.parts).length) ca], .agg #[.slice pb ((b.parts).length) cb]] w emp (fun (rv : Value) (_ : World) => rv = .int .i64 ((impl_CompareNames a b)) ∧ GoT.ok n ((impl_CompareNames a b) : Int)) := by
  have hbP := bd_pos n
  have hbB := bd_big (n := n) (by omega)
  refine WX.enter (tt := tt) (Γ := [(0, MF.rs .stb pa ca a.parts), (1, MF.rs .stb pb cb b.parts)]) Tryz.func190 rfl (by kernel_rfl) rfl (allS_cons rfl hpa (allS_cons rfl hpb allS_nil)) ?_
  refine WX.run ttOk rfl ?_
  refine WX.callV rfl rfl rfl rfl rfl (fun _ => rfl) rfl (fun w G bs hI hΓ => f292 w n (by omega) a.parts pa ca (hΓ.get 0 rfl) b.parts pb cb (hΓ.get 1 rfl) (ok_Name hoka) (ok_Name hokb)) ?_
  intro hq1
  refine WX.run ttOk rfl ?_
  have hP1 : impl_CompareNames a b = (slices_Compare_string a.parts b.parts) := by simp only [impl_CompareNames, cond_true, cond_false]
  refine WX.ret ttOk rfl ?_
  intro w1 G bs hI hΓ
  rw [hP1]
  exact ⟨rfl, hq1⟩
theorem f192 (w : World) (n : Nat) (hn : n + 0 ≤ 9) (l : (List TableEntry)) (pl : Option Addr) (cl : Nat) (hpl : RdSl (hp w) pl cl l) (hokl : GoT.ok n l) :
    Does Tryz.prog 192 #[.slice pl ((l).length) cl] w emp (fun (rv : Value) (_ : World) => rv = .bool (impl_ValidTable l) ∧ True) := by
  have hbP := bd_pos n
  have hbB := bd_big (n := n) (by omega)
  refine WX.enter (tt := tt) (Γ := [(0, MF.rs .stb pl cl l)]) Tryz.func192 rfl (by kernel_rfl) rfl (allS_cons rfl hpl allS_nil) ?_
  refine WX.run ttOk rfl ?_
  have r1 : (l).length ≤ bd n := (okl hokl).1
  refine WX.loop (ι := Nat) ⟨fun i => (i ≤ (l).length) ∧ (impl_ValidTable_L1 l l 0 = impl_ValidTable_L1 l ((l).drop i) i), fun i => (l).length - i, fun i => [(7, .v (.int .i64 (((i : Nat) : Int)))), (6, .v (.int .i64 ((((l).length : Nat) : Int)))), (5, .v (.slice pl ((l).length) cl)), (0, .v (.slice pl ((l).length) cl))], fun i => [], fun i => [], fun i => [(0, MF.rs .stb pl cl l)]⟩ 0 ⟨(Nat.zero_le _), rfl⟩
    (.cons rfl (.cons rfl (.cons rfl (.cons rfl (.nil))))) .nil .nil [0] rfl ?_
  rintro i hpre
  have hpre_ : (i ≤ (l).length) ∧ (impl_ValidTable_L1 l l 0 = impl_ValidTable_L1 l ((l).drop i) i) := hpre
  clear hpre
  obtain ⟨v1, v2⟩ := hpre_
  refine WX.run ttOk rfl ?_
  refine WX.cases 8 rfl (fun h1 => ?_) (fun h1 => ?_)
  · skip
    have h1d := B.dt h1
    have e1i : i < (l).length := (by omega)
    obtain ⟨e1, e1h⟩ : ∃ e1, (l)[i]? = some e1 := ⟨_, List.getElem?_eq_getElem e1i⟩
    have ok1 : GoT.ok n e1 := (okl hokl).2 _ (List.mem_of_getElem? e1h)
    refine WX.run ttOk rfl ?_
    refine WX.idx 0 i ttOk rfl rfl rfl rfl rfl rfl rfl rfl rfl rfl e1i ?_
    rintro ad1 rfl
    refine WX.ldE 0 1 e1 ttOk rfl rfl rfl rfl rfl rfl rfl rfl e1h (fun _ => rfl) (fun _ => rfl) ?_
    rintro ⟨⟨p1, c1⟩, ⟨⟩⟩
    refine WX.run ttOk rfl ?_
    refine WX.draw [] mixed ?_
    intro bs G0 hΓ0
    refine DX.takes (fuel := 18) ttOk [(0, true), (1, false)] (by kernel_rfl) rfl ?_
    refine DX.callV 2 rfl (by kernel_rfl) rfl rfl rfl rfl rfl rfl (fun _ => rfl) rfl (fun w G bs hI hΓ => f193 w n (by omega) e1.name p1 c1 (hΓ.get 1 rfl) ((ok_TableEntry ok1).1)) ?_
    intro hq1
    refine DX.takes (fuel := 15) ttOk [(3, true), (4, true)] (by kernel_rfl) rfl ?_
    refine DX.cases 16 rfl (fun h2 => ?_) (fun h2 => ?_)
    · skip
      have h2d := (B.nt h2)
      refine DX.takes (fuel := 0) ttOk [(5, true), (6, true), (7, true), (8, true), (9, true), (10, true), (11, true), (12, true), (13, true), (14, true), (15, true), (16, true), (17, true), (18, true), (19, true)] (by kernel_rfl) rfl ?_
      refine DX.tail2 [] rfl rfl (by kernel_rfl) ?_
      refine WX.run ttOk rfl ?_
      have hP1 : impl_ValidTable_L1 l l 0 = (some false) := by rw [v2, drop_get e1h]; simp only [impl_ValidTable_L1, h2, cond_true, cond_false]
      have hP2 : impl_ValidTable l = false := by simp only [impl_ValidTable, hP1, cond_true, cond_false]
      refine WX.ret ttOk rfl ?_
      intro w1 G bs hI hΓ
      rw [hP2]
      exact ⟨rfl, trivial⟩
    · skip
      have h2d := (B.nf h2)
      refine DX.takes (fuel := 12) ttOk [(5, true), (6, true), (7, true)] (by kernel_rfl) rfl ?_
      refine DX.cases 19 rfl (fun h3 => ?_) (fun h3 => ?_)
      · skip
        have h3d := B.dt h3
        refine DX.takes (fuel := 10) ttOk [(8, true), (9, true)] (by kernel_rfl) rfl ?_
        refine DX.seeP 10 (by kernel_rfl) rfl rfl rfl rfl (looksP_arith rfl rfl rfl rfl (by unfold I64; first | omega | (dsimp only; omega))) ?_
        refine DX.slot 22 (y := .v (.int .i64 (((((i : Nat) : Int) - 1).toNat : Nat) : Int))) rfl (fun _ => congrArg (Value.int .i64) (show ((i : Nat) : Int) - 1 = (((((i : Nat) : Int) - 1).toNat : Nat) : Int) from by omega)) ?_
        have e2i : (((i : Nat) : Int) - 1).toNat < (l).length := (by first | assumption | omega)
        obtain ⟨e2, e2h⟩ : ∃ e2, (l)[(((i : Nat) : Int) - 1).toNat]? = some e2 := ⟨_, List.getElem?_eq_getElem e2i⟩
        have ok2 : GoT.ok n e2 := (okl hokl).2 _ (List.mem_of_getElem? e2h)
        refine DX.idx 11 0 ((((i : Nat) : Int) - 1).toNat) ttOk hΓ0 (by kernel_rfl) rfl rfl rfl rfl rfl rfl rfl rfl rfl rfl rfl e2i ?_
        rintro ad2 ⟨⟩
        refine DX.takes (fuel := 7) ttOk [(12, true)] (by kernel_rfl) rfl ?_
        refine DX.ldE 13 0 2 e2 ttOk hΓ0 (by kernel_rfl) rfl rfl rfl rfl rfl rfl rfl rfl e2h (fun _ => rfl) (fun _ => rfl) ?_
        rintro ⟨⟨p2, c2⟩, ⟨⟩⟩
        refine DX.takes (fuel := 4) ttOk [(14, true), (15, false)] (by kernel_rfl) rfl ?_
        refine DX.callV 16 rfl (by kernel_rfl) rfl rfl rfl rfl rfl rfl (fun _ => rfl) rfl (fun w G bs hI hΓ => f190 w n (by omega) e2.name p2 c2 (hΓ.get 2 rfl) e1.name p1 c1 (hΓ.get 1 rfl) ((ok_TableEntry ok2).1) ((ok_TableEntry ok1).1)) ?_
        intro hq2
        refine DX.takes (fuel := 0) ttOk [(17, true), (18, true), (19, true)] (by kernel_rfl) rfl ?_
        refine DX.tail2 [] rfl rfl (by kernel_rfl) ?_
        refine WX.run ttOk rfl ?_
        refine WX.cases 31 rfl (fun h4 => ?_) (fun h4 => ?_)
        · skip
          have h4d := B.dt h4
          refine WX.run ttOk rfl ?_
          have hP3 : impl_ValidTable_L1 l l 0 = (some false) := by rw [v2, drop_get e1h]; simp only [impl_ValidTable_L1, h2, h3, e2h, h4, cond_true, cond_false]
          have hP4 : impl_ValidTable l = false := by simp only [impl_ValidTable, hP3, cond_true, cond_false]
          refine WX.ret ttOk rfl ?_
          intro w1 G bs hI hΓ
          rw [hP4]
          exact ⟨rfl, trivial⟩
        · skip
          have h4d := B.df h4
          refine WX.run ttOk rfl ?_
          refine WX.see rfl rfl rfl (fun _ hΓ => looks_arith rfl rfl rfl rfl (by unfold I64; first | omega | (dsimp only; omega))) ?_
          refine WX.run ttOk rfl ?_
          exact WX.iter (i + 1) ⟨(by omega), (by rw [v2, drop_get e1h]; simp only [impl_ValidTable_L1, h2, h3, e2h, h4, cond_true, cond_false])⟩ (by first | (dsimp only; omega) | omega) (.cons rfl (.cons rfl (.cons rfl (.cons rfl (.nil))))) .nil .nil [0] rfl
      · skip
        have h3d := B.df h3
        refine DX.takes (fuel := 0) ttOk [(8, true), (9, true), (10, true), (11, true), (12, true), (13, true), (14, true), (15, true), (16, true), (17, true), (18, true), (19, true)] (by kernel_rfl) rfl ?_
        refine DX.tail2 [] rfl rfl (by kernel_rfl) ?_
        refine WX.run ttOk rfl ?_
        refine WX.see rfl rfl rfl (fun _ hΓ => looks_arith rfl rfl rfl rfl (by unfold I64; first | omega | (dsimp only; omega))) ?_
        refine WX.run ttOk rfl ?_
        exact WX.iter (i + 1) ⟨(by omega), (by rw [v2, drop_get e1h]; simp only [impl_ValidTable_L1, h2, h3, cond_true, cond_false])⟩ (by first | (dsimp only; omega) | omega) (.cons rfl (.cons rfl (.cons rfl (.cons rfl (.nil))))) .nil .nil [0] rfl
  · skip
    have h1d := B.df h1
    refine WX.run ttOk rfl ?_
    have hX1 : impl_ValidTable_L1 l l 0 = none := by rw [v2, List.drop_eq_nil_of_le (show (l).length ≤ i by omega)]; simp only [impl_ValidTable_L1, cond_true, cond_false]
    have hP5 : impl_ValidTable l = (decide ((((l).length : Nat) : Int) ≤ 20)) := by simp only [impl_ValidTable, hX1, cond_true, cond_false]
    refine WX.ret ttOk rfl ?_
    intro w1 G bs hI hΓ
    rw [hP5]
    exact ⟨rfl, trivial⟩
theorem f178 (w : World) (n : Nat) (hn : n + 0 ≤ 9) (l : (List TableEntry)) (pl : Option Addr) (cl : Nat) (hpl : RdSl (hp w) pl cl l) (hokl : GoT.ok n l) :
    Does Tryz.prog 178 #[.slice pl ((l).length) cl] w emp (fun (rv : Value) (_ : World) => rv = .bool (spec_ValidTable l) ∧ True) := by
  have hbP := bd_pos n
  have hbB := bd_big (n := n) (by omega)
  refine WX.enter (tt := tt) (Γ := [(0, MF.rs .stb pl cl l)]) Tryz.func178 rfl (by kernel_rfl) rfl (allS_cons rfl hpl allS_nil) ?_
  refine WX.run ttOk rfl ?_
  have r1 : (l).length ≤ bd n := (okl hokl).1
  refine WX.loop (ι := Nat) ⟨fun i => (i ≤ (l).length) ∧ (spec_ValidTable_L1 l l 0 = spec_ValidTable_L1 l ((l).drop i) i), fun i => (l).length - i, fun i => [(3, .v (.int .i64 (((i : Nat) : Int)))), (0, .v (.slice pl ((l).length) cl))], fun i => [], fun i => [], fun i => [(0, MF.rs .stb pl cl l)]⟩ 0 ⟨(Nat.zero_le _), rfl⟩
    (.cons rfl (.cons rfl (.nil))) .nil .nil [0] rfl ?_
  rintro i hpre
  have hpre_ : (i ≤ (l).length) ∧ (spec_ValidTable_L1 l l 0 = spec_ValidTable_L1 l ((l).drop i) i) := hpre
  clear hpre
  obtain ⟨v1, v2⟩ := hpre_
  refine WX.run ttOk rfl ?_
  refine WX.cases 7 rfl (fun h1 => ?_) (fun h1 => ?_)
  · skip
    have h1d := B.dt h1
    have e1i : i < (l).length := (by omega)
    obtain ⟨e1, e1h⟩ : ∃ e1, (l)[i]? = some e1 := ⟨_, List.getElem?_eq_getElem e1i⟩
    have ok1 : GoT.ok n e1 := (okl hokl).2 _ (List.mem_of_getElem? e1h)
    refine WX.run ttOk rfl ?_
    refine WX.draw [] mixed ?_
    intro bs G0 hΓ0
    refine DX.takes (fuel := 24) ttOk [(0, true), (1, true)] (by kernel_rfl) rfl ?_
    refine DX.idx 2 0 i ttOk hΓ0 (by kernel_rfl) rfl rfl rfl rfl rfl rfl rfl rfl rfl rfl rfl e1i ?_
    rintro ad1 rfl
    refine DX.takes (fuel := 22) ttOk [(3, true)] (by kernel_rfl) rfl ?_
    refine DX.ldE 4 0 1 e1 ttOk hΓ0 (by kernel_rfl) rfl rfl rfl rfl rfl rfl rfl rfl e1h (fun _ => rfl) (fun _ => rfl) ?_
    rintro ⟨⟨p1, c1⟩, ⟨⟩⟩
    refine DX.callV 5 rfl (by kernel_rfl) rfl rfl rfl rfl rfl rfl (fun _ => rfl) rfl (fun w G bs hI hΓ => f179 w n (by omega) e1.name p1 c1 (hΓ.get 1 rfl) ((ok_TableEntry ok1).1)) ?_
    intro hq1
    refine DX.takes (fuel := 18) ttOk [(6, true), (7, true)] (by kernel_rfl) rfl ?_
    refine DX.cases 17 rfl (fun h2 => ?_) (fun h2 => ?_)
    · skip
      have h2d := (B.nt h2)
      refine DX.takes (fuel := 0) ttOk [(8, true), (9, true), (10, true), (11, true), (12, true), (13, true), (14, true), (15, true), (16, true), (17, true), (18, true), (19, true), (20, true), (21, true), (22, true), (23, true), (24, true), (25, true)] (by kernel_rfl) rfl ?_
      refine DX.tail2 [] rfl rfl (by kernel_rfl) ?_
      refine WX.run ttOk rfl ?_
      have hP1 : spec_ValidTable_L1 l l 0 = (some false) := by rw [v2, drop_get e1h]; simp only [spec_ValidTable_L1, h2, cond_true, cond_false]
      have hP2 : spec_ValidTable l = false := by simp only [spec_ValidTable, hP1, cond_true, cond_false]
      refine WX.ret ttOk rfl ?_
      intro w1 G bs hI hΓ
      rw [hP2]
      exact ⟨rfl, trivial⟩
    · skip
      have h2d := (B.nf h2)
      refine DX.takes (fuel := 15) ttOk [(8, true), (9, true), (10, true)] (by kernel_rfl) rfl ?_
      refine DX.cases 20 rfl (fun h3 => ?_) (fun h3 => ?_)
      · skip
        have h3d := B.dt h3
        refine DX.takes (fuel := 13) ttOk [(11, true), (12, true)] (by kernel_rfl) rfl ?_
        refine DX.seeP 13 (by kernel_rfl) rfl rfl rfl rfl (looksP_arith rfl rfl rfl rfl (by unfold I64; first | omega | (dsimp only; omega))) ?_
        refine DX.slot 23 (y := .v (.int .i64 (((((i : Nat) : Int) - 1).toNat : Nat) : Int))) rfl (fun _ => congrArg (Value.int .i64) (show ((i : Nat) : Int) - 1 = (((((i : Nat) : Int) - 1).toNat : Nat) : Int) from by omega)) ?_
        have e2i : (((i : Nat) : Int) - 1).toNat < (l).length := (by first | assumption | omega)
        obtain ⟨e2, e2h⟩ : ∃ e2, (l)[(((i : Nat) : Int) - 1).toNat]? = some e2 := ⟨_, List.getElem?_eq_getElem e2i⟩
        have ok2 : GoT.ok n e2 := (okl hokl).2 _ (List.mem_of_getElem? e2h)
        refine DX.idx 14 0 ((((i : Nat) : Int) - 1).toNat) ttOk hΓ0 (by kernel_rfl) rfl rfl rfl rfl rfl rfl rfl rfl rfl rfl rfl e2i ?_
        rintro ad2 ⟨⟩
        refine DX.takes (fuel := 10) ttOk [(15, true)] (by kernel_rfl) rfl ?_
        refine DX.ldE 16 0 2 e2 ttOk hΓ0 (by kernel_rfl) rfl rfl rfl rfl rfl rfl rfl rfl e2h (fun _ => rfl) (fun _ => rfl) ?_
        rintro ⟨⟨p2, c2⟩, ⟨⟩⟩
        refine DX.takes (fuel := 7) ttOk [(17, true), (18, true)] (by kernel_rfl) rfl ?_
        refine DX.idx 19 0 i ttOk hΓ0 (by kernel_rfl) rfl rfl rfl rfl rfl rfl rfl rfl rfl rfl rfl e1i ?_
        rintro ad3 ⟨⟩
        refine DX.takes (fuel := 5) ttOk [(20, true)] (by kernel_rfl) rfl ?_
        refine DX.ldE 21 0 3 e1 ttOk hΓ0 (by kernel_rfl) rfl rfl rfl rfl rfl rfl rfl rfl e1h (fun _ => rfl) (fun _ => rfl) ?_
        rintro ⟨⟨p3, c3⟩, ⟨⟩⟩
        refine DX.callV 22 rfl (by kernel_rfl) rfl rfl rfl rfl rfl rfl (fun _ => rfl) rfl (fun w G bs hI hΓ => f177 w n (by omega) e2.name p2 c2 (hΓ.get 2 rfl) e1.name p3 c3 (hΓ.get 3 rfl) ((ok_TableEntry ok2).1) ((ok_TableEntry ok1).1)) ?_
        intro hq2
        refine DX.takes (fuel := 0) ttOk [(23, true), (24, true), (25, true)] (by kernel_rfl) rfl ?_
        refine DX.tail2 [] rfl rfl (by kernel_rfl) ?_
        refine WX.run ttOk rfl ?_
        refine WX.cases 35 rfl (fun h4 => ?_) (fun h4 => ?_)
        · skip
          have h4d := B.dt h4
          refine WX.run ttOk rfl ?_
          have hP3 : spec_ValidTable_L1 l l 0 = (some false) := by rw [v2, drop_get e1h]; simp only [spec_ValidTable_L1, h2, h3, e2h, h4, cond_true, cond_false]
          have hP4 : spec_ValidTable l = false := by simp only [spec_ValidTable, hP3, cond_true, cond_false]
          refine WX.ret ttOk rfl ?_
          intro w1 G bs hI hΓ
          rw [hP4]
          exact ⟨rfl, trivial⟩
        · skip
          have h4d := B.df h4
          refine WX.run ttOk rfl ?_
          refine WX.see rfl rfl rfl (fun _ hΓ => looks_arith rfl rfl rfl rfl (by unfold I64; first | omega | (dsimp only; omega))) ?_
          refine WX.run ttOk rfl ?_
          exact WX.iter (i + 1) ⟨(by omega), (by rw [v2, drop_get e1h]; simp only [spec_ValidTable_L1, h2, h3, e2h, h4, cond_true, cond_false])⟩ (by first | (dsimp only; omega) | omega) (.cons rfl (.cons rfl (.nil))) .nil .nil [0] rfl
      · skip
        have h3d := B.df h3
        refine DX.takes (fuel := 0) ttOk [(11, true), (12, true), (13, true), (14, true), (15, true), (16, true), (17, true), (18, true), (19, true), (20, true), (21, true), (22, true), (23, true), (24, true), (25, true)] (by kernel_rfl) rfl ?_
        refine DX.tail2 [] rfl rfl (by kernel_rfl) ?_
        refine WX.run ttOk rfl ?_
        refine WX.see rfl rfl rfl (fun _ hΓ => looks_arith rfl rfl rfl rfl (by unfold I64; first | omega | (dsimp only; omega))) ?_
        refine WX.run ttOk rfl ?_
        exact WX.iter (i + 1) ⟨(by omega), (by rw [v2, drop_get e1h]; simp only [spec_ValidTable_L1, h2, h3, cond_true, cond_false])⟩ (by first | (dsimp only; omega) | omega) (.cons rfl (.cons rfl (.nil))) .nil .nil [0] rfl
  · skip
    have h1d := B.df h1
    refine WX.run ttOk rfl ?_
    have hX1 : spec_ValidTable_L1 l l 0 = none := by rw [v2, List.drop_eq_nil_of_le (show (l).length ≤ i by omega)]; simp only [spec_ValidTable_L1, cond_true, cond_false]
    have hP5 : spec_ValidTable l = (decide ((((l).length : Nat) : Int) ≤ 20)) := by simp only [spec_ValidTable, hX1, cond_true, cond_false]
    refine WX.ret ttOk rfl ?_
    intro w1 G bs hI hΓ
    rw [hP5]
    exact ⟨rfl, trivial⟩
theorem f188 (w : World) (n : Nat) (hn : n + 0 ≤ 9) (s : (List TableEntry)) (ps : Option Addr) (cs : Nat) (hps : RdSl (hp w) ps cs s) (fg : FuncId) (fc : List Value) (fq : TableEntry → Bool) (ff : ∀ w1, Kp emp w w1 → ∀ (e0 : TableEntry) (x0 : GoT.X TableEntry), GoT.ok n e0 → All (hp w1) (GoT.fa .der e0 x0) → Does Tryz.prog fg ([Value.agg ⟨GoT.sh e0 x0⟩] ++ fc).toArray w1 emp (fun rv _ => rv = .bool (fq e0) ∧ True)) (hoks : GoT.ok n s) :
    Does Tryz.prog 188 #[.slice ps ((s).length) cs, .func (.func fg) #[] fc.toArray] w emp (fun (rv : Value) (_ : World) => rv = .int .i64 ((slices_IndexFunc_TableEntry s fq)) ∧ GoT.ok n ((slices_IndexFunc_TableEntry s fq) : Int)) := by
  have hbP := bd_pos n
  have hbB := bd_big (n := n) (by omega)
  refine WX.enter (tt := tt) (Γ := [(0, MF.rs .stb ps cs s)]) Tryz.func188 rfl (by kernel_rfl) rfl (allS_cons rfl hps allS_nil) ?_
  refine WX.run ttOk rfl ?_
  have r1 : (s).length ≤ bd n := (okl hoks).1
  refine WX.loop (ι := Nat) ⟨fun i => (i ≤ (s).length) ∧ (slices_IndexFunc_TableEntry_L1 fq s 0 = slices_IndexFunc_TableEntry_L1 fq ((s).drop i) i), fun i => (s).length - i, fun i => [(8, .v (.int .i64 (((i : Nat) : Int)))), (7, .v (.int .i64 ((((s).length : Nat) : Int)))), (0, .v (.slice ps ((s).length) cs)), (1, .v (.func (.func fg) #[] fc.toArray))], fun i => [], fun i => [], fun i => [(0, MF.rs .stb ps cs s)]⟩ 0 ⟨(Nat.zero_le _), rfl⟩
    (.cons rfl (.cons rfl (.cons rfl (.cons rfl (.nil))))) .nil .nil [0] rfl ?_
  rintro i hpre
  have hpre_ : (i ≤ (s).length) ∧ (slices_IndexFunc_TableEntry_L1 fq s 0 = slices_IndexFunc_TableEntry_L1 fq ((s).drop i) i) := hpre
  clear hpre
  obtain ⟨v1, v2⟩ := hpre_
  refine WX.run ttOk rfl ?_
  refine WX.cases 9 rfl (fun h1 => ?_) (fun h1 => ?_)
  · skip
    have h1d := B.dt h1
    have e1i : i < (s).length := (by omega)
    obtain ⟨e1, e1h⟩ : ∃ e1, (s)[i]? = some e1 := ⟨_, List.getElem?_eq_getElem e1i⟩
    have ok1 : GoT.ok n e1 := (okl hoks).2 _ (List.mem_of_getElem? e1h)
    refine WX.run ttOk rfl ?_
    refine WX.idx 0 i ttOk rfl rfl rfl rfl rfl rfl rfl rfl rfl rfl e1i ?_
    rintro ad1 rfl
    refine WX.ldE 0 1 e1 ttOk rfl rfl rfl rfl rfl rfl rfl rfl e1h (fun _ => rfl) (fun _ => rfl) ?_
    rintro ⟨⟨p1, c1⟩, ⟨⟩⟩
    refine WX.callV rfl rfl rfl rfl rfl (fun _ => rfl) rfl (fun w G bs hI hΓ => ff w hI.keep e1 ((p1, c1), ()) ok1 (All.cons (hΓ.get 1 rfl : RdSl _ _ _ _) All.nil)) ?_
    intro hq1
    refine WX.run ttOk rfl ?_
    refine WX.cases 16 rfl (fun h2 => ?_) (fun h2 => ?_)
    · skip
      refine WX.run ttOk rfl ?_
      have hP1 : slices_IndexFunc_TableEntry_L1 fq s 0 = (some ((i : Nat) : Int)) := by rw [v2, drop_get e1h]; simp only [slices_IndexFunc_TableEntry_L1, h2, cond_true, cond_false]
      have hP2 : slices_IndexFunc_TableEntry s fq = ((i : Nat) : Int) := by simp only [slices_IndexFunc_TableEntry, hP1, cond_true, cond_false]
      refine WX.ret ttOk rfl ?_
      intro w1 G bs hI hΓ
      rw [hP2]
      exact ⟨rfl, (show I64 ((i : Nat) : Int) from (by unfold I64; omega))⟩
    · skip
      refine WX.run ttOk rfl ?_
      refine WX.see rfl rfl rfl (fun _ hΓ => looks_arith rfl rfl rfl rfl (by unfold I64; first | omega | (dsimp only; omega))) ?_
      refine WX.run ttOk rfl ?_
      exact WX.iter (i + 1) ⟨(by omega), (by rw [v2, drop_get e1h]; simp only [slices_IndexFunc_TableEntry_L1, h2, cond_true, cond_false])⟩ (by first | (dsimp only; omega) | omega) (.cons rfl (.cons rfl (.cons rfl (.cons rfl (.nil))))) .nil .nil [0] rfl
  · skip
    have h1d := B.df h1
    refine WX.run ttOk rfl ?_
    have hX1 : slices_IndexFunc_TableEntry_L1 fq s 0 = none := by rw [v2, List.drop_eq_nil_of_le (show (s).length ≤ i by omega)]; simp only [slices_IndexFunc_TableEntry_L1, cond_true, cond_false]
    have hP3 : slices_IndexFunc_TableEntry s fq = (-1) := by simp only [slices_IndexFunc_TableEntry, hX1, cond_true, cond_false]
    refine WX.ret ttOk rfl ?_
    intro w1 G bs hI hΓ
    rw [hP3]
    exact ⟨rfl, (show I64 (-1) from (by unfold I64; omega))⟩
theorem ltL_slices_IndexFunc_TableEntry : ∀ (f : TableEntry → Bool) (l : List TableEntry) (i : Nat) (j : Int), slices_IndexFunc_TableEntry_L1 f l i = some j → j < ((i + l.length : Nat) : Int)
  | f, [], i, j, h => by cases h
  | f, x :: l, i, j, h => by
    simp only [slices_IndexFunc_TableEntry_L1] at h
    cases hx : f x
    · rw [hx, cond_false] at h
      have := ltL_slices_IndexFunc_TableEntry f l (i + 1) j h
      simp only [List.length_cons]; omega
    · rw [hx, cond_true] at h
      cases h
      simp only [List.length_cons]; omega
theorem ltI_slices_IndexFunc_TableEntry (l : List TableEntry) (f : TableEntry → Bool) : slices_IndexFunc_TableEntry l f < ((l.length : Nat) : Int) := by
  unfold slices_IndexFunc_TableEntry
  cases h : slices_IndexFunc_TableEntry_L1 f l 0 with
  | none => show (-1 : Int) < _; omega
  | some j => have := ltL_slices_IndexFunc_TableEntry f l 0 j h; show j < _; omega
theorem f278 (w : World) (n : Nat) (hn : n + 0 ≤ 9) (s : (List TableEntry)) (ps : Option Addr) (cs : Nat) (hps : RdSl (hp w) ps cs s) (fg : FuncId) (fc : List Value) (fq : TableEntry → Bool) (ff : ∀ w1, Kp emp w w1 → ∀ (e0 : TableEntry) (x0 : GoT.X TableEntry), GoT.ok n e0 → All (hp w1) (GoT.fa .der e0 x0) → Does Tryz.prog fg ([Value.agg ⟨GoT.sh e0 x0⟩] ++ fc).toArray w1 emp (fun rv _ => rv = .bool (fq e0) ∧ True)) (hoks : GoT.ok n s) :
    Does Tryz.prog 278 #[.slice ps ((s).length) cs, .func (.func fg) #[] fc.toArray] w emp (fun (rv : Value) (_ : World) => rv = .bool (slices_ContainsFunc_TableEntry s fq) ∧ True) := by
  have hbP := bd_pos n
  have hbB := bd_big (n := n) (by omega)
  refine WX.enter (tt := tt) (Γ := [(0, MF.rs .stb ps cs s)]) Tryz.func278 rfl (by kernel_rfl) rfl (allS_cons rfl hps allS_nil) ?_
  refine WX.run ttOk rfl ?_
  refine WX.callV rfl rfl rfl rfl rfl (fun _ => rfl) rfl (fun w G bs hI hΓ => f188 w n (by omega) s ps cs (hΓ.get 0 rfl) fg fc fq (fun w1_ hb_ => ff w1_ (hI.keep.trans hb_)) hoks) ?_
  intro hq1
  have q1 := ltI_slices_IndexFunc_TableEntry s fq
  refine WX.run ttOk rfl ?_
  have hP1 : slices_ContainsFunc_TableEntry s fq = (decide ((slices_IndexFunc_TableEntry s fq) ≥ 0)) := by simp only [slices_ContainsFunc_TableEntry, cond_true, cond_false]
  refine WX.ret ttOk rfl ?_
  intro w1 G bs hI hΓ
  rw [hP1]
  exact ⟨rfl, trivial⟩
theorem f298 (w : World) (n : Nat) (hn : n + 0 ≤ 9) (e_ : TableEntry) (pe_Name : Option Addr) (ce_Name : Nat) (hpe_Name : RdSl (hp w) pe_Name ce_Name e_.name.parts) (hoke_ : GoT.ok n e_) :
    Does Tryz.prog 298 #[.agg #[.slice pe_Name ((e_.name.parts).length) ce_Name, .int .i64 (e_.value)]] w emp (fun (rv : Value) (_ : World) => rv = .bool (impl_ValidVector_c1 e_) ∧ True) := by
  have hbP := bd_pos n
  have hbB := bd_big (n := n) (by omega)
  refine WX.enter (tt := tt) (Γ := [(0, MF.rs .stb pe_Name ce_Name e_.name.parts)]) Tryz.func298 rfl (by kernel_rfl) rfl (allS_cons rfl hpe_Name allS_nil) ?_
  refine WX.run ttOk rfl ?_
  refine WX.callV rfl rfl rfl rfl rfl (fun _ => rfl) rfl (fun w G bs hI hΓ => f167 w n (by omega) e_.value 1 1000 ((ok_TableEntry hoke_).2) (show I64 1 from (by unfold I64; omega)) (show I64 1000 from (by unfold I64; omega))) ?_
  intro hq1
  refine WX.run ttOk rfl ?_
  have hP1 : impl_ValidVector_c1 e_ = (!(impl_InRange e_.value 1 1000)) := by simp only [impl_ValidVector_c1, cond_true, cond_false]
  refine WX.ret ttOk rfl ?_
  intro w1 G bs hI hΓ
  rw [hP1]
  exact ⟨rfl, trivial⟩
theorem f194 (w : World) (n : Nat) (hn : n + 0 ≤ 9) (v : StateVector) (pv : Option Addr) (cv : Nat) (hpv : RdSl (hp w) pv cv v.entries) (hokv : GoT.ok n v) :
    Does Tryz.prog 194 #[.agg #[.slice pv ((v.entries).length) cv]] w emp (fun (rv : Value) (_ : World) => rv = .bool (impl_ValidVector v) ∧ True) := by
  have hbP := bd_pos n
  have hbB := bd_big (n := n) (by omega)
  refine WX.enter (tt := tt) (Γ := [(0, MF.rs .stb pv cv v.entries)]) Tryz.func194 rfl (by kernel_rfl) rfl (allS_cons rfl hpv allS_nil) ?_
  refine WX.run ttOk rfl ?_
  refine WX.callV rfl rfl rfl rfl rfl (fun _ => rfl) rfl (fun w G bs hI hΓ => f192 w n (by omega) v.entries pv cv (hΓ.get 0 rfl) (ok_StateVector hokv)) ?_
  intro hq1
  refine WX.run ttOk rfl ?_
  refine WX.cases 6 rfl (fun h1 => ?_) (fun h1 => ?_)
  · skip
    refine WX.run ttOk rfl ?_
    refine WX.callV rfl rfl rfl rfl rfl (fun _ => rfl) rfl (fun w G bs hI hΓ => f278 w n (by omega) v.entries pv cv (hΓ.get 0 rfl) 298 [] (fun e0_ => (impl_ValidVector_c1 e0_)) (fun w1_ hb_ e0_ x0_ hk0_ hx0_ => f298 w1_ n (by omega) e0_ x0_.1.1 x0_.1.2 (hx0_ _ List.mem_cons_self) hk0_) (ok_StateVector hokv)) ?_
    intro hq2
    refine WX.run ttOk rfl ?_
    have hP1 : impl_ValidVector v = (!(slices_ContainsFunc_TableEntry v.entries (fun e0_ => (impl_ValidVector_c1 e0_)))) := by simp only [impl_ValidVector, h1, cond_true, cond_false]
    refine WX.ret ttOk rfl ?_
    intro w1 G bs hI hΓ
    rw [hP1]
    exact ⟨rfl, trivial⟩
  · skip
    refine WX.run ttOk rfl ?_
    have hP2 : impl_ValidVector v = false := by simp only [impl_ValidVector, h1, cond_true, cond_false]
    refine WX.ret ttOk rfl ?_
    intro w1 G bs hI hΓ
    rw [hP2]
    exact ⟨rfl, trivial⟩
theorem f180 (w : World) (n : Nat) (hn : n + 0 ≤ 9) (v : StateVector) (pv : Option Addr) (cv : Nat) (hpv : RdSl (hp w) pv cv v.entries) (hokv : GoT.ok n v) :
    Does Tryz.prog 180 #[.agg #[.slice pv ((v.entries).length) cv]] w emp (fun (rv : Value) (_ : World) => rv = .bool (spec_ValidVector v) ∧ True) := by
  have hbP := bd_pos n
  have hbB := bd_big (n := n) (by omega)
  refine WX.enter (tt := tt) (Γ := [(0, MF.rs .stb pv cv v.entries)]) Tryz.func180 rfl (by kernel_rfl) rfl (allS_cons rfl hpv allS_nil) ?_
  refine WX.run ttOk rfl ?_
  have r1 : (v.entries).length ≤ bd n := (okl (ok_StateVector hokv)).1
  refine WX.loop (ι := Nat) ⟨fun i => (i ≤ (v.entries).length) ∧ (spec_ValidVector_L1 v.entries = spec_ValidVector_L1 ((v.entries).drop i)), fun i => (v.entries).length - i, fun i => [(3, .v (.int .i64 (((i : Nat) : Int)))), (1, .p 1 0)], fun i => [(1, ⟨39, [.slice pv ((v.entries).length) cv]⟩)], fun i => [], fun i => [(0, MF.rs .stb pv cv v.entries)]⟩ 0 ⟨(Nat.zero_le _), rfl⟩
    (.cons rfl (.cons rfl (.nil))) (.cons rfl (.nil)) .nil [0] rfl ?_
  rintro i hpre
  have hpre_ : (i ≤ (v.entries).length) ∧ (spec_ValidVector_L1 v.entries = spec_ValidVector_L1 ((v.entries).drop i)) := hpre
  clear hpre
  obtain ⟨v1, v2⟩ := hpre_
  refine WX.run ttOk rfl ?_
  refine WX.cases 8 rfl (fun h1 => ?_) (fun h1 => ?_)
  · skip
    have h1d := B.dt h1
    have e1i : i < (v.entries).length := (by omega)
    obtain ⟨e1, e1h⟩ : ∃ e1, (v.entries)[i]? = some e1 := ⟨_, List.getElem?_eq_getElem e1i⟩
    have ok1 : GoT.ok n e1 := (okl (ok_StateVector hokv)).2 _ (List.mem_of_getElem? e1h)
    refine WX.run ttOk rfl ?_
    refine WX.idx 0 i ttOk rfl rfl rfl rfl rfl rfl rfl rfl rfl rfl e1i ?_
    rintro ad1 rfl
    refine WX.run ttOk rfl ?_
    refine WX.ldE 0 1 e1 ttOk rfl rfl rfl rfl rfl rfl rfl rfl e1h (fun _ => rfl) (fun _ => rfl) ?_
    rintro ⟨⟨p1, c1⟩, ⟨⟩⟩
    refine WX.callV rfl rfl rfl rfl rfl (fun _ => rfl) rfl (fun w G bs hI hΓ => f160 w n (by omega) e1.value 1 1000 ((ok_TableEntry ok1).2) (show I64 1 from (by unfold I64; omega)) (show I64 1000 from (by unfold I64; omega))) ?_
    intro hq1
    refine WX.run ttOk rfl ?_
    refine WX.cases 18 rfl (fun h2 => ?_) (fun h2 => ?_)
    · skip
      have h2d := (B.nt h2)
      refine WX.run ttOk rfl ?_
      have hP1 : spec_ValidVector_L1 v.entries = (some false) := by rw [v2, drop_get e1h]; simp only [spec_ValidVector_L1, h2, cond_true, cond_false]
      have hP2 : spec_ValidVector v = false := by simp only [spec_ValidVector, hP1, cond_true, cond_false]
      refine WX.ret ttOk rfl ?_
      intro w1 G bs hI hΓ
      rw [hP2]
      exact ⟨rfl, trivial⟩
    · skip
      have h2d := (B.nf h2)
      have h2r := inR_spec (B.nf h2)
      refine WX.run ttOk rfl ?_
      refine WX.see rfl rfl rfl (fun _ hΓ => looks_arith rfl rfl rfl rfl (by unfold I64; first | omega | (dsimp only; omega))) ?_
      refine WX.run ttOk rfl ?_
      exact WX.iter (i + 1) ⟨(by omega), (by rw [v2, drop_get e1h]; simp only [spec_ValidVector_L1, h2, cond_true, cond_false])⟩ (by first | (dsimp only; omega) | omega) (.cons rfl (.cons rfl (.nil))) (.cons rfl (.nil)) .nil [0] rfl
  · skip
    have h1d := B.df h1
    refine WX.run ttOk rfl ?_
    have hX1 : spec_ValidVector_L1 v.entries = none := by rw [v2, List.drop_eq_nil_of_le (show (v.entries).length ≤ i by omega)]; simp only [spec_ValidVector_L1, cond_true, cond_false]
    refine WX.callV rfl rfl rfl rfl rfl (fun _ => rfl) rfl (fun w G bs hI hΓ => f178 w n (by omega) v.entries pv cv (hΓ.get 0 rfl) (ok_StateVector hokv)) ?_
    intro hq2
    refine WX.run ttOk rfl ?_
    have hP3 : spec_ValidVector v = (spec_ValidTable v.entries) := by simp only [spec_ValidVector, hX1, cond_true, cond_false]
    refine WX.ret ttOk rfl ?_
    intro w1 G bs hI hΓ
    rw [hP3]
    exact ⟨rfl, trivial⟩
end Go.Proofs.YtfffongneoegbaaGreat

namespace Go.Stp
set_option linter.unusedVariables false
set_option linter.unusedSimpArgs false
def impl_indexOfName_c1 (n_ : Name) (e_ : TableEntry) : Bool :=
  (impl_EqualNames e_.name n_)
def impl_indexOfName (l : (List TableEntry)) (n_ : Name) : Int :=
  (slices_IndexFunc_TableEntry l (fun e0_ => (impl_indexOfName_c1 n_ e0_)))
def spec_l6Find_L1 (n_ : Name) : List TableEntry → Nat → Option (Int)
  | [], i => none
  | e1 :: rest_, i =>
    bif (spec_EqualNames e1.name n_) then
      (some ((i : Nat) : Int))
    else
      spec_l6Find_L1 n_ rest_ (i + 1)
def spec_l6Find (l : (List TableEntry)) (n_ : Name) : Int :=
  match spec_l6Find_L1 n_ l 0 with
    | some r_ => r_
    | none =>
      (-1)
def impl_LookupEntry (l : (List TableEntry)) (n_ : Name) : Int × Bool :=
  bif decide ((impl_indexOfName l n_) < 0) then
    (0, false)
  else
    match (l)[((impl_indexOfName l n_)).toNat]? with
      | none => default
      | some e1 =>
        (e1.value, true)
def spec_LookupEntry (l : (List TableEntry)) (n_ : Name) : Int × Bool :=
  bif decide ((spec_l6Find l n_) < 0) then
    (0, false)
  else
    match (l)[((spec_l6Find l n_)).toNat]? with
      | none => default
      | some e1 =>
        (e1.value, true)
def impl_SeqOf (v : StateVector) (n_ : Name) : Int :=
  ((impl_LookupEntry v.entries n_).1)
def spec_SeqOf (v : StateVector) (n_ : Name) : Int :=
  ((spec_LookupEntry v.entries n_).1)
end Go.Stp

namespace Go.Proofs.YtfffongneoegbaaGreat
open Go.Stp
set_option linter.unusedVariables false
set_option linter.unusedSimpArgs false
theorem f291 (w : World) (n : Nat) (hn : n + 0 ≤ 9) (e_ : TableEntry) (pe_Name : Option Addr) (ce_Name : Nat) (hpe_Name : RdSl (hp w) pe_Name ce_Name e_.name.parts) (n_ : Name) (bn_ : Addr) (hn_ : RdSl (hp w) (some bn_) 1 [n_]) (hoke_ : GoT.ok n e_) (hokn_ : GoT.ok n n_) :
    Does Tryz.prog 291 #[.agg #[.slice pe_Name ((e_.name.parts).length) ce_Name, .int .i64 (e_.value)], .pointer (some bn_)] w emp (fun (rv : Value) (_ : World) => rv = .bool (impl_indexOfName_c1 n_ e_) ∧ True) := by
  have hbP := bd_pos n
  have hbB := bd_big (n := n) (by omega)
  refine WX.enter (tt := tt) (Γ := [(0, MF.rs .stb pe_Name ce_Name e_.name.parts), (1, MF.rs .stb (some bn_) 1 ([n_]))]) Tryz.func291 rfl (by kernel_rfl) rfl (allS_cons rfl hpe_Name (allS_cons rfl hn_ allS_nil)) ?_
  have n_h : ([n_] : List Name)[0]? = some n_ := rfl
  refine WX.slot 1 (y := .e (some bn_) 0 1 0) rfl (fun _ => cap_eq) ?_
  refine WX.run ttOk rfl ?_
  refine WX.ldE 1 2 n_ ttOk rfl rfl rfl rfl rfl rfl rfl rfl n_h (fun _ => rfl) (fun _ => rfl) ?_
  rintro ⟨p1, c1⟩
  refine WX.callV rfl rfl rfl rfl rfl (fun _ => rfl) rfl (fun w G bs hI hΓ => f100 w n (by omega) e_.name pe_Name ce_Name (hΓ.get 0 rfl) n_ p1 c1 (hΓ.get 2 rfl) ((ok_TableEntry hoke_).1) hokn_) ?_
  intro hq1
  refine WX.run ttOk rfl ?_
  have hP1 : impl_indexOfName_c1 n_ e_ = (impl_EqualNames e_.name n_) := by simp only [impl_indexOfName_c1, cond_true, cond_false]
  refine WX.ret ttOk rfl ?_
  intro w1 G bs hI hΓ
  rw [hP1]
  exact ⟨rfl, trivial⟩
theorem f187 (w : World) (n : Nat) (hn : n + 0 ≤ 9) (l : (List TableEntry)) (pl : Option Addr) (cl : Nat) (hpl : RdSl (hp w) pl cl l) (n_ : Name) (pn_ : Option Addr) (cn_ : Nat) (hpn_ : RdSl (hp w) pn_ cn_ n_.parts) (hokl : GoT.ok n l) (hokn_ : GoT.ok n n_) :
    Does Tryz.prog 187 #[.slice pl ((l).length) cl, .agg #[.slice pn_ ((n_.parts).length) cn_]] w emp (fun (rv : Value) (_ : World) => rv = .int .i64 ((impl_indexOfName l n_)) ∧ GoT.ok n ((impl_indexOfName l n_) : Int)) := by
  have hbP := bd_pos n
  have hbB := bd_big (n := n) (by omega)
  refine WX.enter (tt := tt) (Γ := [(0, MF.rs .stb pl cl l), (1, MF.rs .stb pn_ cn_ n_.parts)]) Tryz.func187 rfl (by kernel_rfl) rfl (allS_cons rfl hpl (allS_cons rfl hpn_ allS_nil)) ?_
  refine WX.run ttOk rfl ?_
  refine WX.callV rfl rfl rfl rfl rfl (fun _ => rfl) rfl (fun w G bs hI hΓ => f188 w n (by omega) l pl cl (hΓ.get 0 rfl) 291 [Value.pointer (some ⟨bs 3, 0, none⟩)] (fun e0_ => (impl_indexOfName_c1 n_ e0_)) (fun w1_ hb_ e0_ x0_ hk0_ hx0_ => f291 w1_ n (by omega) e0_ x0_.1.1 x0_.1.2 (hx0_ _ List.mem_cons_self) n_ ⟨bs 3, 0, none⟩ ((rd_box (α := Name) (a := n_) (x := (pn_, cn_)) (hI.loc 3 _ rfl).1 (All.cons (hΓ.get 1 rfl : RdSl _ _ _ _) All.nil)).mono (kp_le hb_)) hk0_ hokn_) hokl) ?_
  intro hq1
  have q1 := ltI_slices_IndexFunc_TableEntry l (fun e0_ => (impl_indexOfName_c1 n_ e0_))
  refine WX.run ttOk rfl ?_
  have hP1 : impl_indexOfName l n_ = (slices_IndexFunc_TableEntry l (fun e0_ => (impl_indexOfName_c1 n_ e0_))) := by simp only [impl_indexOfName, cond_true, cond_false]
  refine WX.ret ttOk rfl ?_
  intro w1 G bs hI hΓ
  rw [hP1]
  exact ⟨rfl, hq1⟩
theorem f176 (w : World) (n : Nat) (hn : n + 0 ≤ 9) (l : (List TableEntry)) (pl : Option Addr) (cl : Nat) (hpl : RdSl (hp w) pl cl l) (n_ : Name) (pn_ : Option Addr) (cn_ : Nat) (hpn_ : RdSl (hp w) pn_ cn_ n_.parts) (hokl : GoT.ok n l) (hokn_ : GoT.ok n n_) :
    Does Tryz.prog 176 #[.slice pl ((l).length) cl, .agg #[.slice pn_ ((n_.parts).length) cn_]] w emp (fun (rv : Value) (_ : World) => rv = .int .i64 ((spec_l6Find l n_)) ∧ GoT.ok n ((spec_l6Find l n_) : Int)) := by
  have hbP := bd_pos n
  have hbB := bd_big (n := n) (by omega)
  refine WX.enter (tt := tt) (Γ := [(0, MF.rs .stb pl cl l), (1, MF.rs .stb pn_ cn_ n_.parts)]) Tryz.func176 rfl (by kernel_rfl) rfl (allS_cons rfl hpl (allS_cons rfl hpn_ allS_nil)) ?_
  refine WX.run ttOk rfl ?_
  have r1 : (l).length ≤ bd n := (okl hokl).1
  refine WX.loop (ι := Nat) ⟨fun i => (i ≤ (l).length) ∧ (spec_l6Find_L1 n_ l 0 = spec_l6Find_L1 n_ ((l).drop i) i), fun i => (l).length - i, fun i => [(5, .v (.int .i64 (((i : Nat) : Int)))), (3, .p 3 0), (0, .v (.slice pl ((l).length) cl))], fun i => [(3, ⟨36, [.slice pn_ ((n_.parts).length) cn_]⟩)], fun i => [], fun i => [(0, MF.rs .stb pl cl l), (1, MF.rs .stb pn_ cn_ n_.parts)]⟩ 0 ⟨(Nat.zero_le _), rfl⟩
    (.cons rfl (.cons rfl (.cons rfl (.nil)))) (.cons rfl (.nil)) .nil [0, 1] rfl ?_
  rintro i hpre
  have hpre_ : (i ≤ (l).length) ∧ (spec_l6Find_L1 n_ l 0 = spec_l6Find_L1 n_ ((l).drop i) i) := hpre
  clear hpre
  obtain ⟨v1, v2⟩ := hpre_
  refine WX.run ttOk rfl ?_
  refine WX.cases 9 rfl (fun h1 => ?_) (fun h1 => ?_)
  · skip
    have h1d := B.dt h1
    have e1i : i < (l).length := (by omega)
    obtain ⟨e1, e1h⟩ : ∃ e1, (l)[i]? = some e1 := ⟨_, List.getElem?_eq_getElem e1i⟩
    have ok1 : GoT.ok n e1 := (okl hokl).2 _ (List.mem_of_getElem? e1h)
    refine WX.run ttOk rfl ?_
    refine WX.draw [] mixed ?_
    intro bs G0 hΓ0
    refine DX.takes (fuel := 5) ttOk [(0, true), (1, true)] (by kernel_rfl) rfl ?_
    refine DX.idx 2 0 i ttOk hΓ0 (by kernel_rfl) rfl rfl rfl rfl rfl rfl rfl rfl rfl rfl rfl e1i ?_
    rintro ad1 rfl
    refine DX.takes (fuel := 3) ttOk [(3, true)] (by kernel_rfl) rfl ?_
    refine DX.ldE 4 0 2 e1 ttOk hΓ0 (by kernel_rfl) rfl rfl rfl rfl rfl rfl rfl rfl e1h (fun _ => rfl) (fun _ => rfl) ?_
    rintro ⟨⟨p1, c1⟩, ⟨⟩⟩
    refine DX.takes (fuel := 1) ttOk [(5, false)] (by kernel_rfl) rfl ?_
    refine DX.callV 6 rfl (by kernel_rfl) rfl rfl rfl rfl rfl rfl (fun _ => rfl) rfl (fun w G bs hI hΓ => f92 w n (by omega) e1.name p1 c1 (hΓ.get 2 rfl) n_ pn_ cn_ (hΓ.get 1 rfl) ((ok_TableEntry ok1).1) hokn_) ?_
    intro hq1
    refine DX.tail2 [] rfl rfl (by kernel_rfl) ?_
    refine WX.run ttOk rfl ?_
    refine WX.cases 18 rfl (fun h2 => ?_) (fun h2 => ?_)
    · skip
      refine WX.run ttOk rfl ?_
      have hP1 : spec_l6Find_L1 n_ l 0 = (some ((i : Nat) : Int)) := by rw [v2, drop_get e1h]; simp only [spec_l6Find_L1, h2, cond_true, cond_false]
      have hP2 : spec_l6Find l n_ = ((i : Nat) : Int) := by simp only [spec_l6Find, hP1, cond_true, cond_false]
      refine WX.ret ttOk rfl ?_
      intro w1 G bs hI hΓ
      rw [hP2]
      exact ⟨rfl, (show I64 ((i : Nat) : Int) from (by unfold I64; omega))⟩
    · skip
      refine WX.run ttOk rfl ?_
      refine WX.see rfl rfl rfl (fun _ hΓ => looks_arith rfl rfl rfl rfl (by unfold I64; first | omega | (dsimp only; omega))) ?_
      refine WX.run ttOk rfl ?_
      exact WX.iter (i + 1) ⟨(by omega), (by rw [v2, drop_get e1h]; simp only [spec_l6Find_L1, h2, cond_true, cond_false])⟩ (by first | (dsimp only; omega) | omega) (.cons rfl (.cons rfl (.cons rfl (.nil)))) (.cons rfl (.nil)) .nil [0, 1] rfl
  · skip
    have h1d := B.df h1
    refine WX.run ttOk rfl ?_
    have hX1 : spec_l6Find_L1 n_ l 0 = none := by rw [v2, List.drop_eq_nil_of_le (show (l).length ≤ i by omega)]; simp only [spec_l6Find_L1, cond_true, cond_false]
    have hP3 : spec_l6Find l n_ = (-1) := by simp only [spec_l6Find, hX1, cond_true, cond_false]
    refine WX.ret ttOk rfl ?_
    intro w1 G bs hI hΓ
    rw [hP3]
    exact ⟨rfl, (show I64 (-1) from (by unfold I64; omega))⟩
theorem lt_iFL : ∀ (f : TableEntry → Bool) (l : List TableEntry) (i : Nat) (j : Int), slices_IndexFunc_TableEntry_L1 f l i = some j → j < ((i + l.length : Nat) : Int)
  | f, [], i, j, h => by cases h
  | f, x :: l, i, j, h => by
    simp only [slices_IndexFunc_TableEntry_L1] at h
    cases hx : f x
    · rw [hx, cond_false] at h
      have := lt_iFL f l (i + 1) j h
      simp only [List.length_cons]; omega
    · rw [hx, cond_true] at h
      cases h
      simp only [List.length_cons]; omega
theorem lt_indexOfName (l : List TableEntry) (n_ : Name) : impl_indexOfName l n_ < ((l.length : Nat) : Int) := by
  unfold impl_indexOfName slices_IndexFunc_TableEntry
  cases h : slices_IndexFunc_TableEntry_L1 (fun e0_ => impl_indexOfName_c1 n_ e0_) l 0 with
  | none => show (-1 : Int) < _; omega
  | some j => have := lt_iFL _ l 0 j h; show j < _; omega
theorem lt_l6L (n_ : Name) : ∀ (l : List TableEntry) (i : Nat) (j : Int), spec_l6Find_L1 n_ l i = some j → j < ((i + l.length : Nat) : Int)
  | [], i, j, h => by cases h
  | x :: l, i, j, h => by
    simp only [spec_l6Find_L1] at h
    cases hx : spec_EqualNames x.name n_
    · rw [hx, cond_false] at h
      have := lt_l6L n_ l (i + 1) j h
      simp only [List.length_cons]; omega
    · rw [hx, cond_true] at h
      cases h
      simp only [List.length_cons]; omega
theorem lt_l6Find (l : List TableEntry) (n_ : Name) : spec_l6Find l n_ < ((l.length : Nat) : Int) := by
  unfold spec_l6Find
  cases h : spec_l6Find_L1 n_ l 0 with
  | none => show (-1 : Int) < _; omega
  | some j => have := lt_l6L n_ l 0 j h; show j < _; omega
theorem f185 (w : World) (n : Nat) (hn : n + 0 ≤ 9) (l : (List TableEntry)) (pl : Option Addr) (cl : Nat) (hpl : RdSl (hp w) pl cl l) (n_ : Name) (pn_ : Option Addr) (cn_ : Nat) (hpn_ : RdSl (hp w) pn_ cn_ n_.parts) (hokl : GoT.ok n l) (hokn_ : GoT.ok n n_) :
    Does Tryz.prog 185 #[.slice pl ((l).length) cl, .agg #[.slice pn_ ((n_.parts).length) cn_]] w emp (fun (rv : Value) (_ : World) => rv = .tuple #[.int .i64 ((impl_LookupEntry l n_).1), .bool ((impl_LookupEntry l n_).2)] ∧ GoT.ok n ((impl_LookupEntry l n_).1 : Int)) := by
  have hbP := bd_pos n
  have hbB := bd_big (n := n) (by omega)
  refine WX.enter (tt := tt) (Γ := [(0, MF.rs .stb pl cl l), (1, MF.rs .stb pn_ cn_ n_.parts)]) Tryz.func185 rfl (by kernel_rfl) rfl (allS_cons rfl hpl (allS_cons rfl hpn_ allS_nil)) ?_
  refine WX.run ttOk rfl ?_
  refine WX.callV rfl rfl rfl rfl rfl (fun _ => rfl) rfl (fun w G bs hI hΓ => f187 w n (by omega) l pl cl (hΓ.get 0 rfl) n_ pn_ cn_ (hΓ.get 1 rfl) hokl hokn_) ?_
  intro hq1
  have q1 := lt_indexOfName l n_
  refine WX.run ttOk rfl ?_
  refine WX.cases 11 rfl (fun h1 => ?_) (fun h1 => ?_)
  · skip
    have h1d := B.dt h1
    refine WX.run ttOk rfl ?_
    have hP1 : impl_LookupEntry l n_ = (0, false) := by simp only [impl_LookupEntry, h1, cond_true, cond_false]
    refine WX.ret ttOk rfl ?_
    intro w1 G bs hI hΓ
    rw [hP1]
    exact ⟨rfl, (show I64 0 from (by unfold I64; omega))⟩
  · skip
    have h1d := B.df h1
    refine WX.run ttOk rfl ?_
    refine WX.slot 13 (y := .v (.int .i64 ((((impl_indexOfName l n_)).toNat : Nat) : Int))) rfl (fun _ => congrArg (Value.int .i64) (show (impl_indexOfName l n_) = ((((impl_indexOfName l n_)).toNat : Nat) : Int) from by omega)) ?_
    have e1i : ((impl_indexOfName l n_)).toNat < (l).length := (by first | assumption | omega)
    obtain ⟨e1, e1h⟩ : ∃ e1, (l)[((impl_indexOfName l n_)).toNat]? = some e1 := ⟨_, List.getElem?_eq_getElem e1i⟩
    have ok1 : GoT.ok n e1 := (okl hokl).2 _ (List.mem_of_getElem? e1h)
    refine WX.idx 0 (((impl_indexOfName l n_)).toNat) ttOk rfl rfl rfl rfl rfl rfl rfl rfl rfl rfl e1i ?_
    rintro ad1 rfl
    refine WX.run ttOk rfl ?_
    refine WX.ldE 0 2 e1 ttOk rfl rfl rfl rfl rfl rfl rfl rfl e1h (fun _ => rfl) (fun _ => rfl) ?_
    rintro ⟨⟨p1, c1⟩, ⟨⟩⟩
    refine WX.run ttOk rfl ?_
    have hP2 : impl_LookupEntry l n_ = (e1.value, true) := by simp only [impl_LookupEntry, h1, e1h, cond_true, cond_false]
    refine WX.ret ttOk rfl ?_
    intro w1 G bs hI hΓ
    rw [hP2]
    exact ⟨rfl, (ok_TableEntry ok1).2⟩
theorem f175 (w : World) (n : Nat) (hn : n + 0 ≤ 9) (l : (List TableEntry)) (pl : Option Addr) (cl : Nat) (hpl : RdSl (hp w) pl cl l) (n_ : Name) (pn_ : Option Addr) (cn_ : Nat) (hpn_ : RdSl (hp w) pn_ cn_ n_.parts) (hokl : GoT.ok n l) (hokn_ : GoT.ok n n_) :
    Does Tryz.prog 175 #[.slice pl ((l).length) cl, .agg #[.slice pn_ ((n_.parts).length) cn_]] w emp (fun (rv : Value) (_ : World) => rv = .tuple #[.int .i64 ((spec_LookupEntry l n_).1), .bool ((spec_LookupEntry l n_).2)] ∧ GoT.ok n ((spec_LookupEntry l n_).1 : Int)) := by
  have hbP := bd_pos n
  have hbB := bd_big (n := n) (by omega)
  refine WX.enter (tt := tt) (Γ := [(0, MF.rs .stb pl cl l), (1, MF.rs .stb pn_ cn_ n_.parts)]) Tryz.func175 rfl (by kernel_rfl) rfl (allS_cons rfl hpl (allS_cons rfl hpn_ allS_nil)) ?_
  refine WX.run ttOk rfl ?_
  refine WX.callV rfl rfl rfl rfl rfl (fun _ => rfl) rfl (fun w G bs hI hΓ => f176 w n (by omega) l pl cl (hΓ.get 0 rfl) n_ pn_ cn_ (hΓ.get 1 rfl) hokl hokn_) ?_
  intro hq1
  have q1 := lt_l6Find l n_
  refine WX.run ttOk rfl ?_
  refine WX.cases 11 rfl (fun h1 => ?_) (fun h1 => ?_)
  · skip
    have h1d := B.dt h1
    refine WX.run ttOk rfl ?_
    have hP1 : spec_LookupEntry l n_ = (0, false) := by simp only [spec_LookupEntry, h1, cond_true, cond_false]
    refine WX.ret ttOk rfl ?_
    intro w1 G bs hI hΓ
    rw [hP1]
    exact ⟨rfl, (show I64 0 from (by unfold I64; omega))⟩
  · skip
    have h1d := B.df h1
    refine WX.run ttOk rfl ?_
    refine WX.slot 13 (y := .v (.int .i64 ((((spec_l6Find l n_)).toNat : Nat) : Int))) rfl (fun _ => congrArg (Value.int .i64) (show (spec_l6Find l n_) = ((((spec_l6Find l n_)).toNat : Nat) : Int) from by omega)) ?_
    have e1i : ((spec_l6Find l n_)).toNat < (l).length := (by first | assumption | omega)
    obtain ⟨e1, e1h⟩ : ∃ e1, (l)[((spec_l6Find l n_)).toNat]? = some e1 := ⟨_, List.getElem?_eq_getElem e1i⟩
    have ok1 : GoT.ok n e1 := (okl hokl).2 _ (List.mem_of_getElem? e1h)
    refine WX.idx 0 (((spec_l6Find l n_)).toNat) ttOk rfl rfl rfl rfl rfl rfl rfl rfl rfl rfl e1i ?_
    rintro ad1 rfl
    refine WX.run ttOk rfl ?_
    refine WX.ldE 0 2 e1 ttOk rfl rfl rfl rfl rfl rfl rfl rfl e1h (fun _ => rfl) (fun _ => rfl) ?_
    rintro ⟨⟨p1, c1⟩, ⟨⟩⟩
    refine WX.run ttOk rfl ?_
    have hP2 : spec_LookupEntry l n_ = (e1.value, true) := by simp only [spec_LookupEntry, h1, e1h, cond_true, cond_false]
    refine WX.ret ttOk rfl ?_
    intro w1 G bs hI hΓ
    rw [hP2]
    exact ⟨rfl, (ok_TableEntry ok1).2⟩
theorem f69 (w : World) (n : Nat) (hn : n + 0 ≤ 9) (v : StateVector) (pv : Option Addr) (cv : Nat) (hpv : RdSl (hp w) pv cv v.entries) (n_ : Name) (pn_ : Option Addr) (cn_ : Nat) (hpn_ : RdSl (hp w) pn_ cn_ n_.parts) (hokv : GoT.ok n v) (hokn_ : GoT.ok n n_) :
    Does Tryz.prog 69 #[.agg #[.slice pv ((v.entries).length) cv], .agg #[.slice pn_ ((n_.parts).length) cn_]] w emp (fun (rv : Value) (_ : World) => rv = .int .i64 ((impl_SeqOf v n_)) ∧ GoT.ok n ((impl_SeqOf v n_) : Int)) := by
  have hbP := bd_pos n
  have hbB := bd_big (n := n) (by omega)
  refine WX.enter (tt := tt) (Γ := [(0, MF.rs .stb pv cv v.entries), (1, MF.rs .stb pn_ cn_ n_.parts)]) Tryz.func69 rfl (by kernel_rfl) rfl (allS_cons rfl hpv (allS_cons rfl hpn_ allS_nil)) ?_
  refine WX.run ttOk rfl ?_
  refine WX.callV rfl rfl rfl rfl rfl (fun _ => rfl) rfl (fun w G bs hI hΓ => f185 w n (by omega) v.entries pv cv (hΓ.get 0 rfl) n_ pn_ cn_ (hΓ.get 1 rfl) (ok_StateVector hokv) hokn_) ?_
  intro hq1
  refine WX.run ttOk rfl ?_
  have hP1 : impl_SeqOf v n_ = ((impl_LookupEntry v.entries n_).1) := by simp only [impl_SeqOf, cond_true, cond_false]
  refine WX.ret ttOk rfl ?_
  intro w1 G bs hI hΓ
  rw [hP1]
  exact ⟨rfl, hq1⟩
theorem f61 (w : World) (n : Nat) (hn : n + 0 ≤ 9) (v : StateVector) (pv : Option Addr) (cv : Nat) (hpv : RdSl (hp w) pv cv v.entries) (n_ : Name) (pn_ : Option Addr) (cn_ : Nat) (hpn_ : RdSl (hp w) pn_ cn_ n_.parts) (hokv : GoT.ok n v) (hokn_ : GoT.ok n n_) :
    Does Tryz.prog 61 #[.agg #[.slice pv ((v.entries).length) cv], .agg #[.slice pn_ ((n_.parts).length) cn_]] w emp (fun (rv : Value) (_ : World) => rv = .int .i64 ((spec_SeqOf v n_)) ∧ GoT.ok n ((spec_SeqOf v n_) : Int)) := by
  have hbP := bd_pos n
  have hbB := bd_big (n := n) (by omega)
  refine WX.enter (tt := tt) (Γ := [(0, MF.rs .stb pv cv v.entries), (1, MF.rs .stb pn_ cn_ n_.parts)]) Tryz.func61 rfl (by kernel_rfl) rfl (allS_cons rfl hpv (allS_cons rfl hpn_ allS_nil)) ?_
  refine WX.run ttOk rfl ?_
  refine WX.callV rfl rfl rfl rfl rfl (fun _ => rfl) rfl (fun w G bs hI hΓ => f175 w n (by omega) v.entries pv cv (hΓ.get 0 rfl) n_ pn_ cn_ (hΓ.get 1 rfl) (ok_StateVector hokv) hokn_) ?_
  intro hq1
  refine WX.run ttOk rfl ?_
  have hP1 : spec_SeqOf v n_ = ((spec_LookupEntry v.entries n_).1) := by simp only [spec_SeqOf, cond_true, cond_false]
  refine WX.ret ttOk rfl ?_
  intro w1 G bs hI hΓ
  rw [hP1]
  exact ⟨rfl, hq1⟩
end Go.Proofs.YtfffongneoegbaaGreat

namespace Go.Stp
set_option linter.unusedVariables false
set_option linter.unusedSimpArgs false
def slices_IndexFunc_Publication_L1 (fq : Publication → Bool) : List Publication → Nat → Option (Int)
  | [], i => none
  | e1 :: rest_, i =>
    bif fq e1 then
      (some ((i : Nat) : Int))
    else
      slices_IndexFunc_Publication_L1 fq rest_ (i + 1)
def slices_IndexFunc_Publication (s : (List Publication)) (fq : Publication → Bool) : Int :=
  match slices_IndexFunc_Publication_L1 fq s 0 with
    | some r_ => r_
    | none =>
      (-1)
def impl_publishedAt_c1 (i : Int) (n_ : Name) (p_ : Publication) : Bool :=
  bif (p_.seq == i) then
    (impl_EqualNames p_.publisher n_)
  else
    false
def impl_publishedAt (l : (List Publication)) (n_ : Name) (i : Int) : Int :=
  (slices_IndexFunc_Publication l (fun e0_ => (impl_publishedAt_c1 i n_ e0_)))
def spec_l28Find_L1 (n_ : Name) (i : Int) : List Publication → Nat → Option (Int)
  | [], i2 => none
  | e1 :: rest_, i2 =>
    bif (e1.seq == i) then
      bif (spec_EqualNames e1.publisher n_) then
        (some ((i2 : Nat) : Int))
      else
        spec_l28Find_L1 n_ i rest_ (i2 + 1)
    else
      spec_l28Find_L1 n_ i rest_ (i2 + 1)
def spec_l28Find (l : (List Publication)) (n_ : Name) (i : Int) : Int :=
  match spec_l28Find_L1 n_ i l 0 with
    | some r_ => r_
    | none =>
      (-1)
end Go.Stp

namespace Go.Proofs.YtfffongneoegbaaGreat
open Go.Stp
set_option linter.unusedVariables false
set_option linter.unusedSimpArgs false
theorem f299 (w : World) (n : Nat) (hn : n + 0 ≤ 9) (s : (List Publication)) (ps : Option Addr) (cs : Nat) (hps : RdSl (hp w) ps cs s) (fg : FuncId) (fc : List Value) (fq : Publication → Bool) (ff : ∀ w1, Kp emp w w1 → ∀ (e0 : Publication) (x0 : GoT.X Publication), GoT.ok n e0 → All (hp w1) (GoT.fa .der e0 x0) → Does Tryz.prog fg ([Value.agg ⟨GoT.sh e0 x0⟩] ++ fc).toArray w1 emp (fun rv _ => rv = .bool (fq e0) ∧ True)) (hoks : GoT.ok n s) :
    Does Tryz.prog 299 #[.slice ps ((s).length) cs, .func (.func fg) #[] fc.toArray] w emp (fun (rv : Value) (_ : World) => rv = .int .i64 ((slices_IndexFunc_Publication s fq)) ∧ GoT.ok n ((slices_IndexFunc_Publication s fq) : Int)) := by
  have hbP := bd_pos n
  have hbB := bd_big (n := n) (by omega)
  refine WX.enter (tt := tt) (Γ := [(0, MF.rs .stb ps cs s)]) Tryz.func299 rfl (by kernel_rfl) rfl (allS_cons rfl hps allS_nil) ?_
  refine WX.run ttOk rfl ?_
  have r1 : (s).length ≤ bd n := (okl hoks).1
  refine WX.loop (ι := Nat) ⟨fun i => (i ≤ (s).length) ∧ (slices_IndexFunc_Publication_L1 fq s 0 = slices_IndexFunc_Publication_L1 fq ((s).drop i) i), fun i => (s).length - i, fun i => [(8, .v (.int .i64 (((i : Nat) : Int)))), (7, .v (.int .i64 ((((s).length : Nat) : Int)))), (0, .v (.slice ps ((s).length) cs)), (1, .v (.func (.func fg) #[] fc.toArray))], fun i => [], fun i => [], fun i => [(0, MF.rs .stb ps cs s)]⟩ 0 ⟨(Nat.zero_le _), rfl⟩
    (.cons rfl (.cons rfl (.cons rfl (.cons rfl (.nil))))) .nil .nil [0] rfl ?_
  rintro i hpre
  have hpre_ : (i ≤ (s).length) ∧ (slices_IndexFunc_Publication_L1 fq s 0 = slices_IndexFunc_Publication_L1 fq ((s).drop i) i) := hpre
  clear hpre
  obtain ⟨v1, v2⟩ := hpre_
  refine WX.run ttOk rfl ?_
  refine WX.cases 9 rfl (fun h1 => ?_) (fun h1 => ?_)
  · skip
    have h1d := B.dt h1
    have e1i : i < (s).length := (by omega)
    obtain ⟨e1, e1h⟩ : ∃ e1, (s)[i]? = some e1 := ⟨_, List.getElem?_eq_getElem e1i⟩
    have ok1 : GoT.ok n e1 := (okl hoks).2 _ (List.mem_of_getElem? e1h)
    refine WX.run ttOk rfl ?_
    refine WX.idx 0 i ttOk rfl rfl rfl rfl rfl rfl rfl rfl rfl rfl e1i ?_
    rintro ad1 rfl
    refine WX.ldE 0 1 e1 ttOk rfl rfl rfl rfl rfl rfl rfl rfl e1h (fun _ => rfl) (fun _ => rfl) ?_
    rintro ⟨⟨p1, c1⟩, ⟨⟩, ⟨p2, c2⟩⟩
    refine WX.callV rfl rfl rfl rfl rfl (fun _ => rfl) rfl (fun w G bs hI hΓ => ff w hI.keep e1 ((p1, c1), (), (p2, c2)) ok1 (All.cons (hΓ.get 1 rfl : RdSl _ _ _ _) (All.cons (hΓ.get 2 rfl : RdSl _ _ _ _) All.nil))) ?_
    intro hq1
    refine WX.run ttOk rfl ?_
    refine WX.cases 16 rfl (fun h2 => ?_) (fun h2 => ?_)
    · skip
      refine WX.run ttOk rfl ?_
      have hP1 : slices_IndexFunc_Publication_L1 fq s 0 = (some ((i : Nat) : Int)) := by rw [v2, drop_get e1h]; simp only [slices_IndexFunc_Publication_L1, h2, cond_true, cond_false]
      have hP2 : slices_IndexFunc_Publication s fq = ((i : Nat) : Int) := by simp only [slices_IndexFunc_Publication, hP1, cond_true, cond_false]
      refine WX.ret ttOk rfl ?_
      intro w1 G bs hI hΓ
      rw [hP2]
      exact ⟨rfl, (show I64 ((i : Nat) : Int) from (by unfold I64; omega))⟩
    · skip
      refine WX.run ttOk rfl ?_
      refine WX.see rfl rfl rfl (fun _ hΓ => looks_arith rfl rfl rfl rfl (by unfold I64; first | omega | (dsimp only; omega))) ?_
      refine WX.run ttOk rfl ?_
      exact WX.iter (i + 1) ⟨(by omega), (by rw [v2, drop_get e1h]; simp only [slices_IndexFunc_Publication_L1, h2, cond_true, cond_false])⟩ (by first | (dsimp only; omega) | omega) (.cons rfl (.cons rfl (.cons rfl (.cons rfl (.nil))))) .nil .nil [0] rfl
  · skip
    have h1d := B.df h1
    refine WX.run ttOk rfl ?_
    have hX1 : slices_IndexFunc_Publication_L1 fq s 0 = none := by rw [v2, List.drop_eq_nil_of_le (show (s).length ≤ i by omega)]; simp only [slices_IndexFunc_Publication_L1, cond_true, cond_false]
    have hP3 : slices_IndexFunc_Publication s fq = (-1) := by simp only [slices_IndexFunc_Publication, hX1, cond_true, cond_false]
    refine WX.ret ttOk rfl ?_
    intro w1 G bs hI hΓ
    rw [hP3]
    exact ⟨rfl, (show I64 (-1) from (by unfold I64; omega))⟩
theorem ltL_slices_IndexFunc_Publication : ∀ (f : Publication → Bool) (l : List Publication) (i : Nat) (j : Int), slices_IndexFunc_Publication_L1 f l i = some j → j < ((i + l.length : Nat) : Int)
  | f, [], i, j, h => by cases h
  | f, x :: l, i, j, h => by
    simp only [slices_IndexFunc_Publication_L1] at h
    cases hx : f x
    · rw [hx, cond_false] at h
      have := ltL_slices_IndexFunc_Publication f l (i + 1) j h
      simp only [List.length_cons]; omega
    · rw [hx, cond_true] at h
      cases h
      simp only [List.length_cons]; omega
theorem ltI_slices_IndexFunc_Publication (l : List Publication) (f : Publication → Bool) : slices_IndexFunc_Publication l f < ((l.length : Nat) : Int) := by
  unfold slices_IndexFunc_Publication
  cases h : slices_IndexFunc_Publication_L1 f l 0 with
  | none => show (-1 : Int) < _; omega
  | some j => have := ltL_slices_IndexFunc_Publication f l 0 j h; show j < _; omega
theorem f300 (w : World) (n : Nat) (hn : n + 0 ≤ 9) (p_ : Publication) (pp_Publisher : Option Addr) (cp_Publisher : Nat) (hpp_Publisher : RdSl (hp w) pp_Publisher cp_Publisher p_.publisher.parts) (pp_Content : Option Addr) (cp_Content : Nat) (hpp_Content : RdSl (hp w) pp_Content cp_Content p_.content) (i : Int) (bi : Addr) (hi : RdSl (hp w) (some bi) 1 [i]) (n_ : Name) (bn_ : Addr) (hn_ : RdSl (hp w) (some bn_) 1 [n_]) (hokp_ : GoT.ok n p_) (hoki : GoT.ok n i) (hokn_ : GoT.ok n n_) :
    Does Tryz.prog 300 #[.agg #[.slice pp_Publisher ((p_.publisher.parts).length) cp_Publisher, .int .i64 (p_.seq), .slice pp_Content ((p_.content).length) cp_Content], .pointer (some bi), .pointer (some bn_)] w emp (fun (rv : Value) (_ : World) => rv = .bool (impl_publishedAt_c1 i n_ p_) ∧ True) := by
  have hbP := bd_pos n
  have hbB := bd_big (n := n) (by omega)
  refine WX.enter (tt := tt) (Γ := [(0, MF.rs .stb pp_Publisher cp_Publisher p_.publisher.parts), (1, MF.rs .stb pp_Content cp_Content p_.content), (2, MF.rs .stb (some bi) 1 ([i])), (3, MF.rs .stb (some bn_) 1 ([n_]))]) Tryz.func300 rfl (by kernel_rfl) rfl (allS_cons rfl hpp_Publisher (allS_cons rfl hpp_Content (allS_cons rfl hi (allS_cons rfl hn_ allS_nil)))) ?_
  have ih : ([i] : List Int)[0]? = some i := rfl
  refine WX.slot 1 (y := .e (some bi) 0 1 0) rfl (fun _ => cap_eq) ?_
  have n_h : ([n_] : List Name)[0]? = some n_ := rfl
  refine WX.slot 2 (y := .e (some bn_) 0 1 0) rfl (fun _ => cap_eq) ?_
  refine WX.run ttOk rfl ?_
  refine WX.ldE 2 4 i ttOk rfl rfl rfl rfl rfl rfl rfl rfl ih (fun _ => rfl) (fun _ => rfl) ?_
  rintro ⟨⟩
  refine WX.run ttOk rfl ?_
  refine WX.cases 9 rfl (fun h1 => ?_) (fun h1 => ?_)
  · skip
    have h1d := B.et h1
    refine WX.run ttOk rfl ?_
    refine WX.ldE 3 4 n_ ttOk rfl rfl rfl rfl rfl rfl rfl rfl n_h (fun _ => rfl) (fun _ => rfl) ?_
    rintro ⟨p1, c1⟩
    refine WX.callV rfl rfl rfl rfl rfl (fun _ => rfl) rfl (fun w G bs hI hΓ => f100 w n (by omega) p_.publisher pp_Publisher cp_Publisher (hΓ.get 0 rfl) n_ p1 c1 (hΓ.get 4 rfl) ((ok_Publication hokp_).1) hokn_) ?_
    intro hq1
    refine WX.run ttOk rfl ?_
    have hP1 : impl_publishedAt_c1 i n_ p_ = (impl_EqualNames p_.publisher n_) := by simp only [impl_publishedAt_c1, h1, cond_true, cond_false]
    refine WX.ret ttOk rfl ?_
    intro w1 G bs hI hΓ
    rw [hP1]
    exact ⟨rfl, trivial⟩
  · skip
    have h1d := B.ef h1
    refine WX.run ttOk rfl ?_
    have hP2 : impl_publishedAt_c1 i n_ p_ = false := by simp only [impl_publishedAt_c1, h1, cond_true, cond_false]
    refine WX.ret ttOk rfl ?_
    intro w1 G bs hI hΓ
    rw [hP2]
    exact ⟨rfl, trivial⟩
theorem f195 (w : World) (n : Nat) (hn : n + 0 ≤ 9) (l : (List Publication)) (pl : Option Addr) (cl : Nat) (hpl : RdSl (hp w) pl cl l) (n_ : Name) (pn_ : Option Addr) (cn_ : Nat) (hpn_ : RdSl (hp w) pn_ cn_ n_.parts) (i : Int) (hokl : GoT.ok n l) (hokn_ : GoT.ok n n_) (hoki : GoT.ok n i) :
    Does Tryz.prog 195 #[.slice pl ((l).length) cl, .agg #[.slice pn_ ((n_.parts).length) cn_], .int .i64 (i)] w emp (fun (rv : Value) (_ : World) => rv = .int .i64 ((impl_publishedAt l n_ i)) ∧ GoT.ok n ((impl_publishedAt l n_ i) : Int)) := by
  have hbP := bd_pos n
  have hbB := bd_big (n := n) (by omega)
  refine WX.enter (tt := tt) (Γ := [(0, MF.rs .stb pl cl l), (1, MF.rs .stb pn_ cn_ n_.parts)]) Tryz.func195 rfl (by kernel_rfl) rfl (allS_cons rfl hpl (allS_cons rfl hpn_ allS_nil)) ?_
  refine WX.run ttOk rfl ?_
  refine WX.callV rfl rfl rfl rfl rfl (fun _ => rfl) rfl (fun w G bs hI hΓ => f299 w n (by omega) l pl cl (hΓ.get 0 rfl) 300 [Value.pointer (some ⟨bs 5, 0, none⟩), Value.pointer (some ⟨bs 4, 0, none⟩)] (fun e0_ => (impl_publishedAt_c1 i n_ e0_)) (fun w1_ hb_ e0_ x0_ hk0_ hx0_ => f300 w1_ n (by omega) e0_ x0_.1.1 x0_.1.2 (hx0_ _ List.mem_cons_self) x0_.2.2.1 x0_.2.2.2 (hx0_ (MF.rs .der x0_.2.2.1 x0_.2.2.2 e0_.content) (by simp [GoT.fa])) i ⟨bs 5, 0, none⟩ ((rd_box (α := Int) (a := i) (x := ()) (hI.loc 5 _ rfl).1 All.nil).mono (kp_le hb_)) n_ ⟨bs 4, 0, none⟩ ((rd_box (α := Name) (a := n_) (x := (pn_, cn_)) (hI.loc 4 _ rfl).1 (All.cons (hΓ.get 1 rfl : RdSl _ _ _ _) All.nil)).mono (kp_le hb_)) hk0_ hoki hokn_) hokl) ?_
  intro hq1
  have q1 := ltI_slices_IndexFunc_Publication l (fun e0_ => (impl_publishedAt_c1 i n_ e0_))
  refine WX.run ttOk rfl ?_
  have hP1 : impl_publishedAt l n_ i = (slices_IndexFunc_Publication l (fun e0_ => (impl_publishedAt_c1 i n_ e0_))) := by simp only [impl_publishedAt, cond_true, cond_false]
  refine WX.ret ttOk rfl ?_
  intro w1 G bs hI hΓ
  rw [hP1]
  exact ⟨rfl, hq1⟩
theorem f182 (w : World) (n : Nat) (hn : n + 0 ≤ 9) (l : (List Publication)) (pl : Option Addr) (cl : Nat) (hpl : RdSl (hp w) pl cl l) (n_ : Name) (pn_ : Option Addr) (cn_ : Nat) (hpn_ : RdSl (hp w) pn_ cn_ n_.parts) (i : Int) (hokl : GoT.ok n l) (hokn_ : GoT.ok n n_) (hoki : GoT.ok n i) :
    Does Tryz.prog 182 #[.slice pl ((l).length) cl, .agg #[.slice pn_ ((n_.parts).length) cn_], .int .i64 (i)] w emp (fun (rv : Value) (_ : World) => rv = .int .i64 ((spec_l28Find l n_ i)) ∧ GoT.ok n ((spec_l28Find l n_ i) : Int)) := by
  have hbP := bd_pos n
  have hbB := bd_big (n := n) (by omega)
  refine WX.enter (tt := tt) (Γ := [(0, MF.rs .stb pl cl l), (1, MF.rs .stb pn_ cn_ n_.parts)]) Tryz.func182 rfl (by kernel_rfl) rfl (allS_cons rfl hpl (allS_cons rfl hpn_ allS_nil)) ?_
  refine WX.run ttOk rfl ?_
  have r1 : (l).length ≤ bd n := (okl hokl).1
  refine WX.loop (ι := Nat) ⟨fun i2 => (i2 ≤ (l).length) ∧ (spec_l28Find_L1 n_ i l 0 = spec_l28Find_L1 n_ i ((l).drop i2) i2), fun i2 => (l).length - i2, fun i2 => [(7, .v (.int .i64 (((i2 : Nat) : Int)))), (4, .p 4 0), (0, .v (.slice pl ((l).length) cl)), (2, .v (.int .i64 (i)))], fun i2 => [(4, ⟨36, [.slice pn_ ((n_.parts).length) cn_]⟩)], fun i2 => [], fun i2 => [(0, MF.rs .stb pl cl l), (1, MF.rs .stb pn_ cn_ n_.parts)]⟩ 0 ⟨(Nat.zero_le _), rfl⟩
    (.cons rfl (.cons rfl (.cons rfl (.cons rfl (.nil))))) (.cons rfl (.nil)) .nil [0, 1] rfl ?_
  rintro i2 hpre
  have hpre_ : (i2 ≤ (l).length) ∧ (spec_l28Find_L1 n_ i l 0 = spec_l28Find_L1 n_ i ((l).drop i2) i2) := hpre
  clear hpre
  obtain ⟨v1, v2⟩ := hpre_
  refine WX.run ttOk rfl ?_
  refine WX.cases 11 rfl (fun h1 => ?_) (fun h1 => ?_)
  · skip
    have h1d := B.dt h1
    have e1i : i2 < (l).length := (by omega)
    obtain ⟨e1, e1h⟩ : ∃ e1, (l)[i2]? = some e1 := ⟨_, List.getElem?_eq_getElem e1i⟩
    have ok1 : GoT.ok n e1 := (okl hokl).2 _ (List.mem_of_getElem? e1h)
    refine WX.run ttOk rfl ?_
    refine WX.draw [] mixed ?_
    intro bs G0 hΓ0
    refine DX.takes (fuel := 14) ttOk [(0, true), (1, true)] (by kernel_rfl) rfl ?_
    refine DX.idx 2 0 i2 ttOk hΓ0 (by kernel_rfl) rfl rfl rfl rfl rfl rfl rfl rfl rfl rfl rfl e1i ?_
    rintro ad1 rfl
    refine DX.takes (fuel := 12) ttOk [(3, true)] (by kernel_rfl) rfl ?_
    refine DX.ldE 4 0 2 e1 ttOk hΓ0 (by kernel_rfl) rfl rfl rfl rfl rfl rfl rfl rfl e1h (fun _ => rfl) (fun _ => rfl) ?_
    rintro ⟨⟨p1, c1⟩, ⟨⟩, ⟨p2, c2⟩⟩
    refine DX.takes (fuel := 8) ttOk [(5, true), (6, true), (7, true)] (by kernel_rfl) rfl ?_
    refine DX.cases 21 rfl (fun h2 => ?_) (fun h2 => ?_)
    · skip
      have h2d := B.et h2
      refine DX.takes (fuel := 6) ttOk [(8, true), (9, true)] (by kernel_rfl) rfl ?_
      refine DX.idx 10 0 i2 ttOk hΓ0 (by kernel_rfl) rfl rfl rfl rfl rfl rfl rfl rfl rfl rfl rfl e1i ?_
      rintro ad2 ⟨⟩
      refine DX.takes (fuel := 4) ttOk [(11, true)] (by kernel_rfl) rfl ?_
      refine DX.ldE 12 0 4 e1 ttOk hΓ0 (by kernel_rfl) rfl rfl rfl rfl rfl rfl rfl rfl e1h (fun _ => rfl) (fun _ => rfl) ?_
      rintro ⟨⟨p3, c3⟩, ⟨⟩, ⟨p4, c4⟩⟩
      refine DX.takes (fuel := 2) ttOk [(13, false)] (by kernel_rfl) rfl ?_
      refine DX.callV 14 rfl (by kernel_rfl) rfl rfl rfl rfl rfl rfl (fun _ => rfl) rfl (fun w G bs hI hΓ => f92 w n (by omega) e1.publisher p3 c3 (hΓ.get 4 rfl) n_ pn_ cn_ (hΓ.get 1 rfl) ((ok_Publication ok1).1) hokn_) ?_
      intro hq1
      refine DX.takes (fuel := 0) ttOk [(15, true)] (by kernel_rfl) rfl ?_
      refine DX.tail2 [] rfl rfl (by kernel_rfl) ?_
      refine WX.run ttOk rfl ?_
      refine WX.cases 29 rfl (fun h3 => ?_) (fun h3 => ?_)
      · skip
        refine WX.run ttOk rfl ?_
        have hP1 : spec_l28Find_L1 n_ i l 0 = (some ((i2 : Nat) : Int)) := by rw [v2, drop_get e1h]; simp only [spec_l28Find_L1, h2, h3, cond_true, cond_false]
        have hP2 : spec_l28Find l n_ i = ((i2 : Nat) : Int) := by simp only [spec_l28Find, hP1, cond_true, cond_false]
        refine WX.ret ttOk rfl ?_
        intro w1 G bs hI hΓ
        rw [hP2]
        exact ⟨rfl, (show I64 ((i2 : Nat) : Int) from (by unfold I64; omega))⟩
      · skip
        refine WX.run ttOk rfl ?_
        refine WX.see rfl rfl rfl (fun _ hΓ => looks_arith rfl rfl rfl rfl (by unfold I64; first | omega | (dsimp only; omega))) ?_
        refine WX.run ttOk rfl ?_
        exact WX.iter (i2 + 1) ⟨(by omega), (by rw [v2, drop_get e1h]; simp only [spec_l28Find_L1, h2, h3, cond_true, cond_false])⟩ (by first | (dsimp only; omega) | omega) (.cons rfl (.cons rfl (.cons rfl (.cons rfl (.nil))))) (.cons rfl (.nil)) .nil [0, 1] rfl
    · skip
      have h2d := B.ef h2
      refine DX.takes (fuel := 0) ttOk [(8, true), (9, true), (10, true), (11, true), (12, true), (13, true), (14, true), (15, true)] (by kernel_rfl) rfl ?_
      refine DX.tail2 [] rfl rfl (by kernel_rfl) ?_
      refine WX.run ttOk rfl ?_
      refine WX.see rfl rfl rfl (fun _ hΓ => looks_arith rfl rfl rfl rfl (by unfold I64; first | omega | (dsimp only; omega))) ?_
      refine WX.run ttOk rfl ?_
      exact WX.iter (i2 + 1) ⟨(by omega), (by rw [v2, drop_get e1h]; simp only [spec_l28Find_L1, h2, cond_true, cond_false])⟩ (by first | (dsimp only; omega) | omega) (.cons rfl (.cons rfl (.cons rfl (.cons rfl (.nil))))) (.cons rfl (.nil)) .nil [0, 1] rfl
  · skip
    have h1d := B.df h1
    refine WX.run ttOk rfl ?_
    have hX1 : spec_l28Find_L1 n_ i l 0 = none := by rw [v2, List.drop_eq_nil_of_le (show (l).length ≤ i2 by omega)]; simp only [spec_l28Find_L1, cond_true, cond_false]
    have hP3 : spec_l28Find l n_ i = (-1) := by simp only [spec_l28Find, hX1, cond_true, cond_false]
    refine WX.ret ttOk rfl ?_
    intro w1 G bs hI hΓ
    rw [hP3]
    exact ⟨rfl, (show I64 (-1) from (by unfold I64; omega))⟩
theorem lt_iFP : ∀ (f : Publication → Bool) (l : List Publication) (i : Nat) (j : Int), slices_IndexFunc_Publication_L1 f l i = some j → j < ((i + l.length : Nat) : Int)
  | f, [], i, j, h => by cases h
  | f, x :: l, i, j, h => by
    simp only [slices_IndexFunc_Publication_L1] at h
    cases hx : f x
    · rw [hx, cond_false] at h
      have := lt_iFP f l (i + 1) j h
      simp only [List.length_cons]; omega
    · rw [hx, cond_true] at h
      cases h
      simp only [List.length_cons]; omega
theorem lt_publishedAt (l : List Publication) (n_ : Name) (i : Int) : impl_publishedAt l n_ i < ((l.length : Nat) : Int) := by
  unfold impl_publishedAt slices_IndexFunc_Publication
  cases h : slices_IndexFunc_Publication_L1 (fun e0_ => impl_publishedAt_c1 i n_ e0_) l 0 with
  | none => show (-1 : Int) < _; omega
  | some j => have := lt_iFP _ l 0 j h; show j < _; omega
theorem lt_l28L (n_ : Name) (i : Int) : ∀ (l : List Publication) (k : Nat) (j : Int), spec_l28Find_L1 n_ i l k = some j → j < ((k + l.length : Nat) : Int)
  | [], k, j, h => by cases h
  | x :: l, k, j, h => by
    simp only [spec_l28Find_L1] at h
    cases hx : (x.seq == i)
    · rw [hx, cond_false] at h
      have := lt_l28L n_ i l (k + 1) j h
      simp only [List.length_cons]; omega
    · rw [hx, cond_true] at h
      cases hy : spec_EqualNames x.publisher n_
      · rw [hy, cond_false] at h
        have := lt_l28L n_ i l (k + 1) j h
        simp only [List.length_cons]; omega
      · rw [hy, cond_true] at h
        cases h
        simp only [List.length_cons]; omega
theorem lt_l28Find (l : List Publication) (n_ : Name) (i : Int) : spec_l28Find l n_ i < ((l.length : Nat) : Int) := by
  unfold spec_l28Find
  cases h : spec_l28Find_L1 n_ i l 0 with
  | none => show (-1 : Int) < _; omega
  | some j => have := lt_l28L n_ i l 0 j h; show j < _; omega
end Go.Proofs.YtfffongneoegbaaGreat

namespace Go.Stp
set_option linter.unusedVariables false
set_option linter.unusedSimpArgs false
def impl_VectorSum_L1 : List TableEntry → Int → Int
  | [], sum_ => sum_
  | e1 :: rest_, sum_ =>
    impl_VectorSum_L1 rest_ (IntKind.i64.wrap (sum_ + e1.value))
def impl_VectorSum (v : StateVector) : Int :=
  match impl_VectorSum_L1 v.entries 0 with
    | sum_ =>
      sum_
def spec_VectorSum_L1 : List TableEntry → Int → Int
  | [], n_ => n_
  | e1 :: rest_, n_ =>
    spec_VectorSum_L1 rest_ (IntKind.i64.wrap (n_ + e1.value))
def spec_VectorSum (v : StateVector) : Int :=
  match spec_VectorSum_L1 v.entries 0 with
    | n_ =>
      n_
def impl_ValidMember_L1 (m : Member) : List Publication → Nat → Option (Bool)
  | [], i => none
  | e1 :: rest_, i =>
    bif (!(impl_InRange e1.seq 1 (impl_SeqOf m.vector e1.publisher))) then
      (some false)
    else
      bif decide ((((e1.content).length : Nat) : Int) > 60) then
        (some false)
      else
        bif decide ((impl_publishedAt (List.take i m.publications) e1.publisher e1.seq) ≥ 0) then
          (some false)
        else
          impl_ValidMember_L1 m rest_ (i + 1)
def impl_ValidMember (m : Member) : Bool :=
  bif (!(impl_ValidName m.name)) then
    false
  else
    bif ((((m.name.parts).length : Nat) : Int) == 0) then
      false
    else
      bif (!(impl_ValidVector m.vector)) then
        false
      else
        bif decide ((((m.publications).length : Nat) : Int) > 16) then
          false
        else
          match impl_ValidMember_L1 m m.publications 0 with
            | some r_ => r_
            | none =>
              ((impl_VectorSum m.vector) == (((m.publications).length : Nat) : Int))
def spec_ValidMember_L1 (m : Member) : List Publication → Nat → Option (Bool)
  | [], i => none
  | e1 :: rest_, i =>
    bif (!(spec_l1In e1.seq 1 (spec_SeqOf m.vector e1.publisher))) then
      (some false)
    else
      bif decide ((((e1.content).length : Nat) : Int) > 60) then
        (some false)
      else
        bif decide ((spec_l28Find (List.take i m.publications) e1.publisher e1.seq) ≥ 0) then
          (some false)
        else
          spec_ValidMember_L1 m rest_ (i + 1)
def spec_ValidMember (m : Member) : Bool :=
  bif (!(spec_ValidName m.name)) then
    false
  else
    bif ((((m.name.parts).length : Nat) : Int) == 0) then
      false
    else
      bif (!(spec_ValidVector m.vector)) then
        false
      else
        bif decide ((((m.publications).length : Nat) : Int) > 16) then
          false
        else
          bif ((((m.publications).length : Nat) : Int) != (spec_VectorSum m.vector)) then
            false
          else
            match spec_ValidMember_L1 m m.publications 0 with
              | some r_ => r_
              | none =>
                true
end Go.Stp

namespace Go.Proofs.YtfffongneoegbaaGreat
open Go.Stp
set_option linter.unusedVariables false
set_option linter.unusedSimpArgs false
theorem f196 (w : World) (n : Nat) (hn : n + 0 ≤ 9) (v : StateVector) (pv : Option Addr) (cv : Nat) (hpv : RdSl (hp w) pv cv v.entries) (hokv : GoT.ok n v) :
    Does Tryz.prog 196 #[.agg #[.slice pv ((v.entries).length) cv]] w emp (fun (rv : Value) (_ : World) => rv = .int .i64 ((impl_VectorSum v)) ∧ GoT.ok n ((impl_VectorSum v) : Int)) := by
  have hbP := bd_pos n
  have hbB := bd_big (n := n) (by omega)
  refine WX.enter (tt := tt) (Γ := [(0, MF.rs .stb pv cv v.entries)]) Tryz.func196 rfl (by kernel_rfl) rfl (allS_cons rfl hpv allS_nil) ?_
  refine WX.run ttOk rfl ?_
  have r1 : (v.entries).length ≤ bd n := (okl (ok_StateVector hokv)).1
  refine WX.loop (ι := Int × Nat) ⟨fun | (sum_, i) => (i ≤ (v.entries).length) ∧ (-9223372036854775808 ≤ sum_ ∧ sum_ ≤ 9223372036854775807) ∧ (impl_VectorSum_L1 v.entries 0 = impl_VectorSum_L1 ((v.entries).drop i) sum_), fun | (sum_, i) => (v.entries).length - i, fun | (sum_, i) => [(3, .v (.int .i64 (sum_))), (9, .v (.int .i64 (((i : Nat) : Int)))), (8, .v (.int .i64 ((((v.entries).length : Nat) : Int)))), (7, .v (.slice pv ((v.entries).length) cv))], fun | (sum_, i) => [], fun | (sum_, i) => [], fun | (sum_, i) => [(0, MF.rs .stb pv cv v.entries)]⟩ (0, 0) ⟨(Nat.zero_le _), (by first | assumption | omega), rfl⟩
    (.cons rfl (.cons rfl (.cons rfl (.cons rfl (.nil))))) .nil .nil [0] rfl ?_
  rintro ⟨sum_, i⟩ hpre
  have hpre_ : (i ≤ (v.entries).length) ∧ (-9223372036854775808 ≤ sum_ ∧ sum_ ≤ 9223372036854775807) ∧ (impl_VectorSum_L1 v.entries 0 = impl_VectorSum_L1 ((v.entries).drop i) sum_) := hpre
  clear hpre
  obtain ⟨v1, v2, v3⟩ := hpre_
  refine WX.run ttOk rfl ?_
  refine WX.cases 10 rfl (fun h1 => ?_) (fun h1 => ?_)
  · skip
    have h1d := B.dt h1
    have e1i : i < (v.entries).length := (by omega)
    obtain ⟨e1, e1h⟩ : ∃ e1, (v.entries)[i]? = some e1 := ⟨_, List.getElem?_eq_getElem e1i⟩
    have ok1 : GoT.ok n e1 := (okl (ok_StateVector hokv)).2 _ (List.mem_of_getElem? e1h)
    refine WX.run ttOk rfl ?_
    refine WX.idx 0 i ttOk rfl rfl rfl rfl rfl rfl rfl rfl rfl rfl e1i ?_
    rintro ad1 rfl
    refine WX.ldE 0 1 e1 ttOk rfl rfl rfl rfl rfl rfl rfl rfl e1h (fun _ => rfl) (fun _ => rfl) ?_
    rintro ⟨⟨p1, c1⟩, ⟨⟩⟩
    refine WX.run ttOk rfl ?_
    refine WX.see rfl rfl rfl (fun _ hΓ => looks_wrap rfl rfl rfl rfl) ?_
    refine WX.run ttOk rfl ?_
    refine WX.see rfl rfl rfl (fun _ hΓ => looks_arith rfl rfl rfl rfl (by unfold I64; first | omega | (dsimp only; omega))) ?_
    refine WX.run ttOk rfl ?_
    exact WX.iter (IntKind.i64.wrap (sum_ + e1.value), i + 1) ⟨(by omega), (i64_wrap _), (by rw [v3, drop_get e1h]; simp only [impl_VectorSum_L1, cond_true, cond_false])⟩ (by first | (dsimp only; omega) | omega) (.cons rfl (.cons rfl (.cons rfl (.cons rfl (.nil))))) .nil .nil [0] rfl
  · skip
    have h1d := B.df h1
    refine WX.run ttOk rfl ?_
    have hX1 : impl_VectorSum_L1 v.entries 0 = sum_ := by rw [v3, List.drop_eq_nil_of_le (show (v.entries).length ≤ i by omega)]; simp only [impl_VectorSum_L1, cond_true, cond_false]
    have hP1 : impl_VectorSum v = sum_ := by simp only [impl_VectorSum, hX1, cond_true, cond_false]
    refine WX.ret ttOk rfl ?_
    intro w1 G bs hI hΓ
    rw [hP1]
    exact ⟨rfl, v2⟩
theorem f181 (w : World) (n : Nat) (hn : n + 0 ≤ 9) (v : StateVector) (pv : Option Addr) (cv : Nat) (hpv : RdSl (hp w) pv cv v.entries) (hokv : GoT.ok n v) :
    Does Tryz.prog 181 #[.agg #[.slice pv ((v.entries).length) cv]] w emp (fun (rv : Value) (_ : World) => rv = .int .i64 ((spec_VectorSum v)) ∧ GoT.ok n ((spec_VectorSum v) : Int)) := by
  have hbP := bd_pos n
  have hbB := bd_big (n := n) (by omega)
  refine WX.enter (tt := tt) (Γ := [(0, MF.rs .stb pv cv v.entries)]) Tryz.func181 rfl (by kernel_rfl) rfl (allS_cons rfl hpv allS_nil) ?_
  refine WX.run ttOk rfl ?_
  have r1 : (v.entries).length ≤ bd n := (okl (ok_StateVector hokv)).1
  refine WX.loop (ι := Int × Nat) ⟨fun | (n_, i) => (i ≤ (v.entries).length) ∧ (-9223372036854775808 ≤ n_ ∧ n_ ≤ 9223372036854775807) ∧ (spec_VectorSum_L1 v.entries 0 = spec_VectorSum_L1 ((v.entries).drop i) n_), fun | (n_, i) => (v.entries).length - i, fun | (n_, i) => [(3, .v (.int .i64 (n_))), (4, .v (.int .i64 (((i : Nat) : Int)))), (1, .p 1 0)], fun | (n_, i) => [(1, ⟨39, [.slice pv ((v.entries).length) cv]⟩)], fun | (n_, i) => [], fun | (n_, i) => [(0, MF.rs .stb pv cv v.entries)]⟩ (0, 0) ⟨(Nat.zero_le _), (by first | assumption | omega), rfl⟩
    (.cons rfl (.cons rfl (.cons rfl (.nil)))) (.cons rfl (.nil)) .nil [0] rfl ?_
  rintro ⟨n_, i⟩ hpre
  have hpre_ : (i ≤ (v.entries).length) ∧ (-9223372036854775808 ≤ n_ ∧ n_ ≤ 9223372036854775807) ∧ (spec_VectorSum_L1 v.entries 0 = spec_VectorSum_L1 ((v.entries).drop i) n_) := hpre
  clear hpre
  obtain ⟨v1, v2, v3⟩ := hpre_
  refine WX.run ttOk rfl ?_
  refine WX.cases 9 rfl (fun h1 => ?_) (fun h1 => ?_)
  · skip
    have h1d := B.dt h1
    have e1i : i < (v.entries).length := (by omega)
    obtain ⟨e1, e1h⟩ : ∃ e1, (v.entries)[i]? = some e1 := ⟨_, List.getElem?_eq_getElem e1i⟩
    have ok1 : GoT.ok n e1 := (okl (ok_StateVector hokv)).2 _ (List.mem_of_getElem? e1h)
    refine WX.run ttOk rfl ?_
    refine WX.idx 0 i ttOk rfl rfl rfl rfl rfl rfl rfl rfl rfl rfl e1i ?_
    rintro ad1 rfl
    refine WX.run ttOk rfl ?_
    refine WX.ldE 0 1 e1 ttOk rfl rfl rfl rfl rfl rfl rfl rfl e1h (fun _ => rfl) (fun _ => rfl) ?_
    rintro ⟨⟨p1, c1⟩, ⟨⟩⟩
    refine WX.see rfl rfl rfl (fun _ hΓ => looks_wrap rfl rfl rfl rfl) ?_
    refine WX.run ttOk rfl ?_
    refine WX.see rfl rfl rfl (fun _ hΓ => looks_arith rfl rfl rfl rfl (by unfold I64; first | omega | (dsimp only; omega))) ?_
    refine WX.run ttOk rfl ?_
    exact WX.iter (IntKind.i64.wrap (n_ + e1.value), i + 1) ⟨(by omega), (i64_wrap _), (by rw [v3, drop_get e1h]; simp only [spec_VectorSum_L1, cond_true, cond_false])⟩ (by first | (dsimp only; omega) | omega) (.cons rfl (.cons rfl (.cons rfl (.nil)))) (.cons rfl (.nil)) .nil [0] rfl
  · skip
    have h1d := B.df h1
    refine WX.run ttOk rfl ?_
    have hX1 : spec_VectorSum_L1 v.entries 0 = n_ := by rw [v3, List.drop_eq_nil_of_le (show (v.entries).length ≤ i by omega)]; simp only [spec_VectorSum_L1, cond_true, cond_false]
    have hP1 : spec_VectorSum v = n_ := by simp only [spec_VectorSum, hX1, cond_true, cond_false]
    refine WX.ret ttOk rfl ?_
    intro w1 G bs hI hΓ
    rw [hP1]
    exact ⟨rfl, v2⟩
theorem f73 (w : World) (n : Nat) (hn : n + 0 ≤ 9) (m : Member) (pmName : Option Addr) (cmName : Nat) (hpmName : RdSl (hp w) pmName cmName m.name.parts) (pmVector : Option Addr) (cmVector : Nat) (hpmVector : RdSl (hp w) pmVector cmVector m.vector.entries) (pmPublications : Option Addr) (cmPublications : Nat) (hpmPublications : RdSl (hp w) pmPublications cmPublications m.publications) (hokm : GoT.ok n m) :
    Does Tryz.prog 73 #[.agg #[.slice pmName ((m.name.parts).length) cmName, .slice pmVector ((m.vector.entries).length) cmVector, .slice pmPublications ((m.publications).length) cmPublications]] w emp (fun (rv : Value) (_ : World) => rv = .bool (impl_ValidMember m) ∧ True) := by
  have hbP := bd_pos n
  have hbB := bd_big (n := n) (by omega)
  refine WX.enter (tt := tt) (Γ := [(0, MF.rs .stb pmName cmName m.name.parts), (1, MF.rs .stb pmVector cmVector m.vector.entries), (2, MF.rs .stb pmPublications cmPublications m.publications)]) Tryz.func73 rfl (by kernel_rfl) rfl (allS_cons rfl hpmName (allS_cons rfl hpmVector (allS_cons rfl hpmPublications allS_nil))) ?_
  refine WX.run ttOk rfl ?_
  refine WX.callV rfl rfl rfl rfl rfl (fun _ => rfl) rfl (fun w G bs hI hΓ => f193 w n (by omega) m.name pmName cmName (hΓ.get 0 rfl) ((ok_Member hokm).1)) ?_
  intro hq1
  refine WX.run ttOk rfl ?_
  refine WX.cases 9 rfl (fun h1 => ?_) (fun h1 => ?_)
  · skip
    have h1d := (B.nt h1)
    refine WX.run ttOk rfl ?_
    have hP1 : impl_ValidMember m = false := by simp only [impl_ValidMember, h1, cond_true, cond_false]
    refine WX.ret ttOk rfl ?_
    intro w1 G bs hI hΓ
    rw [hP1]
    exact ⟨rfl, trivial⟩
  · skip
    have h1d := (B.nf h1)
    refine WX.run ttOk rfl ?_
    refine WX.cases 16 rfl (fun h2 => ?_) (fun h2 => ?_)
    · skip
      have h2d := B.et h2
      refine WX.run ttOk rfl ?_
      have hP2 : impl_ValidMember m = false := by simp only [impl_ValidMember, h1, h2, cond_true, cond_false]
      refine WX.ret ttOk rfl ?_
      intro w1 G bs hI hΓ
      rw [hP2]
      exact ⟨rfl, trivial⟩
    · skip
      have h2d := B.ef h2
      refine WX.run ttOk rfl ?_
      refine WX.callV rfl rfl rfl rfl rfl (fun _ => rfl) rfl (fun w G bs hI hΓ => f194 w n (by omega) m.vector pmVector cmVector (hΓ.get 1 rfl) ((ok_Member hokm).2.1)) ?_
      intro hq2
      refine WX.run ttOk rfl ?_
      refine WX.cases 22 rfl (fun h3 => ?_) (fun h3 => ?_)
      · skip
        have h3d := (B.nt h3)
        refine WX.run ttOk rfl ?_
        have hP3 : impl_ValidMember m = false := by simp only [impl_ValidMember, h1, h2, h3, cond_true, cond_false]
        refine WX.ret ttOk rfl ?_
        intro w1 G bs hI hΓ
        rw [hP3]
        exact ⟨rfl, trivial⟩
      · skip
        have h3d := (B.nf h3)
        refine WX.run ttOk rfl ?_
        refine WX.cases 27 rfl (fun h4 => ?_) (fun h4 => ?_)
        · skip
          have h4d := B.dt h4
          refine WX.run ttOk rfl ?_
          have hP4 : impl_ValidMember m = false := by simp only [impl_ValidMember, h1, h2, h3, h4, cond_true, cond_false]
          refine WX.ret ttOk rfl ?_
          intro w1 G bs hI hΓ
          rw [hP4]
          exact ⟨rfl, trivial⟩
        · skip
          have h4d := B.df h4
          refine WX.run ttOk rfl ?_
          have r1 : (m.publications).length ≤ bd n := (okl (ok_Member hokm).2.2).1
          refine WX.loop (ι := Nat) ⟨fun i => (i ≤ (m.publications).length) ∧ (impl_ValidMember_L1 m m.publications 0 = impl_ValidMember_L1 m ((m.publications).drop i) i), fun i => (m.publications).length - i, fun i => [(31, .v (.int .i64 (((i : Nat) : Int)))), (30, .v (.int .i64 ((((m.publications).length : Nat) : Int)))), (29, .v (.slice pmPublications ((m.publications).length) cmPublications)), (1, .p 1 0)], fun i => [(1, ⟨42, [.slice pmName ((m.name.parts).length) cmName, .slice pmVector ((m.vector.entries).length) cmVector, .slice pmPublications ((m.publications).length) cmPublications]⟩)], fun i => [], fun i => [(0, MF.rs .stb pmName cmName m.name.parts), (1, MF.rs .stb pmVector cmVector m.vector.entries), (2, MF.rs .stb pmPublications cmPublications m.publications)]⟩ 0 ⟨(Nat.zero_le _), rfl⟩
            (.cons rfl (.cons rfl (.cons rfl (.cons rfl (.nil))))) (.cons rfl (.nil)) .nil [0, 1, 2] rfl ?_
          rintro i hpre
          have hpre_ : (i ≤ (m.publications).length) ∧ (impl_ValidMember_L1 m m.publications 0 = impl_ValidMember_L1 m ((m.publications).drop i) i) := hpre
          clear hpre
          obtain ⟨v1, v2⟩ := hpre_
          refine WX.run ttOk rfl ?_
          refine WX.cases 32 rfl (fun h5 => ?_) (fun h5 => ?_)
          · skip
            have h5d := B.dt h5
            have e1i : i < (m.publications).length := (by omega)
            obtain ⟨e1, e1h⟩ : ∃ e1, (m.publications)[i]? = some e1 := ⟨_, List.getElem?_eq_getElem e1i⟩
            have ok1 : GoT.ok n e1 := (okl (ok_Member hokm).2.2).2 _ (List.mem_of_getElem? e1h)
            refine WX.run ttOk rfl ?_
            refine WX.idx 2 i ttOk rfl rfl rfl rfl rfl rfl rfl rfl rfl rfl e1i ?_
            rintro ad1 rfl
            refine WX.ldE 2 3 e1 ttOk rfl rfl rfl rfl rfl rfl rfl rfl e1h (fun _ => rfl) (fun _ => rfl) ?_
            rintro ⟨⟨p1, c1⟩, ⟨⟩, ⟨p2, c2⟩⟩
            refine WX.run ttOk rfl ?_
            refine WX.draw [] mixed ?_
            intro bs G0 hΓ0
            refine DX.takes (fuel := 21) ttOk [(0, true), (1, false), (2, true), (3, false), (4, true), (5, false)] (by kernel_rfl) rfl ?_
            refine DX.callV 6 rfl (by kernel_rfl) rfl rfl rfl rfl rfl rfl (fun _ => rfl) rfl (fun w G bs hI hΓ => f69 w n (by omega) m.vector pmVector cmVector (hΓ.get 1 rfl) e1.publisher p1 c1 (hΓ.get 3 rfl) ((ok_Member hokm).2.1) ((ok_Publication ok1).1)) ?_
            intro hq3
            refine DX.callV 7 rfl (by kernel_rfl) rfl rfl rfl rfl rfl rfl (fun _ => rfl) rfl (fun w G bs hI hΓ => f167 w n (by omega) e1.seq 1 (impl_SeqOf m.vector e1.publisher) ((ok_Publication ok1).2.1) (show I64 1 from (by unfold I64; omega)) hq3) ?_
            intro hq4
            refine DX.takes (fuel := 17) ttOk [(8, true), (9, true)] (by kernel_rfl) rfl ?_
            refine DX.cases 45 rfl (fun h6 => ?_) (fun h6 => ?_)
            · skip
              have h6d := (B.nt h6)
              refine DX.takes (fuel := 0) ttOk [(10, true), (11, true), (12, true), (13, true), (14, true), (15, true), (16, true), (17, true), (18, true), (19, true), (20, true), (21, true), (22, true), (23, true), (24, true), (25, true), (26, true)] (by kernel_rfl) rfl ?_
              refine DX.tail2 [] rfl rfl (by kernel_rfl) ?_
              refine WX.run ttOk rfl ?_
              have hP5 : impl_ValidMember_L1 m m.publications 0 = (some false) := by rw [v2, drop_get e1h]; simp only [impl_ValidMember_L1, h6, cond_true, cond_false]
              have hP6 : impl_ValidMember m = false := by simp only [impl_ValidMember, h1, h2, h3, h4, hP5, cond_true, cond_false]
              refine WX.ret ttOk rfl ?_
              intro w1 G bs hI hΓ
              rw [hP6]
              exact ⟨rfl, trivial⟩
            · skip
              have h6d := (B.nf h6)
              have h6r := inR_impl (B.nf h6)
              refine DX.takes (fuel := 11) ttOk [(10, true), (11, false), (12, true), (13, true), (14, true), (15, true)] (by kernel_rfl) rfl ?_
              refine DX.cases 51 rfl (fun h7 => ?_) (fun h7 => ?_)
              · skip
                have h7d := B.dt h7
                refine DX.takes (fuel := 0) ttOk [(16, true), (17, true), (18, true), (19, true), (20, true), (21, true), (22, true), (23, true), (24, true), (25, true), (26, true)] (by kernel_rfl) rfl ?_
                refine DX.tail2 [] rfl rfl (by kernel_rfl) ?_
                refine WX.run ttOk rfl ?_
                have hP7 : impl_ValidMember_L1 m m.publications 0 = (some false) := by rw [v2, drop_get e1h]; simp only [impl_ValidMember_L1, h6, h7, cond_true, cond_false]
                have hP8 : impl_ValidMember m = false := by simp only [impl_ValidMember, h1, h2, h3, h4, hP7, cond_true, cond_false]
                refine WX.ret ttOk rfl ?_
                intro w1 G bs hI hΓ
                rw [hP8]
                exact ⟨rfl, trivial⟩
              · skip
                have h7d := B.df h7
                refine DX.takes (fuel := 8) ttOk [(16, true), (17, false), (18, true)] (by kernel_rfl) rfl ?_
                refine DX.seeP 19 (by kernel_rfl) rfl rfl rfl rfl (looksP_slH i ttOk rfl rfl rfl rfl (by simp) (Nat.le_trans (show i ≤ (m.publications).length from (by omega)) (hΓ0.get 2 rfl : RdSl _ _ _ _).1)) ?_
                refine DX.slot 55 (y := .v (.slice (some ad1) (((List.take i m.publications)).length) cmPublications)) rfl (fun _ => by rw [show ((List.take i m.publications)).length = i from (by simp only [List.length_take]; have z_ := (show i ≤ (m.publications).length from (by omega)); omega)]) ?_
                refine DX.der 5 (MF.rs .der (some ad1) cmPublications (List.take i m.publications)) rfl (fun _ hΓ => RdSl.pre (hΓ.get 2 rfl : RdSl _ _ _ _) i) ?_
                refine DX.takes (fuel := 3) ttOk [(20, true), (21, false), (22, true), (23, false)] (by kernel_rfl) rfl ?_
                refine DX.callV 24 rfl (by kernel_rfl) rfl rfl rfl rfl rfl rfl (fun _ => rfl) rfl (fun w G bs hI hΓ => f195 w n (by omega) (List.take i m.publications) (some ad1) cmPublications (hΓ.get 5 rfl) e1.publisher p1 c1 (hΓ.get 3 rfl) e1.seq (okl_mk (by first | assumption | omega | (simp only [List.length_append, List.length_cons, List.length_nil, List.length_set, List.length_map, List.length_take, List.length_drop]; omega) | (simp; omega)) (fun a ha => (okl (ok_Member hokm).2.2).2 a (List.mem_of_mem_take ha)) : GoT.ok n ((List.take i m.publications) : List Publication)) ((ok_Publication ok1).1) ((ok_Publication ok1).2.1)) ?_
                intro hq5
                have q1 := lt_publishedAt (List.take i m.publications) e1.publisher e1.seq
                refine DX.takes (fuel := 0) ttOk [(25, true), (26, true)] (by kernel_rfl) rfl ?_
                refine DX.tail2 [] rfl rfl (by kernel_rfl) ?_
                refine WX.run ttOk rfl ?_
                refine WX.cases 62 rfl (fun h8 => ?_) (fun h8 => ?_)
                · skip
                  have h8d := B.dt h8
                  refine WX.run ttOk rfl ?_
                  have hP9 : impl_ValidMember_L1 m m.publications 0 = (some false) := by rw [v2, drop_get e1h]; simp only [impl_ValidMember_L1, h6, h7, h8, cond_true, cond_false]
                  have hP10 : impl_ValidMember m = false := by simp only [impl_ValidMember, h1, h2, h3, h4, hP9, cond_true, cond_false]
                  refine WX.ret ttOk rfl ?_
                  intro w1 G bs hI hΓ
                  rw [hP10]
                  exact ⟨rfl, trivial⟩
                · skip
                  have h8d := B.df h8
                  refine WX.run ttOk rfl ?_
                  refine WX.see rfl rfl rfl (fun _ hΓ => looks_arith rfl rfl rfl rfl (by unfold I64; first | omega | (dsimp only; omega))) ?_
                  refine WX.run ttOk rfl ?_
                  exact WX.iter (i + 1) ⟨(by omega), (by rw [v2, drop_get e1h]; simp only [impl_ValidMember_L1, h6, h7, h8, cond_true, cond_false])⟩ (by first | (dsimp only; omega) | omega) (.cons rfl (.cons rfl (.cons rfl (.cons rfl (.nil))))) (.cons rfl (.nil)) .nil [0, 1, 2] rfl
          · skip
            have h5d := B.df h5
            refine WX.run ttOk rfl ?_
            have hX1 : impl_ValidMember_L1 m m.publications 0 = none := by rw [v2, List.drop_eq_nil_of_le (show (m.publications).length ≤ i by omega)]; simp only [impl_ValidMember_L1, cond_true, cond_false]
            refine WX.draw [] mixed ?_
            intro bs G0 hΓ0
            refine DX.takes (fuel := 3) ttOk [(0, true), (1, false), (3, true), (4, false), (5, true)] (by kernel_rfl) rfl ?_
            refine DX.callV 2 rfl (by kernel_rfl) rfl rfl rfl rfl rfl rfl (fun _ => rfl) rfl (fun w G bs hI hΓ => f196 w n (by omega) m.vector pmVector cmVector (hΓ.get 1 rfl) ((ok_Member hokm).2.1)) ?_
            intro hq6
            refine DX.takes (fuel := 0) ttOk [(6, true), (7, true)] (by kernel_rfl) rfl ?_
            refine DX.tail2 [] rfl rfl (by kernel_rfl) ?_
            refine WX.run ttOk rfl ?_
            have hP11 : impl_ValidMember m = ((impl_VectorSum m.vector) == (((m.publications).length : Nat) : Int)) := by simp only [impl_ValidMember, h1, h2, h3, h4, hX1, cond_true, cond_false]
            refine WX.ret ttOk rfl ?_
            intro w1 G bs hI hΓ
            rw [hP11]
            exact ⟨rfl, trivial⟩
theorem f64 (w : World) (n : Nat) (hn : n + 0 ≤ 9) (m : Member) (pmName : Option Addr) (cmName : Nat) (hpmName : RdSl (hp w) pmName cmName m.name.parts) (pmVector : Option Addr) (cmVector : Nat) (hpmVector : RdSl (hp w) pmVector cmVector m.vector.entries) (pmPublications : Option Addr) (cmPublications : Nat) (hpmPublications : RdSl (hp w) pmPublications cmPublications m.publications) (hokm : GoT.ok n m) :
    Does Tryz.prog 64 #[.agg #[.slice pmName ((m.name.parts).length) cmName, .slice pmVector ((m.vector.entries).length) cmVector, .slice pmPublications ((m.publications).length) cmPublications]] w emp (fun (rv : Value) (_ : World) => rv = .bool (spec_ValidMember m) ∧ True) := by
  have hbP := bd_pos n
  have hbB := bd_big (n := n) (by omega)
  refine WX.enter (tt := tt) (Γ := [(0, MF.rs .stb pmName cmName m.name.parts), (1, MF.rs .stb pmVector cmVector m.vector.entries), (2, MF.rs .stb pmPublications cmPublications m.publications)]) Tryz.func64 rfl (by kernel_rfl) rfl (allS_cons rfl hpmName (allS_cons rfl hpmVector (allS_cons rfl hpmPublications allS_nil))) ?_
  refine WX.run ttOk rfl ?_
  refine WX.draw [] mixed ?_
  intro bs G0 hΓ0
  refine DX.takes (fuel := 30) ttOk [(0, true), (1, false)] (by kernel_rfl) rfl ?_
  refine DX.callV 2 rfl (by kernel_rfl) rfl rfl rfl rfl rfl rfl (fun _ => rfl) rfl (fun w G bs hI hΓ => f179 w n (by omega) m.name pmName cmName (hΓ.get 0 rfl) ((ok_Member hokm).1)) ?_
  intro hq1
  refine DX.takes (fuel := 27) ttOk [(3, true), (4, true)] (by kernel_rfl) rfl ?_
  refine DX.cases 9 rfl (fun h1 => ?_) (fun h1 => ?_)
  · skip
    have h1d := (B.nt h1)
    refine DX.takes (fuel := 0) ttOk [(5, true), (6, true), (7, true), (8, true), (9, true), (10, true), (11, true), (12, true), (13, true), (14, true), (15, true), (16, true), (17, true), (18, true), (19, true), (20, true), (21, true), (22, true), (23, true), (24, true), (25, true), (26, true), (27, true), (28, true), (29, true), (30, true), (31, true)] (by kernel_rfl) rfl ?_
    refine DX.tail2 [] rfl rfl (by kernel_rfl) ?_
    refine WX.run ttOk rfl ?_
    have hP1 : spec_ValidMember m = false := by simp only [spec_ValidMember, h1, cond_true, cond_false]
    refine WX.ret ttOk rfl ?_
    intro w1 G bs hI hΓ
    rw [hP1]
    exact ⟨rfl, trivial⟩
  · skip
    have h1d := (B.nf h1)
    refine DX.takes (fuel := 20) ttOk [(5, true), (6, true), (7, false), (8, true), (9, true), (10, true), (11, true)] (by kernel_rfl) rfl ?_
    refine DX.cases 16 rfl (fun h2 => ?_) (fun h2 => ?_)
    · skip
      have h2d := B.et h2
      refine DX.takes (fuel := 0) ttOk [(12, true), (13, true), (14, true), (15, true), (16, true), (17, true), (18, true), (19, true), (20, true), (21, true), (22, true), (23, true), (24, true), (25, true), (26, true), (27, true), (28, true), (29, true), (30, true), (31, true)] (by kernel_rfl) rfl ?_
      refine DX.tail2 [] rfl rfl (by kernel_rfl) ?_
      refine WX.run ttOk rfl ?_
      have hP2 : spec_ValidMember m = false := by simp only [spec_ValidMember, h1, h2, cond_true, cond_false]
      refine WX.ret ttOk rfl ?_
      intro w1 G bs hI hΓ
      rw [hP2]
      exact ⟨rfl, trivial⟩
    · skip
      have h2d := B.ef h2
      refine DX.takes (fuel := 18) ttOk [(12, true), (13, false)] (by kernel_rfl) rfl ?_
      refine DX.callV 14 rfl (by kernel_rfl) rfl rfl rfl rfl rfl rfl (fun _ => rfl) rfl (fun w G bs hI hΓ => f180 w n (by omega) m.vector pmVector cmVector (hΓ.get 1 rfl) ((ok_Member hokm).2.1)) ?_
      intro hq2
      refine DX.takes (fuel := 14) ttOk [(15, true), (16, true), (17, true)] (by kernel_rfl) rfl ?_
      refine DX.cases 22 rfl (fun h3 => ?_) (fun h3 => ?_)
      · skip
        have h3d := (B.nt h3)
        refine DX.takes (fuel := 0) ttOk [(18, true), (19, true), (20, true), (21, true), (22, true), (23, true), (24, true), (25, true), (26, true), (27, true), (28, true), (29, true), (30, true), (31, true)] (by kernel_rfl) rfl ?_
        refine DX.tail2 [] rfl rfl (by kernel_rfl) ?_
        refine WX.run ttOk rfl ?_
        have hP3 : spec_ValidMember m = false := by simp only [spec_ValidMember, h1, h2, h3, cond_true, cond_false]
        refine WX.ret ttOk rfl ?_
        intro w1 G bs hI hΓ
        rw [hP3]
        exact ⟨rfl, trivial⟩
      · skip
        have h3d := (B.nf h3)
        refine DX.takes (fuel := 8) ttOk [(18, true), (19, false), (20, true), (21, true), (22, true), (23, true)] (by kernel_rfl) rfl ?_
        refine DX.cases 28 rfl (fun h4 => ?_) (fun h4 => ?_)
        · skip
          have h4d := B.dt h4
          refine DX.takes (fuel := 0) ttOk [(24, true), (25, true), (26, true), (27, true), (28, true), (29, true), (30, true), (31, true)] (by kernel_rfl) rfl ?_
          refine DX.tail2 [] rfl rfl (by kernel_rfl) ?_
          refine WX.run ttOk rfl ?_
          have hP4 : spec_ValidMember m = false := by simp only [spec_ValidMember, h1, h2, h3, h4, cond_true, cond_false]
          refine WX.ret ttOk rfl ?_
          intro w1 G bs hI hΓ
          rw [hP4]
          exact ⟨rfl, trivial⟩
        · skip
          have h4d := B.df h4
          refine DX.takes (fuel := 3) ttOk [(24, true), (25, false), (26, true), (27, true), (28, false)] (by kernel_rfl) rfl ?_
          refine DX.callV 29 rfl (by kernel_rfl) rfl rfl rfl rfl rfl rfl (fun _ => rfl) rfl (fun w G bs hI hΓ => f181 w n (by omega) m.vector pmVector cmVector (hΓ.get 1 rfl) ((ok_Member hokm).2.1)) ?_
          intro hq3
          refine DX.takes (fuel := 0) ttOk [(30, true), (31, true)] (by kernel_rfl) rfl ?_
          refine DX.tail2 [] rfl rfl (by kernel_rfl) ?_
          refine WX.run ttOk rfl ?_
          refine WX.cases 36 rfl (fun h5 => ?_) (fun h5 => ?_)
          · skip
            have h5d := B.nt' h5
            refine WX.run ttOk rfl ?_
            have hP5 : spec_ValidMember m = false := by simp only [spec_ValidMember, h1, h2, h3, h4, h5, cond_true, cond_false]
            refine WX.ret ttOk rfl ?_
            intro w1 G bs hI hΓ
            rw [hP5]
            exact ⟨rfl, trivial⟩
          · skip
            have h5d := B.nf' h5
            refine WX.run ttOk rfl ?_
            have r1 : (m.publications).length ≤ bd n := (okl (ok_Member hokm).2.2).1
            refine WX.loop (ι := Nat) ⟨fun i => (i ≤ (m.publications).length) ∧ (spec_ValidMember_L1 m m.publications 0 = spec_ValidMember_L1 m ((m.publications).drop i) i), fun i => (m.publications).length - i, fun i => [(3, .v (.int .i64 (((i : Nat) : Int)))), (1, .p 1 0)], fun i => [(1, ⟨42, [.slice pmName ((m.name.parts).length) cmName, .slice pmVector ((m.vector.entries).length) cmVector, .slice pmPublications ((m.publications).length) cmPublications]⟩)], fun i => [], fun i => [(0, MF.rs .stb pmName cmName m.name.parts), (1, MF.rs .stb pmVector cmVector m.vector.entries), (2, MF.rs .stb pmPublications cmPublications m.publications)]⟩ 0 ⟨(Nat.zero_le _), rfl⟩
              (.cons rfl (.cons rfl (.nil))) (.cons rfl (.nil)) .nil [0, 1, 2] rfl ?_
            rintro i hpre
            have hpre_ : (i ≤ (m.publications).length) ∧ (spec_ValidMember_L1 m m.publications 0 = spec_ValidMember_L1 m ((m.publications).drop i) i) := hpre
            clear hpre
            obtain ⟨v1, v2⟩ := hpre_
            refine WX.run ttOk rfl ?_
            refine WX.cases 41 rfl (fun h6 => ?_) (fun h6 => ?_)
            · skip
              have h6d := B.dt h6
              have e1i : i < (m.publications).length := (by omega)
              obtain ⟨e1, e1h⟩ : ∃ e1, (m.publications)[i]? = some e1 := ⟨_, List.getElem?_eq_getElem e1i⟩
              have ok1 : GoT.ok n e1 := (okl (ok_Member hokm).2.2).2 _ (List.mem_of_getElem? e1h)
              refine WX.run ttOk rfl ?_
              refine WX.idx 2 i ttOk rfl rfl rfl rfl rfl rfl rfl rfl rfl rfl e1i ?_
              rintro ad1 rfl
              refine WX.ldE 2 3 e1 ttOk rfl rfl rfl rfl rfl rfl rfl rfl e1h (fun _ => rfl) (fun _ => rfl) ?_
              rintro ⟨⟨p1, c1⟩, ⟨⟩, ⟨p2, c2⟩⟩
              refine WX.run ttOk rfl ?_
              refine WX.draw [] mixed ?_
              intro bs G0 hΓ0
              refine DX.takes (fuel := 21) ttOk [(0, true), (1, false), (2, true), (3, false), (4, true), (5, false)] (by kernel_rfl) rfl ?_
              refine DX.callV 6 rfl (by kernel_rfl) rfl rfl rfl rfl rfl rfl (fun _ => rfl) rfl (fun w G bs hI hΓ => f61 w n (by omega) m.vector pmVector cmVector (hΓ.get 1 rfl) e1.publisher p1 c1 (hΓ.get 3 rfl) ((ok_Member hokm).2.1) ((ok_Publication ok1).1)) ?_
              intro hq4
              refine DX.callV 7 rfl (by kernel_rfl) rfl rfl rfl rfl rfl rfl (fun _ => rfl) rfl (fun w G bs hI hΓ => f160 w n (by omega) e1.seq 1 (spec_SeqOf m.vector e1.publisher) ((ok_Publication ok1).2.1) (show I64 1 from (by unfold I64; omega)) hq4) ?_
              intro hq5
              refine DX.takes (fuel := 17) ttOk [(8, true), (9, true)] (by kernel_rfl) rfl ?_
              refine DX.cases 58 rfl (fun h7 => ?_) (fun h7 => ?_)
              · skip
                have h7d := (B.nt h7)
                refine DX.takes (fuel := 0) ttOk [(10, true), (11, true), (12, true), (13, true), (14, true), (15, true), (16, true), (17, true), (18, true), (19, true), (20, true), (21, true), (22, true), (23, true), (24, true), (25, true), (26, true)] (by kernel_rfl) rfl ?_
                refine DX.tail2 [] rfl rfl (by kernel_rfl) ?_
                refine WX.run ttOk rfl ?_
                have hP6 : spec_ValidMember_L1 m m.publications 0 = (some false) := by rw [v2, drop_get e1h]; simp only [spec_ValidMember_L1, h7, cond_true, cond_false]
                have hP7 : spec_ValidMember m = false := by simp only [spec_ValidMember, h1, h2, h3, h4, h5, hP6, cond_true, cond_false]
                refine WX.ret ttOk rfl ?_
                intro w1 G bs hI hΓ
                rw [hP7]
                exact ⟨rfl, trivial⟩
              · skip
                have h7d := (B.nf h7)
                have h7r := inR_spec (B.nf h7)
                refine DX.takes (fuel := 11) ttOk [(10, true), (11, false), (12, true), (13, true), (14, true), (15, true)] (by kernel_rfl) rfl ?_
                refine DX.cases 64 rfl (fun h8 => ?_) (fun h8 => ?_)
                · skip
                  have h8d := B.dt h8
                  refine DX.takes (fuel := 0) ttOk [(16, true), (17, true), (18, true), (19, true), (20, true), (21, true), (22, true), (23, true), (24, true), (25, true), (26, true)] (by kernel_rfl) rfl ?_
                  refine DX.tail2 [] rfl rfl (by kernel_rfl) ?_
                  refine WX.run ttOk rfl ?_
                  have hP8 : spec_ValidMember_L1 m m.publications 0 = (some false) := by rw [v2, drop_get e1h]; simp only [spec_ValidMember_L1, h7, h8, cond_true, cond_false]
                  have hP9 : spec_ValidMember m = false := by simp only [spec_ValidMember, h1, h2, h3, h4, h5, hP8, cond_true, cond_false]
                  refine WX.ret ttOk rfl ?_
                  intro w1 G bs hI hΓ
                  rw [hP9]
                  exact ⟨rfl, trivial⟩
                · skip
                  have h8d := B.df h8
                  refine DX.takes (fuel := 8) ttOk [(16, true), (17, false), (18, true)] (by kernel_rfl) rfl ?_
                  refine DX.seeP 19 (by kernel_rfl) rfl rfl rfl rfl (looksP_slH i ttOk rfl rfl rfl rfl (by simp) (Nat.le_trans (show i ≤ (m.publications).length from (by omega)) (hΓ0.get 2 rfl : RdSl _ _ _ _).1)) ?_
                  refine DX.slot 68 (y := .v (.slice (some ad1) (((List.take i m.publications)).length) cmPublications)) rfl (fun _ => by rw [show ((List.take i m.publications)).length = i from (by simp only [List.length_take]; have z_ := (show i ≤ (m.publications).length from (by omega)); omega)]) ?_
                  refine DX.der 5 (MF.rs .der (some ad1) cmPublications (List.take i m.publications)) rfl (fun _ hΓ => RdSl.pre (hΓ.get 2 rfl : RdSl _ _ _ _) i) ?_
                  refine DX.takes (fuel := 3) ttOk [(20, true), (21, false), (22, true), (23, false)] (by kernel_rfl) rfl ?_
                  refine DX.callV 24 rfl (by kernel_rfl) rfl rfl rfl rfl rfl rfl (fun _ => rfl) rfl (fun w G bs hI hΓ => f182 w n (by omega) (List.take i m.publications) (some ad1) cmPublications (hΓ.get 5 rfl) e1.publisher p1 c1 (hΓ.get 3 rfl) e1.seq (okl_mk (by first | assumption | omega | (simp only [List.length_append, List.length_cons, List.length_nil, List.length_set, List.length_map, List.length_take, List.length_drop]; omega) | (simp; omega)) (fun a ha => (okl (ok_Member hokm).2.2).2 a (List.mem_of_mem_take ha)) : GoT.ok n ((List.take i m.publications) : List Publication)) ((ok_Publication ok1).1) ((ok_Publication ok1).2.1)) ?_
                  intro hq6
                  have q1 := lt_l28Find (List.take i m.publications) e1.publisher e1.seq
                  refine DX.takes (fuel := 0) ttOk [(25, true), (26, true)] (by kernel_rfl) rfl ?_
                  refine DX.tail2 [] rfl rfl (by kernel_rfl) ?_
                  refine WX.run ttOk rfl ?_
                  refine WX.cases 75 rfl (fun h9 => ?_) (fun h9 => ?_)
                  · skip
                    have h9d := B.dt h9
                    refine WX.run ttOk rfl ?_
                    have hP10 : spec_ValidMember_L1 m m.publications 0 = (some false) := by rw [v2, drop_get e1h]; simp only [spec_ValidMember_L1, h7, h8, h9, cond_true, cond_false]
                    have hP11 : spec_ValidMember m = false := by simp only [spec_ValidMember, h1, h2, h3, h4, h5, hP10, cond_true, cond_false]
                    refine WX.ret ttOk rfl ?_
                    intro w1 G bs hI hΓ
                    rw [hP11]
                    exact ⟨rfl, trivial⟩
                  · skip
                    have h9d := B.df h9
                    refine WX.run ttOk rfl ?_
                    refine WX.see rfl rfl rfl (fun _ hΓ => looks_arith rfl rfl rfl rfl (by unfold I64; first | omega | (dsimp only; omega))) ?_
                    refine WX.run ttOk rfl ?_
                    exact WX.iter (i + 1) ⟨(by omega), (by rw [v2, drop_get e1h]; simp only [spec_ValidMember_L1, h7, h8, h9, cond_true, cond_false])⟩ (by first | (dsimp only; omega) | omega) (.cons rfl (.cons rfl (.nil))) (.cons rfl (.nil)) .nil [0, 1, 2] rfl
            · skip
              have h6d := B.df h6
              refine WX.run ttOk rfl ?_
              have hX1 : spec_ValidMember_L1 m m.publications 0 = none := by rw [v2, List.drop_eq_nil_of_le (show (m.publications).length ≤ i by omega)]; simp only [spec_ValidMember_L1, cond_true, cond_false]
              have hP12 : spec_ValidMember m = true := by simp only [spec_ValidMember, h1, h2, h3, h4, h5, hX1, cond_true, cond_false]
              refine WX.ret ttOk rfl ?_
              intro w1 G bs hI hΓ
              rw [hP12]
              exact ⟨rfl, trivial⟩
end Go.Proofs.YtfffongneoegbaaGreat

namespace Go.Stp
set_option linter.unusedVariables false
set_option linter.unusedSimpArgs false
def slices_Insert_TableEntry (s : List TableEntry) (i : Int) (v : List TableEntry) : List TableEntry := s.take i.toNat ++ v ++ s.drop i.toNat
end Go.Stp

namespace Go.Proofs.YtfffongneoegbaaGreat
open Go.Stp
set_option linter.unusedVariables false
set_option linter.unusedSimpArgs false
theorem ok_slices_Insert_TableEntry {n : Nat} {s v : List TableEntry} (hn : n + 1 ≤ 9) (i : Int) (h : GoT.ok n s) (hv : GoT.ok n v) : GoT.ok (n + 1) (slices_Insert_TableEntry s i v) := by
  have hbS0 := bd_succ (n := n) (by omega)
  have h1 := (okl h).1
  have h2 := (okl hv).1
  refine okl_mk (by unfold slices_Insert_TableEntry; simp only [List.length_append, List.length_take, List.length_drop]; omega) (fun a ha => GoT.okm (Nat.le_succ n) ?_)
  unfold slices_Insert_TableEntry at ha
  rcases List.mem_append.1 ha with ha | ha
  · rcases List.mem_append.1 ha with ha | ha
    · exact (okl h).2 a (List.mem_of_mem_take ha)
    · exact (okl hv).2 a ha
  · exact (okl h).2 a (List.mem_of_mem_drop ha)
theorem len_slices_Insert_TableEntry (s : List TableEntry) (i : Int) (v : List TableEntry) : (slices_Insert_TableEntry s i v).length = s.length + v.length := by
  unfold slices_Insert_TableEntry; simp only [List.length_append, List.length_take, List.length_drop]; omega
theorem f191 (w : World) (n : Nat) (hn : n + 1 ≤ 9) (s : List TableEntry) (ps : Option Addr) (cs : Nat) (i : Int) (v : List TableEntry) (pv : Option Addr) (cv : Nat) (H : GH) (hH : Le H (hp w)) (hown : Sep H (GoT.oa s (ps, cs) ++ GoT.oa v (pv, cv))) (hq0 : 0 ≤ i ∧ i ≤ (s.length : Int)) (hq1 : 0 < v.length) (hoks : GoT.ok n s) (hoki : GoT.ok n i) (hokv : GoT.ok n v) :
    Does Tryz.prog 191 #[.slice ps ((s).length) cs, .int .i64 i, .slice pv ((v).length) cv] w H (Post w H (fun x : GoT.X (List TableEntry) => (GoT.sh ((slices_Insert_TableEntry s i v) : List TableEntry) x).headD undef) (fun x => GoT.oa ((slices_Insert_TableEntry s i v) : List TableEntry) x) (GoT.ok (n + 1) ((slices_Insert_TableEntry s i v) : List TableEntry))) := by
  obtain ⟨m, rfl⟩ : ∃ m : Nat, i = (m : Int) := ⟨i.toNat, by omega⟩
  have hms : m ≤ s.length := by omega
  have hok := ok_slices_Insert_TableEntry hn (m : Int) hoks hokv
  have hlD := (len_slices_Insert_TableEntry s (m : Int) v).symm
  have hbP := bd_pos n
  have hbS0 := bd_succ (n := n) (by omega)
  have hbB := bd_big (n := n + 1) (by omega)
  have r1 : (s).length ≤ bd n := (okl hoks).1
  have r2 : (v).length ≤ bd n := (okl hokv).1
  refine WX.enterM (tt := tt) (Γ := []) 0 Tryz.func191 rfl (by kernel_rfl) rfl allS_nil hH hown (fun f hf => (List.mem_append.1 hf).elim (fun hf => GoT.oak f hf) (fun hf => GoT.oak f hf)) rfl ?_
  refine WX.run ttOk rfl ?_
  refine WX.see rfl rfl rfl (fun _ hΓ => looks_slL m ttOk rfl rfl rfl rfl rfl hms) ?_
  refine WX.run ttOk rfl ?_
  refine WX.cases 16 rfl (fun h1 => ?_) (fun h1 => ?_)
  · have := B.et h1; omega
  refine WX.run ttOk rfl ?_
  refine WX.cases 22 rfl (fun h2 => ?_) (fun h2 => ?_)
  · have h2d := B.et h2
    have hm : m = s.length := by omega
    have hP : slices_Insert_TableEntry s (m : Int) v = s ++ v := by unfold slices_Insert_TableEntry; simp [hm]
    refine WX.run ttOk rfl ?_
    refine WX.opn (kk := 2) 501 0 2 rfl rfl rfl ?_
    intro xs hx
    refine WX.opn (kk := 2) 502 1 3 rfl rfl rfl ?_
    intro ys hy
    refine WX.know (fun G hΓ => (hΓ.get 3 rfl : OwL _ _ _).rd.one) ?_
    intro hone
    refine WX.appR1 501 502 (s.length + v.length) ttOk rfl rfl rfl rfl rfl rfl rfl rfl rfl rfl rfl rfl rfl hone rfl (by omega) (by omega) (fun _ _ => rfl) ?_
    intro p1 c1
    refine WX.turn [2, 3] 4 rfl (fun h hs => ol_app hs) (gs := [MF.ol (xs ++ ys) (s ++ v)]) rfl ?_
    refine WX.seal 501 4 5 rfl rfl (show s.length + v.length = (s ++ v).length by simp) rfl rfl ?_
    refine WX.run ttOk rfl ?_
    refine WX.slot 6 (y := .v (.slice p1 (s ++ v).length c1)) rfl (fun _ => by rw [List.length_append]) ?_
    refine WX.ret ttOk rfl ?_
    intro w1 G bs hI hΓ
    rw [hP] at hok ⊢
    exact Post.of [6] (p1, c1) hI hΓ rfl rfl rfl hok
  · have h2d := B.ef h2
    have hm : m < s.length := by omega
    refine WX.run ttOk rfl ?_
    refine WX.see rfl rfl rfl (fun _ hΓ => looks_arith rfl rfl rfl rfl (by unfold I64; omega)) ?_
    refine WX.run ttOk rfl ?_
    refine WX.see rfl rfl rfl (fun _ hΓ => looks_cap ttOk rfl rfl rfl rfl) ?_
    refine WX.run ttOk rfl ?_
    refine WX.opn (kk := 2) 501 0 2 rfl rfl rfl ?_
    intro xs hx
    refine WX.opn (kk := 2) 502 1 3 rfl rfl rfl ?_
    intro ys hy
    refine WX.know (fun G hΓ => (hΓ.get 2 rfl : OwL _ _ _).rd.one) ?_
    intro honx
    refine WX.know (fun G hΓ => (hΓ.get 3 rfl : OwL _ _ _).rd.one) ?_
    intro hone
    refine WX.cap 501 rfl ?_
    intro hcap
    have hcap' : s.length ≤ cs := hcap
    refine WX.cases 31 rfl (fun h3 => ?_) (fun h3 => ?_)
    · have h3d := B.dt h3
      refine WX.run ttOk rfl ?_
      refine WX.see rfl rfl rfl (fun _ hΓ => looks_slH m ttOk rfl rfl rfl rfl rfl (by omega)) ?_
      refine WX.run ttOk rfl ?_
      refine WX.see rfl rfl rfl (fun _ hΓ => looks_arith rfl rfl rfl rfl (by unfold I64; omega)) ?_
      refine WX.run ttOk rfl ?_
      refine WX.see rfl rfl rfl (fun _ hΓ => looks_arith rfl rfl rfl rfl (by unfold I64; omega)) ?_
      refine WX.appZ 501 m (s.length + v.length - m) ttOk rfl rfl rfl rfl rfl rfl rfl rfl rfl (by omega) rfl rfl hms (by omega) (show cs < m + (s.length + v.length - m) by omega) (by omega) (by omega) rfl ?_
      intro pq cq
      refine WX.run ttOk rfl ?_
      refine WX.see rfl rfl rfl (fun _ hΓ => looks_slL m ttOk rfl rfl rfl rfl rfl (by omega)) ?_
      refine WX.run ttOk rfl ?_
      refine WX.cpy 40 m v.length ys ttOk rfl rfl rfl rfl rfl rfl rfl rfl rfl (show min v.length (m + (s.length + v.length - m) - m) = v.length by omega) (show m + v.length ≤ m + (s.length + v.length - m) by omega) hy hone (fun w G bs hI => src_cells0 (σ := 502) hI rfl) rfl ?_
      refine WX.run ttOk rfl ?_
      · refine WX.draw [8] mixed ?_
        intro bs G0 hΓ0
        refine DX.takes (fuel := 6) ttOk [(0, true), (1, true), (2, true)] (by kernel_rfl) rfl ?_
        refine DX.seeP 3 (by kernel_rfl) rfl rfl rfl rfl (looksP_arith rfl rfl rfl rfl (by unfold I64; omega)) ?_
        refine DX.seeP 4 (by kernel_rfl) rfl rfl rfl rfl (looksP_slL (m + v.length) ttOk rfl rfl rfl rfl (by omega) (by omega)) ?_
        refine DX.takes (fuel := 2) ttOk [(5, true), (6, true)] (by kernel_rfl) rfl ?_
        refine DX.seeP 7 (by kernel_rfl) rfl rfl rfl rfl (looksP_slL m ttOk rfl rfl rfl rfl rfl (by omega)) ?_
        refine DX.tail2 [8] rfl rfl (by kernel_rfl) ?_
        refine WX.cpy 40 (m + v.length) (s.length - m) ((xs.drop (m * 2)).take ((s.length - m) * 2)) ttOk rfl rfl rfl rfl rfl rfl rfl rfl rfl (show min (s.length - m) (m + (s.length + v.length - m) - (m + v.length)) = s.length - m by omega) (show m + v.length + (s.length - m) ≤ m + (s.length + v.length - m) by omega) (by rw [List.length_take, List.length_drop, hx, Nat.sub_mul]; omega) (fun u hu => honx u (List.mem_of_mem_drop (List.mem_of_mem_take hu))) (fun w G bs hI => src_cells (σ := 501) hI rfl m (s.length - m) (show m + (s.length - m) ≤ s.length by omega)) rfl ?_
        have hX := ins_new (zs := zrep (s.length + v.length - m) ([.slice none (0) 0, .int .i64 (0)] : List Value)) (v := v.length) hx hy (zrep_len ([.slice none (0) 0, .int .i64 (0)] : List Value) (s.length + v.length - m)) hms
        replace hlD : m + (s.length + v.length - m) = (slices_Insert_TableEntry s (m : Int) v).length := by omega
        refine WX.run ttOk rfl ?_
        refine WX.turn [2, 3] 4 rfl (fun h hs => by rw [show (((xs.take (m * 2) ++ zrep (s.length + v.length - m) ([.slice none (0) 0, .int .i64 (0)] : List Value)).take (m * 2) ++ ys ++ (xs.take (m * 2) ++ zrep (s.length + v.length - m) ([.slice none (0) 0, .int .i64 (0)] : List Value)).drop (m * 2 + ys.length)).take ((m + v.length) * 2) ++ ((xs.drop (m * 2)).take ((s.length - m) * 2)) ++ ((xs.take (m * 2) ++ zrep (s.length + v.length - m) ([.slice none (0) 0, .int .i64 (0)] : List Value)).take (m * 2) ++ ys ++ (xs.take (m * 2) ++ zrep (s.length + v.length - m) ([.slice none (0) 0, .int .i64 (0)] : List Value)).drop (m * 2 + ys.length)).drop ((m + v.length) * 2 + ((xs.drop (m * 2)).take ((s.length - m) * 2)).length)) = xs.take (m * 2) ++ ys ++ xs.drop (m * 2) from hX]; exact ol_insert m (by omega) hs) (gs := [MF.ol (((xs.take (m * 2) ++ zrep (s.length + v.length - m) ([.slice none (0) 0, .int .i64 (0)] : List Value)).take (m * 2) ++ ys ++ (xs.take (m * 2) ++ zrep (s.length + v.length - m) ([.slice none (0) 0, .int .i64 (0)] : List Value)).drop (m * 2 + ys.length)).take ((m + v.length) * 2) ++ ((xs.drop (m * 2)).take ((s.length - m) * 2)) ++ ((xs.take (m * 2) ++ zrep (s.length + v.length - m) ([.slice none (0) 0, .int .i64 (0)] : List Value)).take (m * 2) ++ ys ++ (xs.take (m * 2) ++ zrep (s.length + v.length - m) ([.slice none (0) 0, .int .i64 (0)] : List Value)).drop (m * 2 + ys.length)).drop ((m + v.length) * 2 + ((xs.drop (m * 2)).take ((s.length - m) * 2)).length)) (slices_Insert_TableEntry s (m : Int) v)]) rfl ?_
        refine WX.seal 40 4 5 rfl rfl (show _ = (slices_Insert_TableEntry s (m : Int) v).length from hlD) rfl rfl ?_
        refine WX.slot 6 (y := .v (.slice pq (slices_Insert_TableEntry s (m : Int) v).length cq)) rfl (fun _ => by rw [show (slices_Insert_TableEntry s (m : Int) v).length = _ from hlD.symm]) ?_
        refine WX.ret ttOk rfl ?_
        intro w1 G bs hI hΓ
        exact Post.of [6] (pq, cq) hI hΓ rfl rfl rfl hok
    · have h3d := B.df h3
      refine WX.run ttOk rfl ?_
      refine WX.see rfl rfl rfl (fun _ hΓ => looks_arith rfl rfl rfl rfl (by unfold I64; omega)) ?_
      refine WX.run ttOk rfl ?_
      refine WX.see rfl rfl rfl (fun _ hΓ => looks_slH (s.length + v.length) ttOk rfl rfl rfl rfl rfl (by omega)) ?_
      refine WX.widen 501 (s.length + v.length) rfl (show s.length ≤ s.length + v.length by omega) (show s.length + v.length ≤ cs by omega) (fun _ => rfl) ?_
      intro jk hjk
      refine WX.run ttOk rfl ?_
      refine WX.see rfl rfl rfl (fun _ hΓ => looks_arith rfl rfl rfl rfl (by unfold I64; omega)) ?_
      refine WX.run ttOk rfl ?_
      refine WX.see rfl rfl rfl (fun _ hΓ => looks_slL (m + v.length) ttOk rfl rfl rfl rfl rfl (by omega)) ?_
      refine WX.ovl (T := 37) (tR := 4) 502 501 (m + v.length) ttOk rfl rfl rfl rfl rfl (fun _ => rfl) Tryz.func293 (by kernel_rfl) (by kernel_rfl) (by kernel_rfl) (by kernel_rfl) rfl rfl rfl rfl rfl rfl rfl (show 0 < v.length from hq1) (show m + v.length < s.length + v.length by omega) ?_
      refine WX.run ttOk rfl ?_
      · refine WX.draw [8] mixed ?_
        intro bs G0 hΓ0
        refine DX.takes (fuel := 6) ttOk [(0, true), (1, true), (2, true)] (by kernel_rfl) rfl ?_
        refine DX.seeP 3 (by kernel_rfl) rfl rfl rfl rfl (looksP_arith rfl rfl rfl rfl (by unfold I64; omega)) ?_
        refine DX.seeP 4 (by kernel_rfl) rfl rfl rfl rfl (looksP_slL (m + v.length) ttOk rfl rfl rfl rfl (by omega) (by omega)) ?_
        refine DX.takes (fuel := 2) ttOk [(5, true), (6, true)] (by kernel_rfl) rfl ?_
        refine DX.seeP 7 (by kernel_rfl) rfl rfl rfl rfl (looksP_slL m ttOk rfl rfl rfl rfl rfl (by omega)) ?_
        refine DX.tail2 [8] rfl rfl (by kernel_rfl) ?_
        refine WX.cpy 501 (m + v.length) (s.length - m) (((xs ++ jk).drop (m * 2)).take ((s.length - m) * 2)) ttOk rfl rfl rfl rfl rfl rfl rfl rfl rfl (show min (s.length + v.length - m) (s.length + v.length - (m + v.length)) = s.length - m by omega) (show m + v.length + (s.length - m) ≤ s.length + v.length by omega) (by rw [List.length_take, List.length_drop, List.length_append, hx, hjk, Nat.sub_mul]; omega) (fun u hu => ?_) (fun w G bs hI => src_cells (σ := 501) hI rfl m (s.length - m) (show m + (s.length - m) ≤ s.length + v.length by omega)) rfl ?_
        · refine honx u ?_
          have h6 : (((xs ++ jk).drop (m * 2)).take ((s.length - m) * 2)) = ((xs.drop (m * 2)).take ((s.length - m) * 2)) := by rw [List.drop_append_of_le_length (by rw [hx]; exact Nat.mul_le_mul_right _ hms), List.take_append_of_le_length (by rw [List.length_drop, hx, Nat.sub_mul]; exact Nat.le_refl _)]
          rw [h6] at hu
          exact List.mem_of_mem_drop (List.mem_of_mem_take hu)
        refine WX.run ttOk rfl ?_
        refine WX.see rfl rfl rfl (fun _ hΓ => looks_slL m ttOk rfl rfl rfl rfl rfl (by omega)) ?_
        refine WX.run ttOk rfl ?_
        refine WX.cpy 501 m v.length ys ttOk rfl rfl rfl rfl rfl rfl rfl rfl rfl (show min v.length (s.length + v.length - m) = v.length by omega) (show m + v.length ≤ s.length + v.length by omega) hy hone (fun w G bs hI => src_cells0 (σ := 502) hI rfl) rfl ?_
        have hX := ins_old (n := s.length) (v := v.length) hx hy hjk hms
        refine WX.run ttOk rfl ?_
        refine WX.turn [2, 3] 4 rfl (fun h hs => by rw [show (((xs ++ jk).take ((m + v.length) * 2) ++ (((xs ++ jk).drop (m * 2)).take ((s.length - m) * 2)) ++ (xs ++ jk).drop ((m + v.length) * 2 + (((xs ++ jk).drop (m * 2)).take ((s.length - m) * 2)).length)).take (m * 2) ++ ys ++ ((xs ++ jk).take ((m + v.length) * 2) ++ (((xs ++ jk).drop (m * 2)).take ((s.length - m) * 2)) ++ (xs ++ jk).drop ((m + v.length) * 2 + (((xs ++ jk).drop (m * 2)).take ((s.length - m) * 2)).length)).drop (m * 2 + ys.length)) = xs.take (m * 2) ++ ys ++ xs.drop (m * 2) from hX]; exact ol_insert m (by omega) hs) (gs := [MF.ol (((xs ++ jk).take ((m + v.length) * 2) ++ (((xs ++ jk).drop (m * 2)).take ((s.length - m) * 2)) ++ (xs ++ jk).drop ((m + v.length) * 2 + (((xs ++ jk).drop (m * 2)).take ((s.length - m) * 2)).length)).take (m * 2) ++ ys ++ ((xs ++ jk).take ((m + v.length) * 2) ++ (((xs ++ jk).drop (m * 2)).take ((s.length - m) * 2)) ++ (xs ++ jk).drop ((m + v.length) * 2 + (((xs ++ jk).drop (m * 2)).take ((s.length - m) * 2)).length)).drop (m * 2 + ys.length)) (slices_Insert_TableEntry s (m : Int) v)]) rfl ?_
        refine WX.seal 501 4 5 rfl rfl (show _ = (slices_Insert_TableEntry s (m : Int) v).length from hlD) rfl rfl ?_
        refine WX.slot 6 (y := .v (.slice ps (slices_Insert_TableEntry s (m : Int) v).length cs)) rfl (fun _ => by rw [show (slices_Insert_TableEntry s (m : Int) v).length = _ from hlD.symm]) ?_
        refine WX.ret ttOk rfl ?_
        intro w1 G bs hI hΓ
        exact Post.of [6] (ps, cs) hI hΓ rfl rfl rfl hok
end Go.Proofs.YtfffongneoegbaaGreat

namespace Go.Stp
set_option linter.unusedVariables false
set_option linter.unusedSimpArgs false
def impl_copyTable_c1 (e_ : TableEntry) : Bool :=
  true
def impl_keepTable_L1 (keepq : TableEntry → Bool) : List TableEntry → (List TableEntry) → (List TableEntry)
  | [], out => ((out) : List TableEntry)
  | e1 :: rest_, out =>
    bif keepq e1 then
      impl_keepTable_L1 keepq rest_ (((out ++ [(TableEntry.mk (impl_copyName e1.name) e1.value)])) : List TableEntry)
    else
      impl_keepTable_L1 keepq rest_ ((out) : List TableEntry)
def impl_keepTable (l : (List TableEntry)) (keepq : TableEntry → Bool) : (List TableEntry) :=
  match impl_keepTable_L1 keepq l ([] : List TableEntry) with
    | out =>
      out
def impl_copyTable (l : (List TableEntry)) : (List TableEntry) :=
  (impl_keepTable l (fun e0_ => (impl_copyTable_c1 e0_)))
theorem kTL : ∀ (l o : List TableEntry), impl_keepTable_L1 (fun e0_ => impl_copyTable_c1 e0_) l o = o ++ l
  | [], o => by simp [impl_keepTable_L1]
  | x :: l, o => by
    simp only [impl_keepTable_L1]
    rw [show impl_copyTable_c1 x = true from rfl, cond_true, kTL l]
    simp [impl_copyName]
theorem cT_impl (l : List TableEntry) : impl_copyTable l = l := by simp [impl_copyTable, impl_keepTable, kTL]
theorem len_copyTable (l : List TableEntry) : (impl_copyTable l).length = l.length := by rw [cT_impl]
def spec_l6Copy_L1 : List TableEntry → (List TableEntry) → (List TableEntry)
  | [], out => ((out) : List TableEntry)
  | e1 :: rest_, out =>
    spec_l6Copy_L1 rest_ (((out ++ [(TableEntry.mk (spec_l4Copy e1.name) e1.value)])) : List TableEntry)
def spec_l6Copy (l : (List TableEntry)) : (List TableEntry) :=
  match spec_l6Copy_L1 l ([] : List TableEntry) with
    | out =>
      out
theorem l6L : ∀ (l o : List TableEntry), spec_l6Copy_L1 l o = o ++ l
  | [], o => by simp [spec_l6Copy_L1]
  | x :: l, o => by
    simp only [spec_l6Copy_L1]
    rw [l6L l]
    simp [spec_l4Copy]
theorem cT_spec (l : List TableEntry) : spec_l6Copy l = l := by simp [spec_l6Copy, l6L]
theorem len_l6Copy (l : List TableEntry) : (spec_l6Copy l).length = l.length := by rw [cT_spec]
def impl_PutEntry_c1 (n_ : Name) (e_ : TableEntry) : Bool :=
  (decide ((impl_CompareNames e_.name n_) > 0))
def impl_PutEntry (l : (List TableEntry)) (n_ : Name) (v : Int) : (List TableEntry) × Bool :=
  bif decide ((impl_indexOfName l n_) ≥ 0) then
    match ((impl_copyTable l))[((impl_indexOfName l n_)).toNat]? with
      | none => default
      | some e1 =>
        bif (!(impl_ValidTable ((impl_copyTable l).set (((impl_indexOfName l n_)).toNat) (TableEntry.mk e1.name v)))) then
          ((impl_copyTable l), false)
        else
          (((impl_copyTable l).set (((impl_indexOfName l n_)).toNat) (TableEntry.mk e1.name v)), true)
  else
    bif decide ((slices_IndexFunc_TableEntry l (fun e0_ => (impl_PutEntry_c1 n_ e0_))) < 0) then
      bif (!(impl_ValidTable (slices_Insert_TableEntry (impl_copyTable l) (((l).length : Nat) : Int) ([(TableEntry.mk (impl_copyName n_) v)])))) then
        ((impl_copyTable l), false)
      else
        ((slices_Insert_TableEntry (impl_copyTable l) (((l).length : Nat) : Int) ([(TableEntry.mk (impl_copyName n_) v)])), true)
    else
      bif (!(impl_ValidTable (slices_Insert_TableEntry (impl_copyTable l) (slices_IndexFunc_TableEntry l (fun e0_ => (impl_PutEntry_c1 n_ e0_))) ([(TableEntry.mk (impl_copyName n_) v)])))) then
        ((impl_copyTable l), false)
      else
        ((slices_Insert_TableEntry (impl_copyTable l) (slices_IndexFunc_TableEntry l (fun e0_ => (impl_PutEntry_c1 n_ e0_))) ([(TableEntry.mk (impl_copyName n_) v)])), true)
def spec_PutEntry_L1 (l : (List TableEntry)) (n_ : Name) (i : Nat) : Nat :=
  if ((i : Nat) : Int) < ((((spec_l6Copy l)).length : Nat) : Int) then
    match ((spec_l6Copy l))[i]? with
      | none => default
      | some e2 =>
        if (spec_CompareNames e2.name n_) < 0 then
          spec_PutEntry_L1 l n_ (i + 1)
        else
          i
  else
    i
termination_by (spec_l6Copy l).length - i
decreasing_by all_goals (simp_wf; omega)
def spec_PutEntry (l : (List TableEntry)) (n_ : Name) (v : Int) : (List TableEntry) × Bool :=
  bif decide ((spec_l6Find l n_) ≥ 0) then
    match ((spec_l6Copy l))[((spec_l6Find l n_)).toNat]? with
      | none => default
      | some e1 =>
        bif (!(spec_ValidTable ((spec_l6Copy l).set (((spec_l6Find l n_)).toNat) (TableEntry.mk e1.name v)))) then
          ((spec_l6Copy l), false)
        else
          (((spec_l6Copy l).set (((spec_l6Find l n_)).toNat) (TableEntry.mk e1.name v)), true)
  else
    match spec_PutEntry_L1 l n_ 0 with
      | i =>
        bif (!(spec_ValidTable (((List.take i (spec_l6Copy l)) ++ [(TableEntry.mk (spec_l4Copy n_) v)]) ++ (List.drop i (spec_l6Copy l))))) then
          ((spec_l6Copy l), false)
        else
          ((((List.take i (spec_l6Copy l)) ++ [(TableEntry.mk (spec_l4Copy n_) v)]) ++ (List.drop i (spec_l6Copy l))), true)
inductive PutShape (l : List TableEntry) (n_ : Name) (v : Int) : List TableEntry → Prop
  | same : PutShape l n_ v l
  | nil : PutShape l n_ v []
  | set (i : Nat) (e : TableEntry) (h : l[i]? = some e) : PutShape l n_ v (l.set i ⟨e.name, v⟩)
  | ins (i : Nat) : PutShape l n_ v (l.take i ++ [⟨n_, v⟩] ++ l.drop i)
theorem PutShape.len {l r : List TableEntry} {n_ : Name} {v : Int} (h : PutShape l n_ v r) : r.length ≤ l.length + 1 := by
  cases h with
  | same => exact Nat.le_succ _
  | nil => exact Nat.zero_le _
  | set i e h => rw [List.length_set]; exact Nat.le_succ _
  | ins i => simp only [List.length_append, List.length_take, List.length_drop, List.length_cons, List.length_nil]; omega
theorem PutShape.els {l r : List TableEntry} {n_ : Name} {v : Int} {k : Nat} (h : PutShape l n_ v r) (hl : ∀ a ∈ l, GoT.ok k a) (hn : GoT.ok k n_) (hv : GoT.ok k v) : ∀ a ∈ r, GoT.ok k a := by
  intro a ha
  cases h with
  | same => exact hl a ha
  | nil => cases ha
  | set i e h =>
    rcases List.mem_or_eq_of_mem_set ha with ha | rfl
    · exact hl a ha
    · exact ⟨(ok_TableEntry (hl e (List.mem_of_getElem? h))).1, hv⟩
  | ins i =>
    rcases List.mem_append.1 ha with ha | ha
    · rcases List.mem_append.1 ha with ha | ha
      · exact hl a (List.mem_of_mem_take ha)
      · obtain rfl := List.mem_singleton.1 ha
        exact ⟨hn, hv⟩
    · exact hl a (List.mem_of_mem_drop ha)
theorem put_bif {P : List TableEntry → Prop} {c : Bool} {a b : List TableEntry × Bool} (h1 : P a.1) (h2 : P b.1) : P (bif c then a else b).1 := by
  cases c
  · exact h2
  · exact h1
theorem put_impl (l : List TableEntry) (n_ : Name) (v : Int) : PutShape l n_ v (impl_PutEntry l n_ v).1 := by
  unfold impl_PutEntry
  rw [cT_impl]
  refine put_bif ?_ (put_bif (put_bif .same ?_) (put_bif .same ?_))
  · cases h : l[(impl_indexOfName l n_).toNat]? with
    | none => exact .nil
    | some e1 => exact put_bif .same (.set _ e1 h)
  · exact .ins _
  · exact .ins _
theorem put_spec (l : List TableEntry) (n_ : Name) (v : Int) : PutShape l n_ v (spec_PutEntry l n_ v).1 := by
  unfold spec_PutEntry
  rw [cT_spec]
  refine put_bif ?_ (put_bif .same ?_)
  · cases h : l[(spec_l6Find l n_).toNat]? with
    | none => exact .nil
    | some e1 => exact put_bif .same (.set _ e1 h)
  · exact .ins _
end Go.Stp

