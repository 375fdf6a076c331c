/-
  What the proof of one law needs: rules of the program logic, functions as Lean functions, contracts. No condition but what each says. Written by a program (pack.py) out of my own texts.
-/
import Derived.Test.YtfffongneoegbaaGreatKEqualNetworks5
namespace Go.Proofs.YtfffongneoegbaaGreat
open Go.Stp
set_option linter.unusedVariables false
set_option linter.unusedSimpArgs false
theorem f210 (w : World) (n : Nat) (hn : n + 0 ≤ 9) (s1 : (List Str)) (ps1 : Option Addr) (cs1 : Nat) (hps1 : RdSl (hp w) ps1 cs1 s1) (s2 : (List Str)) (ps2 : Option Addr) (cs2 : Nat) (hps2 : RdSl (hp w) ps2 cs2 s2) (hoks1 : GoT.ok n s1) (hoks2 : GoT.ok n s2) :
    Does Tryz.prog 210 #[.slice ps1 ((s1).length) cs1, .slice ps2 ((s2).length) cs2] w emp (fun (rv : Value) (_ : World) => rv = .bool (slices_Equal_string s1 s2) ∧ True) := by
  have hbP := bd_pos n
  have hbB := bd_big (n := n) (by omega)
  refine WX.enter (tt := tt) (Γ := [(0, MF.rs .stb ps1 cs1 s1), (1, MF.rs .stb ps2 cs2 s2)]) Tryz.func210 rfl (by kernel_rfl) rfl (allS_cons rfl hps1 (allS_cons rfl hps2 allS_nil)) ?_
  refine WX.run ttOk rfl ?_
  refine WX.cases 10 rfl (fun h1 => ?_) (fun h1 => ?_)
  · skip
    have h1d := B.nt' h1
    refine WX.run ttOk rfl ?_
    have hP1 : slices_Equal_string s1 s2 = false := by simp only [slices_Equal_string, h1, cond_true, cond_false]
    refine WX.ret ttOk rfl ?_
    intro w1 G bs hI hΓ
    rw [hP1]
    exact ⟨rfl, trivial⟩
  · skip
    have h1d := B.nf' h1
    refine WX.run ttOk rfl ?_
    have r1 : (s1).length ≤ bd n := (okl hoks1).1
    refine WX.loop (ι := Nat) ⟨fun i => (i ≤ (s1).length) ∧ (slices_Equal_string_L1 s2 s1 0 = slices_Equal_string_L1 s2 ((s1).drop i) i), fun i => (s1).length - i, fun i => [(13, .v (.int .i64 (((i : Nat) : Int)))), (12, .v (.int .i64 ((((s1).length : Nat) : Int)))), (0, .v (.slice ps1 ((s1).length) cs1)), (1, .v (.slice ps2 ((s2).length) cs2))], fun i => [], fun i => [], fun i => [(0, MF.rs .stb ps1 cs1 s1), (1, MF.rs .stb ps2 cs2 s2)]⟩ 0 ⟨(Nat.zero_le _), rfl⟩
      (.cons rfl (.cons rfl (.cons rfl (.cons rfl (.nil))))) .nil .nil [0, 1] rfl ?_
    rintro i hpre
    have hpre_ : (i ≤ (s1).length) ∧ (slices_Equal_string_L1 s2 s1 0 = slices_Equal_string_L1 s2 ((s1).drop i) i) := hpre
    clear hpre
    obtain ⟨v1, v2⟩ := hpre_
    refine WX.run ttOk rfl ?_
    refine WX.cases 14 rfl (fun h2 => ?_) (fun h2 => ?_)
    · skip
      have h2d := B.dt h2
      have e1i : i < (s1).length := (by omega)
      obtain ⟨e1, e1h⟩ : ∃ e1, (s1)[i]? = some e1 := ⟨_, List.getElem?_eq_getElem e1i⟩
      have ok1 : GoT.ok n e1 := (okl hoks1).2 _ (List.mem_of_getElem? e1h)
      refine WX.run ttOk rfl ?_
      refine WX.draw [] mixed ?_
      intro bs G0 hΓ0
      refine DX.takes (fuel := 7) ttOk [(0, true), (1, true)] (by kernel_rfl) rfl ?_
      refine DX.idx 2 0 i ttOk hΓ0 (by kernel_rfl) rfl rfl rfl rfl rfl rfl rfl rfl rfl rfl rfl e1i ?_
      rintro ad1 rfl
      refine DX.ldE 3 0 2 e1 ttOk hΓ0 (by kernel_rfl) rfl rfl rfl rfl rfl rfl rfl rfl e1h (fun _ => rfl) (fun _ => rfl) ?_
      rintro ⟨⟩
      refine DX.takes (fuel := 3) ttOk [(4, true), (5, true)] (by kernel_rfl) rfl ?_
      have e2i : i < (s2).length := (by first | assumption | omega)
      obtain ⟨e2, e2h⟩ : ∃ e2, (s2)[i]? = some e2 := ⟨_, List.getElem?_eq_getElem e2i⟩
      have ok2 : GoT.ok n e2 := (okl hoks2).2 _ (List.mem_of_getElem? e2h)
      refine DX.idx 6 1 i ttOk hΓ0 (by kernel_rfl) rfl rfl rfl rfl rfl rfl rfl rfl rfl rfl rfl e2i ?_
      rintro ad2 rfl
      refine DX.ldE 7 1 2 e2 ttOk hΓ0 (by kernel_rfl) rfl rfl rfl rfl rfl rfl rfl rfl e2h (fun _ => rfl) (fun _ => rfl) ?_
      rintro ⟨⟩
      refine DX.takes (fuel := 0) ttOk [(8, true)] (by kernel_rfl) rfl ?_
      refine DX.tail2 [] rfl rfl (by kernel_rfl) ?_
      refine WX.run ttOk rfl ?_
      refine WX.cases 24 rfl (fun h3 => ?_) (fun h3 => ?_)
      · skip
        have h3d := B.ef (B.nt h3)
        refine WX.run ttOk rfl ?_
        have hP2 : slices_Equal_string_L1 s2 s1 0 = (some false) := by rw [v2, drop_get e1h]; simp only [slices_Equal_string_L1, e2h, h3, cond_true, cond_false]
        have hP3 : slices_Equal_string s1 s2 = false := by simp only [slices_Equal_string, h1, hP2, cond_true, cond_false]
        refine WX.ret ttOk rfl ?_
        intro w1 G bs hI hΓ
        rw [hP3]
        exact ⟨rfl, trivial⟩
      · skip
        have h3d := B.et (B.nf h3)
        refine WX.run ttOk rfl ?_
        refine WX.see rfl rfl rfl (fun _ hΓ => looks_arith rfl rfl rfl rfl (by unfold I64; first | omega | (dsimp only; omega))) ?_
        refine WX.run ttOk rfl ?_
        exact WX.iter (i + 1) ⟨(by omega), (by rw [v2, drop_get e1h]; simp only [slices_Equal_string_L1, e2h, h3, cond_true, cond_false])⟩ (by first | (dsimp only; omega) | omega) (.cons rfl (.cons rfl (.cons rfl (.cons rfl (.nil))))) .nil .nil [0, 1] rfl
    · skip
      have h2d := B.df h2
      refine WX.run ttOk rfl ?_
      have hX1 : slices_Equal_string_L1 s2 s1 0 = none := by rw [v2, List.drop_eq_nil_of_le (show (s1).length ≤ i by omega)]; simp only [slices_Equal_string_L1, cond_true, cond_false]
      have hP4 : slices_Equal_string s1 s2 = true := by simp only [slices_Equal_string, h1, hX1, cond_true, cond_false]
      refine WX.ret ttOk rfl ?_
      intro w1 G bs hI hΓ
      rw [hP4]
      exact ⟨rfl, trivial⟩
theorem f328 (w : World) (n : Nat) (hn : n + 0 ≤ 9) (s1 : (List UInt8)) (ps1 : Option Addr) (cs1 : Nat) (hps1 : RdSl (hp w) ps1 cs1 s1) (s2 : (List UInt8)) (ps2 : Option Addr) (cs2 : Nat) (hps2 : RdSl (hp w) ps2 cs2 s2) (hoks1 : GoT.ok n s1) (hoks2 : GoT.ok n s2) :
    Does Tryz.prog 328 #[.slice ps1 ((s1).length) cs1, .slice ps2 ((s2).length) cs2] w emp (fun (rv : Value) (_ : World) => rv = .bool (slices_Equal_byte s1 s2) ∧ True) := by
  have hbP := bd_pos n
  have hbB := bd_big (n := n) (by omega)
  refine WX.enter (tt := tt) (Γ := [(0, MF.rs .stb ps1 cs1 s1), (1, MF.rs .stb ps2 cs2 s2)]) Tryz.func328 rfl (by kernel_rfl) rfl (allS_cons rfl hps1 (allS_cons rfl hps2 allS_nil)) ?_
  refine WX.run ttOk rfl ?_
  refine WX.cases 10 rfl (fun h1 => ?_) (fun h1 => ?_)
  · skip
    have h1d := B.nt' h1
    refine WX.run ttOk rfl ?_
    have hP1 : slices_Equal_byte s1 s2 = false := by simp only [slices_Equal_byte, h1, cond_true, cond_false]
    refine WX.ret ttOk rfl ?_
    intro w1 G bs hI hΓ
    rw [hP1]
    exact ⟨rfl, trivial⟩
  · skip
    have h1d := B.nf' h1
    refine WX.run ttOk rfl ?_
    have r1 : (s1).length ≤ bd n := (okl hoks1).1
    refine WX.loop (ι := Nat) ⟨fun i => (i ≤ (s1).length) ∧ (slices_Equal_byte_L1 s2 s1 0 = slices_Equal_byte_L1 s2 ((s1).drop i) i), fun i => (s1).length - i, fun i => [(13, .v (.int .i64 (((i : Nat) : Int)))), (12, .v (.int .i64 ((((s1).length : Nat) : Int)))), (0, .v (.slice ps1 ((s1).length) cs1)), (1, .v (.slice ps2 ((s2).length) cs2))], fun i => [], fun i => [], fun i => [(0, MF.rs .stb ps1 cs1 s1), (1, MF.rs .stb ps2 cs2 s2)]⟩ 0 ⟨(Nat.zero_le _), rfl⟩
      (.cons rfl (.cons rfl (.cons rfl (.cons rfl (.nil))))) .nil .nil [0, 1] rfl ?_
    rintro i hpre
    have hpre_ : (i ≤ (s1).length) ∧ (slices_Equal_byte_L1 s2 s1 0 = slices_Equal_byte_L1 s2 ((s1).drop i) i) := hpre
    clear hpre
    obtain ⟨v1, v2⟩ := hpre_
    refine WX.run ttOk rfl ?_
    refine WX.cases 14 rfl (fun h2 => ?_) (fun h2 => ?_)
    · skip
      have h2d := B.dt h2
      have e1i : i < (s1).length := (by omega)
      obtain ⟨e1, e1h⟩ : ∃ e1, (s1)[i]? = some e1 := ⟨_, List.getElem?_eq_getElem e1i⟩
      refine WX.run ttOk rfl ?_
      refine WX.draw [] mixed ?_
      intro bs G0 hΓ0
      refine DX.takes (fuel := 7) ttOk [(0, true), (1, true)] (by kernel_rfl) rfl ?_
      refine DX.idx 2 0 i ttOk hΓ0 (by kernel_rfl) rfl rfl rfl rfl rfl rfl rfl rfl rfl rfl rfl e1i ?_
      rintro ad1 rfl
      refine DX.ldE 3 0 2 e1 ttOk hΓ0 (by kernel_rfl) rfl rfl rfl rfl rfl rfl rfl rfl e1h (fun _ => rfl) (fun _ => rfl) ?_
      rintro ⟨⟩
      refine DX.takes (fuel := 3) ttOk [(4, true), (5, true)] (by kernel_rfl) rfl ?_
      have e2i : i < (s2).length := (by first | assumption | omega)
      obtain ⟨e2, e2h⟩ : ∃ e2, (s2)[i]? = some e2 := ⟨_, List.getElem?_eq_getElem e2i⟩
      refine DX.idx 6 1 i ttOk hΓ0 (by kernel_rfl) rfl rfl rfl rfl rfl rfl rfl rfl rfl rfl rfl e2i ?_
      rintro ad2 rfl
      refine DX.ldE 7 1 2 e2 ttOk hΓ0 (by kernel_rfl) rfl rfl rfl rfl rfl rfl rfl rfl e2h (fun _ => rfl) (fun _ => rfl) ?_
      rintro ⟨⟩
      refine DX.takes (fuel := 0) ttOk [(8, true)] (by kernel_rfl) rfl ?_
      refine DX.tail2 [] rfl rfl (by kernel_rfl) ?_
      refine WX.run ttOk rfl ?_
      refine WX.cases 24 rfl (fun h3 => ?_) (fun h3 => ?_)
      · skip
        have h3d := B.nt' h3
        refine WX.run ttOk rfl ?_
        have hP2 : slices_Equal_byte_L1 s2 s1 0 = (some false) := by rw [v2, drop_get e1h]; simp only [slices_Equal_byte_L1, e2h, h3, cond_true, cond_false]
        have hP3 : slices_Equal_byte s1 s2 = false := by simp only [slices_Equal_byte, h1, hP2, cond_true, cond_false]
        refine WX.ret ttOk rfl ?_
        intro w1 G bs hI hΓ
        rw [hP3]
        exact ⟨rfl, trivial⟩
      · skip
        have h3d := B.nf' h3
        refine WX.run ttOk rfl ?_
        refine WX.see rfl rfl rfl (fun _ hΓ => looks_arith rfl rfl rfl rfl (by unfold I64; first | omega | (dsimp only; omega))) ?_
        refine WX.run ttOk rfl ?_
        exact WX.iter (i + 1) ⟨(by omega), (by rw [v2, drop_get e1h]; simp only [slices_Equal_byte_L1, e2h, h3, cond_true, cond_false])⟩ (by first | (dsimp only; omega) | omega) (.cons rfl (.cons rfl (.cons rfl (.cons rfl (.nil))))) .nil .nil [0, 1] rfl
    · skip
      have h2d := B.df h2
      refine WX.run ttOk rfl ?_
      have hX1 : slices_Equal_byte_L1 s2 s1 0 = none := by rw [v2, List.drop_eq_nil_of_le (show (s1).length ≤ i by omega)]; simp only [slices_Equal_byte_L1, cond_true, cond_false]
      have hP4 : slices_Equal_byte s1 s2 = true := by simp only [slices_Equal_byte, h1, hX1, cond_true, cond_false]
      refine WX.ret ttOk rfl ?_
      intro w1 G bs hI hΓ
      rw [hP4]
      exact ⟨rfl, trivial⟩
theorem f100 (w : World) (n : Nat) (hn : n + 0 ≤ 9) (a : Name) (pa : Option Addr) (ca : Nat) (hpa : RdSl (hp w) pa ca a.parts) (b : Name) (pb : Option Addr) (cb : Nat) (hpb : RdSl (hp w) pb cb b.parts) (hoka : GoT.ok n a) (hokb : GoT.ok n b) :
    Does Tryz.prog 100 #[.agg #[.slice pa ((a.parts).length) ca], .agg #[.slice pb ((b.parts).length) cb]] w emp (fun (rv : Value) (_ : World) => rv = .bool (impl_EqualNames a b) ∧ True) := by
  have hbP := bd_pos n
  have hbB := bd_big (n := n) (by omega)
  refine WX.enter (tt := tt) (Γ := [(0, MF.rs .stb pa ca a.parts), (1, MF.rs .stb pb cb b.parts)]) Tryz.func100 rfl (by kernel_rfl) rfl (allS_cons rfl hpa (allS_cons rfl hpb allS_nil)) ?_
  refine WX.run ttOk rfl ?_
  refine WX.callV rfl rfl rfl rfl rfl (fun _ => rfl) rfl (fun w G bs hI hΓ => f210 w n (by omega) a.parts pa ca (hΓ.get 0 rfl) b.parts pb cb (hΓ.get 1 rfl) (ok_Name hoka) (ok_Name hokb)) ?_
  intro hq1
  refine WX.run ttOk rfl ?_
  have hP1 : impl_EqualNames a b = (slices_Equal_string a.parts b.parts) := by simp only [impl_EqualNames, cond_true, cond_false]
  refine WX.ret ttOk rfl ?_
  intro w1 G bs hI hΓ
  rw [hP1]
  exact ⟨rfl, trivial⟩
theorem f287 (w : World) (n : Nat) (hn : n + 0 ≤ 9) (a : Str) (b : Str) (hoka : GoT.ok n a) (hokb : GoT.ok n b) :
    Does Tryz.prog 287 #[.string a, .string b] w emp (fun (rv : Value) (_ : World) => rv = .int .i64 ((spec_l4Cmp a b)) ∧ GoT.ok n ((spec_l4Cmp a b) : Int)) := by
  have hbP := bd_pos n
  have hbB := bd_big (n := n) (by omega)
  refine WX.enter (tt := tt) (Γ := []) Tryz.func287 rfl (by kernel_rfl) rfl allS_nil ?_
  refine WX.run ttOk rfl ?_
  refine WX.cases 5 rfl (fun h1 => ?_) (fun h1 => ?_)
  · skip
    refine WX.run ttOk rfl ?_
    have hP1 : spec_l4Cmp a b = (-1) := by simp only [spec_l4Cmp, h1, cond_true, cond_false]
    refine WX.ret ttOk rfl ?_
    intro w1 G bs hI hΓ
    rw [hP1]
    exact ⟨rfl, (show I64 (-1) from (by unfold I64; omega))⟩
  · skip
    refine WX.run ttOk rfl ?_
    refine WX.cases 9 rfl (fun h2 => ?_) (fun h2 => ?_)
    · skip
      refine WX.run ttOk rfl ?_
      have hP2 : spec_l4Cmp a b = 1 := by first | (simp only [spec_l4Cmp, h1, h2, cond_true, cond_false]; done) | (unfold spec_l4Cmp; rw [h2, h1]; simp only [cond_true, cond_false])
      refine WX.ret ttOk rfl ?_
      intro w1 G bs hI hΓ
      rw [hP2]
      exact ⟨rfl, (show I64 1 from (by unfold I64; omega))⟩
    · skip
      refine WX.run ttOk rfl ?_
      have hP3 : spec_l4Cmp a b = 0 := by first | (simp only [spec_l4Cmp, h1, h2, cond_true, cond_false]; done) | (unfold spec_l4Cmp; rw [h2, h1]; simp only [cond_true, cond_false])
      refine WX.ret ttOk rfl ?_
      intro w1 G bs hI hΓ
      rw [hP3]
      exact ⟨rfl, (show I64 0 from (by unfold I64; omega))⟩
theorem f177 (w : World) (n : Nat) (hn : n + 0 ≤ 9) (a : Name) (pa : Option Addr) (ca : Nat) (hpa : RdSl (hp w) pa ca a.parts) (b : Name) (pb : Option Addr) (cb : Nat) (hpb : RdSl (hp w) pb cb b.parts) (hoka : GoT.ok n a) (hokb : GoT.ok n b) :
    Does Tryz.prog 177 #[.agg #[.slice pa ((a.parts).length) ca], .agg #[.slice pb ((b.parts).length) cb]] w emp (fun (rv : Value) (_ : World) => rv = .int .i64 ((spec_CompareNames a b)) ∧ GoT.ok n ((spec_CompareNames a b) : Int)) := by
  have hbP := bd_pos n
  have hbB := bd_big (n := n) (by omega)
  refine WX.enter (tt := tt) (Γ := [(0, MF.rs .stb pa ca a.parts), (1, MF.rs .stb pb cb b.parts)]) Tryz.func177 rfl (by kernel_rfl) rfl (allS_cons rfl hpa (allS_cons rfl hpb allS_nil)) ?_
  refine WX.run ttOk rfl ?_
  have r1 : (a.parts).length ≤ bd n := (okl (ok_Name hoka)).1
  refine WX.loop (ι := Nat) ⟨fun i => (i ≤ (a.parts).length) ∧ (spec_CompareNames_L1 b a.parts 0 = spec_CompareNames_L1 b ((a.parts).drop i) i), fun i => (a.parts).length - i, fun i => [(5, .v (.int .i64 (((i : Nat) : Int)))), (3, .p 3 0), (2, .p 2 0)], fun i => [(3, ⟨36, [.slice pb ((b.parts).length) cb]⟩), (2, ⟨36, [.slice pa ((a.parts).length) ca]⟩)], fun i => [], fun i => [(0, MF.rs .stb pa ca a.parts), (1, MF.rs .stb pb cb b.parts)]⟩ 0 ⟨(Nat.zero_le _), rfl⟩
    (.cons rfl (.cons rfl (.cons rfl (.nil)))) (.cons rfl (.cons rfl (.nil))) .nil [0, 1] rfl ?_
  rintro i hpre
  have hpre_ : (i ≤ (a.parts).length) ∧ (spec_CompareNames_L1 b a.parts 0 = spec_CompareNames_L1 b ((a.parts).drop i) i) := hpre
  clear hpre
  obtain ⟨v1, v2⟩ := hpre_
  refine WX.run ttOk rfl ?_
  refine WX.cases 12 rfl (fun h1 => ?_) (fun h1 => ?_)
  · skip
    have h1d := B.dt h1
    have e1i : i < (a.parts).length := (by omega)
    obtain ⟨e1, e1h⟩ : ∃ e1, (a.parts)[i]? = some e1 := ⟨_, List.getElem?_eq_getElem e1i⟩
    have ok1 : GoT.ok n e1 := (okl (ok_Name hoka)).2 _ (List.mem_of_getElem? e1h)
    refine WX.run ttOk rfl ?_
    refine WX.cases 18 rfl (fun h2 => ?_) (fun h2 => ?_)
    · skip
      have h2d := B.dt h2
      refine WX.run ttOk rfl ?_
      refine WX.draw [] mixed ?_
      intro bs G0 hΓ0
      refine DX.takes (fuel := 9) ttOk [(0, true), (1, false), (2, true)] (by kernel_rfl) rfl ?_
      refine DX.idx 3 0 i ttOk hΓ0 (by kernel_rfl) rfl rfl rfl rfl rfl rfl rfl rfl rfl rfl rfl e1i ?_
      rintro ad1 rfl
      refine DX.ldE 4 0 2 e1 ttOk hΓ0 (by kernel_rfl) rfl rfl rfl rfl rfl rfl rfl rfl e1h (fun _ => rfl) (fun _ => rfl) ?_
      rintro ⟨⟩
      refine DX.takes (fuel := 4) ttOk [(5, true), (6, false), (7, true)] (by kernel_rfl) rfl ?_
      have e2i : i < (b.parts).length := (by first | assumption | omega)
      obtain ⟨e2, e2h⟩ : ∃ e2, (b.parts)[i]? = some e2 := ⟨_, List.getElem?_eq_getElem e2i⟩
      have ok2 : GoT.ok n e2 := (okl (ok_Name hokb)).2 _ (List.mem_of_getElem? e2h)
      refine DX.idx 8 1 i ttOk hΓ0 (by kernel_rfl) rfl rfl rfl rfl rfl rfl rfl rfl rfl rfl rfl e2i ?_
      rintro ad2 rfl
      refine DX.ldE 9 1 2 e2 ttOk hΓ0 (by kernel_rfl) rfl rfl rfl rfl rfl rfl rfl rfl e2h (fun _ => rfl) (fun _ => rfl) ?_
      rintro ⟨⟩
      refine DX.callV 10 rfl (by kernel_rfl) rfl rfl rfl rfl rfl rfl (fun _ => rfl) rfl (fun w G bs hI hΓ => f287 w n (by omega) e1 e2 ok1 ok2) ?_
      intro hq1
      refine DX.takes (fuel := 0) ttOk [(11, true)] (by kernel_rfl) rfl ?_
      refine DX.tail2 [] rfl rfl (by kernel_rfl) ?_
      refine WX.run ttOk rfl ?_
      refine WX.cases 33 rfl (fun h3 => ?_) (fun h3 => ?_)
      · skip
        have h3d := B.nt' h3
        refine WX.run ttOk rfl ?_
        have hP1 : spec_CompareNames_L1 b a.parts 0 = (some (spec_l4Cmp e1 e2)) := by rw [v2, drop_get e1h]; simp only [spec_CompareNames_L1, h2, e2h, h3, cond_true, cond_false]
        have hP2 : spec_CompareNames a b = (spec_l4Cmp e1 e2) := by simp only [spec_CompareNames, hP1, cond_true, cond_false]
        refine WX.ret ttOk rfl ?_
        intro w1 G bs hI hΓ
        rw [hP2]
        exact ⟨rfl, hq1⟩
      · skip
        have h3d := B.nf' h3
        refine WX.run ttOk rfl ?_
        refine WX.see rfl rfl rfl (fun _ hΓ => looks_arith rfl rfl rfl rfl (by unfold I64; first | omega | (dsimp only; omega))) ?_
        refine WX.run ttOk rfl ?_
        exact WX.iter (i + 1) ⟨(by omega), (by rw [v2, drop_get e1h]; simp only [spec_CompareNames_L1, h2, e2h, h3, cond_true, cond_false])⟩ (by first | (dsimp only; omega) | omega) (.cons rfl (.cons rfl (.cons rfl (.nil)))) (.cons rfl (.cons rfl (.nil))) .nil [0, 1] rfl
    · skip
      have h2d := B.df h2
      refine WX.run ttOk rfl ?_
      have hX1 : spec_CompareNames_L1 b a.parts 0 = none := by rw [v2, drop_get e1h]; simp only [spec_CompareNames_L1, h2, cond_true, cond_false]
      refine WX.cases 35 rfl (fun h4 => ?_) (fun h4 => ?_)
      · skip
        have h4d := B.dt h4
        refine WX.run ttOk rfl ?_
        have hP3 : spec_CompareNames a b = (-1) := by simp only [spec_CompareNames, hX1, h4, cond_true, cond_false]
        refine WX.ret ttOk rfl ?_
        intro w1 G bs hI hΓ
        rw [hP3]
        exact ⟨rfl, (show I64 (-1) from (by unfold I64; omega))⟩
      · skip
        have h4d := B.df h4
        refine WX.run ttOk rfl ?_
        refine WX.cases 43 rfl (fun h5 => ?_) (fun h5 => ?_)
        · skip
          have h5d := B.dt h5
          refine WX.run ttOk rfl ?_
          have hP4 : spec_CompareNames a b = 1 := by simp only [spec_CompareNames, hX1, h4, h5, cond_true, cond_false]
          refine WX.ret ttOk rfl ?_
          intro w1 G bs hI hΓ
          rw [hP4]
          exact ⟨rfl, (show I64 1 from (by unfold I64; omega))⟩
        · skip
          have h5d := B.df h5
          refine WX.run ttOk rfl ?_
          have hP5 : spec_CompareNames a b = 0 := by simp only [spec_CompareNames, hX1, h4, h5, cond_true, cond_false]
          refine WX.ret ttOk rfl ?_
          intro w1 G bs hI hΓ
          rw [hP5]
          exact ⟨rfl, (show I64 0 from (by unfold I64; omega))⟩
  · skip
    have h1d := B.df h1
    refine WX.run ttOk rfl ?_
    have hX2 : spec_CompareNames_L1 b a.parts 0 = none := by rw [v2, List.drop_eq_nil_of_le (show (a.parts).length ≤ i by omega)]; simp only [spec_CompareNames_L1, cond_true, cond_false]
    refine WX.cases 35 rfl (fun h6 => ?_) (fun h6 => ?_)
    · skip
      have h6d := B.dt h6
      refine WX.run ttOk rfl ?_
      have hP6 : spec_CompareNames a b = (-1) := by simp only [spec_CompareNames, hX2, h6, cond_true, cond_false]
      refine WX.ret ttOk rfl ?_
      intro w1 G bs hI hΓ
      rw [hP6]
      exact ⟨rfl, (show I64 (-1) from (by unfold I64; omega))⟩
    · skip
      have h6d := B.df h6
      refine WX.run ttOk rfl ?_
      refine WX.cases 43 rfl (fun h7 => ?_) (fun h7 => ?_)
      · skip
        have h7d := B.dt h7
        refine WX.run ttOk rfl ?_
        have hP7 : spec_CompareNames a b = 1 := by simp only [spec_CompareNames, hX2, h6, h7, cond_true, cond_false]
        refine WX.ret ttOk rfl ?_
        intro w1 G bs hI hΓ
        rw [hP7]
        exact ⟨rfl, (show I64 1 from (by unfold I64; omega))⟩
      · skip
        have h7d := B.df h7
        refine WX.run ttOk rfl ?_
        have hP8 : spec_CompareNames a b = 0 := by simp only [spec_CompareNames, hX2, h6, h7, cond_true, cond_false]
        refine WX.ret ttOk rfl ?_
        intro w1 G bs hI hΓ
        rw [hP8]
        exact ⟨rfl, (show I64 0 from (by unfold I64; omega))⟩
theorem f92 (w : World) (n : Nat) (hn : n + 0 ≤ 9) (a : Name) (pa : Option Addr) (ca : Nat) (hpa : RdSl (hp w) pa ca a.parts) (b : Name) (pb : Option Addr) (cb : Nat) (hpb : RdSl (hp w) pb cb b.parts) (hoka : GoT.ok n a) (hokb : GoT.ok n b) :
    Does Tryz.prog 92 #[.agg #[.slice pa ((a.parts).length) ca], .agg #[.slice pb ((b.parts).length) cb]] w emp (fun (rv : Value) (_ : World) => rv = .bool (spec_EqualNames a b) ∧ True) := by
  have hbP := bd_pos n
  have hbB := bd_big (n := n) (by omega)
  refine WX.enter (tt := tt) (Γ := [(0, MF.rs .stb pa ca a.parts), (1, MF.rs .stb pb cb b.parts)]) Tryz.func92 rfl (by kernel_rfl) rfl (allS_cons rfl hpa (allS_cons rfl hpb allS_nil)) ?_
  refine WX.run ttOk rfl ?_
  refine WX.callV rfl rfl rfl rfl rfl (fun _ => rfl) rfl (fun w G bs hI hΓ => f177 w n (by omega) a pa ca (hΓ.get 0 rfl) b pb cb (hΓ.get 1 rfl) hoka hokb) ?_
  intro hq1
  refine WX.run ttOk rfl ?_
  have hP1 : spec_EqualNames a b = ((spec_CompareNames a b) == 0) := by simp only [spec_EqualNames, cond_true, cond_false]
  refine WX.ret ttOk rfl ?_
  intro w1 G bs hI hΓ
  rw [hP1]
  exact ⟨rfl, trivial⟩
theorem f320 (w : World) (n : Nat) (hn : n + 0 ≤ 9) (a : (List UInt8)) (pa : Option Addr) (ca : Nat) (hpa : RdSl (hp w) pa ca a) (b : (List UInt8)) (pb : Option Addr) (cb : Nat) (hpb : RdSl (hp w) pb cb b) (hoka : GoT.ok n a) (hokb : GoT.ok n b) :
    Does Tryz.prog 320 #[.slice pa ((a).length) ca, .slice pb ((b).length) cb] w emp (fun (rv : Value) (_ : World) => rv = .bool (spec_EqualBytes a b) ∧ True) := by
  refine WX.enter (tt := tt) (Γ := [(0, MF.rs .stb pa ca a), (1, MF.rs .stb pb cb b)]) Tryz.func320 rfl (by kernel_rfl) rfl (allS_cons rfl hpa (allS_cons rfl hpb allS_nil)) ?_
  refine WX.run ttOk rfl ?_
  refine WX.see rfl rfl rfl (fun _ hΓ => looks_toStr ttOk (hΓ.get 0 rfl) rfl rfl rfl rfl rfl rfl rfl rfl rfl) ?_
  refine WX.run ttOk rfl ?_
  refine WX.see rfl rfl rfl (fun _ hΓ => looks_toStr ttOk (hΓ.get 1 rfl) rfl rfl rfl rfl rfl rfl rfl rfl rfl) ?_
  refine WX.run ttOk rfl ?_
  have hP1 : spec_EqualBytes a b = (((bstr a)).toList == ((bstr b)).toList) := by simp only [spec_EqualBytes, cond_true, cond_false]
  refine WX.ret ttOk rfl ?_
  intro w1 G bs hI hΓ
  rw [hP1]
  exact ⟨rfl, trivial⟩
theorem f238 (w : World) (n : Nat) (hn : n + 0 ≤ 9) (a : DataP) (paName : Option Addr) (caName : Nat) (hpaName : RdSl (hp w) paName caName a.name.parts) (paContent : Option Addr) (caContent : Nat) (hpaContent : RdSl (hp w) paContent caContent a.content) (paKeyName : Option Addr) (caKeyName : Nat) (hpaKeyName : RdSl (hp w) paKeyName caKeyName a.keyName.parts) (b : DataP) (pbName : Option Addr) (cbName : Nat) (hpbName : RdSl (hp w) pbName cbName b.name.parts) (pbContent : Option Addr) (cbContent : Nat) (hpbContent : RdSl (hp w) pbContent cbContent b.content) (pbKeyName : Option Addr) (cbKeyName : Nat) (hpbKeyName : RdSl (hp w) pbKeyName cbKeyName b.keyName.parts) (hoka : GoT.ok n a) (hokb : GoT.ok n b) :
    Does Tryz.prog 238 #[.agg #[.slice paName ((a.name.parts).length) caName, .slice paContent ((a.content).length) caContent, .slice paKeyName ((a.keyName.parts).length) caKeyName, .int .i64 (a.freshUntil), .int .i64 (a.signature)], .agg #[.slice pbName ((b.name.parts).length) cbName, .slice pbContent ((b.content).length) cbContent, .slice pbKeyName ((b.keyName.parts).length) cbKeyName, .int .i64 (b.freshUntil), .int .i64 (b.signature)]] w emp (fun (rv : Value) (_ : World) => rv = .bool (impl_EqualData a b) ∧ True) := by
  have hbP := bd_pos n
  have hbB := bd_big (n := n) (by omega)
  refine WX.enter (tt := tt) (Γ := [(0, MF.rs .stb paName caName a.name.parts), (1, MF.rs .stb paContent caContent a.content), (2, MF.rs .stb paKeyName caKeyName a.keyName.parts), (3, MF.rs .stb pbName cbName b.name.parts), (4, MF.rs .stb pbContent cbContent b.content), (5, MF.rs .stb pbKeyName cbKeyName b.keyName.parts)]) Tryz.func238 rfl (by kernel_rfl) rfl (allS_cons rfl hpaName (allS_cons rfl hpaContent (allS_cons rfl hpaKeyName (allS_cons rfl hpbName (allS_cons rfl hpbContent (allS_cons rfl hpbKeyName allS_nil)))))) ?_
  refine WX.run ttOk rfl ?_
  refine WX.callV rfl rfl rfl rfl rfl (fun _ => rfl) rfl (fun w G bs hI hΓ => f100 w n (by omega) a.name paName caName (hΓ.get 0 rfl) b.name pbName cbName (hΓ.get 3 rfl) ((ok_DataP hoka).1) ((ok_DataP hokb).1)) ?_
  intro hq1
  refine WX.run ttOk rfl ?_
  refine WX.cases 10 rfl (fun h1 => ?_) (fun h1 => ?_)
  · skip
    refine WX.run ttOk rfl ?_
    refine WX.callV rfl rfl rfl rfl rfl (fun _ => rfl) rfl (fun w G bs hI hΓ => f328 w n (by omega) a.content paContent caContent (hΓ.get 1 rfl) b.content pbContent cbContent (hΓ.get 4 rfl) ((ok_DataP hoka).2.1) ((ok_DataP hokb).2.1)) ?_
    intro hq2
    refine WX.run ttOk rfl ?_
    refine WX.cases 17 rfl (fun h2 => ?_) (fun h2 => ?_)
    · skip
      refine WX.run ttOk rfl ?_
      refine WX.callV rfl rfl rfl rfl rfl (fun _ => rfl) rfl (fun w G bs hI hΓ => f100 w n (by omega) a.keyName paKeyName caKeyName (hΓ.get 2 rfl) b.keyName pbKeyName cbKeyName (hΓ.get 5 rfl) ((ok_DataP hoka).2.2.1) ((ok_DataP hokb).2.2.1)) ?_
      intro hq3
      refine WX.run ttOk rfl ?_
      refine WX.cases 24 rfl (fun h3 => ?_) (fun h3 => ?_)
      · skip
        refine WX.run ttOk rfl ?_
        refine WX.cases 31 rfl (fun h4 => ?_) (fun h4 => ?_)
        · skip
          have h4d := B.et h4
          refine WX.run ttOk rfl ?_
          have hP1 : impl_EqualData a b = (a.signature == b.signature) := by simp only [impl_EqualData, h1, h2, h3, h4, cond_true, cond_false]
          refine WX.ret ttOk rfl ?_
          intro w1 G bs hI hΓ
          rw [hP1]
          exact ⟨rfl, trivial⟩
        · skip
          have h4d := B.ef h4
          refine WX.run ttOk rfl ?_
          have hP2 : impl_EqualData a b = false := by simp only [impl_EqualData, h1, h2, h3, h4, cond_true, cond_false]
          refine WX.ret ttOk rfl ?_
          intro w1 G bs hI hΓ
          rw [hP2]
          exact ⟨rfl, trivial⟩
      · skip
        refine WX.run ttOk rfl ?_
        have hP3 : impl_EqualData a b = false := by simp only [impl_EqualData, h1, h2, h3, cond_true, cond_false]
        refine WX.ret ttOk rfl ?_
        intro w1 G bs hI hΓ
        rw [hP3]
        exact ⟨rfl, trivial⟩
    · skip
      refine WX.run ttOk rfl ?_
      have hP4 : impl_EqualData a b = false := by simp only [impl_EqualData, h1, h2, cond_true, cond_false]
      refine WX.ret ttOk rfl ?_
      intro w1 G bs hI hΓ
      rw [hP4]
      exact ⟨rfl, trivial⟩
  · skip
    refine WX.run ttOk rfl ?_
    have hP5 : impl_EqualData a b = false := by simp only [impl_EqualData, h1, cond_true, cond_false]
    refine WX.ret ttOk rfl ?_
    intro w1 G bs hI hΓ
    rw [hP5]
    exact ⟨rfl, trivial⟩
theorem f227 (w : World) (n : Nat) (hn : n + 0 ≤ 9) (a : DataP) (paName : Option Addr) (caName : Nat) (hpaName : RdSl (hp w) paName caName a.name.parts) (paContent : Option Addr) (caContent : Nat) (hpaContent : RdSl (hp w) paContent caContent a.content) (paKeyName : Option Addr) (caKeyName : Nat) (hpaKeyName : RdSl (hp w) paKeyName caKeyName a.keyName.parts) (b : DataP) (pbName : Option Addr) (cbName : Nat) (hpbName : RdSl (hp w) pbName cbName b.name.parts) (pbContent : Option Addr) (cbContent : Nat) (hpbContent : RdSl (hp w) pbContent cbContent b.content) (pbKeyName : Option Addr) (cbKeyName : Nat) (hpbKeyName : RdSl (hp w) pbKeyName cbKeyName b.keyName.parts) (hoka : GoT.ok n a) (hokb : GoT.ok n b) :
    Does Tryz.prog 227 #[.agg #[.slice paName ((a.name.parts).length) caName, .slice paContent ((a.content).length) caContent, .slice paKeyName ((a.keyName.parts).length) caKeyName, .int .i64 (a.freshUntil), .int .i64 (a.signature)], .agg #[.slice pbName ((b.name.parts).length) cbName, .slice pbContent ((b.content).length) cbContent, .slice pbKeyName ((b.keyName.parts).length) cbKeyName, .int .i64 (b.freshUntil), .int .i64 (b.signature)]] w emp (fun (rv : Value) (_ : World) => rv = .bool (spec_EqualData a b) ∧ True) := by
  have hbP := bd_pos n
  have hbB := bd_big (n := n) (by omega)
  refine WX.enter (tt := tt) (Γ := [(0, MF.rs .stb paName caName a.name.parts), (1, MF.rs .stb paContent caContent a.content), (2, MF.rs .stb paKeyName caKeyName a.keyName.parts), (3, MF.rs .stb pbName cbName b.name.parts), (4, MF.rs .stb pbContent cbContent b.content), (5, MF.rs .stb pbKeyName cbKeyName b.keyName.parts)]) Tryz.func227 rfl (by kernel_rfl) rfl (allS_cons rfl hpaName (allS_cons rfl hpaContent (allS_cons rfl hpaKeyName (allS_cons rfl hpbName (allS_cons rfl hpbContent (allS_cons rfl hpbKeyName allS_nil)))))) ?_
  refine WX.run ttOk rfl ?_
  refine WX.callV rfl rfl rfl rfl rfl (fun _ => rfl) rfl (fun w G bs hI hΓ => f92 w n (by omega) a.name paName caName (hΓ.get 0 rfl) b.name pbName cbName (hΓ.get 3 rfl) ((ok_DataP hoka).1) ((ok_DataP hokb).1)) ?_
  intro hq1
  refine WX.run ttOk rfl ?_
  refine WX.cases 10 rfl (fun h1 => ?_) (fun h1 => ?_)
  · skip
    refine WX.run ttOk rfl ?_
    refine WX.callV rfl rfl rfl rfl rfl (fun _ => rfl) rfl (fun w G bs hI hΓ => f320 w n (by omega) a.content paContent caContent (hΓ.get 1 rfl) b.content pbContent cbContent (hΓ.get 4 rfl) ((ok_DataP hoka).2.1) ((ok_DataP hokb).2.1)) ?_
    intro hq2
    refine WX.run ttOk rfl ?_
    refine WX.cases 17 rfl (fun h2 => ?_) (fun h2 => ?_)
    · skip
      refine WX.run ttOk rfl ?_
      refine WX.callV rfl rfl rfl rfl rfl (fun _ => rfl) rfl (fun w G bs hI hΓ => f92 w n (by omega) a.keyName paKeyName caKeyName (hΓ.get 2 rfl) b.keyName pbKeyName cbKeyName (hΓ.get 5 rfl) ((ok_DataP hoka).2.2.1) ((ok_DataP hokb).2.2.1)) ?_
      intro hq3
      refine WX.run ttOk rfl ?_
      refine WX.cases 24 rfl (fun h3 => ?_) (fun h3 => ?_)
      · skip
        refine WX.run ttOk rfl ?_
        refine WX.cases 31 rfl (fun h4 => ?_) (fun h4 => ?_)
        · skip
          have h4d := B.et h4
          refine WX.run ttOk rfl ?_
          have hP1 : spec_EqualData a b = (a.signature == b.signature) := by simp only [spec_EqualData, h1, h2, h3, h4, cond_true, cond_false]
          refine WX.ret ttOk rfl ?_
          intro w1 G bs hI hΓ
          rw [hP1]
          exact ⟨rfl, trivial⟩
        · skip
          have h4d := B.ef h4
          refine WX.run ttOk rfl ?_
          have hP2 : spec_EqualData a b = false := by simp only [spec_EqualData, h1, h2, h3, h4, cond_true, cond_false]
          refine WX.ret ttOk rfl ?_
          intro w1 G bs hI hΓ
          rw [hP2]
          exact ⟨rfl, trivial⟩
      · skip
        refine WX.run ttOk rfl ?_
        have hP3 : spec_EqualData a b = false := by simp only [spec_EqualData, h1, h2, h3, cond_true, cond_false]
        refine WX.ret ttOk rfl ?_
        intro w1 G bs hI hΓ
        rw [hP3]
        exact ⟨rfl, trivial⟩
    · skip
      refine WX.run ttOk rfl ?_
      have hP4 : spec_EqualData a b = false := by simp only [spec_EqualData, h1, h2, cond_true, cond_false]
      refine WX.ret ttOk rfl ?_
      intro w1 G bs hI hΓ
      rw [hP4]
      exact ⟨rfl, trivial⟩
  · skip
    refine WX.run ttOk rfl ?_
    have hP5 : spec_EqualData a b = false := by simp only [spec_EqualData, h1, cond_true, cond_false]
    refine WX.ret ttOk rfl ?_
    intro w1 G bs hI hΓ
    rw [hP5]
    exact ⟨rfl, trivial⟩
theorem f140 (w : World) (n : Nat) (hn : n + 0 ≤ 9) (a : Consumer) (paName : Option Addr) (caName : Nat) (hpaName : RdSl (hp w) paName caName a.name.parts) (paDataName : Option Addr) (caDataName : Nat) (hpaDataName : RdSl (hp w) paDataName caDataName a.data.name.parts) (paDataContent : Option Addr) (caDataContent : Nat) (hpaDataContent : RdSl (hp w) paDataContent caDataContent a.data.content) (paDataKeyName : Option Addr) (caDataKeyName : Nat) (hpaDataKeyName : RdSl (hp w) paDataKeyName caDataKeyName a.data.keyName.parts) (b : Consumer) (pbName : Option Addr) (cbName : Nat) (hpbName : RdSl (hp w) pbName cbName b.name.parts) (pbDataName : Option Addr) (cbDataName : Nat) (hpbDataName : RdSl (hp w) pbDataName cbDataName b.data.name.parts) (pbDataContent : Option Addr) (cbDataContent : Nat) (hpbDataContent : RdSl (hp w) pbDataContent cbDataContent b.data.content) (pbDataKeyName : Option Addr) (cbDataKeyName : Nat) (hpbDataKeyName : RdSl (hp w) pbDataKeyName cbDataKeyName b.data.keyName.parts) (hoka : GoT.ok n a) (hokb : GoT.ok n b) :
    Does Tryz.prog 140 #[.agg #[.int .i64 (a.node), .int .i64 (a.index), .slice paName ((a.name.parts).length) caName, .int .i64 (a.attempts), .int .i64 (a.wait), .bool a.satisfied, .slice paDataName ((a.data.name.parts).length) caDataName, .slice paDataContent ((a.data.content).length) caDataContent, .slice paDataKeyName ((a.data.keyName.parts).length) caDataKeyName, .int .i64 (a.data.freshUntil), .int .i64 (a.data.signature)], .agg #[.int .i64 (b.node), .int .i64 (b.index), .slice pbName ((b.name.parts).length) cbName, .int .i64 (b.attempts), .int .i64 (b.wait), .bool b.satisfied, .slice pbDataName ((b.data.name.parts).length) cbDataName, .slice pbDataContent ((b.data.content).length) cbDataContent, .slice pbDataKeyName ((b.data.keyName.parts).length) cbDataKeyName, .int .i64 (b.data.freshUntil), .int .i64 (b.data.signature)]] w emp (fun (rv : Value) (_ : World) => rv = .bool (impl_EqualConsumers a b) ∧ True) := by
  have hbP := bd_pos n
  have hbB := bd_big (n := n) (by omega)
  refine WX.enter (tt := tt) (Γ := [(0, MF.rs .stb paName caName a.name.parts), (1, MF.rs .stb paDataName caDataName a.data.name.parts), (2, MF.rs .stb paDataContent caDataContent a.data.content), (3, MF.rs .stb paDataKeyName caDataKeyName a.data.keyName.parts), (4, MF.rs .stb pbName cbName b.name.parts), (5, MF.rs .stb pbDataName cbDataName b.data.name.parts), (6, MF.rs .stb pbDataContent cbDataContent b.data.content), (7, MF.rs .stb pbDataKeyName cbDataKeyName b.data.keyName.parts)]) Tryz.func140 rfl (by kernel_rfl) rfl (allS_cons rfl hpaName (allS_cons rfl hpaDataName (allS_cons rfl hpaDataContent (allS_cons rfl hpaDataKeyName (allS_cons rfl hpbName (allS_cons rfl hpbDataName (allS_cons rfl hpbDataContent (allS_cons rfl hpbDataKeyName allS_nil)))))))) ?_
  refine WX.run ttOk rfl ?_
  refine WX.cases 10 rfl (fun h1 => ?_) (fun h1 => ?_)
  · skip
    have h1d := B.et h1
    refine WX.run ttOk rfl ?_
    refine WX.cases 17 rfl (fun h2 => ?_) (fun h2 => ?_)
    · skip
      have h2d := B.et h2
      refine WX.run ttOk rfl ?_
      refine WX.callV rfl rfl rfl rfl rfl (fun _ => rfl) rfl (fun w G bs hI hΓ => f100 w n (by omega) a.name paName caName (hΓ.get 0 rfl) b.name pbName cbName (hΓ.get 4 rfl) ((ok_Consumer hoka).2.2.1) ((ok_Consumer hokb).2.2.1)) ?_
      intro hq1
      refine WX.run ttOk rfl ?_
      refine WX.cases 24 rfl (fun h3 => ?_) (fun h3 => ?_)
      · skip
        refine WX.run ttOk rfl ?_
        refine WX.cases 31 rfl (fun h4 => ?_) (fun h4 => ?_)
        · skip
          have h4d := B.et h4
          refine WX.run ttOk rfl ?_
          refine WX.cases 38 rfl (fun h5 => ?_) (fun h5 => ?_)
          · skip
            have h5d := B.et h5
            refine WX.run ttOk rfl ?_
            refine WX.see rfl rfl rfl (fun _ hΓ => looks_beq ttOk rfl rfl rfl rfl rfl rfl) ?_
            refine WX.run ttOk rfl ?_
            refine WX.cases 45 rfl (fun h6 => ?_) (fun h6 => ?_)
            · skip
              refine WX.run ttOk rfl ?_
              refine WX.callV rfl rfl rfl rfl rfl (fun _ => rfl) rfl (fun w G bs hI hΓ => f238 w n (by omega) a.data paDataName caDataName (hΓ.get 1 rfl) paDataContent caDataContent (hΓ.get 2 rfl) paDataKeyName caDataKeyName (hΓ.get 3 rfl) b.data pbDataName cbDataName (hΓ.get 5 rfl) pbDataContent cbDataContent (hΓ.get 6 rfl) pbDataKeyName cbDataKeyName (hΓ.get 7 rfl) ((ok_Consumer hoka).2.2.2.2.2.2) ((ok_Consumer hokb).2.2.2.2.2.2)) ?_
              intro hq2
              refine WX.run ttOk rfl ?_
              have hP1 : impl_EqualConsumers a b = (impl_EqualData a.data b.data) := by simp only [impl_EqualConsumers, h1, h2, h3, h4, h5, h6, cond_true, cond_false]
              refine WX.ret ttOk rfl ?_
              intro w1 G bs hI hΓ
              rw [hP1]
              exact ⟨rfl, trivial⟩
            · skip
              refine WX.run ttOk rfl ?_
              have hP2 : impl_EqualConsumers a b = false := by simp only [impl_EqualConsumers, h1, h2, h3, h4, h5, h6, cond_true, cond_false]
              refine WX.ret ttOk rfl ?_
              intro w1 G bs hI hΓ
              rw [hP2]
              exact ⟨rfl, trivial⟩
          · skip
            have h5d := B.ef h5
            refine WX.run ttOk rfl ?_
            have hP3 : impl_EqualConsumers a b = false := by simp only [impl_EqualConsumers, h1, h2, h3, h4, h5, cond_true, cond_false]
            refine WX.ret ttOk rfl ?_
            intro w1 G bs hI hΓ
            rw [hP3]
            exact ⟨rfl, trivial⟩
        · skip
          have h4d := B.ef h4
          refine WX.run ttOk rfl ?_
          have hP4 : impl_EqualConsumers a b = false := by simp only [impl_EqualConsumers, h1, h2, h3, h4, cond_true, cond_false]
          refine WX.ret ttOk rfl ?_
          intro w1 G bs hI hΓ
          rw [hP4]
          exact ⟨rfl, trivial⟩
      · skip
        refine WX.run ttOk rfl ?_
        have hP5 : impl_EqualConsumers a b = false := by simp only [impl_EqualConsumers, h1, h2, h3, cond_true, cond_false]
        refine WX.ret ttOk rfl ?_
        intro w1 G bs hI hΓ
        rw [hP5]
        exact ⟨rfl, trivial⟩
    · skip
      have h2d := B.ef h2
      refine WX.run ttOk rfl ?_
      have hP6 : impl_EqualConsumers a b = false := by simp only [impl_EqualConsumers, h1, h2, cond_true, cond_false]
      refine WX.ret ttOk rfl ?_
      intro w1 G bs hI hΓ
      rw [hP6]
      exact ⟨rfl, trivial⟩
  · skip
    have h1d := B.ef h1
    refine WX.run ttOk rfl ?_
    have hP7 : impl_EqualConsumers a b = false := by simp only [impl_EqualConsumers, h1, cond_true, cond_false]
    refine WX.ret ttOk rfl ?_
    intro w1 G bs hI hΓ
    rw [hP7]
    exact ⟨rfl, trivial⟩
theorem f124 (w : World) (n : Nat) (hn : n + 0 ≤ 9) (a : Consumer) (paName : Option Addr) (caName : Nat) (hpaName : RdSl (hp w) paName caName a.name.parts) (paDataName : Option Addr) (caDataName : Nat) (hpaDataName : RdSl (hp w) paDataName caDataName a.data.name.parts) (paDataContent : Option Addr) (caDataContent : Nat) (hpaDataContent : RdSl (hp w) paDataContent caDataContent a.data.content) (paDataKeyName : Option Addr) (caDataKeyName : Nat) (hpaDataKeyName : RdSl (hp w) paDataKeyName caDataKeyName a.data.keyName.parts) (b : Consumer) (pbName : Option Addr) (cbName : Nat) (hpbName : RdSl (hp w) pbName cbName b.name.parts) (pbDataName : Option Addr) (cbDataName : Nat) (hpbDataName : RdSl (hp w) pbDataName cbDataName b.data.name.parts) (pbDataContent : Option Addr) (cbDataContent : Nat) (hpbDataContent : RdSl (hp w) pbDataContent cbDataContent b.data.content) (pbDataKeyName : Option Addr) (cbDataKeyName : Nat) (hpbDataKeyName : RdSl (hp w) pbDataKeyName cbDataKeyName b.data.keyName.parts) (hoka : GoT.ok n a) (hokb : GoT.ok n b) :
    Does Tryz.prog 124 #[.agg #[.int .i64 (a.node), .int .i64 (a.index), .slice paName ((a.name.parts).length) caName, .int .i64 (a.attempts), .int .i64 (a.wait), .bool a.satisfied, .slice paDataName ((a.data.name.parts).length) caDataName, .slice paDataContent ((a.data.content).length) caDataContent, .slice paDataKeyName ((a.data.keyName.parts).length) caDataKeyName, .int .i64 (a.data.freshUntil), .int .i64 (a.data.signature)], .agg #[.int .i64 (b.node), .int .i64 (b.index), .slice pbName ((b.name.parts).length) cbName, .int .i64 (b.attempts), .int .i64 (b.wait), .bool b.satisfied, .slice pbDataName ((b.data.name.parts).length) cbDataName, .slice pbDataContent ((b.data.content).length) cbDataContent, .slice pbDataKeyName ((b.data.keyName.parts).length) cbDataKeyName, .int .i64 (b.data.freshUntil), .int .i64 (b.data.signature)]] w emp (fun (rv : Value) (_ : World) => rv = .bool (spec_EqualConsumers a b) ∧ True) := by
  have hbP := bd_pos n
  have hbB := bd_big (n := n) (by omega)
  refine WX.enter (tt := tt) (Γ := [(0, MF.rs .stb paName caName a.name.parts), (1, MF.rs .stb paDataName caDataName a.data.name.parts), (2, MF.rs .stb paDataContent caDataContent a.data.content), (3, MF.rs .stb paDataKeyName caDataKeyName a.data.keyName.parts), (4, MF.rs .stb pbName cbName b.name.parts), (5, MF.rs .stb pbDataName cbDataName b.data.name.parts), (6, MF.rs .stb pbDataContent cbDataContent b.data.content), (7, MF.rs .stb pbDataKeyName cbDataKeyName b.data.keyName.parts)]) Tryz.func124 rfl (by kernel_rfl) rfl (allS_cons rfl hpaName (allS_cons rfl hpaDataName (allS_cons rfl hpaDataContent (allS_cons rfl hpaDataKeyName (allS_cons rfl hpbName (allS_cons rfl hpbDataName (allS_cons rfl hpbDataContent (allS_cons rfl hpbDataKeyName allS_nil)))))))) ?_
  refine WX.run ttOk rfl ?_
  refine WX.cases 10 rfl (fun h1 => ?_) (fun h1 => ?_)
  · skip
    have h1d := B.et h1
    refine WX.run ttOk rfl ?_
    refine WX.cases 17 rfl (fun h2 => ?_) (fun h2 => ?_)
    · skip
      have h2d := B.et h2
      refine WX.run ttOk rfl ?_
      refine WX.callV rfl rfl rfl rfl rfl (fun _ => rfl) rfl (fun w G bs hI hΓ => f92 w n (by omega) a.name paName caName (hΓ.get 0 rfl) b.name pbName cbName (hΓ.get 4 rfl) ((ok_Consumer hoka).2.2.1) ((ok_Consumer hokb).2.2.1)) ?_
      intro hq1
      refine WX.run ttOk rfl ?_
      refine WX.cases 24 rfl (fun h3 => ?_) (fun h3 => ?_)
      · skip
        refine WX.run ttOk rfl ?_
        refine WX.cases 31 rfl (fun h4 => ?_) (fun h4 => ?_)
        · skip
          have h4d := B.et h4
          refine WX.run ttOk rfl ?_
          refine WX.cases 38 rfl (fun h5 => ?_) (fun h5 => ?_)
          · skip
            have h5d := B.et h5
            refine WX.run ttOk rfl ?_
            refine WX.see rfl rfl rfl (fun _ hΓ => looks_beq ttOk rfl rfl rfl rfl rfl rfl) ?_
            refine WX.run ttOk rfl ?_
            refine WX.cases 45 rfl (fun h6 => ?_) (fun h6 => ?_)
            · skip
              refine WX.run ttOk rfl ?_
              refine WX.callV rfl rfl rfl rfl rfl (fun _ => rfl) rfl (fun w G bs hI hΓ => f227 w n (by omega) a.data paDataName caDataName (hΓ.get 1 rfl) paDataContent caDataContent (hΓ.get 2 rfl) paDataKeyName caDataKeyName (hΓ.get 3 rfl) b.data pbDataName cbDataName (hΓ.get 5 rfl) pbDataContent cbDataContent (hΓ.get 6 rfl) pbDataKeyName cbDataKeyName (hΓ.get 7 rfl) ((ok_Consumer hoka).2.2.2.2.2.2) ((ok_Consumer hokb).2.2.2.2.2.2)) ?_
              intro hq2
              refine WX.run ttOk rfl ?_
              have hP1 : spec_EqualConsumers a b = (spec_EqualData a.data b.data) := by simp only [spec_EqualConsumers, h1, h2, h3, h4, h5, h6, cond_true, cond_false]
              refine WX.ret ttOk rfl ?_
              intro w1 G bs hI hΓ
              rw [hP1]
              exact ⟨rfl, trivial⟩
            · skip
              refine WX.run ttOk rfl ?_
              have hP2 : spec_EqualConsumers a b = false := by simp only [spec_EqualConsumers, h1, h2, h3, h4, h5, h6, cond_true, cond_false]
              refine WX.ret ttOk rfl ?_
              intro w1 G bs hI hΓ
              rw [hP2]
              exact ⟨rfl, trivial⟩
          · skip
            have h5d := B.ef h5
            refine WX.run ttOk rfl ?_
            have hP3 : spec_EqualConsumers a b = false := by simp only [spec_EqualConsumers, h1, h2, h3, h4, h5, cond_true, cond_false]
            refine WX.ret ttOk rfl ?_
            intro w1 G bs hI hΓ
            rw [hP3]
            exact ⟨rfl, trivial⟩
        · skip
          have h4d := B.ef h4
          refine WX.run ttOk rfl ?_
          have hP4 : spec_EqualConsumers a b = false := by simp only [spec_EqualConsumers, h1, h2, h3, h4, cond_true, cond_false]
          refine WX.ret ttOk rfl ?_
          intro w1 G bs hI hΓ
          rw [hP4]
          exact ⟨rfl, trivial⟩
      · skip
        refine WX.run ttOk rfl ?_
        have hP5 : spec_EqualConsumers a b = false := by simp only [spec_EqualConsumers, h1, h2, h3, cond_true, cond_false]
        refine WX.ret ttOk rfl ?_
        intro w1 G bs hI hΓ
        rw [hP5]
        exact ⟨rfl, trivial⟩
    · skip
      have h2d := B.ef h2
      refine WX.run ttOk rfl ?_
      have hP6 : spec_EqualConsumers a b = false := by simp only [spec_EqualConsumers, h1, h2, cond_true, cond_false]
      refine WX.ret ttOk rfl ?_
      intro w1 G bs hI hΓ
      rw [hP6]
      exact ⟨rfl, trivial⟩
  · skip
    have h1d := B.ef h1
    refine WX.run ttOk rfl ?_
    have hP7 : spec_EqualConsumers a b = false := by simp only [spec_EqualConsumers, h1, cond_true, cond_false]
    refine WX.ret ttOk rfl ?_
    intro w1 G bs hI hΓ
    rw [hP7]
    exact ⟨rfl, trivial⟩
end Go.Proofs.YtfffongneoegbaaGreat

namespace Go.Stp
set_option linter.unusedVariables false
set_option linter.unusedSimpArgs false
def slices_EqualFunc_TableEntry_L1 (eqq : TableEntry → TableEntry → Bool) (s2 : (List TableEntry)) : List TableEntry → Nat → Option (Bool)
  | [], i => none
  | e1 :: rest_, i =>
    match (s2)[i]? with
      | none => default
      | some e2 =>
        bif (!(eqq e1 e2)) then
          (some false)
        else
          slices_EqualFunc_TableEntry_L1 eqq s2 rest_ (i + 1)
def slices_EqualFunc_TableEntry (s1 : (List TableEntry)) (s2 : (List TableEntry)) (eqq : TableEntry → TableEntry → Bool) : Bool :=
  bif ((((s1).length : Nat) : Int) != (((s2).length : Nat) : Int)) then
    false
  else
    match slices_EqualFunc_TableEntry_L1 eqq s2 s1 0 with
      | some r_ => r_
      | none =>
        true
def impl_EqualTables_c1 (x_ : TableEntry) (y : TableEntry) : Bool :=
  bif (impl_EqualNames x_.name y.name) then
    (x_.value == y.value)
  else
    false
def impl_EqualTables (a : (List TableEntry)) (b : (List TableEntry)) : Bool :=
  (slices_EqualFunc_TableEntry a b (fun e0_ e1_ => (impl_EqualTables_c1 e0_ e1_)))
def spec_EqualTables_L1 (b : (List TableEntry)) : List TableEntry → Nat → Option (Bool)
  | [], i => none
  | e1 :: rest_, i =>
    match (b)[i]? with
      | none => default
      | some e2 =>
        bif (e1.value != e2.value) then
          (some false)
        else
          bif (!(spec_EqualNames e1.name e2.name)) then
            (some false)
          else
            spec_EqualTables_L1 b rest_ (i + 1)
def spec_EqualTables (a : (List TableEntry)) (b : (List TableEntry)) : Bool :=
  bif ((((a).length : Nat) : Int) != (((b).length : Nat) : Int)) then
    false
  else
    match spec_EqualTables_L1 b a 0 with
      | some r_ => r_
      | none =>
        true
end Go.Stp

namespace Go.Proofs.YtfffongneoegbaaGreat
open Go.Stp
set_option linter.unusedVariables false
set_option linter.unusedSimpArgs false
theorem f239 (w : World) (n : Nat) (hn : n + 0 ≤ 9) (s1 : (List TableEntry)) (ps1 : Option Addr) (cs1 : Nat) (hps1 : RdSl (hp w) ps1 cs1 s1) (s2 : (List TableEntry)) (ps2 : Option Addr) (cs2 : Nat) (hps2 : RdSl (hp w) ps2 cs2 s2) (eqg : FuncId) (eqc : List Value) (eqq : TableEntry → TableEntry → Bool) (eqf : ∀ w1, Kp emp w w1 → ∀ (e0 : TableEntry) (x0 : GoT.X TableEntry), GoT.ok n e0 → All (hp w1) (GoT.fa .der e0 x0) → ∀ (e1 : TableEntry) (x1 : GoT.X TableEntry), GoT.ok n e1 → All (hp w1) (GoT.fa .der e1 x1) → Does Tryz.prog eqg ([Value.agg ⟨GoT.sh e0 x0⟩, Value.agg ⟨GoT.sh e1 x1⟩] ++ eqc).toArray w1 emp (fun rv _ => rv = .bool (eqq e0 e1) ∧ True)) (hoks1 : GoT.ok n s1) (hoks2 : GoT.ok n s2) :
    Does Tryz.prog 239 #[.slice ps1 ((s1).length) cs1, .slice ps2 ((s2).length) cs2, .func (.func eqg) #[] eqc.toArray] w emp (fun (rv : Value) (_ : World) => rv = .bool (slices_EqualFunc_TableEntry s1 s2 eqq) ∧ True) := by
  have hbP := bd_pos n
  have hbB := bd_big (n := n) (by omega)
  refine WX.enter (tt := tt) (Γ := [(0, MF.rs .stb ps1 cs1 s1), (1, MF.rs .stb ps2 cs2 s2)]) Tryz.func239 rfl (by kernel_rfl) rfl (allS_cons rfl hps1 (allS_cons rfl hps2 allS_nil)) ?_
  refine WX.run ttOk rfl ?_
  refine WX.cases 14 rfl (fun h1 => ?_) (fun h1 => ?_)
  · skip
    have h1d := B.nt' h1
    refine WX.run ttOk rfl ?_
    have hP1 : slices_EqualFunc_TableEntry s1 s2 eqq = false := by simp only [slices_EqualFunc_TableEntry, h1, cond_true, cond_false]
    refine WX.ret ttOk rfl ?_
    intro w1 G bs hI hΓ
    rw [hP1]
    exact ⟨rfl, trivial⟩
  · skip
    have h1d := B.nf' h1
    refine WX.run ttOk rfl ?_
    have r1 : (s1).length ≤ bd n := (okl hoks1).1
    refine WX.loop (ι := Nat) ⟨fun i => (i ≤ (s1).length) ∧ (slices_EqualFunc_TableEntry_L1 eqq s2 s1 0 = slices_EqualFunc_TableEntry_L1 eqq s2 ((s1).drop i) i), fun i => (s1).length - i, fun i => [(17, .v (.int .i64 (((i : Nat) : Int)))), (16, .v (.int .i64 ((((s1).length : Nat) : Int)))), (15, .v (.slice ps1 ((s1).length) cs1)), (1, .v (.slice ps2 ((s2).length) cs2)), (2, .v (.func (.func eqg) #[] eqc.toArray))], fun i => [], fun i => [], fun i => [(0, MF.rs .stb ps1 cs1 s1), (1, MF.rs .stb ps2 cs2 s2)]⟩ 0 ⟨(Nat.zero_le _), rfl⟩
      (.cons rfl (.cons rfl (.cons rfl (.cons rfl (.cons rfl (.nil)))))) .nil .nil [0, 1] rfl ?_
    rintro i hpre
    have hpre_ : (i ≤ (s1).length) ∧ (slices_EqualFunc_TableEntry_L1 eqq s2 s1 0 = slices_EqualFunc_TableEntry_L1 eqq s2 ((s1).drop i) i) := hpre
    clear hpre
    obtain ⟨v1, v2⟩ := hpre_
    refine WX.run ttOk rfl ?_
    refine WX.cases 18 rfl (fun h2 => ?_) (fun h2 => ?_)
    · skip
      have h2d := B.dt h2
      have e1i : i < (s1).length := (by omega)
      obtain ⟨e1, e1h⟩ : ∃ e1, (s1)[i]? = some e1 := ⟨_, List.getElem?_eq_getElem e1i⟩
      have ok1 : GoT.ok n e1 := (okl hoks1).2 _ (List.mem_of_getElem? e1h)
      refine WX.run ttOk rfl ?_
      refine WX.idx 0 i ttOk rfl rfl rfl rfl rfl rfl rfl rfl rfl rfl e1i ?_
      rintro ad1 rfl
      refine WX.ldE 0 2 e1 ttOk rfl rfl rfl rfl rfl rfl rfl rfl e1h (fun _ => rfl) (fun _ => rfl) ?_
      rintro ⟨⟨p1, c1⟩, ⟨⟩⟩
      refine WX.run ttOk rfl ?_
      have e2i : i < (s2).length := (by first | assumption | omega)
      obtain ⟨e2, e2h⟩ : ∃ e2, (s2)[i]? = some e2 := ⟨_, List.getElem?_eq_getElem e2i⟩
      have ok2 : GoT.ok n e2 := (okl hoks2).2 _ (List.mem_of_getElem? e2h)
      refine WX.idx 1 i ttOk rfl rfl rfl rfl rfl rfl rfl rfl rfl rfl e2i ?_
      rintro ad2 rfl
      refine WX.ldE 1 3 e2 ttOk rfl rfl rfl rfl rfl rfl rfl rfl e2h (fun _ => rfl) (fun _ => rfl) ?_
      rintro ⟨⟨p2, c2⟩, ⟨⟩⟩
      refine WX.run ttOk rfl ?_
      refine WX.callV rfl rfl rfl rfl rfl (fun _ => rfl) rfl (fun w G bs hI hΓ => eqf w hI.keep e1 ((p1, c1), ()) ok1 (All.cons (hΓ.get 2 rfl : RdSl _ _ _ _) All.nil) e2 ((p2, c2), ()) ok2 (All.cons (hΓ.get 3 rfl : RdSl _ _ _ _) All.nil)) ?_
      intro hq1
      refine WX.run ttOk rfl ?_
      refine WX.cases 30 rfl (fun h3 => ?_) (fun h3 => ?_)
      · skip
        have h3d := (B.nt h3)
        refine WX.run ttOk rfl ?_
        have hP2 : slices_EqualFunc_TableEntry_L1 eqq s2 s1 0 = (some false) := by rw [v2, drop_get e1h]; simp only [slices_EqualFunc_TableEntry_L1, e2h, h3, cond_true, cond_false]
        have hP3 : slices_EqualFunc_TableEntry s1 s2 eqq = false := by simp only [slices_EqualFunc_TableEntry, h1, hP2, cond_true, cond_false]
        refine WX.ret ttOk rfl ?_
        intro w1 G bs hI hΓ
        rw [hP3]
        exact ⟨rfl, trivial⟩
      · skip
        have h3d := (B.nf h3)
        refine WX.run ttOk rfl ?_
        refine WX.see rfl rfl rfl (fun _ hΓ => looks_arith rfl rfl rfl rfl (by unfold I64; first | omega | (dsimp only; omega))) ?_
        refine WX.run ttOk rfl ?_
        exact WX.iter (i + 1) ⟨(by omega), (by rw [v2, drop_get e1h]; simp only [slices_EqualFunc_TableEntry_L1, e2h, h3, cond_true, cond_false])⟩ (by first | (dsimp only; omega) | omega) (.cons rfl (.cons rfl (.cons rfl (.cons rfl (.cons rfl (.nil)))))) .nil .nil [0, 1] rfl
    · skip
      have h2d := B.df h2
      refine WX.run ttOk rfl ?_
      have hX1 : slices_EqualFunc_TableEntry_L1 eqq s2 s1 0 = none := by rw [v2, List.drop_eq_nil_of_le (show (s1).length ≤ i by omega)]; simp only [slices_EqualFunc_TableEntry_L1, cond_true, cond_false]
      have hP4 : slices_EqualFunc_TableEntry s1 s2 eqq = true := by simp only [slices_EqualFunc_TableEntry, h1, hX1, cond_true, cond_false]
      refine WX.ret ttOk rfl ?_
      intro w1 G bs hI hΓ
      rw [hP4]
      exact ⟨rfl, trivial⟩
theorem f240 (w : World) (n : Nat) (hn : n + 0 ≤ 9) (x_ : TableEntry) (px_Name : Option Addr) (cx_Name : Nat) (hpx_Name : RdSl (hp w) px_Name cx_Name x_.name.parts) (y : TableEntry) (pyName : Option Addr) (cyName : Nat) (hpyName : RdSl (hp w) pyName cyName y.name.parts) (hokx_ : GoT.ok n x_) (hoky : GoT.ok n y) :
    Does Tryz.prog 240 #[.agg #[.slice px_Name ((x_.name.parts).length) cx_Name, .int .i64 (x_.value)], .agg #[.slice pyName ((y.name.parts).length) cyName, .int .i64 (y.value)]] w emp (fun (rv : Value) (_ : World) => rv = .bool (impl_EqualTables_c1 x_ y) ∧ True) := by
  have hbP := bd_pos n
  have hbB := bd_big (n := n) (by omega)
  refine WX.enter (tt := tt) (Γ := [(0, MF.rs .stb px_Name cx_Name x_.name.parts), (1, MF.rs .stb pyName cyName y.name.parts)]) Tryz.func240 rfl (by kernel_rfl) rfl (allS_cons rfl hpx_Name (allS_cons rfl hpyName allS_nil)) ?_
  refine WX.run ttOk rfl ?_
  refine WX.callV rfl rfl rfl rfl rfl (fun _ => rfl) rfl (fun w G bs hI hΓ => f100 w n (by omega) x_.name px_Name cx_Name (hΓ.get 0 rfl) y.name pyName cyName (hΓ.get 1 rfl) ((ok_TableEntry hokx_).1) ((ok_TableEntry hoky).1)) ?_
  intro hq1
  refine WX.run ttOk rfl ?_
  refine WX.cases 10 rfl (fun h1 => ?_) (fun h1 => ?_)
  · skip
    refine WX.run ttOk rfl ?_
    have hP1 : impl_EqualTables_c1 x_ y = (x_.value == y.value) := by simp only [impl_EqualTables_c1, h1, cond_true, cond_false]
    refine WX.ret ttOk rfl ?_
    intro w1 G bs hI hΓ
    rw [hP1]
    exact ⟨rfl, trivial⟩
  · skip
    refine WX.run ttOk rfl ?_
    have hP2 : impl_EqualTables_c1 x_ y = false := by simp only [impl_EqualTables_c1, h1, cond_true, cond_false]
    refine WX.ret ttOk rfl ?_
    intro w1 G bs hI hΓ
    rw [hP2]
    exact ⟨rfl, trivial⟩
theorem f133 (w : World) (n : Nat) (hn : n + 0 ≤ 9) (a : (List TableEntry)) (pa : Option Addr) (ca : Nat) (hpa : RdSl (hp w) pa ca a) (b : (List TableEntry)) (pb : Option Addr) (cb : Nat) (hpb : RdSl (hp w) pb cb b) (hoka : GoT.ok n a) (hokb : GoT.ok n b) :
    Does Tryz.prog 133 #[.slice pa ((a).length) ca, .slice pb ((b).length) cb] w emp (fun (rv : Value) (_ : World) => rv = .bool (impl_EqualTables a b) ∧ True) := by
  have hbP := bd_pos n
  have hbB := bd_big (n := n) (by omega)
  refine WX.enter (tt := tt) (Γ := [(0, MF.rs .stb pa ca a), (1, MF.rs .stb pb cb b)]) Tryz.func133 rfl (by kernel_rfl) rfl (allS_cons rfl hpa (allS_cons rfl hpb allS_nil)) ?_
  refine WX.run ttOk rfl ?_
  refine WX.callV rfl rfl rfl rfl rfl (fun _ => rfl) rfl (fun w G bs hI hΓ => f239 w n (by omega) a pa ca (hΓ.get 0 rfl) b pb cb (hΓ.get 1 rfl) 240 [] (fun e0_ e1_ => (impl_EqualTables_c1 e0_ e1_)) (fun w1_ hb_ e0_ x0_ hk0_ hx0_ e1_ x1_ hk1_ hx1_ => f240 w1_ n (by omega) e0_ x0_.1.1 x0_.1.2 (hx0_ _ List.mem_cons_self) e1_ x1_.1.1 x1_.1.2 (hx1_ _ List.mem_cons_self) hk0_ hk1_) hoka hokb) ?_
  intro hq1
  refine WX.run ttOk rfl ?_
  have hP1 : impl_EqualTables a b = (slices_EqualFunc_TableEntry a b (fun e0_ e1_ => (impl_EqualTables_c1 e0_ e1_))) := by simp only [impl_EqualTables, cond_true, cond_false]
  refine WX.ret ttOk rfl ?_
  intro w1 G bs hI hΓ
  rw [hP1]
  exact ⟨rfl, trivial⟩
theorem f120 (w : World) (n : Nat) (hn : n + 0 ≤ 9) (a : (List TableEntry)) (pa : Option Addr) (ca : Nat) (hpa : RdSl (hp w) pa ca a) (b : (List TableEntry)) (pb : Option Addr) (cb : Nat) (hpb : RdSl (hp w) pb cb b) (hoka : GoT.ok n a) (hokb : GoT.ok n b) :
    Does Tryz.prog 120 #[.slice pa ((a).length) ca, .slice pb ((b).length) cb] w emp (fun (rv : Value) (_ : World) => rv = .bool (spec_EqualTables a b) ∧ True) := by
  have hbP := bd_pos n
  have hbB := bd_big (n := n) (by omega)
  refine WX.enter (tt := tt) (Γ := [(0, MF.rs .stb pa ca a), (1, MF.rs .stb pb cb b)]) Tryz.func120 rfl (by kernel_rfl) rfl (allS_cons rfl hpa (allS_cons rfl hpb allS_nil)) ?_
  refine WX.run ttOk rfl ?_
  refine WX.cases 10 rfl (fun h1 => ?_) (fun h1 => ?_)
  · skip
    have h1d := B.nt' h1
    refine WX.run ttOk rfl ?_
    have hP1 : spec_EqualTables a b = false := by simp only [spec_EqualTables, h1, cond_true, cond_false]
    refine WX.ret ttOk rfl ?_
    intro w1 G bs hI hΓ
    rw [hP1]
    exact ⟨rfl, trivial⟩
  · skip
    have h1d := B.nf' h1
    refine WX.run ttOk rfl ?_
    have r1 : (a).length ≤ bd n := (okl hoka).1
    refine WX.loop (ι := Nat) ⟨fun i => (i ≤ (a).length) ∧ (spec_EqualTables_L1 b a 0 = spec_EqualTables_L1 b ((a).drop i) i), fun i => (a).length - i, fun i => [(5, .v (.int .i64 (((i : Nat) : Int)))), (0, .v (.slice pa ((a).length) ca)), (1, .v (.slice pb ((b).length) cb))], fun i => [], fun i => [], fun i => [(0, MF.rs .stb pa ca a), (1, MF.rs .stb pb cb b)]⟩ 0 ⟨(Nat.zero_le _), rfl⟩
      (.cons rfl (.cons rfl (.cons rfl (.nil)))) .nil .nil [0, 1] rfl ?_
    rintro i hpre
    have hpre_ : (i ≤ (a).length) ∧ (spec_EqualTables_L1 b a 0 = spec_EqualTables_L1 b ((a).drop i) i) := hpre
    clear hpre
    obtain ⟨v1, v2⟩ := hpre_
    refine WX.run ttOk rfl ?_
    refine WX.cases 14 rfl (fun h2 => ?_) (fun h2 => ?_)
    · skip
      have h2d := B.dt h2
      have e1i : i < (a).length := (by omega)
      obtain ⟨e1, e1h⟩ : ∃ e1, (a)[i]? = some e1 := ⟨_, List.getElem?_eq_getElem e1i⟩
      have ok1 : GoT.ok n e1 := (okl hoka).2 _ (List.mem_of_getElem? e1h)
      refine WX.run ttOk rfl ?_
      refine WX.draw [] mixed ?_
      intro bs G0 hΓ0
      refine DX.takes (fuel := 23) ttOk [(0, true), (1, true)] (by kernel_rfl) rfl ?_
      refine DX.idx 2 0 i ttOk hΓ0 (by kernel_rfl) rfl rfl rfl rfl rfl rfl rfl rfl rfl rfl rfl e1i ?_
      rintro ad1 rfl
      refine DX.takes (fuel := 21) ttOk [(3, true)] (by kernel_rfl) rfl ?_
      refine DX.ldE 4 0 2 e1 ttOk hΓ0 (by kernel_rfl) rfl rfl rfl rfl rfl rfl rfl rfl e1h (fun _ => rfl) (fun _ => rfl) ?_
      rintro ⟨⟨p1, c1⟩, ⟨⟩⟩
      refine DX.takes (fuel := 18) ttOk [(5, true), (6, true)] (by kernel_rfl) rfl ?_
      have e2i : i < (b).length := (by first | assumption | omega)
      obtain ⟨e2, e2h⟩ : ∃ e2, (b)[i]? = some e2 := ⟨_, List.getElem?_eq_getElem e2i⟩
      have ok2 : GoT.ok n e2 := (okl hokb).2 _ (List.mem_of_getElem? e2h)
      refine DX.idx 7 1 i ttOk hΓ0 (by kernel_rfl) rfl rfl rfl rfl rfl rfl rfl rfl rfl rfl rfl e2i ?_
      rintro ad2 rfl
      refine DX.takes (fuel := 16) ttOk [(8, true)] (by kernel_rfl) rfl ?_
      refine DX.ldE 9 1 3 e2 ttOk hΓ0 (by kernel_rfl) rfl rfl rfl rfl rfl rfl rfl rfl e2h (fun _ => rfl) (fun _ => rfl) ?_
      rintro ⟨⟨p2, c2⟩, ⟨⟩⟩
      refine DX.takes (fuel := 13) ttOk [(10, true), (11, true)] (by kernel_rfl) rfl ?_
      refine DX.cases 28 rfl (fun h3 => ?_) (fun h3 => ?_)
      · skip
        have h3d := B.nt' h3
        refine DX.takes (fuel := 0) ttOk [(12, true), (13, true), (14, true), (15, true), (16, true), (17, true), (18, true), (19, true), (20, true), (21, true), (22, true), (23, true), (24, true)] (by kernel_rfl) rfl ?_
        refine DX.tail2 [] rfl rfl (by kernel_rfl) ?_
        refine WX.run ttOk rfl ?_
        have hP2 : spec_EqualTables_L1 b a 0 = (some false) := by rw [v2, drop_get e1h]; simp only [spec_EqualTables_L1, e2h, h3, cond_true, cond_false]
        have hP3 : spec_EqualTables a b = false := by simp only [spec_EqualTables, h1, hP2, cond_true, cond_false]
        refine WX.ret ttOk rfl ?_
        intro w1 G bs hI hΓ
        rw [hP3]
        exact ⟨rfl, trivial⟩
      · skip
        have h3d := B.nf' h3
        refine DX.takes (fuel := 11) ttOk [(12, true), (13, true)] (by kernel_rfl) rfl ?_
        refine DX.idx 14 0 i ttOk hΓ0 (by kernel_rfl) rfl rfl rfl rfl rfl rfl rfl rfl rfl rfl rfl e1i ?_
        rintro ad3 ⟨⟩
        refine DX.takes (fuel := 9) ttOk [(15, true)] (by kernel_rfl) rfl ?_
        refine DX.ldE 16 0 4 e1 ttOk hΓ0 (by kernel_rfl) rfl rfl rfl rfl rfl rfl rfl rfl e1h (fun _ => rfl) (fun _ => rfl) ?_
        rintro ⟨⟨p3, c3⟩, ⟨⟩⟩
        refine DX.takes (fuel := 6) ttOk [(17, true), (18, true)] (by kernel_rfl) rfl ?_
        refine DX.idx 19 1 i ttOk hΓ0 (by kernel_rfl) rfl rfl rfl rfl rfl rfl rfl rfl rfl rfl rfl e2i ?_
        rintro ad4 ⟨⟩
        refine DX.takes (fuel := 4) ttOk [(20, true)] (by kernel_rfl) rfl ?_
        refine DX.ldE 21 1 5 e2 ttOk hΓ0 (by kernel_rfl) rfl rfl rfl rfl rfl rfl rfl rfl e2h (fun _ => rfl) (fun _ => rfl) ?_
        rintro ⟨⟨p4, c4⟩, ⟨⟩⟩
        refine DX.callV 22 rfl (by kernel_rfl) rfl rfl rfl rfl rfl rfl (fun _ => rfl) rfl (fun w G bs hI hΓ => f92 w n (by omega) e1.name p3 c3 (hΓ.get 4 rfl) e2.name p4 c4 (hΓ.get 5 rfl) ((ok_TableEntry ok1).1) ((ok_TableEntry ok2).1)) ?_
        intro hq1
        refine DX.takes (fuel := 0) ttOk [(23, true), (24, true)] (by kernel_rfl) rfl ?_
        refine DX.tail2 [] rfl rfl (by kernel_rfl) ?_
        refine WX.run ttOk rfl ?_
        refine WX.cases 41 rfl (fun h4 => ?_) (fun h4 => ?_)
        · skip
          have h4d := (B.nt h4)
          refine WX.run ttOk rfl ?_
          have hP4 : spec_EqualTables_L1 b a 0 = (some false) := by rw [v2, drop_get e1h]; simp only [spec_EqualTables_L1, e2h, h3, h4, cond_true, cond_false]
          have hP5 : spec_EqualTables a b = false := by simp only [spec_EqualTables, h1, hP4, cond_true, cond_false]
          refine WX.ret ttOk rfl ?_
          intro w1 G bs hI hΓ
          rw [hP5]
          exact ⟨rfl, trivial⟩
        · skip
          have h4d := (B.nf h4)
          refine WX.run ttOk rfl ?_
          refine WX.see rfl rfl rfl (fun _ hΓ => looks_arith rfl rfl rfl rfl (by unfold I64; first | omega | (dsimp only; omega))) ?_
          refine WX.run ttOk rfl ?_
          exact WX.iter (i + 1) ⟨(by omega), (by rw [v2, drop_get e1h]; simp only [spec_EqualTables_L1, e2h, h3, h4, cond_true, cond_false])⟩ (by first | (dsimp only; omega) | omega) (.cons rfl (.cons rfl (.cons rfl (.nil)))) .nil .nil [0, 1] rfl
    · skip
      have h2d := B.df h2
      refine WX.run ttOk rfl ?_
      have hX1 : spec_EqualTables_L1 b a 0 = none := by rw [v2, List.drop_eq_nil_of_le (show (a).length ≤ i by omega)]; simp only [spec_EqualTables_L1, cond_true, cond_false]
      have hP6 : spec_EqualTables a b = true := by simp only [spec_EqualTables, h1, hX1, cond_true, cond_false]
      refine WX.ret ttOk rfl ?_
      intro w1 G bs hI hΓ
      rw [hP6]
      exact ⟨rfl, trivial⟩
end Go.Proofs.YtfffongneoegbaaGreat

namespace Go.Stp
set_option linter.unusedVariables false
set_option linter.unusedSimpArgs false
def impl_EqualInterests (a : Interest) (b : Interest) : Bool :=
  bif (impl_EqualNames a.name b.name) then
    bif (a.nonce == b.nonce) then
      bif (a.hopLimit == b.hopLimit) then
        (a.lifetime == b.lifetime)
      else
        false
    else
      false
  else
    false
def spec_EqualInterests (a : Interest) (b : Interest) : Bool :=
  bif (spec_EqualNames a.name b.name) then
    bif (a.nonce == b.nonce) then
      bif (a.hopLimit == b.hopLimit) then
        (a.lifetime == b.lifetime)
      else
        false
    else
      false
  else
    false
end Go.Stp

namespace Go.Proofs.YtfffongneoegbaaGreat
open Go.Stp
set_option linter.unusedVariables false
set_option linter.unusedSimpArgs false
theorem f247 (w : World) (n : Nat) (hn : n + 0 ≤ 9) (a : Interest) (paName : Option Addr) (caName : Nat) (hpaName : RdSl (hp w) paName caName a.name.parts) (b : Interest) (pbName : Option Addr) (cbName : Nat) (hpbName : RdSl (hp w) pbName cbName b.name.parts) (hoka : GoT.ok n a) (hokb : GoT.ok n b) :
    Does Tryz.prog 247 #[.agg #[.slice paName ((a.name.parts).length) caName, .int .i64 (a.nonce), .int .i64 (a.hopLimit), .int .i64 (a.lifetime)], .agg #[.slice pbName ((b.name.parts).length) cbName, .int .i64 (b.nonce), .int .i64 (b.hopLimit), .int .i64 (b.lifetime)]] w emp (fun (rv : Value) (_ : World) => rv = .bool (impl_EqualInterests a b) ∧ True) := by
  have hbP := bd_pos n
  have hbB := bd_big (n := n) (by omega)
  refine WX.enter (tt := tt) (Γ := [(0, MF.rs .stb paName caName a.name.parts), (1, MF.rs .stb pbName cbName b.name.parts)]) Tryz.func247 rfl (by kernel_rfl) rfl (allS_cons rfl hpaName (allS_cons rfl hpbName allS_nil)) ?_
  refine WX.run ttOk rfl ?_
  refine WX.callV rfl rfl rfl rfl rfl (fun _ => rfl) rfl (fun w G bs hI hΓ => f100 w n (by omega) a.name paName caName (hΓ.get 0 rfl) b.name pbName cbName (hΓ.get 1 rfl) ((ok_Interest hoka).1) ((ok_Interest hokb).1)) ?_
  intro hq1
  refine WX.run ttOk rfl ?_
  refine WX.cases 10 rfl (fun h1 => ?_) (fun h1 => ?_)
  · skip
    refine WX.run ttOk rfl ?_
    refine WX.cases 17 rfl (fun h2 => ?_) (fun h2 => ?_)
    · skip
      have h2d := B.et h2
      refine WX.run ttOk rfl ?_
      refine WX.cases 24 rfl (fun h3 => ?_) (fun h3 => ?_)
      · skip
        have h3d := B.et h3
        refine WX.run ttOk rfl ?_
        have hP1 : impl_EqualInterests a b = (a.lifetime == b.lifetime) := by simp only [impl_EqualInterests, h1, h2, h3, cond_true, cond_false]
        refine WX.ret ttOk rfl ?_
        intro w1 G bs hI hΓ
        rw [hP1]
        exact ⟨rfl, trivial⟩
      · skip
        have h3d := B.ef h3
        refine WX.run ttOk rfl ?_
        have hP2 : impl_EqualInterests a b = false := by simp only [impl_EqualInterests, h1, h2, h3, cond_true, cond_false]
        refine WX.ret ttOk rfl ?_
        intro w1 G bs hI hΓ
        rw [hP2]
        exact ⟨rfl, trivial⟩
    · skip
      have h2d := B.ef h2
      refine WX.run ttOk rfl ?_
      have hP3 : impl_EqualInterests a b = false := by simp only [impl_EqualInterests, h1, h2, cond_true, cond_false]
      refine WX.ret ttOk rfl ?_
      intro w1 G bs hI hΓ
      rw [hP3]
      exact ⟨rfl, trivial⟩
  · skip
    refine WX.run ttOk rfl ?_
    have hP4 : impl_EqualInterests a b = false := by simp only [impl_EqualInterests, h1, cond_true, cond_false]
    refine WX.ret ttOk rfl ?_
    intro w1 G bs hI hΓ
    rw [hP4]
    exact ⟨rfl, trivial⟩
theorem f226 (w : World) (n : Nat) (hn : n + 0 ≤ 9) (a : Interest) (paName : Option Addr) (caName : Nat) (hpaName : RdSl (hp w) paName caName a.name.parts) (b : Interest) (pbName : Option Addr) (cbName : Nat) (hpbName : RdSl (hp w) pbName cbName b.name.parts) (hoka : GoT.ok n a) (hokb : GoT.ok n b) :
    Does Tryz.prog 226 #[.agg #[.slice paName ((a.name.parts).length) caName, .int .i64 (a.nonce), .int .i64 (a.hopLimit), .int .i64 (a.lifetime)], .agg #[.slice pbName ((b.name.parts).length) cbName, .int .i64 (b.nonce), .int .i64 (b.hopLimit), .int .i64 (b.lifetime)]] w emp (fun (rv : Value) (_ : World) => rv = .bool (spec_EqualInterests a b) ∧ True) := by
  have hbP := bd_pos n
  have hbB := bd_big (n := n) (by omega)
  refine WX.enter (tt := tt) (Γ := [(0, MF.rs .stb paName caName a.name.parts), (1, MF.rs .stb pbName cbName b.name.parts)]) Tryz.func226 rfl (by kernel_rfl) rfl (allS_cons rfl hpaName (allS_cons rfl hpbName allS_nil)) ?_
  refine WX.run ttOk rfl ?_
  refine WX.callV rfl rfl rfl rfl rfl (fun _ => rfl) rfl (fun w G bs hI hΓ => f92 w n (by omega) a.name paName caName (hΓ.get 0 rfl) b.name pbName cbName (hΓ.get 1 rfl) ((ok_Interest hoka).1) ((ok_Interest hokb).1)) ?_
  intro hq1
  refine WX.run ttOk rfl ?_
  refine WX.cases 10 rfl (fun h1 => ?_) (fun h1 => ?_)
  · skip
    refine WX.run ttOk rfl ?_
    refine WX.cases 17 rfl (fun h2 => ?_) (fun h2 => ?_)
    · skip
      have h2d := B.et h2
      refine WX.run ttOk rfl ?_
      refine WX.cases 24 rfl (fun h3 => ?_) (fun h3 => ?_)
      · skip
        have h3d := B.et h3
        refine WX.run ttOk rfl ?_
        have hP1 : spec_EqualInterests a b = (a.lifetime == b.lifetime) := by simp only [spec_EqualInterests, h1, h2, h3, cond_true, cond_false]
        refine WX.ret ttOk rfl ?_
        intro w1 G bs hI hΓ
        rw [hP1]
        exact ⟨rfl, trivial⟩
      · skip
        have h3d := B.ef h3
        refine WX.run ttOk rfl ?_
        have hP2 : spec_EqualInterests a b = false := by simp only [spec_EqualInterests, h1, h2, h3, cond_true, cond_false]
        refine WX.ret ttOk rfl ?_
        intro w1 G bs hI hΓ
        rw [hP2]
        exact ⟨rfl, trivial⟩
    · skip
      have h2d := B.ef h2
      refine WX.run ttOk rfl ?_
      have hP3 : spec_EqualInterests a b = false := by simp only [spec_EqualInterests, h1, h2, cond_true, cond_false]
      refine WX.ret ttOk rfl ?_
      intro w1 G bs hI hΓ
      rw [hP3]
      exact ⟨rfl, trivial⟩
  · skip
    refine WX.run ttOk rfl ?_
    have hP4 : spec_EqualInterests a b = false := by simp only [spec_EqualInterests, h1, cond_true, cond_false]
    refine WX.ret ttOk rfl ?_
    intro w1 G bs hI hΓ
    rw [hP4]
    exact ⟨rfl, trivial⟩
end Go.Proofs.YtfffongneoegbaaGreat

namespace Go.Stp
set_option linter.unusedVariables false
set_option linter.unusedSimpArgs false
instance ctlInh22 {α β : Type} [Inhabited α] : Inhabited (Ctl α β) := ⟨.ret default⟩
def slices_Equal_int_L1 (s2 : (List Int)) : List Int → Nat → Option (Bool)
  | [], i => none
  | e1 :: rest_, i =>
    match (s2)[i]? with
      | none => default
      | some e2 =>
        bif (e1 != e2) then
          (some false)
        else
          slices_Equal_int_L1 s2 rest_ (i + 1)
def slices_Equal_int (s1 : (List Int)) (s2 : (List Int)) : Bool :=
  bif ((((s1).length : Nat) : Int) != (((s2).length : Nat) : Int)) then
    false
  else
    match slices_Equal_int_L1 s2 s1 0 with
      | some r_ => r_
      | none =>
        true
def spec_EqualInts_L1 (b : (List Int)) : List Int → Nat → Option (Bool)
  | [], i => none
  | e1 :: rest_, i =>
    match (b)[i]? with
      | none => default
      | some e2 =>
        bif (e1 != e2) then
          (some false)
        else
          spec_EqualInts_L1 b rest_ (i + 1)
def spec_EqualInts (a : (List Int)) (b : (List Int)) : Bool :=
  bif ((((a).length : Nat) : Int) != (((b).length : Nat) : Int)) then
    false
  else
    match spec_EqualInts_L1 b a 0 with
      | some r_ => r_
      | none =>
        true
def slices_Equal_Link_L1 (s2 : (List Link)) : List Link → Nat → Option (Bool)
  | [], i => none
  | e1 :: rest_, i =>
    match (s2)[i]? with
      | none => default
      | some e2 =>
        bif (!(bif (e1.a == e2.a) then (e1.b == e2.b) else false)) then
          (some false)
        else
          slices_Equal_Link_L1 s2 rest_ (i + 1)
def slices_Equal_Link (s1 : (List Link)) (s2 : (List Link)) : Bool :=
  bif ((((s1).length : Nat) : Int) != (((s2).length : Nat) : Int)) then
    false
  else
    match slices_Equal_Link_L1 s2 s1 0 with
      | some r_ => r_
      | none =>
        true
def slices_Equal_Requester_L1 (s2 : (List Requester)) : List Requester → Nat → Option (Bool)
  | [], i => none
  | e1 :: rest_, i =>
    match (s2)[i]? with
      | none => default
      | some e2 =>
        bif (!(bif (e1.face == e2.face) then (bif (e1.nonce == e2.nonce) then (e1.expiry == e2.expiry) else false) else false)) then
          (some false)
        else
          slices_Equal_Requester_L1 s2 rest_ (i + 1)
def slices_Equal_Requester (s1 : (List Requester)) (s2 : (List Requester)) : Bool :=
  bif ((((s1).length : Nat) : Int) != (((s2).length : Nat) : Int)) then
    false
  else
    match slices_Equal_Requester_L1 s2 s1 0 with
      | some r_ => r_
      | none =>
        true
def slices_EqualFunc_Key_L1 (eqq : Key → Key → Bool) (s2 : (List Key)) : List Key → Nat → Option (Bool)
  | [], i => none
  | e1 :: rest_, i =>
    match (s2)[i]? with
      | none => default
      | some e2 =>
        bif (!(eqq e1 e2)) then
          (some false)
        else
          slices_EqualFunc_Key_L1 eqq s2 rest_ (i + 1)
def slices_EqualFunc_Key (s1 : (List Key)) (s2 : (List Key)) (eqq : Key → Key → Bool) : Bool :=
  bif ((((s1).length : Nat) : Int) != (((s2).length : Nat) : Int)) then
    false
  else
    match slices_EqualFunc_Key_L1 eqq s2 s1 0 with
      | some r_ => r_
      | none =>
        true
def slices_EqualFunc_Rule_L1 (eqq : Rule → Rule → Bool) (s2 : (List Rule)) : List Rule → Nat → Option (Bool)
  | [], i => none
  | e1 :: rest_, i =>
    match (s2)[i]? with
      | none => default
      | some e2 =>
        bif (!(eqq e1 e2)) then
          (some false)
        else
          slices_EqualFunc_Rule_L1 eqq s2 rest_ (i + 1)
def slices_EqualFunc_Rule (s1 : (List Rule)) (s2 : (List Rule)) (eqq : Rule → Rule → Bool) : Bool :=
  bif ((((s1).length : Nat) : Int) != (((s2).length : Nat) : Int)) then
    false
  else
    match slices_EqualFunc_Rule_L1 eqq s2 s1 0 with
      | some r_ => r_
      | none =>
        true
def slices_EqualFunc_Name_L1 (eqq : Name → Name → Bool) (s2 : (List Name)) : List Name → Nat → Option (Bool)
  | [], i => none
  | e1 :: rest_, i =>
    match (s2)[i]? with
      | none => default
      | some e2 =>
        bif (!(eqq e1 e2)) then
          (some false)
        else
          slices_EqualFunc_Name_L1 eqq s2 rest_ (i + 1)
def slices_EqualFunc_Name (s1 : (List Name)) (s2 : (List Name)) (eqq : Name → Name → Bool) : Bool :=
  bif ((((s1).length : Nat) : Int) != (((s2).length : Nat) : Int)) then
    false
  else
    match slices_EqualFunc_Name_L1 eqq s2 s1 0 with
      | some r_ => r_
      | none =>
        true
def slices_EqualFunc_Data_L1 (eqq : DataP → DataP → Bool) (s2 : (List DataP)) : List DataP → Nat → Option (Bool)
  | [], i => none
  | e1 :: rest_, i =>
    match (s2)[i]? with
      | none => default
      | some e2 =>
        bif (!(eqq e1 e2)) then
          (some false)
        else
          slices_EqualFunc_Data_L1 eqq s2 rest_ (i + 1)
def slices_EqualFunc_Data (s1 : (List DataP)) (s2 : (List DataP)) (eqq : DataP → DataP → Bool) : Bool :=
  bif ((((s1).length : Nat) : Int) != (((s2).length : Nat) : Int)) then
    false
  else
    match slices_EqualFunc_Data_L1 eqq s2 s1 0 with
      | some r_ => r_
      | none =>
        true
def slices_EqualFunc_CacheEntry_L1 (eqq : CacheEntry → CacheEntry → Bool) (s2 : (List CacheEntry)) : List CacheEntry → Nat → Option (Bool)
  | [], i => none
  | e1 :: rest_, i =>
    match (s2)[i]? with
      | none => default
      | some e2 =>
        bif (!(eqq e1 e2)) then
          (some false)
        else
          slices_EqualFunc_CacheEntry_L1 eqq s2 rest_ (i + 1)
def slices_EqualFunc_CacheEntry (s1 : (List CacheEntry)) (s2 : (List CacheEntry)) (eqq : CacheEntry → CacheEntry → Bool) : Bool :=
  bif ((((s1).length : Nat) : Int) != (((s2).length : Nat) : Int)) then
    false
  else
    match slices_EqualFunc_CacheEntry_L1 eqq s2 s1 0 with
      | some r_ => r_
      | none =>
        true
def slices_EqualFunc_PendingInterest_L1 (eqq : PendingInterest → PendingInterest → Bool) (s2 : (List PendingInterest)) : List PendingInterest → Nat → Option (Bool)
  | [], i => none
  | e1 :: rest_, i =>
    match (s2)[i]? with
      | none => default
      | some e2 =>
        bif (!(eqq e1 e2)) then
          (some false)
        else
          slices_EqualFunc_PendingInterest_L1 eqq s2 rest_ (i + 1)
def slices_EqualFunc_PendingInterest (s1 : (List PendingInterest)) (s2 : (List PendingInterest)) (eqq : PendingInterest → PendingInterest → Bool) : Bool :=
  bif ((((s1).length : Nat) : Int) != (((s2).length : Nat) : Int)) then
    false
  else
    match slices_EqualFunc_PendingInterest_L1 eqq s2 s1 0 with
      | some r_ => r_
      | none =>
        true
def slices_EqualFunc_SeenNonce_L1 (eqq : SeenNonce → SeenNonce → Bool) (s2 : (List SeenNonce)) : List SeenNonce → Nat → Option (Bool)
  | [], i => none
  | e1 :: rest_, i =>
    match (s2)[i]? with
      | none => default
      | some e2 =>
        bif (!(eqq e1 e2)) then
          (some false)
        else
          slices_EqualFunc_SeenNonce_L1 eqq s2 rest_ (i + 1)
def slices_EqualFunc_SeenNonce (s1 : (List SeenNonce)) (s2 : (List SeenNonce)) (eqq : SeenNonce → SeenNonce → Bool) : Bool :=
  bif ((((s1).length : Nat) : Int) != (((s2).length : Nat) : Int)) then
    false
  else
    match slices_EqualFunc_SeenNonce_L1 eqq s2 s1 0 with
      | some r_ => r_
      | none =>
        true
def slices_EqualFunc_Route_L1 (eqq : Route → Route → Bool) (s2 : (List Route)) : List Route → Nat → Option (Bool)
  | [], i => none
  | e1 :: rest_, i =>
    match (s2)[i]? with
      | none => default
      | some e2 =>
        bif (!(eqq e1 e2)) then
          (some false)
        else
          slices_EqualFunc_Route_L1 eqq s2 rest_ (i + 1)
def slices_EqualFunc_Route (s1 : (List Route)) (s2 : (List Route)) (eqq : Route → Route → Bool) : Bool :=
  bif ((((s1).length : Nat) : Int) != (((s2).length : Nat) : Int)) then
    false
  else
    match slices_EqualFunc_Route_L1 eqq s2 s1 0 with
      | some r_ => r_
      | none =>
        true
def slices_EqualFunc_Measurement_L1 (eqq : Measurement → Measurement → Bool) (s2 : (List Measurement)) : List Measurement → Nat → Option (Bool)
  | [], i => none
  | e1 :: rest_, i =>
    match (s2)[i]? with
      | none => default
      | some e2 =>
        bif (!(eqq e1 e2)) then
          (some false)
        else
          slices_EqualFunc_Measurement_L1 eqq s2 rest_ (i + 1)
def slices_EqualFunc_Measurement (s1 : (List Measurement)) (s2 : (List Measurement)) (eqq : Measurement → Measurement → Bool) : Bool :=
  bif ((((s1).length : Nat) : Int) != (((s2).length : Nat) : Int)) then
    false
  else
    match slices_EqualFunc_Measurement_L1 eqq s2 s1 0 with
      | some r_ => r_
      | none =>
        true
def slices_EqualFunc_Node_L1 (eqq : NodeP → NodeP → Bool) (s2 : (List NodeP)) : List NodeP → Nat → Option (Bool)
  | [], i => none
  | e1 :: rest_, i =>
    match (s2)[i]? with
      | none => default
      | some e2 =>
        bif (!(eqq e1 e2)) then
          (some false)
        else
          slices_EqualFunc_Node_L1 eqq s2 rest_ (i + 1)
def slices_EqualFunc_Node (s1 : (List NodeP)) (s2 : (List NodeP)) (eqq : NodeP → NodeP → Bool) : Bool :=
  bif ((((s1).length : Nat) : Int) != (((s2).length : Nat) : Int)) then
    false
  else
    match slices_EqualFunc_Node_L1 eqq s2 s1 0 with
      | some r_ => r_
      | none =>
        true
def slices_EqualFunc_PacketInFlight_L1 (eqq : PacketInFlight → PacketInFlight → Bool) (s2 : (List PacketInFlight)) : List PacketInFlight → Nat → Option (Bool)
  | [], i => none
  | e1 :: rest_, i =>
    match (s2)[i]? with
      | none => default
      | some e2 =>
        bif (!(eqq e1 e2)) then
          (some false)
        else
          slices_EqualFunc_PacketInFlight_L1 eqq s2 rest_ (i + 1)
def slices_EqualFunc_PacketInFlight (s1 : (List PacketInFlight)) (s2 : (List PacketInFlight)) (eqq : PacketInFlight → PacketInFlight → Bool) : Bool :=
  bif ((((s1).length : Nat) : Int) != (((s2).length : Nat) : Int)) then
    false
  else
    match slices_EqualFunc_PacketInFlight_L1 eqq s2 s1 0 with
      | some r_ => r_
      | none =>
        true
def slices_EqualFunc_Consumer_L1 (eqq : Consumer → Consumer → Bool) (s2 : (List Consumer)) : List Consumer → Nat → Option (Bool)
  | [], i => none
  | e1 :: rest_, i =>
    match (s2)[i]? with
      | none => default
      | some e2 =>
        bif (!(eqq e1 e2)) then
          (some false)
        else
          slices_EqualFunc_Consumer_L1 eqq s2 rest_ (i + 1)
def slices_EqualFunc_Consumer (s1 : (List Consumer)) (s2 : (List Consumer)) (eqq : Consumer → Consumer → Bool) : Bool :=
  bif ((((s1).length : Nat) : Int) != (((s2).length : Nat) : Int)) then
    false
  else
    match slices_EqualFunc_Consumer_L1 eqq s2 s1 0 with
      | some r_ => r_
      | none =>
        true
def impl_EqualRules (a : Rule) (b : Rule) : Bool :=
  bif (slices_Equal_string a.dataPattern.parts b.dataPattern.parts) then
    (slices_Equal_string a.keyPattern.parts b.keyPattern.parts)
  else
    false
def spec_l10SamePat (a : Pattern) (b : Pattern) : Bool :=
  (spec_EqualNames (Name.mk a.parts) (Name.mk b.parts))
def spec_EqualRules (a : Rule) (b : Rule) : Bool :=
  bif (spec_l10SamePat a.dataPattern b.dataPattern) then
    (spec_l10SamePat a.keyPattern b.keyPattern)
  else
    false
def impl_equalTrust_c1 (x_ : Key) (y : Key) : Bool :=
  bif (impl_EqualNames x_.name y.name) then
    (x_.secret == y.secret)
  else
    false
def impl_equalTrust (a : TrustPolicy) (b : TrustPolicy) : Bool :=
  bif (slices_EqualFunc_Key a.keys b.keys (fun e0_ e1_ => (impl_equalTrust_c1 e0_ e1_))) then
    bif (slices_EqualFunc_Rule a.rules b.rules (fun e0_ e1_ => (impl_EqualRules e0_ e1_))) then
      bif (slices_EqualFunc_Name a.anchors b.anchors (fun e0_ e1_ => (impl_EqualNames e0_ e1_))) then
        (slices_EqualFunc_Data a.certificates b.certificates (fun e0_ e1_ => (impl_EqualData e0_ e1_)))
      else
        false
    else
      false
  else
    false
def spec_l16SameThings_L1 (b : (List DataP)) : List DataP → Nat → Option (Bool)
  | [], i => none
  | e1 :: rest_, i =>
    match (b)[i]? with
      | none => default
      | some e2 =>
        bif (!(spec_EqualData e1 e2)) then
          (some false)
        else
          spec_l16SameThings_L1 b rest_ (i + 1)
def spec_l16SameThings (a : (List DataP)) (b : (List DataP)) : Bool :=
  bif ((((a).length : Nat) : Int) != (((b).length : Nat) : Int)) then
    false
  else
    match spec_l16SameThings_L1 b a 0 with
      | some r_ => r_
      | none =>
        true
def spec_l32SameNet_L1 (b : Topology) : List Link → Nat → Option (Bool)
  | [], i => none
  | e1 :: rest_, i =>
    match (b.links)[i]? with
      | none => default
      | some e2 =>
        bif (!(bif (e1.a == e2.a) then (e1.b == e2.b) else false)) then
          (some false)
        else
          spec_l32SameNet_L1 b rest_ (i + 1)
def spec_l32SameNet (a : Topology) (b : Topology) : Bool :=
  bif (a.size != b.size) then
    false
  else
    bif ((((a.links).length : Nat) : Int) != (((b.links).length : Nat) : Int)) then
      false
    else
      match spec_l32SameNet_L1 b a.links 0 with
        | some r_ => r_
        | none =>
          true
def spec_l32SameTrust_L3 (b : TrustPolicy) : List Name → Nat → Option (Bool)
  | [], i => none
  | e5 :: rest_, i =>
    match (b.anchors)[i]? with
      | none => default
      | some e6 =>
        bif (!(spec_EqualNames e5 e6)) then
          (some false)
        else
          spec_l32SameTrust_L3 b rest_ (i + 1)
def spec_l32SameTrust_L2 (b : TrustPolicy) : List Rule → Nat → Option (Bool)
  | [], i => none
  | e3 :: rest_, i =>
    match (b.rules)[i]? with
      | none => default
      | some e4 =>
        bif (!(spec_EqualRules e3 e4)) then
          (some false)
        else
          spec_l32SameTrust_L2 b rest_ (i + 1)
def spec_l32SameTrust_L1 (b : TrustPolicy) : List Key → Nat → Option (Bool)
  | [], i => none
  | e1 :: rest_, i =>
    match (b.keys)[i]? with
      | none => default
      | some e2 =>
        bif (e1.secret != e2.secret) then
          (some false)
        else
          bif (!(spec_EqualNames e1.name e2.name)) then
            (some false)
          else
            spec_l32SameTrust_L1 b rest_ (i + 1)
def spec_l32SameTrust (a : TrustPolicy) (b : TrustPolicy) : Bool :=
  bif ((((a.keys).length : Nat) : Int) != (((b.keys).length : Nat) : Int)) then
    false
  else
    bif ((((a.rules).length : Nat) : Int) != (((b.rules).length : Nat) : Int)) then
      false
    else
      bif ((((a.anchors).length : Nat) : Int) != (((b.anchors).length : Nat) : Int)) then
        false
      else
        bif (!(spec_l16SameThings a.certificates b.certificates)) then
          false
        else
          match spec_l32SameTrust_L1 b a.keys 0 with
            | some r_ => r_
            | none =>
              match spec_l32SameTrust_L2 b a.rules 0 with
                | some r_ => r_
                | none =>
                  match spec_l32SameTrust_L3 b a.anchors 0 with
                    | some r_ => r_
                    | none =>
                      true
def impl_EqualContentStores_c1 (x_ : CacheEntry) (y : CacheEntry) : Bool :=
  bif (impl_EqualData x_.data y.data) then
    (x_.lastUsed == y.lastUsed)
  else
    false
def impl_EqualContentStores (a : ContentStore) (b : ContentStore) : Bool :=
  bif (a.capacity == b.capacity) then
    (slices_EqualFunc_CacheEntry a.entries b.entries (fun e0_ e1_ => (impl_EqualContentStores_c1 e0_ e1_)))
  else
    false
def spec_EqualContentStores_L1 (b : ContentStore) : List CacheEntry → Nat → Option (Bool)
  | [], i => none
  | e1 :: rest_, i =>
    match (b.entries)[i]? with
      | none => default
      | some e2 =>
        bif (e1.lastUsed != e2.lastUsed) then
          (some false)
        else
          bif (!(spec_EqualData e1.data e2.data)) then
            (some false)
          else
            spec_EqualContentStores_L1 b rest_ (i + 1)
def spec_EqualContentStores (a : ContentStore) (b : ContentStore) : Bool :=
  bif (a.capacity != b.capacity) then
    false
  else
    bif ((((a.entries).length : Nat) : Int) != (((b.entries).length : Nat) : Int)) then
      false
    else
      match spec_EqualContentStores_L1 b a.entries 0 with
        | some r_ => r_
        | none =>
          true
def impl_EqualPending_c1 (x_ : PendingInterest) (y : PendingInterest) : Bool :=
  bif (impl_EqualNames x_.name y.name) then
    bif (slices_Equal_Requester x_.requesters y.requesters) then
      (x_.lastSent == y.lastSent)
    else
      false
  else
    false
def impl_EqualPending (a : (List PendingInterest)) (b : (List PendingInterest)) : Bool :=
  (slices_EqualFunc_PendingInterest a b (fun e0_ e1_ => (impl_EqualPending_c1 e0_ e1_)))
def spec_EqualPending_L2 (e1 : PendingInterest) (e2 : PendingInterest) (i2 : Nat) : Ctl (Bool) (Nat) :=
  if ((i2 : Nat) : Int) < (((e1.requesters).length : Nat) : Int) then
    match (e1.requesters)[i2]? with
      | none => default
      | some e3 =>
        match (e2.requesters)[i2]? with
          | none => default
          | some e4 =>
            if (!(bif (e3.face == e4.face) then (bif (e3.nonce == e4.nonce) then (e3.expiry == e4.expiry) else false) else false)) = true then
              (Ctl.ret false)
            else
              spec_EqualPending_L2 e1 e2 (i2 + 1)
  else
    (Ctl.nxt i2)
termination_by e1.requesters.length - i2
decreasing_by all_goals (simp_wf; omega)
def spec_EqualPending_L1 (b : (List PendingInterest)) : List PendingInterest → Nat → Option (Bool)
  | [], i => none
  | e1 :: rest_, i =>
    match (b)[i]? with
      | none => default
      | some e2 =>
        bif (e1.lastSent != e2.lastSent) then
          (some false)
        else
          bif (!(spec_EqualNames e1.name e2.name)) then
            (some false)
          else
            bif ((((e1.requesters).length : Nat) : Int) != (((e2.requesters).length : Nat) : Int)) then
              (some false)
            else
              match spec_EqualPending_L2 e1 e2 0 with
                | .ret r_ => (some r_)
                | .nxt i2 =>
                  spec_EqualPending_L1 b rest_ (i + 1)
def spec_EqualPending (a : (List PendingInterest)) (b : (List PendingInterest)) : Bool :=
  bif ((((a).length : Nat) : Int) != (((b).length : Nat) : Int)) then
    false
  else
    match spec_EqualPending_L1 b a 0 with
      | some r_ => r_
      | none =>
        true
def spec_l16SameSeen_L1 (b : (List SeenNonce)) : List SeenNonce → Nat → Option (Bool)
  | [], i => none
  | e1 :: rest_, i =>
    match (b)[i]? with
      | none => default
      | some e2 =>
        bif (e1.nonce != e2.nonce) then
          (some false)
        else
          bif (!(spec_EqualNames e1.name e2.name)) then
            (some false)
          else
            spec_l16SameSeen_L1 b rest_ (i + 1)
def spec_l16SameSeen (a : (List SeenNonce)) (b : (List SeenNonce)) : Bool :=
  bif ((((a).length : Nat) : Int) != (((b).length : Nat) : Int)) then
    false
  else
    match spec_l16SameSeen_L1 b a 0 with
      | some r_ => r_
      | none =>
        true
def impl_EqualRoutes_c1 (x_ : Route) (y : Route) : Bool :=
  bif (impl_EqualNames x_.pfx y.pfx) then
    bif (x_.face == y.face) then
      (x_.cost == y.cost)
    else
      false
  else
    false
def impl_EqualRoutes (a : (List Route)) (b : (List Route)) : Bool :=
  (slices_EqualFunc_Route a b (fun e0_ e1_ => (impl_EqualRoutes_c1 e0_ e1_)))
def spec_EqualRoutes_L1 (b : (List Route)) : List Route → Nat → Option (Bool)
  | [], i => none
  | e1 :: rest_, i =>
    match (b)[i]? with
      | none => default
      | some e2 =>
        bif (e1.face != e2.face) then
          (some false)
        else
          bif (e1.cost != e2.cost) then
            (some false)
          else
            bif (!(spec_EqualNames e1.pfx e2.pfx)) then
              (some false)
            else
              spec_EqualRoutes_L1 b rest_ (i + 1)
def spec_EqualRoutes (a : (List Route)) (b : (List Route)) : Bool :=
  bif ((((a).length : Nat) : Int) != (((b).length : Nat) : Int)) then
    false
  else
    match spec_EqualRoutes_L1 b a 0 with
      | some r_ => r_
      | none =>
        true
def impl_EqualMeasurements_c1 (x_ : Measurement) (y : Measurement) : Bool :=
  bif (impl_EqualNames x_.pfx y.pfx) then
    bif (x_.face == y.face) then
      (x_.failures == y.failures)
    else
      false
  else
    false
def impl_EqualMeasurements (a : (List Measurement)) (b : (List Measurement)) : Bool :=
  (slices_EqualFunc_Measurement a b (fun e0_ e1_ => (impl_EqualMeasurements_c1 e0_ e1_)))
def spec_EqualMeasurements_L1 (b : (List Measurement)) : List Measurement → Nat → Option (Bool)
  | [], i => none
  | e1 :: rest_, i =>
    match (b)[i]? with
      | none => default
      | some e2 =>
        bif (e1.face != e2.face) then
          (some false)
        else
          bif (e1.failures != e2.failures) then
            (some false)
          else
            bif (!(spec_EqualNames e1.pfx e2.pfx)) then
              (some false)
            else
              spec_EqualMeasurements_L1 b rest_ (i + 1)
def spec_EqualMeasurements (a : (List Measurement)) (b : (List Measurement)) : Bool :=
  bif ((((a).length : Nat) : Int) != (((b).length : Nat) : Int)) then
    false
  else
    match spec_EqualMeasurements_L1 b a 0 with
      | some r_ => r_
      | none =>
        true
def impl_EqualNodes_c1 (x_ : SeenNonce) (y : SeenNonce) : Bool :=
  bif (impl_EqualNames x_.name y.name) then
    (x_.nonce == y.nonce)
  else
    false
def impl_EqualNodes (a : NodeP) (b : NodeP) : Bool :=
  bif (slices_EqualFunc_Data a.locl b.locl (fun e0_ e1_ => (impl_EqualData e0_ e1_))) then
    bif (impl_EqualContentStores a.cache b.cache) then
      bif (impl_EqualPending a.pending b.pending) then
        bif (slices_EqualFunc_SeenNonce a.seen b.seen (fun e0_ e1_ => (impl_EqualNodes_c1 e0_ e1_))) then
          bif (impl_EqualRoutes a.routes b.routes) then
            bif (impl_EqualMeasurements a.measurements b.measurements) then
              (a.dropped == b.dropped)
            else
              false
          else
            false
        else
          false
      else
        false
    else
      false
  else
    false
def spec_EqualNodes (a : NodeP) (b : NodeP) : Bool :=
  bif (spec_l16SameThings a.locl b.locl) then
    bif (spec_EqualContentStores a.cache b.cache) then
      bif (spec_EqualPending a.pending b.pending) then
        bif (spec_l16SameSeen a.seen b.seen) then
          bif (spec_EqualRoutes a.routes b.routes) then
            bif (spec_EqualMeasurements a.measurements b.measurements) then
              (a.dropped == b.dropped)
            else
              false
          else
            false
        else
          false
      else
        false
    else
      false
  else
    false
def impl_equalPackets (a : PacketInFlight) (b : PacketInFlight) : Bool :=
  bif (a.to == b.to) then
    bif (a.face == b.face) then
      bif (a.isInterest == b.isInterest) then
        bif (impl_EqualInterests a.interest b.interest) then
          (impl_EqualData a.data b.data)
        else
          false
      else
        false
    else
      false
  else
    false
def spec_l32SameFly (a : PacketInFlight) (b : PacketInFlight) : Bool :=
  bif (a.to == b.to) then
    bif (a.face == b.face) then
      bif (a.isInterest == b.isInterest) then
        bif (spec_EqualInterests a.interest b.interest) then
          (spec_EqualData a.data b.data)
        else
          false
      else
        false
    else
      false
  else
    false
def impl_EqualNetworks (a : Network) (b : Network) : Bool :=
  bif (a.topology.size != b.topology.size) then
    false
  else
    bif (!(slices_Equal_Link a.topology.links b.topology.links)) then
      false
    else
      bif (!(impl_equalTrust a.trust b.trust)) then
        false
      else
        bif (!(impl_EqualTables a.producers b.producers)) then
          false
        else
          bif (a.downNodes != b.downNodes) then
            false
          else
            bif (!(slices_Equal_int a.failedLinks b.failedLinks)) then
              false
            else
              bif (a.now != b.now) then
                false
              else
                bif (a.dropped != b.dropped) then
                  false
                else
                  bif (slices_EqualFunc_Node a.nodes b.nodes (fun e0_ e1_ => (impl_EqualNodes e0_ e1_))) then
                    bif (slices_EqualFunc_PacketInFlight a.inFlight b.inFlight (fun e0_ e1_ => (impl_equalPackets e0_ e1_))) then
                      (slices_EqualFunc_Consumer a.consumers b.consumers (fun e0_ e1_ => (impl_EqualConsumers e0_ e1_)))
                    else
                      false
                  else
                    false
def spec_EqualNetworks_L3 (b : Network) : List Consumer → Nat → Option (Bool)
  | [], i => none
  | e5 :: rest_, i =>
    match (b.consumers)[i]? with
      | none => default
      | some e6 =>
        bif (!(spec_EqualConsumers e5 e6)) then
          (some false)
        else
          spec_EqualNetworks_L3 b rest_ (i + 1)
def spec_EqualNetworks_L2 (b : Network) : List PacketInFlight → Nat → Option (Bool)
  | [], i => none
  | e3 :: rest_, i =>
    match (b.inFlight)[i]? with
      | none => default
      | some e4 =>
        bif (!(spec_l32SameFly e3 e4)) then
          (some false)
        else
          spec_EqualNetworks_L2 b rest_ (i + 1)
def spec_EqualNetworks_L1 (b : Network) : List NodeP → Nat → Option (Bool)
  | [], i => none
  | e1 :: rest_, i =>
    match (b.nodes)[i]? with
      | none => default
      | some e2 =>
        bif (!(spec_EqualNodes e1 e2)) then
          (some false)
        else
          spec_EqualNetworks_L1 b rest_ (i + 1)
def spec_EqualNetworks (a : Network) (b : Network) : Bool :=
  bif (!(spec_l32SameNet a.topology b.topology)) then
    false
  else
    bif (!(spec_l32SameTrust a.trust b.trust)) then
      false
    else
      bif (!(spec_EqualTables a.producers b.producers)) then
        false
      else
        bif ((((a.nodes).length : Nat) : Int) != (((b.nodes).length : Nat) : Int)) then
          false
        else
          bif (a.downNodes != b.downNodes) then
            false
          else
            bif (!(spec_EqualInts a.failedLinks b.failedLinks)) then
              false
            else
              bif ((((a.inFlight).length : Nat) : Int) != (((b.inFlight).length : Nat) : Int)) then
                false
              else
                bif ((((a.consumers).length : Nat) : Int) != (((b.consumers).length : Nat) : Int)) then
                  false
                else
                  bif (a.now != b.now) then
                    false
                  else
                    bif (a.dropped != b.dropped) then
                      false
                    else
                      match spec_EqualNetworks_L1 b a.nodes 0 with
                        | some r_ => r_
                        | none =>
                          match spec_EqualNetworks_L2 b a.inFlight 0 with
                            | some r_ => r_
                            | none =>
                              match spec_EqualNetworks_L3 b a.consumers 0 with
                                | some r_ => r_
                                | none =>
                                  true
end Go.Stp

namespace Go.Stp
open GoT (X k ok sh fa oa)
theorem DX.ldE2 {C : Cx} {ops : Array Oper} {tl : List Nat} {s : List It} {bs : Nat → Nat} {G0 : GH} {fuel : Nat} {listed : Array Bool} {env : Env} {L : Locs} {R : Rows} {Γ Γ0 : Facts} {o : Oper} {α : Type} [GoT α] {d : Nat} {x : Operand} {T c j off : Nat} {ti : TI} {ad : Addr} {kd : Kd} {l : List α} (i ℓ m : Nat) (a : α) {val : X α → Value} {Γ' Γ0' : X α → Facts} (ht : TabOk C.P C.tt) (h0 : AllK C.M G0 Γ0)
    (hb : mayB ops tl listed i = true) (hi : getO ops.toList i = some o) (hg : gd ops env o = some true) (hd : o.dst = some d) (hlt : Nat.blt d C.fn.ntmps = true) (ho : o.op = .load T x)
    (hx : ev env x = some (.e (some ad) j (GoT.k α) off)) (hT : look C.tt T = some ti) (hℓ : look Γ0 ℓ = some (MF.rs kd (some ad) c l)) (ha : l[j]? = some a)
    (hv : ∀ x, asm ti (sh a x) off = some (val x)) (hf : ∀ x, addF m (fa .der a x) Γ = some (Γ' x)) (hf0 : ∀ x, addF m (fa .der a x) Γ0 = some (Γ0' x))
    (k : ∀ x, AllK C.M G0 (Γ0' x) → DX C ops tl s bs G0 fuel (listed.setIfInBounds i true) ((d, .v (val x)) :: env) L R (Γ' x)) : DX C ops tl s bs G0 (fuel + 1) listed env L R Γ := by
  obtain ⟨x', ad', had, hfa, hc⟩ := RdSl.get (i := j) (h0.get ℓ hℓ : RdSl G0 (some ad) c l) ha
  simp at had; subst had
  rw [getO_eq] at hi
  intro hcl a' w G hle hS
  exact DX.take (Γ := Γ' x') hb (by simpa using hi) hd (by simpa [Nat.blt_eq] using hlt) hg (fun _ => looks_ldE ht ho hx hT hc (hv x')) (fun h => by cases h) (k x' (AllK.ders (hf0 x') (fun f hf => GoT.fak f hf) hfa h0)) hcl a' w G hle ⟨hS.1, hS.2.1, AllK.ders (hf x') (fun f hf => GoT.fak f hf) (hfa.mono hle) hS.2.2⟩
end Go.Stp

