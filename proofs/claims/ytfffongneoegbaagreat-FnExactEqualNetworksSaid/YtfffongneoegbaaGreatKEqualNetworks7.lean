/-
  What the proof of one law needs: rules of the program logic, functions as Lean functions, contracts. No condition but what each says. Written by a program (pack.py) out of my own texts.
-/
import Derived.Test.YtfffongneoegbaaGreatKEqualNetworks6
namespace Go.Proofs.YtfffongneoegbaaGreat
open Go.Stp
set_option linter.unusedVariables false
set_option linter.unusedSimpArgs false
theorem f134 (w : World) (n : Nat) (hn : n + 0 ≤ 9) (s1 : (List Int)) (ps1 : Option Addr) (cs1 : Nat) (hps1 : RdSl (hp w) ps1 cs1 s1) (s2 : (List Int)) (ps2 : Option Addr) (cs2 : Nat) (hps2 : RdSl (hp w) ps2 cs2 s2) (hoks1 : GoT.ok n s1) (hoks2 : GoT.ok n s2) :
    Does Tryz.prog 134 #[.slice ps1 ((s1).length) cs1, .slice ps2 ((s2).length) cs2] w emp (fun (rv : Value) (_ : World) => rv = .bool (slices_Equal_int s1 s2) ∧ True) := by
  have hbP := bd_pos n
  have hbB := bd_big (n := n) (by omega)
  refine WX.enter (tt := tt) (Γ := [(0, MF.rs .stb ps1 cs1 s1), (1, MF.rs .stb ps2 cs2 s2)]) Tryz.func134 rfl (by kernel_rfl) rfl (allS_cons rfl hps1 (allS_cons rfl hps2 allS_nil)) ?_
  refine WX.run ttOk rfl ?_
  refine WX.cases 10 rfl (fun h1 => ?_) (fun h1 => ?_)
  · skip
    have h1d := B.nt' h1
    refine WX.run ttOk rfl ?_
    have hP1 : slices_Equal_int s1 s2 = false := by simp only [slices_Equal_int, h1, cond_true, cond_false]
    refine WX.ret ttOk rfl ?_
    intro w1 G bs hI hΓ
    rw [hP1]
    exact ⟨rfl, trivial⟩
  · skip
    have h1d := B.nf' h1
    refine WX.run ttOk rfl ?_
    have r1 : (s1).length ≤ bd n := (okl hoks1).1
    refine WX.loop (ι := Nat) ⟨fun i => (i ≤ (s1).length) ∧ (slices_Equal_int_L1 s2 s1 0 = slices_Equal_int_L1 s2 ((s1).drop i) i), fun i => (s1).length - i, fun i => [(13, .v (.int .i64 (((i : Nat) : Int)))), (12, .v (.int .i64 ((((s1).length : Nat) : Int)))), (0, .v (.slice ps1 ((s1).length) cs1)), (1, .v (.slice ps2 ((s2).length) cs2))], fun i => [], fun i => [], fun i => [(0, MF.rs .stb ps1 cs1 s1), (1, MF.rs .stb ps2 cs2 s2)]⟩ 0 ⟨(Nat.zero_le _), rfl⟩
      (.cons rfl (.cons rfl (.cons rfl (.cons rfl (.nil))))) .nil .nil [0, 1] rfl ?_
    rintro i hpre
    have hpre_ : (i ≤ (s1).length) ∧ (slices_Equal_int_L1 s2 s1 0 = slices_Equal_int_L1 s2 ((s1).drop i) i) := hpre
    clear hpre
    obtain ⟨v1, v2⟩ := hpre_
    refine WX.run ttOk rfl ?_
    refine WX.cases 14 rfl (fun h2 => ?_) (fun h2 => ?_)
    · skip
      have h2d := B.dt h2
      have e1i : i < (s1).length := (by omega)
      obtain ⟨e1, e1h⟩ : ∃ e1, (s1)[i]? = some e1 := ⟨_, List.getElem?_eq_getElem e1i⟩
      have ok1 : GoT.ok n e1 := (okl hoks1).2 _ (List.mem_of_getElem? e1h)
      refine WX.run ttOk rfl ?_
      refine WX.draw [] mixed ?_
      intro bs G0 hΓ0
      refine DX.takes (fuel := 7) ttOk [(0, true), (1, true)] (by kernel_rfl) rfl ?_
      refine DX.idx 2 0 i ttOk hΓ0 (by kernel_rfl) rfl rfl rfl rfl rfl rfl rfl rfl rfl rfl rfl e1i ?_
      rintro ad1 rfl
      refine DX.ldE 3 0 2 e1 ttOk hΓ0 (by kernel_rfl) rfl rfl rfl rfl rfl rfl rfl rfl e1h (fun _ => rfl) (fun _ => rfl) ?_
      rintro ⟨⟩
      refine DX.takes (fuel := 3) ttOk [(4, true), (5, true)] (by kernel_rfl) rfl ?_
      have e2i : i < (s2).length := (by first | assumption | omega)
      obtain ⟨e2, e2h⟩ : ∃ e2, (s2)[i]? = some e2 := ⟨_, List.getElem?_eq_getElem e2i⟩
      have ok2 : GoT.ok n e2 := (okl hoks2).2 _ (List.mem_of_getElem? e2h)
      refine DX.idx 6 1 i ttOk hΓ0 (by kernel_rfl) rfl rfl rfl rfl rfl rfl rfl rfl rfl rfl rfl e2i ?_
      rintro ad2 rfl
      refine DX.ldE 7 1 2 e2 ttOk hΓ0 (by kernel_rfl) rfl rfl rfl rfl rfl rfl rfl rfl e2h (fun _ => rfl) (fun _ => rfl) ?_
      rintro ⟨⟩
      refine DX.takes (fuel := 0) ttOk [(8, true)] (by kernel_rfl) rfl ?_
      refine DX.tail2 [] rfl rfl (by kernel_rfl) ?_
      refine WX.run ttOk rfl ?_
      refine WX.cases 24 rfl (fun h3 => ?_) (fun h3 => ?_)
      · skip
        have h3d := B.nt' h3
        refine WX.run ttOk rfl ?_
        have hP2 : slices_Equal_int_L1 s2 s1 0 = (some false) := by rw [v2, drop_get e1h]; simp only [slices_Equal_int_L1, e2h, h3, cond_true, cond_false]
        have hP3 : slices_Equal_int s1 s2 = false := by simp only [slices_Equal_int, h1, hP2, cond_true, cond_false]
        refine WX.ret ttOk rfl ?_
        intro w1 G bs hI hΓ
        rw [hP3]
        exact ⟨rfl, trivial⟩
      · skip
        have h3d := B.nf' h3
        refine WX.run ttOk rfl ?_
        refine WX.see rfl rfl rfl (fun _ hΓ => looks_arith rfl rfl rfl rfl (by unfold I64; first | omega | (simp only [List.length_take, List.length_drop] at *; omega) | (dsimp only; omega))) ?_
        refine WX.run ttOk rfl ?_
        exact WX.iter (i + 1) ⟨(by omega), (by rw [v2, drop_get e1h]; simp only [slices_Equal_int_L1, e2h, h3, cond_true, cond_false])⟩ (by first | (dsimp only; omega) | omega) (.cons rfl (.cons rfl (.cons rfl (.cons rfl (.nil))))) .nil .nil [0, 1] rfl
    · skip
      have h2d := B.df h2
      refine WX.run ttOk rfl ?_
      have hX1 : slices_Equal_int_L1 s2 s1 0 = none := by rw [v2, List.drop_eq_nil_of_le (show (s1).length ≤ i by omega)]; simp only [slices_Equal_int_L1, cond_true, cond_false]
      have hP4 : slices_Equal_int s1 s2 = true := by simp only [slices_Equal_int, h1, hX1, cond_true, cond_false]
      refine WX.ret ttOk rfl ?_
      intro w1 G bs hI hΓ
      rw [hP4]
      exact ⟨rfl, trivial⟩
theorem f121 (w : World) (n : Nat) (hn : n + 0 ≤ 9) (a : (List Int)) (pa : Option Addr) (ca : Nat) (hpa : RdSl (hp w) pa ca a) (b : (List Int)) (pb : Option Addr) (cb : Nat) (hpb : RdSl (hp w) pb cb b) (hoka : GoT.ok n a) (hokb : GoT.ok n b) :
    Does Tryz.prog 121 #[.slice pa ((a).length) ca, .slice pb ((b).length) cb] w emp (fun (rv : Value) (_ : World) => rv = .bool (spec_EqualInts a b) ∧ True) := by
  have hbP := bd_pos n
  have hbB := bd_big (n := n) (by omega)
  refine WX.enter (tt := tt) (Γ := [(0, MF.rs .stb pa ca a), (1, MF.rs .stb pb cb b)]) Tryz.func121 rfl (by kernel_rfl) rfl (allS_cons rfl hpa (allS_cons rfl hpb allS_nil)) ?_
  refine WX.run ttOk rfl ?_
  refine WX.cases 10 rfl (fun h1 => ?_) (fun h1 => ?_)
  · skip
    have h1d := B.nt' h1
    refine WX.run ttOk rfl ?_
    have hP1 : spec_EqualInts a b = false := by simp only [spec_EqualInts, h1, cond_true, cond_false]
    refine WX.ret ttOk rfl ?_
    intro w1 G bs hI hΓ
    rw [hP1]
    exact ⟨rfl, trivial⟩
  · skip
    have h1d := B.nf' h1
    refine WX.run ttOk rfl ?_
    have r1 : (a).length ≤ bd n := (okl hoka).1
    refine WX.loop (ι := Nat) ⟨fun i => (i ≤ (a).length) ∧ (spec_EqualInts_L1 b a 0 = spec_EqualInts_L1 b ((a).drop i) i), fun i => (a).length - i, fun i => [(5, .v (.int .i64 (((i : Nat) : Int)))), (0, .v (.slice pa ((a).length) ca)), (1, .v (.slice pb ((b).length) cb))], fun i => [], fun i => [], fun i => [(0, MF.rs .stb pa ca a), (1, MF.rs .stb pb cb b)]⟩ 0 ⟨(Nat.zero_le _), rfl⟩
      (.cons rfl (.cons rfl (.cons rfl (.nil)))) .nil .nil [0, 1] rfl ?_
    rintro i hpre
    have hpre_ : (i ≤ (a).length) ∧ (spec_EqualInts_L1 b a 0 = spec_EqualInts_L1 b ((a).drop i) i) := hpre
    clear hpre
    obtain ⟨v1, v2⟩ := hpre_
    refine WX.run ttOk rfl ?_
    refine WX.cases 14 rfl (fun h2 => ?_) (fun h2 => ?_)
    · skip
      have h2d := B.dt h2
      have e1i : i < (a).length := (by omega)
      obtain ⟨e1, e1h⟩ : ∃ e1, (a)[i]? = some e1 := ⟨_, List.getElem?_eq_getElem e1i⟩
      have ok1 : GoT.ok n e1 := (okl hoka).2 _ (List.mem_of_getElem? e1h)
      refine WX.run ttOk rfl ?_
      refine WX.draw [] mixed ?_
      intro bs G0 hΓ0
      refine DX.takes (fuel := 7) ttOk [(0, true), (1, true)] (by kernel_rfl) rfl ?_
      refine DX.idx 2 0 i ttOk hΓ0 (by kernel_rfl) rfl rfl rfl rfl rfl rfl rfl rfl rfl rfl rfl e1i ?_
      rintro ad1 rfl
      refine DX.ldE 3 0 2 e1 ttOk hΓ0 (by kernel_rfl) rfl rfl rfl rfl rfl rfl rfl rfl e1h (fun _ => rfl) (fun _ => rfl) ?_
      rintro ⟨⟩
      refine DX.takes (fuel := 3) ttOk [(4, true), (5, true)] (by kernel_rfl) rfl ?_
      have e2i : i < (b).length := (by first | assumption | omega)
      obtain ⟨e2, e2h⟩ : ∃ e2, (b)[i]? = some e2 := ⟨_, List.getElem?_eq_getElem e2i⟩
      have ok2 : GoT.ok n e2 := (okl hokb).2 _ (List.mem_of_getElem? e2h)
      refine DX.idx 6 1 i ttOk hΓ0 (by kernel_rfl) rfl rfl rfl rfl rfl rfl rfl rfl rfl rfl rfl e2i ?_
      rintro ad2 rfl
      refine DX.ldE 7 1 2 e2 ttOk hΓ0 (by kernel_rfl) rfl rfl rfl rfl rfl rfl rfl rfl e2h (fun _ => rfl) (fun _ => rfl) ?_
      rintro ⟨⟩
      refine DX.takes (fuel := 0) ttOk [(8, true)] (by kernel_rfl) rfl ?_
      refine DX.tail2 [] rfl rfl (by kernel_rfl) ?_
      refine WX.run ttOk rfl ?_
      refine WX.cases 25 rfl (fun h3 => ?_) (fun h3 => ?_)
      · skip
        have h3d := B.nt' h3
        refine WX.run ttOk rfl ?_
        have hP2 : spec_EqualInts_L1 b a 0 = (some false) := by rw [v2, drop_get e1h]; simp only [spec_EqualInts_L1, e2h, h3, cond_true, cond_false]
        have hP3 : spec_EqualInts a b = false := by simp only [spec_EqualInts, h1, hP2, cond_true, cond_false]
        refine WX.ret ttOk rfl ?_
        intro w1 G bs hI hΓ
        rw [hP3]
        exact ⟨rfl, trivial⟩
      · skip
        have h3d := B.nf' h3
        refine WX.run ttOk rfl ?_
        refine WX.see rfl rfl rfl (fun _ hΓ => looks_arith rfl rfl rfl rfl (by unfold I64; first | omega | (simp only [List.length_take, List.length_drop] at *; omega) | (dsimp only; omega))) ?_
        refine WX.run ttOk rfl ?_
        exact WX.iter (i + 1) ⟨(by omega), (by rw [v2, drop_get e1h]; simp only [spec_EqualInts_L1, e2h, h3, cond_true, cond_false])⟩ (by first | (dsimp only; omega) | omega) (.cons rfl (.cons rfl (.cons rfl (.nil)))) .nil .nil [0, 1] rfl
    · skip
      have h2d := B.df h2
      refine WX.run ttOk rfl ?_
      have hX1 : spec_EqualInts_L1 b a 0 = none := by rw [v2, List.drop_eq_nil_of_le (show (a).length ≤ i by omega)]; simp only [spec_EqualInts_L1, cond_true, cond_false]
      have hP4 : spec_EqualInts a b = true := by simp only [spec_EqualInts, h1, hX1, cond_true, cond_false]
      refine WX.ret ttOk rfl ?_
      intro w1 G bs hI hΓ
      rw [hP4]
      exact ⟨rfl, trivial⟩
theorem f131 (w : World) (n : Nat) (hn : n + 0 ≤ 9) (s1 : (List Link)) (ps1 : Option Addr) (cs1 : Nat) (hps1 : RdSl (hp w) ps1 cs1 s1) (s2 : (List Link)) (ps2 : Option Addr) (cs2 : Nat) (hps2 : RdSl (hp w) ps2 cs2 s2) (hoks1 : GoT.ok n s1) (hoks2 : GoT.ok n s2) :
    Does Tryz.prog 131 #[.slice ps1 ((s1).length) cs1, .slice ps2 ((s2).length) cs2] w emp (fun (rv : Value) (_ : World) => rv = .bool (slices_Equal_Link s1 s2) ∧ True) := by
  have hbP := bd_pos n
  have hbB := bd_big (n := n) (by omega)
  refine WX.enter (tt := tt) (Γ := [(0, MF.rs .stb ps1 cs1 s1), (1, MF.rs .stb ps2 cs2 s2)]) Tryz.func131 rfl (by kernel_rfl) rfl (allS_cons rfl hps1 (allS_cons rfl hps2 allS_nil)) ?_
  refine WX.run ttOk rfl ?_
  refine WX.cases 10 rfl (fun h1 => ?_) (fun h1 => ?_)
  · skip
    have h1d := B.nt' h1
    refine WX.run ttOk rfl ?_
    have hP1 : slices_Equal_Link s1 s2 = false := by simp only [slices_Equal_Link, h1, cond_true, cond_false]
    refine WX.ret ttOk rfl ?_
    intro w1 G bs hI hΓ
    rw [hP1]
    exact ⟨rfl, trivial⟩
  · skip
    have h1d := B.nf' h1
    refine WX.run ttOk rfl ?_
    have r1 : (s1).length ≤ bd n := (okl hoks1).1
    refine WX.loop (ι := Nat) ⟨fun i => (i ≤ (s1).length) ∧ (slices_Equal_Link_L1 s2 s1 0 = slices_Equal_Link_L1 s2 ((s1).drop i) i), fun i => (s1).length - i, fun i => [(13, .v (.int .i64 (((i : Nat) : Int)))), (12, .v (.int .i64 ((((s1).length : Nat) : Int)))), (0, .v (.slice ps1 ((s1).length) cs1)), (1, .v (.slice ps2 ((s2).length) cs2))], fun i => [], fun i => [], fun i => [(0, MF.rs .stb ps1 cs1 s1), (1, MF.rs .stb ps2 cs2 s2)]⟩ 0 ⟨(Nat.zero_le _), rfl⟩
      (.cons rfl (.cons rfl (.cons rfl (.cons rfl (.nil))))) .nil .nil [0, 1] rfl ?_
    rintro i hpre
    have hpre_ : (i ≤ (s1).length) ∧ (slices_Equal_Link_L1 s2 s1 0 = slices_Equal_Link_L1 s2 ((s1).drop i) i) := hpre
    clear hpre
    obtain ⟨v1, v2⟩ := hpre_
    refine WX.run ttOk rfl ?_
    refine WX.cases 14 rfl (fun h2 => ?_) (fun h2 => ?_)
    · skip
      have h2d := B.dt h2
      have e1i : i < (s1).length := (by omega)
      obtain ⟨e1, e1h⟩ : ∃ e1, (s1)[i]? = some e1 := ⟨_, List.getElem?_eq_getElem e1i⟩
      have ok1 : GoT.ok n e1 := (okl hoks1).2 _ (List.mem_of_getElem? e1h)
      refine WX.run ttOk rfl ?_
      refine WX.draw [] mixed ?_
      intro bs G0 hΓ0
      refine DX.takes (fuel := 7) ttOk [(0, true), (1, true)] (by kernel_rfl) rfl ?_
      refine DX.idx 2 0 i ttOk hΓ0 (by kernel_rfl) rfl rfl rfl rfl rfl rfl rfl rfl rfl rfl rfl e1i ?_
      rintro ad1 rfl
      refine DX.ldE 3 0 2 e1 ttOk hΓ0 (by kernel_rfl) rfl rfl rfl rfl rfl rfl rfl rfl e1h (fun _ => rfl) (fun _ => rfl) ?_
      rintro ⟨⟨⟩, ⟨⟩⟩
      refine DX.takes (fuel := 3) ttOk [(4, true), (5, true)] (by kernel_rfl) rfl ?_
      have e2i : i < (s2).length := (by first | assumption | omega)
      obtain ⟨e2, e2h⟩ : ∃ e2, (s2)[i]? = some e2 := ⟨_, List.getElem?_eq_getElem e2i⟩
      have ok2 : GoT.ok n e2 := (okl hoks2).2 _ (List.mem_of_getElem? e2h)
      refine DX.idx 6 1 i ttOk hΓ0 (by kernel_rfl) rfl rfl rfl rfl rfl rfl rfl rfl rfl rfl rfl e2i ?_
      rintro ad2 rfl
      refine DX.ldE 7 1 2 e2 ttOk hΓ0 (by kernel_rfl) rfl rfl rfl rfl rfl rfl rfl rfl e2h (fun _ => rfl) (fun _ => rfl) ?_
      rintro ⟨⟨⟩, ⟨⟩⟩
      refine DX.see 8 (by kernel_rfl) rfl rfl rfl rfl (looks_eq2 ttOk rfl rfl rfl (by kernel_rfl) (by kernel_rfl) rfl rfl rfl rfl (by decide) (by decide) rfl rfl rfl rfl rfl) ?_
      refine DX.tail2 [] rfl rfl (by kernel_rfl) ?_
      refine WX.run ttOk rfl ?_
      refine WX.cases 24 rfl (fun h3 => ?_) (fun h3 => ?_)
      · skip
        have h3d := (B.nt h3)
        refine WX.run ttOk rfl ?_
        have hP2 : slices_Equal_Link_L1 s2 s1 0 = (some false) := by rw [v2, drop_get e1h]; simp only [slices_Equal_Link_L1, e2h, h3, cond_true, cond_false]
        have hP3 : slices_Equal_Link s1 s2 = false := by simp only [slices_Equal_Link, h1, hP2, cond_true, cond_false]
        refine WX.ret ttOk rfl ?_
        intro w1 G bs hI hΓ
        rw [hP3]
        exact ⟨rfl, trivial⟩
      · skip
        have h3d := (B.nf h3)
        refine WX.run ttOk rfl ?_
        refine WX.see rfl rfl rfl (fun _ hΓ => looks_arith rfl rfl rfl rfl (by unfold I64; first | omega | (simp only [List.length_take, List.length_drop] at *; omega) | (dsimp only; omega))) ?_
        refine WX.run ttOk rfl ?_
        exact WX.iter (i + 1) ⟨(by omega), (by rw [v2, drop_get e1h]; simp only [slices_Equal_Link_L1, e2h, h3, cond_true, cond_false])⟩ (by first | (dsimp only; omega) | omega) (.cons rfl (.cons rfl (.cons rfl (.cons rfl (.nil))))) .nil .nil [0, 1] rfl
    · skip
      have h2d := B.df h2
      refine WX.run ttOk rfl ?_
      have hX1 : slices_Equal_Link_L1 s2 s1 0 = none := by rw [v2, List.drop_eq_nil_of_le (show (s1).length ≤ i by omega)]; simp only [slices_Equal_Link_L1, cond_true, cond_false]
      have hP4 : slices_Equal_Link s1 s2 = true := by simp only [slices_Equal_Link, h1, hX1, cond_true, cond_false]
      refine WX.ret ttOk rfl ?_
      intro w1 G bs hI hΓ
      rw [hP4]
      exact ⟨rfl, trivial⟩
theorem f333 (w : World) (n : Nat) (hn : n + 0 ≤ 9) (s1 : (List Requester)) (ps1 : Option Addr) (cs1 : Nat) (hps1 : RdSl (hp w) ps1 cs1 s1) (s2 : (List Requester)) (ps2 : Option Addr) (cs2 : Nat) (hps2 : RdSl (hp w) ps2 cs2 s2) (hoks1 : GoT.ok n s1) (hoks2 : GoT.ok n s2) :
    Does Tryz.prog 333 #[.slice ps1 ((s1).length) cs1, .slice ps2 ((s2).length) cs2] w emp (fun (rv : Value) (_ : World) => rv = .bool (slices_Equal_Requester s1 s2) ∧ True) := by
  have hbP := bd_pos n
  have hbB := bd_big (n := n) (by omega)
  refine WX.enter (tt := tt) (Γ := [(0, MF.rs .stb ps1 cs1 s1), (1, MF.rs .stb ps2 cs2 s2)]) Tryz.func333 rfl (by kernel_rfl) rfl (allS_cons rfl hps1 (allS_cons rfl hps2 allS_nil)) ?_
  refine WX.run ttOk rfl ?_
  refine WX.cases 10 rfl (fun h1 => ?_) (fun h1 => ?_)
  · skip
    have h1d := B.nt' h1
    refine WX.run ttOk rfl ?_
    have hP1 : slices_Equal_Requester s1 s2 = false := by simp only [slices_Equal_Requester, h1, cond_true, cond_false]
    refine WX.ret ttOk rfl ?_
    intro w1 G bs hI hΓ
    rw [hP1]
    exact ⟨rfl, trivial⟩
  · skip
    have h1d := B.nf' h1
    refine WX.run ttOk rfl ?_
    have r1 : (s1).length ≤ bd n := (okl hoks1).1
    refine WX.loop (ι := Nat) ⟨fun i => (i ≤ (s1).length) ∧ (slices_Equal_Requester_L1 s2 s1 0 = slices_Equal_Requester_L1 s2 ((s1).drop i) i), fun i => (s1).length - i, fun i => [(13, .v (.int .i64 (((i : Nat) : Int)))), (12, .v (.int .i64 ((((s1).length : Nat) : Int)))), (0, .v (.slice ps1 ((s1).length) cs1)), (1, .v (.slice ps2 ((s2).length) cs2))], fun i => [], fun i => [], fun i => [(0, MF.rs .stb ps1 cs1 s1), (1, MF.rs .stb ps2 cs2 s2)]⟩ 0 ⟨(Nat.zero_le _), rfl⟩
      (.cons rfl (.cons rfl (.cons rfl (.cons rfl (.nil))))) .nil .nil [0, 1] rfl ?_
    rintro i hpre
    have hpre_ : (i ≤ (s1).length) ∧ (slices_Equal_Requester_L1 s2 s1 0 = slices_Equal_Requester_L1 s2 ((s1).drop i) i) := hpre
    clear hpre
    obtain ⟨v1, v2⟩ := hpre_
    refine WX.run ttOk rfl ?_
    refine WX.cases 14 rfl (fun h2 => ?_) (fun h2 => ?_)
    · skip
      have h2d := B.dt h2
      have e1i : i < (s1).length := (by omega)
      obtain ⟨e1, e1h⟩ : ∃ e1, (s1)[i]? = some e1 := ⟨_, List.getElem?_eq_getElem e1i⟩
      have ok1 : GoT.ok n e1 := (okl hoks1).2 _ (List.mem_of_getElem? e1h)
      refine WX.run ttOk rfl ?_
      refine WX.draw [] mixed ?_
      intro bs G0 hΓ0
      refine DX.takes (fuel := 7) ttOk [(0, true), (1, true)] (by kernel_rfl) rfl ?_
      refine DX.idx 2 0 i ttOk hΓ0 (by kernel_rfl) rfl rfl rfl rfl rfl rfl rfl rfl rfl rfl rfl e1i ?_
      rintro ad1 rfl
      refine DX.ldE 3 0 2 e1 ttOk hΓ0 (by kernel_rfl) rfl rfl rfl rfl rfl rfl rfl rfl e1h (fun _ => rfl) (fun _ => rfl) ?_
      rintro ⟨⟨⟩, ⟨⟩, ⟨⟩⟩
      refine DX.takes (fuel := 3) ttOk [(4, true), (5, true)] (by kernel_rfl) rfl ?_
      have e2i : i < (s2).length := (by first | assumption | omega)
      obtain ⟨e2, e2h⟩ : ∃ e2, (s2)[i]? = some e2 := ⟨_, List.getElem?_eq_getElem e2i⟩
      have ok2 : GoT.ok n e2 := (okl hoks2).2 _ (List.mem_of_getElem? e2h)
      refine DX.idx 6 1 i ttOk hΓ0 (by kernel_rfl) rfl rfl rfl rfl rfl rfl rfl rfl rfl rfl rfl e2i ?_
      rintro ad2 rfl
      refine DX.ldE 7 1 2 e2 ttOk hΓ0 (by kernel_rfl) rfl rfl rfl rfl rfl rfl rfl rfl e2h (fun _ => rfl) (fun _ => rfl) ?_
      rintro ⟨⟨⟩, ⟨⟩, ⟨⟩⟩
      refine DX.see 8 (by kernel_rfl) rfl rfl rfl rfl (looks_eq3 ttOk rfl rfl rfl (by kernel_rfl) (by kernel_rfl) rfl rfl rfl rfl rfl rfl (by decide) (by decide) (by decide) rfl rfl rfl rfl rfl rfl) ?_
      refine DX.tail2 [] rfl rfl (by kernel_rfl) ?_
      refine WX.run ttOk rfl ?_
      refine WX.cases 24 rfl (fun h3 => ?_) (fun h3 => ?_)
      · skip
        have h3d := (B.nt h3)
        refine WX.run ttOk rfl ?_
        have hP2 : slices_Equal_Requester_L1 s2 s1 0 = (some false) := by rw [v2, drop_get e1h]; simp only [slices_Equal_Requester_L1, e2h, h3, cond_true, cond_false]
        have hP3 : slices_Equal_Requester s1 s2 = false := by simp only [slices_Equal_Requester, h1, hP2, cond_true, cond_false]
        refine WX.ret ttOk rfl ?_
        intro w1 G bs hI hΓ
        rw [hP3]
        exact ⟨rfl, trivial⟩
      · skip
        have h3d := (B.nf h3)
        refine WX.run ttOk rfl ?_
        refine WX.see rfl rfl rfl (fun _ hΓ => looks_arith rfl rfl rfl rfl (by unfold I64; first | omega | (simp only [List.length_take, List.length_drop] at *; omega) | (dsimp only; omega))) ?_
        refine WX.run ttOk rfl ?_
        exact WX.iter (i + 1) ⟨(by omega), (by rw [v2, drop_get e1h]; simp only [slices_Equal_Requester_L1, e2h, h3, cond_true, cond_false])⟩ (by first | (dsimp only; omega) | omega) (.cons rfl (.cons rfl (.cons rfl (.cons rfl (.nil))))) .nil .nil [0, 1] rfl
    · skip
      have h2d := B.df h2
      refine WX.run ttOk rfl ?_
      have hX1 : slices_Equal_Requester_L1 s2 s1 0 = none := by rw [v2, List.drop_eq_nil_of_le (show (s1).length ≤ i by omega)]; simp only [slices_Equal_Requester_L1, cond_true, cond_false]
      have hP4 : slices_Equal_Requester s1 s2 = true := by simp only [slices_Equal_Requester, h1, hX1, cond_true, cond_false]
      refine WX.ret ttOk rfl ?_
      intro w1 G bs hI hΓ
      rw [hP4]
      exact ⟨rfl, trivial⟩
theorem f233 (w : World) (n : Nat) (hn : n + 0 ≤ 9) (s1 : (List Key)) (ps1 : Option Addr) (cs1 : Nat) (hps1 : RdSl (hp w) ps1 cs1 s1) (s2 : (List Key)) (ps2 : Option Addr) (cs2 : Nat) (hps2 : RdSl (hp w) ps2 cs2 s2) (eqg : FuncId) (eqc : List Value) (eqq : Key → Key → Bool) (eqf : ∀ w1, Kp emp w w1 → ∀ (e0 : Key) (x0 : GoT.X Key), GoT.ok n e0 → All (hp w1) (GoT.fa .der e0 x0) → ∀ (e1 : Key) (x1 : GoT.X Key), GoT.ok n e1 → All (hp w1) (GoT.fa .der e1 x1) → Does Tryz.prog eqg ([Value.agg ⟨GoT.sh e0 x0⟩, Value.agg ⟨GoT.sh e1 x1⟩] ++ eqc).toArray w1 emp (fun rv _ => rv = .bool (eqq e0 e1) ∧ True)) (hoks1 : GoT.ok n s1) (hoks2 : GoT.ok n s2) :
    Does Tryz.prog 233 #[.slice ps1 ((s1).length) cs1, .slice ps2 ((s2).length) cs2, .func (.func eqg) #[] eqc.toArray] w emp (fun (rv : Value) (_ : World) => rv = .bool (slices_EqualFunc_Key s1 s2 eqq) ∧ True) := by
  have hbP := bd_pos n
  have hbB := bd_big (n := n) (by omega)
  refine WX.enter (tt := tt) (Γ := [(0, MF.rs .stb ps1 cs1 s1), (1, MF.rs .stb ps2 cs2 s2)]) Tryz.func233 rfl (by kernel_rfl) rfl (allS_cons rfl hps1 (allS_cons rfl hps2 allS_nil)) ?_
  refine WX.run ttOk rfl ?_
  refine WX.cases 14 rfl (fun h1 => ?_) (fun h1 => ?_)
  · skip
    have h1d := B.nt' h1
    refine WX.run ttOk rfl ?_
    have hP1 : slices_EqualFunc_Key s1 s2 eqq = false := by simp only [slices_EqualFunc_Key, h1, cond_true, cond_false]
    refine WX.ret ttOk rfl ?_
    intro w1 G bs hI hΓ
    rw [hP1]
    exact ⟨rfl, trivial⟩
  · skip
    have h1d := B.nf' h1
    refine WX.run ttOk rfl ?_
    have r1 : (s1).length ≤ bd n := (okl hoks1).1
    refine WX.loop (ι := Nat) ⟨fun i => (i ≤ (s1).length) ∧ (slices_EqualFunc_Key_L1 eqq s2 s1 0 = slices_EqualFunc_Key_L1 eqq s2 ((s1).drop i) i), fun i => (s1).length - i, fun i => [(17, .v (.int .i64 (((i : Nat) : Int)))), (16, .v (.int .i64 ((((s1).length : Nat) : Int)))), (15, .v (.slice ps1 ((s1).length) cs1)), (1, .v (.slice ps2 ((s2).length) cs2)), (2, .v (.func (.func eqg) #[] eqc.toArray))], fun i => [], fun i => [], fun i => [(0, MF.rs .stb ps1 cs1 s1), (1, MF.rs .stb ps2 cs2 s2)]⟩ 0 ⟨(Nat.zero_le _), rfl⟩
      (.cons rfl (.cons rfl (.cons rfl (.cons rfl (.cons rfl (.nil)))))) .nil .nil [0, 1] rfl ?_
    rintro i hpre
    have hpre_ : (i ≤ (s1).length) ∧ (slices_EqualFunc_Key_L1 eqq s2 s1 0 = slices_EqualFunc_Key_L1 eqq s2 ((s1).drop i) i) := hpre
    clear hpre
    obtain ⟨v1, v2⟩ := hpre_
    refine WX.run ttOk rfl ?_
    refine WX.cases 18 rfl (fun h2 => ?_) (fun h2 => ?_)
    · skip
      have h2d := B.dt h2
      have e1i : i < (s1).length := (by omega)
      obtain ⟨e1, e1h⟩ : ∃ e1, (s1)[i]? = some e1 := ⟨_, List.getElem?_eq_getElem e1i⟩
      have ok1 : GoT.ok n e1 := (okl hoks1).2 _ (List.mem_of_getElem? e1h)
      refine WX.run ttOk rfl ?_
      refine WX.idx 0 i ttOk rfl rfl rfl rfl rfl rfl rfl rfl rfl rfl e1i ?_
      rintro ad1 rfl
      refine WX.ldE 0 2 e1 ttOk rfl rfl rfl rfl rfl rfl rfl rfl e1h (fun _ => rfl) (fun _ => rfl) ?_
      rintro ⟨⟨p1, c1⟩, ⟨⟩⟩
      refine WX.run ttOk rfl ?_
      have e2i : i < (s2).length := (by first | assumption | omega)
      obtain ⟨e2, e2h⟩ : ∃ e2, (s2)[i]? = some e2 := ⟨_, List.getElem?_eq_getElem e2i⟩
      have ok2 : GoT.ok n e2 := (okl hoks2).2 _ (List.mem_of_getElem? e2h)
      refine WX.idx 1 i ttOk rfl rfl rfl rfl rfl rfl rfl rfl rfl rfl e2i ?_
      rintro ad2 rfl
      refine WX.ldE 1 3 e2 ttOk rfl rfl rfl rfl rfl rfl rfl rfl e2h (fun _ => rfl) (fun _ => rfl) ?_
      rintro ⟨⟨p2, c2⟩, ⟨⟩⟩
      refine WX.run ttOk rfl ?_
      refine WX.callV rfl rfl rfl rfl rfl (fun _ => rfl) rfl (fun w G bs hI hΓ => eqf w hI.keep e1 ((p1, c1), ()) ok1 (All.cons (hΓ.get 2 rfl : RdSl _ _ _ _) All.nil) e2 ((p2, c2), ()) ok2 (All.cons (hΓ.get 3 rfl : RdSl _ _ _ _) All.nil)) ?_
      intro hq1
      refine WX.run ttOk rfl ?_
      refine WX.cases 30 rfl (fun h3 => ?_) (fun h3 => ?_)
      · skip
        have h3d := (B.nt h3)
        refine WX.run ttOk rfl ?_
        have hP2 : slices_EqualFunc_Key_L1 eqq s2 s1 0 = (some false) := by rw [v2, drop_get e1h]; simp only [slices_EqualFunc_Key_L1, e2h, h3, cond_true, cond_false]
        have hP3 : slices_EqualFunc_Key s1 s2 eqq = false := by simp only [slices_EqualFunc_Key, h1, hP2, cond_true, cond_false]
        refine WX.ret ttOk rfl ?_
        intro w1 G bs hI hΓ
        rw [hP3]
        exact ⟨rfl, trivial⟩
      · skip
        have h3d := (B.nf h3)
        refine WX.run ttOk rfl ?_
        refine WX.see rfl rfl rfl (fun _ hΓ => looks_arith rfl rfl rfl rfl (by unfold I64; first | omega | (simp only [List.length_take, List.length_drop] at *; omega) | (dsimp only; omega))) ?_
        refine WX.run ttOk rfl ?_
        exact WX.iter (i + 1) ⟨(by omega), (by rw [v2, drop_get e1h]; simp only [slices_EqualFunc_Key_L1, e2h, h3, cond_true, cond_false])⟩ (by first | (dsimp only; omega) | omega) (.cons rfl (.cons rfl (.cons rfl (.cons rfl (.cons rfl (.nil)))))) .nil .nil [0, 1] rfl
    · skip
      have h2d := B.df h2
      refine WX.run ttOk rfl ?_
      have hX1 : slices_EqualFunc_Key_L1 eqq s2 s1 0 = none := by rw [v2, List.drop_eq_nil_of_le (show (s1).length ≤ i by omega)]; simp only [slices_EqualFunc_Key_L1, cond_true, cond_false]
      have hP4 : slices_EqualFunc_Key s1 s2 eqq = true := by simp only [slices_EqualFunc_Key, h1, hX1, cond_true, cond_false]
      refine WX.ret ttOk rfl ?_
      intro w1 G bs hI hΓ
      rw [hP4]
      exact ⟨rfl, trivial⟩
theorem f234 (w : World) (n : Nat) (hn : n + 0 ≤ 9) (s1 : (List Rule)) (ps1 : Option Addr) (cs1 : Nat) (hps1 : RdSl (hp w) ps1 cs1 s1) (s2 : (List Rule)) (ps2 : Option Addr) (cs2 : Nat) (hps2 : RdSl (hp w) ps2 cs2 s2) (eqg : FuncId) (eqc : List Value) (eqq : Rule → Rule → Bool) (eqf : ∀ w1, Kp emp w w1 → ∀ (e0 : Rule) (x0 : GoT.X Rule), GoT.ok n e0 → All (hp w1) (GoT.fa .der e0 x0) → ∀ (e1 : Rule) (x1 : GoT.X Rule), GoT.ok n e1 → All (hp w1) (GoT.fa .der e1 x1) → Does Tryz.prog eqg ([Value.agg ⟨GoT.sh e0 x0⟩, Value.agg ⟨GoT.sh e1 x1⟩] ++ eqc).toArray w1 emp (fun rv _ => rv = .bool (eqq e0 e1) ∧ True)) (hoks1 : GoT.ok n s1) (hoks2 : GoT.ok n s2) :
    Does Tryz.prog 234 #[.slice ps1 ((s1).length) cs1, .slice ps2 ((s2).length) cs2, .func (.func eqg) #[] eqc.toArray] w emp (fun (rv : Value) (_ : World) => rv = .bool (slices_EqualFunc_Rule s1 s2 eqq) ∧ True) := by
  have hbP := bd_pos n
  have hbB := bd_big (n := n) (by omega)
  refine WX.enter (tt := tt) (Γ := [(0, MF.rs .stb ps1 cs1 s1), (1, MF.rs .stb ps2 cs2 s2)]) Tryz.func234 rfl (by kernel_rfl) rfl (allS_cons rfl hps1 (allS_cons rfl hps2 allS_nil)) ?_
  refine WX.run ttOk rfl ?_
  refine WX.cases 14 rfl (fun h1 => ?_) (fun h1 => ?_)
  · skip
    have h1d := B.nt' h1
    refine WX.run ttOk rfl ?_
    have hP1 : slices_EqualFunc_Rule s1 s2 eqq = false := by simp only [slices_EqualFunc_Rule, h1, cond_true, cond_false]
    refine WX.ret ttOk rfl ?_
    intro w1 G bs hI hΓ
    rw [hP1]
    exact ⟨rfl, trivial⟩
  · skip
    have h1d := B.nf' h1
    refine WX.run ttOk rfl ?_
    have r1 : (s1).length ≤ bd n := (okl hoks1).1
    refine WX.loop (ι := Nat) ⟨fun i => (i ≤ (s1).length) ∧ (slices_EqualFunc_Rule_L1 eqq s2 s1 0 = slices_EqualFunc_Rule_L1 eqq s2 ((s1).drop i) i), fun i => (s1).length - i, fun i => [(17, .v (.int .i64 (((i : Nat) : Int)))), (16, .v (.int .i64 ((((s1).length : Nat) : Int)))), (15, .v (.slice ps1 ((s1).length) cs1)), (1, .v (.slice ps2 ((s2).length) cs2)), (2, .v (.func (.func eqg) #[] eqc.toArray))], fun i => [], fun i => [], fun i => [(0, MF.rs .stb ps1 cs1 s1), (1, MF.rs .stb ps2 cs2 s2)]⟩ 0 ⟨(Nat.zero_le _), rfl⟩
      (.cons rfl (.cons rfl (.cons rfl (.cons rfl (.cons rfl (.nil)))))) .nil .nil [0, 1] rfl ?_
    rintro i hpre
    have hpre_ : (i ≤ (s1).length) ∧ (slices_EqualFunc_Rule_L1 eqq s2 s1 0 = slices_EqualFunc_Rule_L1 eqq s2 ((s1).drop i) i) := hpre
    clear hpre
    obtain ⟨v1, v2⟩ := hpre_
    refine WX.run ttOk rfl ?_
    refine WX.cases 18 rfl (fun h2 => ?_) (fun h2 => ?_)
    · skip
      have h2d := B.dt h2
      have e1i : i < (s1).length := (by omega)
      obtain ⟨e1, e1h⟩ : ∃ e1, (s1)[i]? = some e1 := ⟨_, List.getElem?_eq_getElem e1i⟩
      have ok1 : GoT.ok n e1 := (okl hoks1).2 _ (List.mem_of_getElem? e1h)
      refine WX.run ttOk rfl ?_
      refine WX.idx 0 i ttOk rfl rfl rfl rfl rfl rfl rfl rfl rfl rfl e1i ?_
      rintro ad1 rfl
      refine WX.ldE 0 2 e1 ttOk rfl rfl rfl rfl rfl rfl rfl rfl e1h (fun _ => rfl) (fun _ => rfl) ?_
      rintro ⟨⟨p1, c1⟩, ⟨p2, c2⟩⟩
      refine WX.run ttOk rfl ?_
      have e2i : i < (s2).length := (by first | assumption | omega)
      obtain ⟨e2, e2h⟩ : ∃ e2, (s2)[i]? = some e2 := ⟨_, List.getElem?_eq_getElem e2i⟩
      have ok2 : GoT.ok n e2 := (okl hoks2).2 _ (List.mem_of_getElem? e2h)
      refine WX.idx 1 i ttOk rfl rfl rfl rfl rfl rfl rfl rfl rfl rfl e2i ?_
      rintro ad2 rfl
      refine WX.ldE 1 4 e2 ttOk rfl rfl rfl rfl rfl rfl rfl rfl e2h (fun _ => rfl) (fun _ => rfl) ?_
      rintro ⟨⟨p3, c3⟩, ⟨p4, c4⟩⟩
      refine WX.run ttOk rfl ?_
      refine WX.callV rfl rfl rfl rfl rfl (fun _ => rfl) rfl (fun w G bs hI hΓ => eqf w hI.keep e1 ((p1, c1), (p2, c2)) ok1 (All.cons (hΓ.get 2 rfl : RdSl _ _ _ _) (All.cons (hΓ.get 3 rfl : RdSl _ _ _ _) All.nil)) e2 ((p3, c3), (p4, c4)) ok2 (All.cons (hΓ.get 4 rfl : RdSl _ _ _ _) (All.cons (hΓ.get 5 rfl : RdSl _ _ _ _) All.nil))) ?_
      intro hq1
      refine WX.run ttOk rfl ?_
      refine WX.cases 30 rfl (fun h3 => ?_) (fun h3 => ?_)
      · skip
        have h3d := (B.nt h3)
        refine WX.run ttOk rfl ?_
        have hP2 : slices_EqualFunc_Rule_L1 eqq s2 s1 0 = (some false) := by rw [v2, drop_get e1h]; simp only [slices_EqualFunc_Rule_L1, e2h, h3, cond_true, cond_false]
        have hP3 : slices_EqualFunc_Rule s1 s2 eqq = false := by simp only [slices_EqualFunc_Rule, h1, hP2, cond_true, cond_false]
        refine WX.ret ttOk rfl ?_
        intro w1 G bs hI hΓ
        rw [hP3]
        exact ⟨rfl, trivial⟩
      · skip
        have h3d := (B.nf h3)
        refine WX.run ttOk rfl ?_
        refine WX.see rfl rfl rfl (fun _ hΓ => looks_arith rfl rfl rfl rfl (by unfold I64; first | omega | (simp only [List.length_take, List.length_drop] at *; omega) | (dsimp only; omega))) ?_
        refine WX.run ttOk rfl ?_
        exact WX.iter (i + 1) ⟨(by omega), (by rw [v2, drop_get e1h]; simp only [slices_EqualFunc_Rule_L1, e2h, h3, cond_true, cond_false])⟩ (by first | (dsimp only; omega) | omega) (.cons rfl (.cons rfl (.cons rfl (.cons rfl (.cons rfl (.nil)))))) .nil .nil [0, 1] rfl
    · skip
      have h2d := B.df h2
      refine WX.run ttOk rfl ?_
      have hX1 : slices_EqualFunc_Rule_L1 eqq s2 s1 0 = none := by rw [v2, List.drop_eq_nil_of_le (show (s1).length ≤ i by omega)]; simp only [slices_EqualFunc_Rule_L1, cond_true, cond_false]
      have hP4 : slices_EqualFunc_Rule s1 s2 eqq = true := by simp only [slices_EqualFunc_Rule, h1, hX1, cond_true, cond_false]
      refine WX.ret ttOk rfl ?_
      intro w1 G bs hI hΓ
      rw [hP4]
      exact ⟨rfl, trivial⟩
theorem f236 (w : World) (n : Nat) (hn : n + 0 ≤ 9) (s1 : (List Name)) (ps1 : Option Addr) (cs1 : Nat) (hps1 : RdSl (hp w) ps1 cs1 s1) (s2 : (List Name)) (ps2 : Option Addr) (cs2 : Nat) (hps2 : RdSl (hp w) ps2 cs2 s2) (eqg : FuncId) (eqc : List Value) (eqq : Name → Name → Bool) (eqf : ∀ w1, Kp emp w w1 → ∀ (e0 : Name) (x0 : GoT.X Name), GoT.ok n e0 → All (hp w1) (GoT.fa .der e0 x0) → ∀ (e1 : Name) (x1 : GoT.X Name), GoT.ok n e1 → All (hp w1) (GoT.fa .der e1 x1) → Does Tryz.prog eqg ([Value.agg ⟨GoT.sh e0 x0⟩, Value.agg ⟨GoT.sh e1 x1⟩] ++ eqc).toArray w1 emp (fun rv _ => rv = .bool (eqq e0 e1) ∧ True)) (hoks1 : GoT.ok n s1) (hoks2 : GoT.ok n s2) :
    Does Tryz.prog 236 #[.slice ps1 ((s1).length) cs1, .slice ps2 ((s2).length) cs2, .func (.func eqg) #[] eqc.toArray] w emp (fun (rv : Value) (_ : World) => rv = .bool (slices_EqualFunc_Name s1 s2 eqq) ∧ True) := by
  have hbP := bd_pos n
  have hbB := bd_big (n := n) (by omega)
  refine WX.enter (tt := tt) (Γ := [(0, MF.rs .stb ps1 cs1 s1), (1, MF.rs .stb ps2 cs2 s2)]) Tryz.func236 rfl (by kernel_rfl) rfl (allS_cons rfl hps1 (allS_cons rfl hps2 allS_nil)) ?_
  refine WX.run ttOk rfl ?_
  refine WX.cases 14 rfl (fun h1 => ?_) (fun h1 => ?_)
  · skip
    have h1d := B.nt' h1
    refine WX.run ttOk rfl ?_
    have hP1 : slices_EqualFunc_Name s1 s2 eqq = false := by simp only [slices_EqualFunc_Name, h1, cond_true, cond_false]
    refine WX.ret ttOk rfl ?_
    intro w1 G bs hI hΓ
    rw [hP1]
    exact ⟨rfl, trivial⟩
  · skip
    have h1d := B.nf' h1
    refine WX.run ttOk rfl ?_
    have r1 : (s1).length ≤ bd n := (okl hoks1).1
    refine WX.loop (ι := Nat) ⟨fun i => (i ≤ (s1).length) ∧ (slices_EqualFunc_Name_L1 eqq s2 s1 0 = slices_EqualFunc_Name_L1 eqq s2 ((s1).drop i) i), fun i => (s1).length - i, fun i => [(17, .v (.int .i64 (((i : Nat) : Int)))), (16, .v (.int .i64 ((((s1).length : Nat) : Int)))), (15, .v (.slice ps1 ((s1).length) cs1)), (1, .v (.slice ps2 ((s2).length) cs2)), (2, .v (.func (.func eqg) #[] eqc.toArray))], fun i => [], fun i => [], fun i => [(0, MF.rs .stb ps1 cs1 s1), (1, MF.rs .stb ps2 cs2 s2)]⟩ 0 ⟨(Nat.zero_le _), rfl⟩
      (.cons rfl (.cons rfl (.cons rfl (.cons rfl (.cons rfl (.nil)))))) .nil .nil [0, 1] rfl ?_
    rintro i hpre
    have hpre_ : (i ≤ (s1).length) ∧ (slices_EqualFunc_Name_L1 eqq s2 s1 0 = slices_EqualFunc_Name_L1 eqq s2 ((s1).drop i) i) := hpre
    clear hpre
    obtain ⟨v1, v2⟩ := hpre_
    refine WX.run ttOk rfl ?_
    refine WX.cases 18 rfl (fun h2 => ?_) (fun h2 => ?_)
    · skip
      have h2d := B.dt h2
      have e1i : i < (s1).length := (by omega)
      obtain ⟨e1, e1h⟩ : ∃ e1, (s1)[i]? = some e1 := ⟨_, List.getElem?_eq_getElem e1i⟩
      have ok1 : GoT.ok n e1 := (okl hoks1).2 _ (List.mem_of_getElem? e1h)
      refine WX.run ttOk rfl ?_
      refine WX.idx 0 i ttOk rfl rfl rfl rfl rfl rfl rfl rfl rfl rfl e1i ?_
      rintro ad1 rfl
      refine WX.ldE 0 2 e1 ttOk rfl rfl rfl rfl rfl rfl rfl rfl e1h (fun _ => rfl) (fun _ => rfl) ?_
      rintro ⟨p1, c1⟩
      refine WX.run ttOk rfl ?_
      have e2i : i < (s2).length := (by first | assumption | omega)
      obtain ⟨e2, e2h⟩ : ∃ e2, (s2)[i]? = some e2 := ⟨_, List.getElem?_eq_getElem e2i⟩
      have ok2 : GoT.ok n e2 := (okl hoks2).2 _ (List.mem_of_getElem? e2h)
      refine WX.idx 1 i ttOk rfl rfl rfl rfl rfl rfl rfl rfl rfl rfl e2i ?_
      rintro ad2 rfl
      refine WX.ldE 1 3 e2 ttOk rfl rfl rfl rfl rfl rfl rfl rfl e2h (fun _ => rfl) (fun _ => rfl) ?_
      rintro ⟨p2, c2⟩
      refine WX.run ttOk rfl ?_
      refine WX.callV rfl rfl rfl rfl rfl (fun _ => rfl) rfl (fun w G bs hI hΓ => eqf w hI.keep e1 (p1, c1) ok1 (All.cons (hΓ.get 2 rfl : RdSl _ _ _ _) All.nil) e2 (p2, c2) ok2 (All.cons (hΓ.get 3 rfl : RdSl _ _ _ _) All.nil)) ?_
      intro hq1
      refine WX.run ttOk rfl ?_
      refine WX.cases 30 rfl (fun h3 => ?_) (fun h3 => ?_)
      · skip
        have h3d := (B.nt h3)
        refine WX.run ttOk rfl ?_
        have hP2 : slices_EqualFunc_Name_L1 eqq s2 s1 0 = (some false) := by rw [v2, drop_get e1h]; simp only [slices_EqualFunc_Name_L1, e2h, h3, cond_true, cond_false]
        have hP3 : slices_EqualFunc_Name s1 s2 eqq = false := by simp only [slices_EqualFunc_Name, h1, hP2, cond_true, cond_false]
        refine WX.ret ttOk rfl ?_
        intro w1 G bs hI hΓ
        rw [hP3]
        exact ⟨rfl, trivial⟩
      · skip
        have h3d := (B.nf h3)
        refine WX.run ttOk rfl ?_
        refine WX.see rfl rfl rfl (fun _ hΓ => looks_arith rfl rfl rfl rfl (by unfold I64; first | omega | (simp only [List.length_take, List.length_drop] at *; omega) | (dsimp only; omega))) ?_
        refine WX.run ttOk rfl ?_
        exact WX.iter (i + 1) ⟨(by omega), (by rw [v2, drop_get e1h]; simp only [slices_EqualFunc_Name_L1, e2h, h3, cond_true, cond_false])⟩ (by first | (dsimp only; omega) | omega) (.cons rfl (.cons rfl (.cons rfl (.cons rfl (.cons rfl (.nil)))))) .nil .nil [0, 1] rfl
    · skip
      have h2d := B.df h2
      refine WX.run ttOk rfl ?_
      have hX1 : slices_EqualFunc_Name_L1 eqq s2 s1 0 = none := by rw [v2, List.drop_eq_nil_of_le (show (s1).length ≤ i by omega)]; simp only [slices_EqualFunc_Name_L1, cond_true, cond_false]
      have hP4 : slices_EqualFunc_Name s1 s2 eqq = true := by simp only [slices_EqualFunc_Name, h1, hX1, cond_true, cond_false]
      refine WX.ret ttOk rfl ?_
      intro w1 G bs hI hΓ
      rw [hP4]
      exact ⟨rfl, trivial⟩
theorem f237 (w : World) (n : Nat) (hn : n + 0 ≤ 9) (s1 : (List DataP)) (ps1 : Option Addr) (cs1 : Nat) (hps1 : RdSl (hp w) ps1 cs1 s1) (s2 : (List DataP)) (ps2 : Option Addr) (cs2 : Nat) (hps2 : RdSl (hp w) ps2 cs2 s2) (eqg : FuncId) (eqc : List Value) (eqq : DataP → DataP → Bool) (eqf : ∀ w1, Kp emp w w1 → ∀ (e0 : DataP) (x0 : GoT.X DataP), GoT.ok n e0 → All (hp w1) (GoT.fa .der e0 x0) → ∀ (e1 : DataP) (x1 : GoT.X DataP), GoT.ok n e1 → All (hp w1) (GoT.fa .der e1 x1) → Does Tryz.prog eqg ([Value.agg ⟨GoT.sh e0 x0⟩, Value.agg ⟨GoT.sh e1 x1⟩] ++ eqc).toArray w1 emp (fun rv _ => rv = .bool (eqq e0 e1) ∧ True)) (hoks1 : GoT.ok n s1) (hoks2 : GoT.ok n s2) :
    Does Tryz.prog 237 #[.slice ps1 ((s1).length) cs1, .slice ps2 ((s2).length) cs2, .func (.func eqg) #[] eqc.toArray] w emp (fun (rv : Value) (_ : World) => rv = .bool (slices_EqualFunc_Data s1 s2 eqq) ∧ True) := by
  have hbP := bd_pos n
  have hbB := bd_big (n := n) (by omega)
  refine WX.enter (tt := tt) (Γ := [(0, MF.rs .stb ps1 cs1 s1), (1, MF.rs .stb ps2 cs2 s2)]) Tryz.func237 rfl (by kernel_rfl) rfl (allS_cons rfl hps1 (allS_cons rfl hps2 allS_nil)) ?_
  refine WX.run ttOk rfl ?_
  refine WX.cases 14 rfl (fun h1 => ?_) (fun h1 => ?_)
  · skip
    have h1d := B.nt' h1
    refine WX.run ttOk rfl ?_
    have hP1 : slices_EqualFunc_Data s1 s2 eqq = false := by simp only [slices_EqualFunc_Data, h1, cond_true, cond_false]
    refine WX.ret ttOk rfl ?_
    intro w1 G bs hI hΓ
    rw [hP1]
    exact ⟨rfl, trivial⟩
  · skip
    have h1d := B.nf' h1
    refine WX.run ttOk rfl ?_
    have r1 : (s1).length ≤ bd n := (okl hoks1).1
    refine WX.loop (ι := Nat) ⟨fun i => (i ≤ (s1).length) ∧ (slices_EqualFunc_Data_L1 eqq s2 s1 0 = slices_EqualFunc_Data_L1 eqq s2 ((s1).drop i) i), fun i => (s1).length - i, fun i => [(17, .v (.int .i64 (((i : Nat) : Int)))), (16, .v (.int .i64 ((((s1).length : Nat) : Int)))), (15, .v (.slice ps1 ((s1).length) cs1)), (1, .v (.slice ps2 ((s2).length) cs2)), (2, .v (.func (.func eqg) #[] eqc.toArray))], fun i => [], fun i => [], fun i => [(0, MF.rs .stb ps1 cs1 s1), (1, MF.rs .stb ps2 cs2 s2)]⟩ 0 ⟨(Nat.zero_le _), rfl⟩
      (.cons rfl (.cons rfl (.cons rfl (.cons rfl (.cons rfl (.nil)))))) .nil .nil [0, 1] rfl ?_
    rintro i hpre
    have hpre_ : (i ≤ (s1).length) ∧ (slices_EqualFunc_Data_L1 eqq s2 s1 0 = slices_EqualFunc_Data_L1 eqq s2 ((s1).drop i) i) := hpre
    clear hpre
    obtain ⟨v1, v2⟩ := hpre_
    refine WX.run ttOk rfl ?_
    refine WX.cases 18 rfl (fun h2 => ?_) (fun h2 => ?_)
    · skip
      have h2d := B.dt h2
      have e1i : i < (s1).length := (by omega)
      obtain ⟨e1, e1h⟩ : ∃ e1, (s1)[i]? = some e1 := ⟨_, List.getElem?_eq_getElem e1i⟩
      have ok1 : GoT.ok n e1 := (okl hoks1).2 _ (List.mem_of_getElem? e1h)
      refine WX.run ttOk rfl ?_
      refine WX.idx 0 i ttOk rfl rfl rfl rfl rfl rfl rfl rfl rfl rfl e1i ?_
      rintro ad1 rfl
      refine WX.ldE 0 2 e1 ttOk rfl rfl rfl rfl rfl rfl rfl rfl e1h (fun _ => rfl) (fun _ => rfl) ?_
      rintro ⟨⟨p1, c1⟩, ⟨p2, c2⟩, ⟨p3, c3⟩, ⟨⟩, ⟨⟩⟩
      refine WX.run ttOk rfl ?_
      have e2i : i < (s2).length := (by first | assumption | omega)
      obtain ⟨e2, e2h⟩ : ∃ e2, (s2)[i]? = some e2 := ⟨_, List.getElem?_eq_getElem e2i⟩
      have ok2 : GoT.ok n e2 := (okl hoks2).2 _ (List.mem_of_getElem? e2h)
      refine WX.idx 1 i ttOk rfl rfl rfl rfl rfl rfl rfl rfl rfl rfl e2i ?_
      rintro ad2 rfl
      refine WX.ldE 1 5 e2 ttOk rfl rfl rfl rfl rfl rfl rfl rfl e2h (fun _ => rfl) (fun _ => rfl) ?_
      rintro ⟨⟨p4, c4⟩, ⟨p5, c5⟩, ⟨p6, c6⟩, ⟨⟩, ⟨⟩⟩
      refine WX.run ttOk rfl ?_
      refine WX.callV rfl rfl rfl rfl rfl (fun _ => rfl) rfl (fun w G bs hI hΓ => eqf w hI.keep e1 ((p1, c1), (p2, c2), (p3, c3), (), ()) ok1 (All.cons (hΓ.get 2 rfl : RdSl _ _ _ _) (All.cons (hΓ.get 3 rfl : RdSl _ _ _ _) (All.cons (hΓ.get 4 rfl : RdSl _ _ _ _) All.nil))) e2 ((p4, c4), (p5, c5), (p6, c6), (), ()) ok2 (All.cons (hΓ.get 5 rfl : RdSl _ _ _ _) (All.cons (hΓ.get 6 rfl : RdSl _ _ _ _) (All.cons (hΓ.get 7 rfl : RdSl _ _ _ _) All.nil)))) ?_
      intro hq1
      refine WX.run ttOk rfl ?_
      refine WX.cases 30 rfl (fun h3 => ?_) (fun h3 => ?_)
      · skip
        have h3d := (B.nt h3)
        refine WX.run ttOk rfl ?_
        have hP2 : slices_EqualFunc_Data_L1 eqq s2 s1 0 = (some false) := by rw [v2, drop_get e1h]; simp only [slices_EqualFunc_Data_L1, e2h, h3, cond_true, cond_false]
        have hP3 : slices_EqualFunc_Data s1 s2 eqq = false := by simp only [slices_EqualFunc_Data, h1, hP2, cond_true, cond_false]
        refine WX.ret ttOk rfl ?_
        intro w1 G bs hI hΓ
        rw [hP3]
        exact ⟨rfl, trivial⟩
      · skip
        have h3d := (B.nf h3)
        refine WX.run ttOk rfl ?_
        refine WX.see rfl rfl rfl (fun _ hΓ => looks_arith rfl rfl rfl rfl (by unfold I64; first | omega | (simp only [List.length_take, List.length_drop] at *; omega) | (dsimp only; omega))) ?_
        refine WX.run ttOk rfl ?_
        exact WX.iter (i + 1) ⟨(by omega), (by rw [v2, drop_get e1h]; simp only [slices_EqualFunc_Data_L1, e2h, h3, cond_true, cond_false])⟩ (by first | (dsimp only; omega) | omega) (.cons rfl (.cons rfl (.cons rfl (.cons rfl (.cons rfl (.nil)))))) .nil .nil [0, 1] rfl
    · skip
      have h2d := B.df h2
      refine WX.run ttOk rfl ?_
      have hX1 : slices_EqualFunc_Data_L1 eqq s2 s1 0 = none := by rw [v2, List.drop_eq_nil_of_le (show (s1).length ≤ i by omega)]; simp only [slices_EqualFunc_Data_L1, cond_true, cond_false]
      have hP4 : slices_EqualFunc_Data s1 s2 eqq = true := by simp only [slices_EqualFunc_Data, h1, hX1, cond_true, cond_false]
      refine WX.ret ttOk rfl ?_
      intro w1 G bs hI hΓ
      rw [hP4]
      exact ⟨rfl, trivial⟩
theorem f329 (w : World) (n : Nat) (hn : n + 0 ≤ 9) (s1 : (List CacheEntry)) (ps1 : Option Addr) (cs1 : Nat) (hps1 : RdSl (hp w) ps1 cs1 s1) (s2 : (List CacheEntry)) (ps2 : Option Addr) (cs2 : Nat) (hps2 : RdSl (hp w) ps2 cs2 s2) (eqg : FuncId) (eqc : List Value) (eqq : CacheEntry → CacheEntry → Bool) (eqf : ∀ w1, Kp emp w w1 → ∀ (e0 : CacheEntry) (x0 : GoT.X CacheEntry), GoT.ok n e0 → All (hp w1) (GoT.fa .der e0 x0) → ∀ (e1 : CacheEntry) (x1 : GoT.X CacheEntry), GoT.ok n e1 → All (hp w1) (GoT.fa .der e1 x1) → Does Tryz.prog eqg ([Value.agg ⟨GoT.sh e0 x0⟩, Value.agg ⟨GoT.sh e1 x1⟩] ++ eqc).toArray w1 emp (fun rv _ => rv = .bool (eqq e0 e1) ∧ True)) (hoks1 : GoT.ok n s1) (hoks2 : GoT.ok n s2) :
    Does Tryz.prog 329 #[.slice ps1 ((s1).length) cs1, .slice ps2 ((s2).length) cs2, .func (.func eqg) #[] eqc.toArray] w emp (fun (rv : Value) (_ : World) => rv = .bool (slices_EqualFunc_CacheEntry s1 s2 eqq) ∧ True) := by
  have hbP := bd_pos n
  have hbB := bd_big (n := n) (by omega)
  refine WX.enter (tt := tt) (Γ := [(0, MF.rs .stb ps1 cs1 s1), (1, MF.rs .stb ps2 cs2 s2)]) Tryz.func329 rfl (by kernel_rfl) rfl (allS_cons rfl hps1 (allS_cons rfl hps2 allS_nil)) ?_
  refine WX.run ttOk rfl ?_
  refine WX.cases 14 rfl (fun h1 => ?_) (fun h1 => ?_)
  · skip
    have h1d := B.nt' h1
    refine WX.run ttOk rfl ?_
    have hP1 : slices_EqualFunc_CacheEntry s1 s2 eqq = false := by simp only [slices_EqualFunc_CacheEntry, h1, cond_true, cond_false]
    refine WX.ret ttOk rfl ?_
    intro w1 G bs hI hΓ
    rw [hP1]
    exact ⟨rfl, trivial⟩
  · skip
    have h1d := B.nf' h1
    refine WX.run ttOk rfl ?_
    have r1 : (s1).length ≤ bd n := (okl hoks1).1
    refine WX.loop (ι := Nat) ⟨fun i => (i ≤ (s1).length) ∧ (slices_EqualFunc_CacheEntry_L1 eqq s2 s1 0 = slices_EqualFunc_CacheEntry_L1 eqq s2 ((s1).drop i) i), fun i => (s1).length - i, fun i => [(17, .v (.int .i64 (((i : Nat) : Int)))), (16, .v (.int .i64 ((((s1).length : Nat) : Int)))), (15, .v (.slice ps1 ((s1).length) cs1)), (1, .v (.slice ps2 ((s2).length) cs2)), (2, .v (.func (.func eqg) #[] eqc.toArray))], fun i => [], fun i => [], fun i => [(0, MF.rs .stb ps1 cs1 s1), (1, MF.rs .stb ps2 cs2 s2)]⟩ 0 ⟨(Nat.zero_le _), rfl⟩
      (.cons rfl (.cons rfl (.cons rfl (.cons rfl (.cons rfl (.nil)))))) .nil .nil [0, 1] rfl ?_
    rintro i hpre
    have hpre_ : (i ≤ (s1).length) ∧ (slices_EqualFunc_CacheEntry_L1 eqq s2 s1 0 = slices_EqualFunc_CacheEntry_L1 eqq s2 ((s1).drop i) i) := hpre
    clear hpre
    obtain ⟨v1, v2⟩ := hpre_
    refine WX.run ttOk rfl ?_
    refine WX.cases 18 rfl (fun h2 => ?_) (fun h2 => ?_)
    · skip
      have h2d := B.dt h2
      have e1i : i < (s1).length := (by omega)
      obtain ⟨e1, e1h⟩ : ∃ e1, (s1)[i]? = some e1 := ⟨_, List.getElem?_eq_getElem e1i⟩
      have ok1 : GoT.ok n e1 := (okl hoks1).2 _ (List.mem_of_getElem? e1h)
      refine WX.run ttOk rfl ?_
      refine WX.idx 0 i ttOk rfl rfl rfl rfl rfl rfl rfl rfl rfl rfl e1i ?_
      rintro ad1 rfl
      refine WX.ldE 0 2 e1 ttOk rfl rfl rfl rfl rfl rfl rfl rfl e1h (fun _ => rfl) (fun _ => rfl) ?_
      rintro ⟨⟨⟨p1, c1⟩, ⟨p2, c2⟩, ⟨p3, c3⟩, ⟨⟩, ⟨⟩⟩, ⟨⟩⟩
      refine WX.run ttOk rfl ?_
      have e2i : i < (s2).length := (by first | assumption | omega)
      obtain ⟨e2, e2h⟩ : ∃ e2, (s2)[i]? = some e2 := ⟨_, List.getElem?_eq_getElem e2i⟩
      have ok2 : GoT.ok n e2 := (okl hoks2).2 _ (List.mem_of_getElem? e2h)
      refine WX.idx 1 i ttOk rfl rfl rfl rfl rfl rfl rfl rfl rfl rfl e2i ?_
      rintro ad2 rfl
      refine WX.ldE 1 5 e2 ttOk rfl rfl rfl rfl rfl rfl rfl rfl e2h (fun _ => rfl) (fun _ => rfl) ?_
      rintro ⟨⟨⟨p4, c4⟩, ⟨p5, c5⟩, ⟨p6, c6⟩, ⟨⟩, ⟨⟩⟩, ⟨⟩⟩
      refine WX.run ttOk rfl ?_
      refine WX.callV rfl rfl rfl rfl rfl (fun _ => rfl) rfl (fun w G bs hI hΓ => eqf w hI.keep e1 (((p1, c1), (p2, c2), (p3, c3), (), ()), ()) ok1 (All.cons (hΓ.get 2 rfl : RdSl _ _ _ _) (All.cons (hΓ.get 3 rfl : RdSl _ _ _ _) (All.cons (hΓ.get 4 rfl : RdSl _ _ _ _) All.nil))) e2 (((p4, c4), (p5, c5), (p6, c6), (), ()), ()) ok2 (All.cons (hΓ.get 5 rfl : RdSl _ _ _ _) (All.cons (hΓ.get 6 rfl : RdSl _ _ _ _) (All.cons (hΓ.get 7 rfl : RdSl _ _ _ _) All.nil)))) ?_
      intro hq1
      refine WX.run ttOk rfl ?_
      refine WX.cases 30 rfl (fun h3 => ?_) (fun h3 => ?_)
      · skip
        have h3d := (B.nt h3)
        refine WX.run ttOk rfl ?_
        have hP2 : slices_EqualFunc_CacheEntry_L1 eqq s2 s1 0 = (some false) := by rw [v2, drop_get e1h]; simp only [slices_EqualFunc_CacheEntry_L1, e2h, h3, cond_true, cond_false]
        have hP3 : slices_EqualFunc_CacheEntry s1 s2 eqq = false := by simp only [slices_EqualFunc_CacheEntry, h1, hP2, cond_true, cond_false]
        refine WX.ret ttOk rfl ?_
        intro w1 G bs hI hΓ
        rw [hP3]
        exact ⟨rfl, trivial⟩
      · skip
        have h3d := (B.nf h3)
        refine WX.run ttOk rfl ?_
        refine WX.see rfl rfl rfl (fun _ hΓ => looks_arith rfl rfl rfl rfl (by unfold I64; first | omega | (simp only [List.length_take, List.length_drop] at *; omega) | (dsimp only; omega))) ?_
        refine WX.run ttOk rfl ?_
        exact WX.iter (i + 1) ⟨(by omega), (by rw [v2, drop_get e1h]; simp only [slices_EqualFunc_CacheEntry_L1, e2h, h3, cond_true, cond_false])⟩ (by first | (dsimp only; omega) | omega) (.cons rfl (.cons rfl (.cons rfl (.cons rfl (.cons rfl (.nil)))))) .nil .nil [0, 1] rfl
    · skip
      have h2d := B.df h2
      refine WX.run ttOk rfl ?_
      have hX1 : slices_EqualFunc_CacheEntry_L1 eqq s2 s1 0 = none := by rw [v2, List.drop_eq_nil_of_le (show (s1).length ≤ i by omega)]; simp only [slices_EqualFunc_CacheEntry_L1, cond_true, cond_false]
      have hP4 : slices_EqualFunc_CacheEntry s1 s2 eqq = true := by simp only [slices_EqualFunc_CacheEntry, h1, hX1, cond_true, cond_false]
      refine WX.ret ttOk rfl ?_
      intro w1 G bs hI hΓ
      rw [hP4]
      exact ⟨rfl, trivial⟩
theorem f331 (w : World) (n : Nat) (hn : n + 0 ≤ 9) (s1 : (List PendingInterest)) (ps1 : Option Addr) (cs1 : Nat) (hps1 : RdSl (hp w) ps1 cs1 s1) (s2 : (List PendingInterest)) (ps2 : Option Addr) (cs2 : Nat) (hps2 : RdSl (hp w) ps2 cs2 s2) (eqg : FuncId) (eqc : List Value) (eqq : PendingInterest → PendingInterest → Bool) (eqf : ∀ w1, Kp emp w w1 → ∀ (e0 : PendingInterest) (x0 : GoT.X PendingInterest), GoT.ok n e0 → All (hp w1) (GoT.fa .der e0 x0) → ∀ (e1 : PendingInterest) (x1 : GoT.X PendingInterest), GoT.ok n e1 → All (hp w1) (GoT.fa .der e1 x1) → Does Tryz.prog eqg ([Value.agg ⟨GoT.sh e0 x0⟩, Value.agg ⟨GoT.sh e1 x1⟩] ++ eqc).toArray w1 emp (fun rv _ => rv = .bool (eqq e0 e1) ∧ True)) (hoks1 : GoT.ok n s1) (hoks2 : GoT.ok n s2) :
    Does Tryz.prog 331 #[.slice ps1 ((s1).length) cs1, .slice ps2 ((s2).length) cs2, .func (.func eqg) #[] eqc.toArray] w emp (fun (rv : Value) (_ : World) => rv = .bool (slices_EqualFunc_PendingInterest s1 s2 eqq) ∧ True) := by
  have hbP := bd_pos n
  have hbB := bd_big (n := n) (by omega)
  refine WX.enter (tt := tt) (Γ := [(0, MF.rs .stb ps1 cs1 s1), (1, MF.rs .stb ps2 cs2 s2)]) Tryz.func331 rfl (by kernel_rfl) rfl (allS_cons rfl hps1 (allS_cons rfl hps2 allS_nil)) ?_
  refine WX.run ttOk rfl ?_
  refine WX.cases 14 rfl (fun h1 => ?_) (fun h1 => ?_)
  · skip
    have h1d := B.nt' h1
    refine WX.run ttOk rfl ?_
    have hP1 : slices_EqualFunc_PendingInterest s1 s2 eqq = false := by simp only [slices_EqualFunc_PendingInterest, h1, cond_true, cond_false]
    refine WX.ret ttOk rfl ?_
    intro w1 G bs hI hΓ
    rw [hP1]
    exact ⟨rfl, trivial⟩
  · skip
    have h1d := B.nf' h1
    refine WX.run ttOk rfl ?_
    have r1 : (s1).length ≤ bd n := (okl hoks1).1
    refine WX.loop (ι := Nat) ⟨fun i => (i ≤ (s1).length) ∧ (slices_EqualFunc_PendingInterest_L1 eqq s2 s1 0 = slices_EqualFunc_PendingInterest_L1 eqq s2 ((s1).drop i) i), fun i => (s1).length - i, fun i => [(17, .v (.int .i64 (((i : Nat) : Int)))), (16, .v (.int .i64 ((((s1).length : Nat) : Int)))), (15, .v (.slice ps1 ((s1).length) cs1)), (1, .v (.slice ps2 ((s2).length) cs2)), (2, .v (.func (.func eqg) #[] eqc.toArray))], fun i => [], fun i => [], fun i => [(0, MF.rs .stb ps1 cs1 s1), (1, MF.rs .stb ps2 cs2 s2)]⟩ 0 ⟨(Nat.zero_le _), rfl⟩
      (.cons rfl (.cons rfl (.cons rfl (.cons rfl (.cons rfl (.nil)))))) .nil .nil [0, 1] rfl ?_
    rintro i hpre
    have hpre_ : (i ≤ (s1).length) ∧ (slices_EqualFunc_PendingInterest_L1 eqq s2 s1 0 = slices_EqualFunc_PendingInterest_L1 eqq s2 ((s1).drop i) i) := hpre
    clear hpre
    obtain ⟨v1, v2⟩ := hpre_
    refine WX.run ttOk rfl ?_
    refine WX.cases 18 rfl (fun h2 => ?_) (fun h2 => ?_)
    · skip
      have h2d := B.dt h2
      have e1i : i < (s1).length := (by omega)
      obtain ⟨e1, e1h⟩ : ∃ e1, (s1)[i]? = some e1 := ⟨_, List.getElem?_eq_getElem e1i⟩
      have ok1 : GoT.ok n e1 := (okl hoks1).2 _ (List.mem_of_getElem? e1h)
      refine WX.run ttOk rfl ?_
      refine WX.idx 0 i ttOk rfl rfl rfl rfl rfl rfl rfl rfl rfl rfl e1i ?_
      rintro ad1 rfl
      refine WX.ldE 0 2 e1 ttOk rfl rfl rfl rfl rfl rfl rfl rfl e1h (fun _ => rfl) (fun _ => rfl) ?_
      rintro ⟨⟨p1, c1⟩, ⟨p2, c2⟩, ⟨⟩⟩
      refine WX.run ttOk rfl ?_
      have e2i : i < (s2).length := (by first | assumption | omega)
      obtain ⟨e2, e2h⟩ : ∃ e2, (s2)[i]? = some e2 := ⟨_, List.getElem?_eq_getElem e2i⟩
      have ok2 : GoT.ok n e2 := (okl hoks2).2 _ (List.mem_of_getElem? e2h)
      refine WX.idx 1 i ttOk rfl rfl rfl rfl rfl rfl rfl rfl rfl rfl e2i ?_
      rintro ad2 rfl
      refine WX.ldE 1 4 e2 ttOk rfl rfl rfl rfl rfl rfl rfl rfl e2h (fun _ => rfl) (fun _ => rfl) ?_
      rintro ⟨⟨p3, c3⟩, ⟨p4, c4⟩, ⟨⟩⟩
      refine WX.run ttOk rfl ?_
      refine WX.callV rfl rfl rfl rfl rfl (fun _ => rfl) rfl (fun w G bs hI hΓ => eqf w hI.keep e1 ((p1, c1), (p2, c2), ()) ok1 (All.cons (hΓ.get 2 rfl : RdSl _ _ _ _) (All.cons (hΓ.get 3 rfl : RdSl _ _ _ _) All.nil)) e2 ((p3, c3), (p4, c4), ()) ok2 (All.cons (hΓ.get 4 rfl : RdSl _ _ _ _) (All.cons (hΓ.get 5 rfl : RdSl _ _ _ _) All.nil))) ?_
      intro hq1
      refine WX.run ttOk rfl ?_
      refine WX.cases 30 rfl (fun h3 => ?_) (fun h3 => ?_)
      · skip
        have h3d := (B.nt h3)
        refine WX.run ttOk rfl ?_
        have hP2 : slices_EqualFunc_PendingInterest_L1 eqq s2 s1 0 = (some false) := by rw [v2, drop_get e1h]; simp only [slices_EqualFunc_PendingInterest_L1, e2h, h3, cond_true, cond_false]
        have hP3 : slices_EqualFunc_PendingInterest s1 s2 eqq = false := by simp only [slices_EqualFunc_PendingInterest, h1, hP2, cond_true, cond_false]
        refine WX.ret ttOk rfl ?_
        intro w1 G bs hI hΓ
        rw [hP3]
        exact ⟨rfl, trivial⟩
      · skip
        have h3d := (B.nf h3)
        refine WX.run ttOk rfl ?_
        refine WX.see rfl rfl rfl (fun _ hΓ => looks_arith rfl rfl rfl rfl (by unfold I64; first | omega | (simp only [List.length_take, List.length_drop] at *; omega) | (dsimp only; omega))) ?_
        refine WX.run ttOk rfl ?_
        exact WX.iter (i + 1) ⟨(by omega), (by rw [v2, drop_get e1h]; simp only [slices_EqualFunc_PendingInterest_L1, e2h, h3, cond_true, cond_false])⟩ (by first | (dsimp only; omega) | omega) (.cons rfl (.cons rfl (.cons rfl (.cons rfl (.cons rfl (.nil)))))) .nil .nil [0, 1] rfl
    · skip
      have h2d := B.df h2
      refine WX.run ttOk rfl ?_
      have hX1 : slices_EqualFunc_PendingInterest_L1 eqq s2 s1 0 = none := by rw [v2, List.drop_eq_nil_of_le (show (s1).length ≤ i by omega)]; simp only [slices_EqualFunc_PendingInterest_L1, cond_true, cond_false]
      have hP4 : slices_EqualFunc_PendingInterest s1 s2 eqq = true := by simp only [slices_EqualFunc_PendingInterest, h1, hX1, cond_true, cond_false]
      refine WX.ret ttOk rfl ?_
      intro w1 G bs hI hΓ
      rw [hP4]
      exact ⟨rfl, trivial⟩
theorem f243 (w : World) (n : Nat) (hn : n + 0 ≤ 9) (s1 : (List SeenNonce)) (ps1 : Option Addr) (cs1 : Nat) (hps1 : RdSl (hp w) ps1 cs1 s1) (s2 : (List SeenNonce)) (ps2 : Option Addr) (cs2 : Nat) (hps2 : RdSl (hp w) ps2 cs2 s2) (eqg : FuncId) (eqc : List Value) (eqq : SeenNonce → SeenNonce → Bool) (eqf : ∀ w1, Kp emp w w1 → ∀ (e0 : SeenNonce) (x0 : GoT.X SeenNonce), GoT.ok n e0 → All (hp w1) (GoT.fa .der e0 x0) → ∀ (e1 : SeenNonce) (x1 : GoT.X SeenNonce), GoT.ok n e1 → All (hp w1) (GoT.fa .der e1 x1) → Does Tryz.prog eqg ([Value.agg ⟨GoT.sh e0 x0⟩, Value.agg ⟨GoT.sh e1 x1⟩] ++ eqc).toArray w1 emp (fun rv _ => rv = .bool (eqq e0 e1) ∧ True)) (hoks1 : GoT.ok n s1) (hoks2 : GoT.ok n s2) :
    Does Tryz.prog 243 #[.slice ps1 ((s1).length) cs1, .slice ps2 ((s2).length) cs2, .func (.func eqg) #[] eqc.toArray] w emp (fun (rv : Value) (_ : World) => rv = .bool (slices_EqualFunc_SeenNonce s1 s2 eqq) ∧ True) := by
  have hbP := bd_pos n
  have hbB := bd_big (n := n) (by omega)
  refine WX.enter (tt := tt) (Γ := [(0, MF.rs .stb ps1 cs1 s1), (1, MF.rs .stb ps2 cs2 s2)]) Tryz.func243 rfl (by kernel_rfl) rfl (allS_cons rfl hps1 (allS_cons rfl hps2 allS_nil)) ?_
  refine WX.run ttOk rfl ?_
  refine WX.cases 14 rfl (fun h1 => ?_) (fun h1 => ?_)
  · skip
    have h1d := B.nt' h1
    refine WX.run ttOk rfl ?_
    have hP1 : slices_EqualFunc_SeenNonce s1 s2 eqq = false := by simp only [slices_EqualFunc_SeenNonce, h1, cond_true, cond_false]
    refine WX.ret ttOk rfl ?_
    intro w1 G bs hI hΓ
    rw [hP1]
    exact ⟨rfl, trivial⟩
  · skip
    have h1d := B.nf' h1
    refine WX.run ttOk rfl ?_
    have r1 : (s1).length ≤ bd n := (okl hoks1).1
    refine WX.loop (ι := Nat) ⟨fun i => (i ≤ (s1).length) ∧ (slices_EqualFunc_SeenNonce_L1 eqq s2 s1 0 = slices_EqualFunc_SeenNonce_L1 eqq s2 ((s1).drop i) i), fun i => (s1).length - i, fun i => [(17, .v (.int .i64 (((i : Nat) : Int)))), (16, .v (.int .i64 ((((s1).length : Nat) : Int)))), (15, .v (.slice ps1 ((s1).length) cs1)), (1, .v (.slice ps2 ((s2).length) cs2)), (2, .v (.func (.func eqg) #[] eqc.toArray))], fun i => [], fun i => [], fun i => [(0, MF.rs .stb ps1 cs1 s1), (1, MF.rs .stb ps2 cs2 s2)]⟩ 0 ⟨(Nat.zero_le _), rfl⟩
      (.cons rfl (.cons rfl (.cons rfl (.cons rfl (.cons rfl (.nil)))))) .nil .nil [0, 1] rfl ?_
    rintro i hpre
    have hpre_ : (i ≤ (s1).length) ∧ (slices_EqualFunc_SeenNonce_L1 eqq s2 s1 0 = slices_EqualFunc_SeenNonce_L1 eqq s2 ((s1).drop i) i) := hpre
    clear hpre
    obtain ⟨v1, v2⟩ := hpre_
    refine WX.run ttOk rfl ?_
    refine WX.cases 18 rfl (fun h2 => ?_) (fun h2 => ?_)
    · skip
      have h2d := B.dt h2
      have e1i : i < (s1).length := (by omega)
      obtain ⟨e1, e1h⟩ : ∃ e1, (s1)[i]? = some e1 := ⟨_, List.getElem?_eq_getElem e1i⟩
      have ok1 : GoT.ok n e1 := (okl hoks1).2 _ (List.mem_of_getElem? e1h)
      refine WX.run ttOk rfl ?_
      refine WX.idx 0 i ttOk rfl rfl rfl rfl rfl rfl rfl rfl rfl rfl e1i ?_
      rintro ad1 rfl
      refine WX.ldE 0 2 e1 ttOk rfl rfl rfl rfl rfl rfl rfl rfl e1h (fun _ => rfl) (fun _ => rfl) ?_
      rintro ⟨⟨p1, c1⟩, ⟨⟩⟩
      refine WX.run ttOk rfl ?_
      have e2i : i < (s2).length := (by first | assumption | omega)
      obtain ⟨e2, e2h⟩ : ∃ e2, (s2)[i]? = some e2 := ⟨_, List.getElem?_eq_getElem e2i⟩
      have ok2 : GoT.ok n e2 := (okl hoks2).2 _ (List.mem_of_getElem? e2h)
      refine WX.idx 1 i ttOk rfl rfl rfl rfl rfl rfl rfl rfl rfl rfl e2i ?_
      rintro ad2 rfl
      refine WX.ldE 1 3 e2 ttOk rfl rfl rfl rfl rfl rfl rfl rfl e2h (fun _ => rfl) (fun _ => rfl) ?_
      rintro ⟨⟨p2, c2⟩, ⟨⟩⟩
      refine WX.run ttOk rfl ?_
      refine WX.callV rfl rfl rfl rfl rfl (fun _ => rfl) rfl (fun w G bs hI hΓ => eqf w hI.keep e1 ((p1, c1), ()) ok1 (All.cons (hΓ.get 2 rfl : RdSl _ _ _ _) All.nil) e2 ((p2, c2), ()) ok2 (All.cons (hΓ.get 3 rfl : RdSl _ _ _ _) All.nil)) ?_
      intro hq1
      refine WX.run ttOk rfl ?_
      refine WX.cases 30 rfl (fun h3 => ?_) (fun h3 => ?_)
      · skip
        have h3d := (B.nt h3)
        refine WX.run ttOk rfl ?_
        have hP2 : slices_EqualFunc_SeenNonce_L1 eqq s2 s1 0 = (some false) := by rw [v2, drop_get e1h]; simp only [slices_EqualFunc_SeenNonce_L1, e2h, h3, cond_true, cond_false]
        have hP3 : slices_EqualFunc_SeenNonce s1 s2 eqq = false := by simp only [slices_EqualFunc_SeenNonce, h1, hP2, cond_true, cond_false]
        refine WX.ret ttOk rfl ?_
        intro w1 G bs hI hΓ
        rw [hP3]
        exact ⟨rfl, trivial⟩
      · skip
        have h3d := (B.nf h3)
        refine WX.run ttOk rfl ?_
        refine WX.see rfl rfl rfl (fun _ hΓ => looks_arith rfl rfl rfl rfl (by unfold I64; first | omega | (simp only [List.length_take, List.length_drop] at *; omega) | (dsimp only; omega))) ?_
        refine WX.run ttOk rfl ?_
        exact WX.iter (i + 1) ⟨(by omega), (by rw [v2, drop_get e1h]; simp only [slices_EqualFunc_SeenNonce_L1, e2h, h3, cond_true, cond_false])⟩ (by first | (dsimp only; omega) | omega) (.cons rfl (.cons rfl (.cons rfl (.cons rfl (.cons rfl (.nil)))))) .nil .nil [0, 1] rfl
    · skip
      have h2d := B.df h2
      refine WX.run ttOk rfl ?_
      have hX1 : slices_EqualFunc_SeenNonce_L1 eqq s2 s1 0 = none := by rw [v2, List.drop_eq_nil_of_le (show (s1).length ≤ i by omega)]; simp only [slices_EqualFunc_SeenNonce_L1, cond_true, cond_false]
      have hP4 : slices_EqualFunc_SeenNonce s1 s2 eqq = true := by simp only [slices_EqualFunc_SeenNonce, h1, hX1, cond_true, cond_false]
      refine WX.ret ttOk rfl ?_
      intro w1 G bs hI hΓ
      rw [hP4]
      exact ⟨rfl, trivial⟩
theorem f334 (w : World) (n : Nat) (hn : n + 0 ≤ 9) (s1 : (List Route)) (ps1 : Option Addr) (cs1 : Nat) (hps1 : RdSl (hp w) ps1 cs1 s1) (s2 : (List Route)) (ps2 : Option Addr) (cs2 : Nat) (hps2 : RdSl (hp w) ps2 cs2 s2) (eqg : FuncId) (eqc : List Value) (eqq : Route → Route → Bool) (eqf : ∀ w1, Kp emp w w1 → ∀ (e0 : Route) (x0 : GoT.X Route), GoT.ok n e0 → All (hp w1) (GoT.fa .der e0 x0) → ∀ (e1 : Route) (x1 : GoT.X Route), GoT.ok n e1 → All (hp w1) (GoT.fa .der e1 x1) → Does Tryz.prog eqg ([Value.agg ⟨GoT.sh e0 x0⟩, Value.agg ⟨GoT.sh e1 x1⟩] ++ eqc).toArray w1 emp (fun rv _ => rv = .bool (eqq e0 e1) ∧ True)) (hoks1 : GoT.ok n s1) (hoks2 : GoT.ok n s2) :
    Does Tryz.prog 334 #[.slice ps1 ((s1).length) cs1, .slice ps2 ((s2).length) cs2, .func (.func eqg) #[] eqc.toArray] w emp (fun (rv : Value) (_ : World) => rv = .bool (slices_EqualFunc_Route s1 s2 eqq) ∧ True) := by
  have hbP := bd_pos n
  have hbB := bd_big (n := n) (by omega)
  refine WX.enter (tt := tt) (Γ := [(0, MF.rs .stb ps1 cs1 s1), (1, MF.rs .stb ps2 cs2 s2)]) Tryz.func334 rfl (by kernel_rfl) rfl (allS_cons rfl hps1 (allS_cons rfl hps2 allS_nil)) ?_
  refine WX.run ttOk rfl ?_
  refine WX.cases 14 rfl (fun h1 => ?_) (fun h1 => ?_)
  · skip
    have h1d := B.nt' h1
    refine WX.run ttOk rfl ?_
    have hP1 : slices_EqualFunc_Route s1 s2 eqq = false := by simp only [slices_EqualFunc_Route, h1, cond_true, cond_false]
    refine WX.ret ttOk rfl ?_
    intro w1 G bs hI hΓ
    rw [hP1]
    exact ⟨rfl, trivial⟩
  · skip
    have h1d := B.nf' h1
    refine WX.run ttOk rfl ?_
    have r1 : (s1).length ≤ bd n := (okl hoks1).1
    refine WX.loop (ι := Nat) ⟨fun i => (i ≤ (s1).length) ∧ (slices_EqualFunc_Route_L1 eqq s2 s1 0 = slices_EqualFunc_Route_L1 eqq s2 ((s1).drop i) i), fun i => (s1).length - i, fun i => [(17, .v (.int .i64 (((i : Nat) : Int)))), (16, .v (.int .i64 ((((s1).length : Nat) : Int)))), (15, .v (.slice ps1 ((s1).length) cs1)), (1, .v (.slice ps2 ((s2).length) cs2)), (2, .v (.func (.func eqg) #[] eqc.toArray))], fun i => [], fun i => [], fun i => [(0, MF.rs .stb ps1 cs1 s1), (1, MF.rs .stb ps2 cs2 s2)]⟩ 0 ⟨(Nat.zero_le _), rfl⟩
      (.cons rfl (.cons rfl (.cons rfl (.cons rfl (.cons rfl (.nil)))))) .nil .nil [0, 1] rfl ?_
    rintro i hpre
    have hpre_ : (i ≤ (s1).length) ∧ (slices_EqualFunc_Route_L1 eqq s2 s1 0 = slices_EqualFunc_Route_L1 eqq s2 ((s1).drop i) i) := hpre
    clear hpre
    obtain ⟨v1, v2⟩ := hpre_
    refine WX.run ttOk rfl ?_
    refine WX.cases 18 rfl (fun h2 => ?_) (fun h2 => ?_)
    · skip
      have h2d := B.dt h2
      have e1i : i < (s1).length := (by omega)
      obtain ⟨e1, e1h⟩ : ∃ e1, (s1)[i]? = some e1 := ⟨_, List.getElem?_eq_getElem e1i⟩
      have ok1 : GoT.ok n e1 := (okl hoks1).2 _ (List.mem_of_getElem? e1h)
      refine WX.run ttOk rfl ?_
      refine WX.idx 0 i ttOk rfl rfl rfl rfl rfl rfl rfl rfl rfl rfl e1i ?_
      rintro ad1 rfl
      refine WX.ldE 0 2 e1 ttOk rfl rfl rfl rfl rfl rfl rfl rfl e1h (fun _ => rfl) (fun _ => rfl) ?_
      rintro ⟨⟨p1, c1⟩, ⟨⟩, ⟨⟩⟩
      refine WX.run ttOk rfl ?_
      have e2i : i < (s2).length := (by first | assumption | omega)
      obtain ⟨e2, e2h⟩ : ∃ e2, (s2)[i]? = some e2 := ⟨_, List.getElem?_eq_getElem e2i⟩
      have ok2 : GoT.ok n e2 := (okl hoks2).2 _ (List.mem_of_getElem? e2h)
      refine WX.idx 1 i ttOk rfl rfl rfl rfl rfl rfl rfl rfl rfl rfl e2i ?_
      rintro ad2 rfl
      refine WX.ldE 1 3 e2 ttOk rfl rfl rfl rfl rfl rfl rfl rfl e2h (fun _ => rfl) (fun _ => rfl) ?_
      rintro ⟨⟨p2, c2⟩, ⟨⟩, ⟨⟩⟩
      refine WX.run ttOk rfl ?_
      refine WX.callV rfl rfl rfl rfl rfl (fun _ => rfl) rfl (fun w G bs hI hΓ => eqf w hI.keep e1 ((p1, c1), (), ()) ok1 (All.cons (hΓ.get 2 rfl : RdSl _ _ _ _) All.nil) e2 ((p2, c2), (), ()) ok2 (All.cons (hΓ.get 3 rfl : RdSl _ _ _ _) All.nil)) ?_
      intro hq1
      refine WX.run ttOk rfl ?_
      refine WX.cases 30 rfl (fun h3 => ?_) (fun h3 => ?_)
      · skip
        have h3d := (B.nt h3)
        refine WX.run ttOk rfl ?_
        have hP2 : slices_EqualFunc_Route_L1 eqq s2 s1 0 = (some false) := by rw [v2, drop_get e1h]; simp only [slices_EqualFunc_Route_L1, e2h, h3, cond_true, cond_false]
        have hP3 : slices_EqualFunc_Route s1 s2 eqq = false := by simp only [slices_EqualFunc_Route, h1, hP2, cond_true, cond_false]
        refine WX.ret ttOk rfl ?_
        intro w1 G bs hI hΓ
        rw [hP3]
        exact ⟨rfl, trivial⟩
      · skip
        have h3d := (B.nf h3)
        refine WX.run ttOk rfl ?_
        refine WX.see rfl rfl rfl (fun _ hΓ => looks_arith rfl rfl rfl rfl (by unfold I64; first | omega | (simp only [List.length_take, List.length_drop] at *; omega) | (dsimp only; omega))) ?_
        refine WX.run ttOk rfl ?_
        exact WX.iter (i + 1) ⟨(by omega), (by rw [v2, drop_get e1h]; simp only [slices_EqualFunc_Route_L1, e2h, h3, cond_true, cond_false])⟩ (by first | (dsimp only; omega) | omega) (.cons rfl (.cons rfl (.cons rfl (.cons rfl (.cons rfl (.nil)))))) .nil .nil [0, 1] rfl
    · skip
      have h2d := B.df h2
      refine WX.run ttOk rfl ?_
      have hX1 : slices_EqualFunc_Route_L1 eqq s2 s1 0 = none := by rw [v2, List.drop_eq_nil_of_le (show (s1).length ≤ i by omega)]; simp only [slices_EqualFunc_Route_L1, cond_true, cond_false]
      have hP4 : slices_EqualFunc_Route s1 s2 eqq = true := by simp only [slices_EqualFunc_Route, h1, hX1, cond_true, cond_false]
      refine WX.ret ttOk rfl ?_
      intro w1 G bs hI hΓ
      rw [hP4]
      exact ⟨rfl, trivial⟩
theorem f336 (w : World) (n : Nat) (hn : n + 0 ≤ 9) (s1 : (List Measurement)) (ps1 : Option Addr) (cs1 : Nat) (hps1 : RdSl (hp w) ps1 cs1 s1) (s2 : (List Measurement)) (ps2 : Option Addr) (cs2 : Nat) (hps2 : RdSl (hp w) ps2 cs2 s2) (eqg : FuncId) (eqc : List Value) (eqq : Measurement → Measurement → Bool) (eqf : ∀ w1, Kp emp w w1 → ∀ (e0 : Measurement) (x0 : GoT.X Measurement), GoT.ok n e0 → All (hp w1) (GoT.fa .der e0 x0) → ∀ (e1 : Measurement) (x1 : GoT.X Measurement), GoT.ok n e1 → All (hp w1) (GoT.fa .der e1 x1) → Does Tryz.prog eqg ([Value.agg ⟨GoT.sh e0 x0⟩, Value.agg ⟨GoT.sh e1 x1⟩] ++ eqc).toArray w1 emp (fun rv _ => rv = .bool (eqq e0 e1) ∧ True)) (hoks1 : GoT.ok n s1) (hoks2 : GoT.ok n s2) :
    Does Tryz.prog 336 #[.slice ps1 ((s1).length) cs1, .slice ps2 ((s2).length) cs2, .func (.func eqg) #[] eqc.toArray] w emp (fun (rv : Value) (_ : World) => rv = .bool (slices_EqualFunc_Measurement s1 s2 eqq) ∧ True) := by
  have hbP := bd_pos n
  have hbB := bd_big (n := n) (by omega)
  refine WX.enter (tt := tt) (Γ := [(0, MF.rs .stb ps1 cs1 s1), (1, MF.rs .stb ps2 cs2 s2)]) Tryz.func336 rfl (by kernel_rfl) rfl (allS_cons rfl hps1 (allS_cons rfl hps2 allS_nil)) ?_
  refine WX.run ttOk rfl ?_
  refine WX.cases 14 rfl (fun h1 => ?_) (fun h1 => ?_)
  · skip
    have h1d := B.nt' h1
    refine WX.run ttOk rfl ?_
    have hP1 : slices_EqualFunc_Measurement s1 s2 eqq = false := by simp only [slices_EqualFunc_Measurement, h1, cond_true, cond_false]
    refine WX.ret ttOk rfl ?_
    intro w1 G bs hI hΓ
    rw [hP1]
    exact ⟨rfl, trivial⟩
  · skip
    have h1d := B.nf' h1
    refine WX.run ttOk rfl ?_
    have r1 : (s1).length ≤ bd n := (okl hoks1).1
    refine WX.loop (ι := Nat) ⟨fun i => (i ≤ (s1).length) ∧ (slices_EqualFunc_Measurement_L1 eqq s2 s1 0 = slices_EqualFunc_Measurement_L1 eqq s2 ((s1).drop i) i), fun i => (s1).length - i, fun i => [(17, .v (.int .i64 (((i : Nat) : Int)))), (16, .v (.int .i64 ((((s1).length : Nat) : Int)))), (15, .v (.slice ps1 ((s1).length) cs1)), (1, .v (.slice ps2 ((s2).length) cs2)), (2, .v (.func (.func eqg) #[] eqc.toArray))], fun i => [], fun i => [], fun i => [(0, MF.rs .stb ps1 cs1 s1), (1, MF.rs .stb ps2 cs2 s2)]⟩ 0 ⟨(Nat.zero_le _), rfl⟩
      (.cons rfl (.cons rfl (.cons rfl (.cons rfl (.cons rfl (.nil)))))) .nil .nil [0, 1] rfl ?_
    rintro i hpre
    have hpre_ : (i ≤ (s1).length) ∧ (slices_EqualFunc_Measurement_L1 eqq s2 s1 0 = slices_EqualFunc_Measurement_L1 eqq s2 ((s1).drop i) i) := hpre
    clear hpre
    obtain ⟨v1, v2⟩ := hpre_
    refine WX.run ttOk rfl ?_
    refine WX.cases 18 rfl (fun h2 => ?_) (fun h2 => ?_)
    · skip
      have h2d := B.dt h2
      have e1i : i < (s1).length := (by omega)
      obtain ⟨e1, e1h⟩ : ∃ e1, (s1)[i]? = some e1 := ⟨_, List.getElem?_eq_getElem e1i⟩
      have ok1 : GoT.ok n e1 := (okl hoks1).2 _ (List.mem_of_getElem? e1h)
      refine WX.run ttOk rfl ?_
      refine WX.idx 0 i ttOk rfl rfl rfl rfl rfl rfl rfl rfl rfl rfl e1i ?_
      rintro ad1 rfl
      refine WX.ldE 0 2 e1 ttOk rfl rfl rfl rfl rfl rfl rfl rfl e1h (fun _ => rfl) (fun _ => rfl) ?_
      rintro ⟨⟨p1, c1⟩, ⟨⟩, ⟨⟩⟩
      refine WX.run ttOk rfl ?_
      have e2i : i < (s2).length := (by first | assumption | omega)
      obtain ⟨e2, e2h⟩ : ∃ e2, (s2)[i]? = some e2 := ⟨_, List.getElem?_eq_getElem e2i⟩
      have ok2 : GoT.ok n e2 := (okl hoks2).2 _ (List.mem_of_getElem? e2h)
      refine WX.idx 1 i ttOk rfl rfl rfl rfl rfl rfl rfl rfl rfl rfl e2i ?_
      rintro ad2 rfl
      refine WX.ldE 1 3 e2 ttOk rfl rfl rfl rfl rfl rfl rfl rfl e2h (fun _ => rfl) (fun _ => rfl) ?_
      rintro ⟨⟨p2, c2⟩, ⟨⟩, ⟨⟩⟩
      refine WX.run ttOk rfl ?_
      refine WX.callV rfl rfl rfl rfl rfl (fun _ => rfl) rfl (fun w G bs hI hΓ => eqf w hI.keep e1 ((p1, c1), (), ()) ok1 (All.cons (hΓ.get 2 rfl : RdSl _ _ _ _) All.nil) e2 ((p2, c2), (), ()) ok2 (All.cons (hΓ.get 3 rfl : RdSl _ _ _ _) All.nil)) ?_
      intro hq1
      refine WX.run ttOk rfl ?_
      refine WX.cases 30 rfl (fun h3 => ?_) (fun h3 => ?_)
      · skip
        have h3d := (B.nt h3)
        refine WX.run ttOk rfl ?_
        have hP2 : slices_EqualFunc_Measurement_L1 eqq s2 s1 0 = (some false) := by rw [v2, drop_get e1h]; simp only [slices_EqualFunc_Measurement_L1, e2h, h3, cond_true, cond_false]
        have hP3 : slices_EqualFunc_Measurement s1 s2 eqq = false := by simp only [slices_EqualFunc_Measurement, h1, hP2, cond_true, cond_false]
        refine WX.ret ttOk rfl ?_
        intro w1 G bs hI hΓ
        rw [hP3]
        exact ⟨rfl, trivial⟩
      · skip
        have h3d := (B.nf h3)
        refine WX.run ttOk rfl ?_
        refine WX.see rfl rfl rfl (fun _ hΓ => looks_arith rfl rfl rfl rfl (by unfold I64; first | omega | (simp only [List.length_take, List.length_drop] at *; omega) | (dsimp only; omega))) ?_
        refine WX.run ttOk rfl ?_
        exact WX.iter (i + 1) ⟨(by omega), (by rw [v2, drop_get e1h]; simp only [slices_EqualFunc_Measurement_L1, e2h, h3, cond_true, cond_false])⟩ (by first | (dsimp only; omega) | omega) (.cons rfl (.cons rfl (.cons rfl (.cons rfl (.cons rfl (.nil)))))) .nil .nil [0, 1] rfl
    · skip
      have h2d := B.df h2
      refine WX.run ttOk rfl ?_
      have hX1 : slices_EqualFunc_Measurement_L1 eqq s2 s1 0 = none := by rw [v2, List.drop_eq_nil_of_le (show (s1).length ≤ i by omega)]; simp only [slices_EqualFunc_Measurement_L1, cond_true, cond_false]
      have hP4 : slices_EqualFunc_Measurement s1 s2 eqq = true := by simp only [slices_EqualFunc_Measurement, h1, hX1, cond_true, cond_false]
      refine WX.ret ttOk rfl ?_
      intro w1 G bs hI hΓ
      rw [hP4]
      exact ⟨rfl, trivial⟩
theorem f135 (w : World) (n : Nat) (hn : n + 0 ≤ 9) (s1 : (List NodeP)) (ps1 : Option Addr) (cs1 : Nat) (hps1 : RdSl (hp w) ps1 cs1 s1) (s2 : (List NodeP)) (ps2 : Option Addr) (cs2 : Nat) (hps2 : RdSl (hp w) ps2 cs2 s2) (eqg : FuncId) (eqc : List Value) (eqq : NodeP → NodeP → Bool) (eqf : ∀ w1, Kp emp w w1 → ∀ (e0 : NodeP) (x0 : GoT.X NodeP), GoT.ok n e0 → All (hp w1) (GoT.fa .der e0 x0) → ∀ (e1 : NodeP) (x1 : GoT.X NodeP), GoT.ok n e1 → All (hp w1) (GoT.fa .der e1 x1) → Does Tryz.prog eqg ([Value.agg ⟨GoT.sh e0 x0⟩, Value.agg ⟨GoT.sh e1 x1⟩] ++ eqc).toArray w1 emp (fun rv _ => rv = .bool (eqq e0 e1) ∧ True)) (hoks1 : GoT.ok n s1) (hoks2 : GoT.ok n s2) :
    Does Tryz.prog 135 #[.slice ps1 ((s1).length) cs1, .slice ps2 ((s2).length) cs2, .func (.func eqg) #[] eqc.toArray] w emp (fun (rv : Value) (_ : World) => rv = .bool (slices_EqualFunc_Node s1 s2 eqq) ∧ True) := by
  have hbP := bd_pos n
  have hbB := bd_big (n := n) (by omega)
  refine WX.enter (tt := tt) (Γ := [(0, MF.rs .stb ps1 cs1 s1), (1, MF.rs .stb ps2 cs2 s2)]) Tryz.func135 rfl (by kernel_rfl) rfl (allS_cons rfl hps1 (allS_cons rfl hps2 allS_nil)) ?_
  refine WX.run ttOk rfl ?_
  refine WX.cases 14 rfl (fun h1 => ?_) (fun h1 => ?_)
  · skip
    have h1d := B.nt' h1
    refine WX.run ttOk rfl ?_
    have hP1 : slices_EqualFunc_Node s1 s2 eqq = false := by simp only [slices_EqualFunc_Node, h1, cond_true, cond_false]
    refine WX.ret ttOk rfl ?_
    intro w1 G bs hI hΓ
    rw [hP1]
    exact ⟨rfl, trivial⟩
  · skip
    have h1d := B.nf' h1
    refine WX.run ttOk rfl ?_
    have r1 : (s1).length ≤ bd n := (okl hoks1).1
    refine WX.loop (ι := Nat) ⟨fun i => (i ≤ (s1).length) ∧ (slices_EqualFunc_Node_L1 eqq s2 s1 0 = slices_EqualFunc_Node_L1 eqq s2 ((s1).drop i) i), fun i => (s1).length - i, fun i => [(17, .v (.int .i64 (((i : Nat) : Int)))), (16, .v (.int .i64 ((((s1).length : Nat) : Int)))), (15, .v (.slice ps1 ((s1).length) cs1)), (1, .v (.slice ps2 ((s2).length) cs2)), (2, .v (.func (.func eqg) #[] eqc.toArray))], fun i => [], fun i => [], fun i => [(0, MF.rs .stb ps1 cs1 s1), (1, MF.rs .stb ps2 cs2 s2)]⟩ 0 ⟨(Nat.zero_le _), rfl⟩
      (.cons rfl (.cons rfl (.cons rfl (.cons rfl (.cons rfl (.nil)))))) .nil .nil [0, 1] rfl ?_
    rintro i hpre
    have hpre_ : (i ≤ (s1).length) ∧ (slices_EqualFunc_Node_L1 eqq s2 s1 0 = slices_EqualFunc_Node_L1 eqq s2 ((s1).drop i) i) := hpre
    clear hpre
    obtain ⟨v1, v2⟩ := hpre_
    refine WX.run ttOk rfl ?_
    refine WX.cases 18 rfl (fun h2 => ?_) (fun h2 => ?_)
    · skip
      have h2d := B.dt h2
      have e1i : i < (s1).length := (by omega)
      obtain ⟨e1, e1h⟩ : ∃ e1, (s1)[i]? = some e1 := ⟨_, List.getElem?_eq_getElem e1i⟩
      have ok1 : GoT.ok n e1 := (okl hoks1).2 _ (List.mem_of_getElem? e1h)
      refine WX.run ttOk rfl ?_
      refine WX.idx 0 i ttOk rfl rfl rfl rfl rfl rfl rfl rfl rfl rfl e1i ?_
      rintro ad1 rfl
      refine WX.ldE 0 2 e1 ttOk rfl rfl rfl rfl rfl rfl rfl rfl e1h (fun _ => rfl) (fun _ => rfl) ?_
      rintro ⟨⟨p1, c1⟩, ⟨⟨⟩, ⟨p2, c2⟩⟩, ⟨p3, c3⟩, ⟨p4, c4⟩, ⟨p5, c5⟩, ⟨p6, c6⟩, ⟨⟩⟩
      refine WX.run ttOk rfl ?_
      have e2i : i < (s2).length := (by first | assumption | omega)
      obtain ⟨e2, e2h⟩ : ∃ e2, (s2)[i]? = some e2 := ⟨_, List.getElem?_eq_getElem e2i⟩
      have ok2 : GoT.ok n e2 := (okl hoks2).2 _ (List.mem_of_getElem? e2h)
      refine WX.idx 1 i ttOk rfl rfl rfl rfl rfl rfl rfl rfl rfl rfl e2i ?_
      rintro ad2 rfl
      refine WX.ldE 1 8 e2 ttOk rfl rfl rfl rfl rfl rfl rfl rfl e2h (fun _ => rfl) (fun _ => rfl) ?_
      rintro ⟨⟨p7, c7⟩, ⟨⟨⟩, ⟨p8, c8⟩⟩, ⟨p9, c9⟩, ⟨p10, c10⟩, ⟨p11, c11⟩, ⟨p12, c12⟩, ⟨⟩⟩
      refine WX.run ttOk rfl ?_
      refine WX.callV rfl rfl rfl rfl rfl (fun _ => rfl) rfl (fun w G bs hI hΓ => eqf w hI.keep e1 ((p1, c1), ((), (p2, c2)), (p3, c3), (p4, c4), (p5, c5), (p6, c6), ()) ok1 (All.cons (hΓ.get 2 rfl : RdSl _ _ _ _) (All.cons (hΓ.get 3 rfl : RdSl _ _ _ _) (All.cons (hΓ.get 4 rfl : RdSl _ _ _ _) (All.cons (hΓ.get 5 rfl : RdSl _ _ _ _) (All.cons (hΓ.get 6 rfl : RdSl _ _ _ _) (All.cons (hΓ.get 7 rfl : RdSl _ _ _ _) All.nil)))))) e2 ((p7, c7), ((), (p8, c8)), (p9, c9), (p10, c10), (p11, c11), (p12, c12), ()) ok2 (All.cons (hΓ.get 8 rfl : RdSl _ _ _ _) (All.cons (hΓ.get 9 rfl : RdSl _ _ _ _) (All.cons (hΓ.get 10 rfl : RdSl _ _ _ _) (All.cons (hΓ.get 11 rfl : RdSl _ _ _ _) (All.cons (hΓ.get 12 rfl : RdSl _ _ _ _) (All.cons (hΓ.get 13 rfl : RdSl _ _ _ _) All.nil))))))) ?_
      intro hq1
      refine WX.run ttOk rfl ?_
      refine WX.cases 30 rfl (fun h3 => ?_) (fun h3 => ?_)
      · skip
        have h3d := (B.nt h3)
        refine WX.run ttOk rfl ?_
        have hP2 : slices_EqualFunc_Node_L1 eqq s2 s1 0 = (some false) := by rw [v2, drop_get e1h]; simp only [slices_EqualFunc_Node_L1, e2h, h3, cond_true, cond_false]
        have hP3 : slices_EqualFunc_Node s1 s2 eqq = false := by simp only [slices_EqualFunc_Node, h1, hP2, cond_true, cond_false]
        refine WX.ret ttOk rfl ?_
        intro w1 G bs hI hΓ
        rw [hP3]
        exact ⟨rfl, trivial⟩
      · skip
        have h3d := (B.nf h3)
        refine WX.run ttOk rfl ?_
        refine WX.see rfl rfl rfl (fun _ hΓ => looks_arith rfl rfl rfl rfl (by unfold I64; first | omega | (simp only [List.length_take, List.length_drop] at *; omega) | (dsimp only; omega))) ?_
        refine WX.run ttOk rfl ?_
        exact WX.iter (i + 1) ⟨(by omega), (by rw [v2, drop_get e1h]; simp only [slices_EqualFunc_Node_L1, e2h, h3, cond_true, cond_false])⟩ (by first | (dsimp only; omega) | omega) (.cons rfl (.cons rfl (.cons rfl (.cons rfl (.cons rfl (.nil)))))) .nil .nil [0, 1] rfl
    · skip
      have h2d := B.df h2
      refine WX.run ttOk rfl ?_
      have hX1 : slices_EqualFunc_Node_L1 eqq s2 s1 0 = none := by rw [v2, List.drop_eq_nil_of_le (show (s1).length ≤ i by omega)]; simp only [slices_EqualFunc_Node_L1, cond_true, cond_false]
      have hP4 : slices_EqualFunc_Node s1 s2 eqq = true := by simp only [slices_EqualFunc_Node, h1, hX1, cond_true, cond_false]
      refine WX.ret ttOk rfl ?_
      intro w1 G bs hI hΓ
      rw [hP4]
      exact ⟨rfl, trivial⟩
theorem f137 (w : World) (n : Nat) (hn : n + 0 ≤ 9) (s1 : (List PacketInFlight)) (ps1 : Option Addr) (cs1 : Nat) (hps1 : RdSl (hp w) ps1 cs1 s1) (s2 : (List PacketInFlight)) (ps2 : Option Addr) (cs2 : Nat) (hps2 : RdSl (hp w) ps2 cs2 s2) (eqg : FuncId) (eqc : List Value) (eqq : PacketInFlight → PacketInFlight → Bool) (eqf : ∀ w1, Kp emp w w1 → ∀ (e0 : PacketInFlight) (x0 : GoT.X PacketInFlight), GoT.ok n e0 → All (hp w1) (GoT.fa .der e0 x0) → ∀ (e1 : PacketInFlight) (x1 : GoT.X PacketInFlight), GoT.ok n e1 → All (hp w1) (GoT.fa .der e1 x1) → Does Tryz.prog eqg ([Value.agg ⟨GoT.sh e0 x0⟩, Value.agg ⟨GoT.sh e1 x1⟩] ++ eqc).toArray w1 emp (fun rv _ => rv = .bool (eqq e0 e1) ∧ True)) (hoks1 : GoT.ok n s1) (hoks2 : GoT.ok n s2) :
    Does Tryz.prog 137 #[.slice ps1 ((s1).length) cs1, .slice ps2 ((s2).length) cs2, .func (.func eqg) #[] eqc.toArray] w emp (fun (rv : Value) (_ : World) => rv = .bool (slices_EqualFunc_PacketInFlight s1 s2 eqq) ∧ True) := by
  have hbP := bd_pos n
  have hbB := bd_big (n := n) (by omega)
  refine WX.enter (tt := tt) (Γ := [(0, MF.rs .stb ps1 cs1 s1), (1, MF.rs .stb ps2 cs2 s2)]) Tryz.func137 rfl (by kernel_rfl) rfl (allS_cons rfl hps1 (allS_cons rfl hps2 allS_nil)) ?_
  refine WX.run ttOk rfl ?_
  refine WX.cases 14 rfl (fun h1 => ?_) (fun h1 => ?_)
  · skip
    have h1d := B.nt' h1
    refine WX.run ttOk rfl ?_
    have hP1 : slices_EqualFunc_PacketInFlight s1 s2 eqq = false := by simp only [slices_EqualFunc_PacketInFlight, h1, cond_true, cond_false]
    refine WX.ret ttOk rfl ?_
    intro w1 G bs hI hΓ
    rw [hP1]
    exact ⟨rfl, trivial⟩
  · skip
    have h1d := B.nf' h1
    refine WX.run ttOk rfl ?_
    have r1 : (s1).length ≤ bd n := (okl hoks1).1
    refine WX.loop (ι := Nat) ⟨fun i => (i ≤ (s1).length) ∧ (slices_EqualFunc_PacketInFlight_L1 eqq s2 s1 0 = slices_EqualFunc_PacketInFlight_L1 eqq s2 ((s1).drop i) i), fun i => (s1).length - i, fun i => [(17, .v (.int .i64 (((i : Nat) : Int)))), (16, .v (.int .i64 ((((s1).length : Nat) : Int)))), (15, .v (.slice ps1 ((s1).length) cs1)), (1, .v (.slice ps2 ((s2).length) cs2)), (2, .v (.func (.func eqg) #[] eqc.toArray))], fun i => [], fun i => [], fun i => [(0, MF.rs .stb ps1 cs1 s1), (1, MF.rs .stb ps2 cs2 s2)]⟩ 0 ⟨(Nat.zero_le _), rfl⟩
      (.cons rfl (.cons rfl (.cons rfl (.cons rfl (.cons rfl (.nil)))))) .nil .nil [0, 1] rfl ?_
    rintro i hpre
    have hpre_ : (i ≤ (s1).length) ∧ (slices_EqualFunc_PacketInFlight_L1 eqq s2 s1 0 = slices_EqualFunc_PacketInFlight_L1 eqq s2 ((s1).drop i) i) := hpre
    clear hpre
    obtain ⟨v1, v2⟩ := hpre_
    refine WX.run ttOk rfl ?_
    refine WX.cases 18 rfl (fun h2 => ?_) (fun h2 => ?_)
    · skip
      have h2d := B.dt h2
      have e1i : i < (s1).length := (by omega)
      obtain ⟨e1, e1h⟩ : ∃ e1, (s1)[i]? = some e1 := ⟨_, List.getElem?_eq_getElem e1i⟩
      have ok1 : GoT.ok n e1 := (okl hoks1).2 _ (List.mem_of_getElem? e1h)
      refine WX.run ttOk rfl ?_
      refine WX.idx 0 i ttOk rfl rfl rfl rfl rfl rfl rfl rfl rfl rfl e1i ?_
      rintro ad1 rfl
      refine WX.ldE 0 2 e1 ttOk rfl rfl rfl rfl rfl rfl rfl rfl e1h (fun _ => rfl) (fun _ => rfl) ?_
      rintro ⟨⟨⟩, ⟨⟩, ⟨⟩, ⟨⟨p1, c1⟩, ⟨⟩, ⟨⟩, ⟨⟩⟩, ⟨⟨p2, c2⟩, ⟨p3, c3⟩, ⟨p4, c4⟩, ⟨⟩, ⟨⟩⟩⟩
      refine WX.run ttOk rfl ?_
      have e2i : i < (s2).length := (by first | assumption | omega)
      obtain ⟨e2, e2h⟩ : ∃ e2, (s2)[i]? = some e2 := ⟨_, List.getElem?_eq_getElem e2i⟩
      have ok2 : GoT.ok n e2 := (okl hoks2).2 _ (List.mem_of_getElem? e2h)
      refine WX.idx 1 i ttOk rfl rfl rfl rfl rfl rfl rfl rfl rfl rfl e2i ?_
      rintro ad2 rfl
      refine WX.ldE 1 6 e2 ttOk rfl rfl rfl rfl rfl rfl rfl rfl e2h (fun _ => rfl) (fun _ => rfl) ?_
      rintro ⟨⟨⟩, ⟨⟩, ⟨⟩, ⟨⟨p5, c5⟩, ⟨⟩, ⟨⟩, ⟨⟩⟩, ⟨⟨p6, c6⟩, ⟨p7, c7⟩, ⟨p8, c8⟩, ⟨⟩, ⟨⟩⟩⟩
      refine WX.run ttOk rfl ?_
      refine WX.callV rfl rfl rfl rfl rfl (fun _ => rfl) rfl (fun w G bs hI hΓ => eqf w hI.keep e1 ((), (), (), ((p1, c1), (), (), ()), ((p2, c2), (p3, c3), (p4, c4), (), ())) ok1 (All.cons (hΓ.get 2 rfl : RdSl _ _ _ _) (All.cons (hΓ.get 3 rfl : RdSl _ _ _ _) (All.cons (hΓ.get 4 rfl : RdSl _ _ _ _) (All.cons (hΓ.get 5 rfl : RdSl _ _ _ _) All.nil)))) e2 ((), (), (), ((p5, c5), (), (), ()), ((p6, c6), (p7, c7), (p8, c8), (), ())) ok2 (All.cons (hΓ.get 6 rfl : RdSl _ _ _ _) (All.cons (hΓ.get 7 rfl : RdSl _ _ _ _) (All.cons (hΓ.get 8 rfl : RdSl _ _ _ _) (All.cons (hΓ.get 9 rfl : RdSl _ _ _ _) All.nil))))) ?_
      intro hq1
      refine WX.run ttOk rfl ?_
      refine WX.cases 30 rfl (fun h3 => ?_) (fun h3 => ?_)
      · skip
        have h3d := (B.nt h3)
        refine WX.run ttOk rfl ?_
        have hP2 : slices_EqualFunc_PacketInFlight_L1 eqq s2 s1 0 = (some false) := by rw [v2, drop_get e1h]; simp only [slices_EqualFunc_PacketInFlight_L1, e2h, h3, cond_true, cond_false]
        have hP3 : slices_EqualFunc_PacketInFlight s1 s2 eqq = false := by simp only [slices_EqualFunc_PacketInFlight, h1, hP2, cond_true, cond_false]
        refine WX.ret ttOk rfl ?_
        intro w1 G bs hI hΓ
        rw [hP3]
        exact ⟨rfl, trivial⟩
      · skip
        have h3d := (B.nf h3)
        refine WX.run ttOk rfl ?_
        refine WX.see rfl rfl rfl (fun _ hΓ => looks_arith rfl rfl rfl rfl (by unfold I64; first | omega | (simp only [List.length_take, List.length_drop] at *; omega) | (dsimp only; omega))) ?_
        refine WX.run ttOk rfl ?_
        exact WX.iter (i + 1) ⟨(by omega), (by rw [v2, drop_get e1h]; simp only [slices_EqualFunc_PacketInFlight_L1, e2h, h3, cond_true, cond_false])⟩ (by first | (dsimp only; omega) | omega) (.cons rfl (.cons rfl (.cons rfl (.cons rfl (.cons rfl (.nil)))))) .nil .nil [0, 1] rfl
    · skip
      have h2d := B.df h2
      refine WX.run ttOk rfl ?_
      have hX1 : slices_EqualFunc_PacketInFlight_L1 eqq s2 s1 0 = none := by rw [v2, List.drop_eq_nil_of_le (show (s1).length ≤ i by omega)]; simp only [slices_EqualFunc_PacketInFlight_L1, cond_true, cond_false]
      have hP4 : slices_EqualFunc_PacketInFlight s1 s2 eqq = true := by simp only [slices_EqualFunc_PacketInFlight, h1, hX1, cond_true, cond_false]
      refine WX.ret ttOk rfl ?_
      intro w1 G bs hI hΓ
      rw [hP4]
      exact ⟨rfl, trivial⟩
theorem f139 (w : World) (n : Nat) (hn : n + 0 ≤ 9) (s1 : (List Consumer)) (ps1 : Option Addr) (cs1 : Nat) (hps1 : RdSl (hp w) ps1 cs1 s1) (s2 : (List Consumer)) (ps2 : Option Addr) (cs2 : Nat) (hps2 : RdSl (hp w) ps2 cs2 s2) (eqg : FuncId) (eqc : List Value) (eqq : Consumer → Consumer → Bool) (eqf : ∀ w1, Kp emp w w1 → ∀ (e0 : Consumer) (x0 : GoT.X Consumer), GoT.ok n e0 → All (hp w1) (GoT.fa .der e0 x0) → ∀ (e1 : Consumer) (x1 : GoT.X Consumer), GoT.ok n e1 → All (hp w1) (GoT.fa .der e1 x1) → Does Tryz.prog eqg ([Value.agg ⟨GoT.sh e0 x0⟩, Value.agg ⟨GoT.sh e1 x1⟩] ++ eqc).toArray w1 emp (fun rv _ => rv = .bool (eqq e0 e1) ∧ True)) (hoks1 : GoT.ok n s1) (hoks2 : GoT.ok n s2) :
    Does Tryz.prog 139 #[.slice ps1 ((s1).length) cs1, .slice ps2 ((s2).length) cs2, .func (.func eqg) #[] eqc.toArray] w emp (fun (rv : Value) (_ : World) => rv = .bool (slices_EqualFunc_Consumer s1 s2 eqq) ∧ True) := by
  have hbP := bd_pos n
  have hbB := bd_big (n := n) (by omega)
  refine WX.enter (tt := tt) (Γ := [(0, MF.rs .stb ps1 cs1 s1), (1, MF.rs .stb ps2 cs2 s2)]) Tryz.func139 rfl (by kernel_rfl) rfl (allS_cons rfl hps1 (allS_cons rfl hps2 allS_nil)) ?_
  refine WX.run ttOk rfl ?_
  refine WX.cases 14 rfl (fun h1 => ?_) (fun h1 => ?_)
  · skip
    have h1d := B.nt' h1
    refine WX.run ttOk rfl ?_
    have hP1 : slices_EqualFunc_Consumer s1 s2 eqq = false := by simp only [slices_EqualFunc_Consumer, h1, cond_true, cond_false]
    refine WX.ret ttOk rfl ?_
    intro w1 G bs hI hΓ
    rw [hP1]
    exact ⟨rfl, trivial⟩
  · skip
    have h1d := B.nf' h1
    refine WX.run ttOk rfl ?_
    have r1 : (s1).length ≤ bd n := (okl hoks1).1
    refine WX.loop (ι := Nat) ⟨fun i => (i ≤ (s1).length) ∧ (slices_EqualFunc_Consumer_L1 eqq s2 s1 0 = slices_EqualFunc_Consumer_L1 eqq s2 ((s1).drop i) i), fun i => (s1).length - i, fun i => [(17, .v (.int .i64 (((i : Nat) : Int)))), (16, .v (.int .i64 ((((s1).length : Nat) : Int)))), (15, .v (.slice ps1 ((s1).length) cs1)), (1, .v (.slice ps2 ((s2).length) cs2)), (2, .v (.func (.func eqg) #[] eqc.toArray))], fun i => [], fun i => [], fun i => [(0, MF.rs .stb ps1 cs1 s1), (1, MF.rs .stb ps2 cs2 s2)]⟩ 0 ⟨(Nat.zero_le _), rfl⟩
      (.cons rfl (.cons rfl (.cons rfl (.cons rfl (.cons rfl (.nil)))))) .nil .nil [0, 1] rfl ?_
    rintro i hpre
    have hpre_ : (i ≤ (s1).length) ∧ (slices_EqualFunc_Consumer_L1 eqq s2 s1 0 = slices_EqualFunc_Consumer_L1 eqq s2 ((s1).drop i) i) := hpre
    clear hpre
    obtain ⟨v1, v2⟩ := hpre_
    refine WX.run ttOk rfl ?_
    refine WX.cases 18 rfl (fun h2 => ?_) (fun h2 => ?_)
    · skip
      have h2d := B.dt h2
      have e1i : i < (s1).length := (by omega)
      obtain ⟨e1, e1h⟩ : ∃ e1, (s1)[i]? = some e1 := ⟨_, List.getElem?_eq_getElem e1i⟩
      have ok1 : GoT.ok n e1 := (okl hoks1).2 _ (List.mem_of_getElem? e1h)
      refine WX.run ttOk rfl ?_
      refine WX.idx 0 i ttOk rfl rfl rfl rfl rfl rfl rfl rfl rfl rfl e1i ?_
      rintro ad1 rfl
      refine WX.ldE 0 2 e1 ttOk rfl rfl rfl rfl rfl rfl rfl rfl e1h (fun _ => rfl) (fun _ => rfl) ?_
      rintro ⟨⟨⟩, ⟨⟩, ⟨p1, c1⟩, ⟨⟩, ⟨⟩, ⟨⟩, ⟨⟨p2, c2⟩, ⟨p3, c3⟩, ⟨p4, c4⟩, ⟨⟩, ⟨⟩⟩⟩
      refine WX.run ttOk rfl ?_
      have e2i : i < (s2).length := (by first | assumption | omega)
      obtain ⟨e2, e2h⟩ : ∃ e2, (s2)[i]? = some e2 := ⟨_, List.getElem?_eq_getElem e2i⟩
      have ok2 : GoT.ok n e2 := (okl hoks2).2 _ (List.mem_of_getElem? e2h)
      refine WX.idx 1 i ttOk rfl rfl rfl rfl rfl rfl rfl rfl rfl rfl e2i ?_
      rintro ad2 rfl
      refine WX.ldE 1 6 e2 ttOk rfl rfl rfl rfl rfl rfl rfl rfl e2h (fun _ => rfl) (fun _ => rfl) ?_
      rintro ⟨⟨⟩, ⟨⟩, ⟨p5, c5⟩, ⟨⟩, ⟨⟩, ⟨⟩, ⟨⟨p6, c6⟩, ⟨p7, c7⟩, ⟨p8, c8⟩, ⟨⟩, ⟨⟩⟩⟩
      refine WX.run ttOk rfl ?_
      refine WX.callV rfl rfl rfl rfl rfl (fun _ => rfl) rfl (fun w G bs hI hΓ => eqf w hI.keep e1 ((), (), (p1, c1), (), (), (), ((p2, c2), (p3, c3), (p4, c4), (), ())) ok1 (All.cons (hΓ.get 2 rfl : RdSl _ _ _ _) (All.cons (hΓ.get 3 rfl : RdSl _ _ _ _) (All.cons (hΓ.get 4 rfl : RdSl _ _ _ _) (All.cons (hΓ.get 5 rfl : RdSl _ _ _ _) All.nil)))) e2 ((), (), (p5, c5), (), (), (), ((p6, c6), (p7, c7), (p8, c8), (), ())) ok2 (All.cons (hΓ.get 6 rfl : RdSl _ _ _ _) (All.cons (hΓ.get 7 rfl : RdSl _ _ _ _) (All.cons (hΓ.get 8 rfl : RdSl _ _ _ _) (All.cons (hΓ.get 9 rfl : RdSl _ _ _ _) All.nil))))) ?_
      intro hq1
      refine WX.run ttOk rfl ?_
      refine WX.cases 30 rfl (fun h3 => ?_) (fun h3 => ?_)
      · skip
        have h3d := (B.nt h3)
        refine WX.run ttOk rfl ?_
        have hP2 : slices_EqualFunc_Consumer_L1 eqq s2 s1 0 = (some false) := by rw [v2, drop_get e1h]; simp only [slices_EqualFunc_Consumer_L1, e2h, h3, cond_true, cond_false]
        have hP3 : slices_EqualFunc_Consumer s1 s2 eqq = false := by simp only [slices_EqualFunc_Consumer, h1, hP2, cond_true, cond_false]
        refine WX.ret ttOk rfl ?_
        intro w1 G bs hI hΓ
        rw [hP3]
        exact ⟨rfl, trivial⟩
      · skip
        have h3d := (B.nf h3)
        refine WX.run ttOk rfl ?_
        refine WX.see rfl rfl rfl (fun _ hΓ => looks_arith rfl rfl rfl rfl (by unfold I64; first | omega | (simp only [List.length_take, List.length_drop] at *; omega) | (dsimp only; omega))) ?_
        refine WX.run ttOk rfl ?_
        exact WX.iter (i + 1) ⟨(by omega), (by rw [v2, drop_get e1h]; simp only [slices_EqualFunc_Consumer_L1, e2h, h3, cond_true, cond_false])⟩ (by first | (dsimp only; omega) | omega) (.cons rfl (.cons rfl (.cons rfl (.cons rfl (.cons rfl (.nil)))))) .nil .nil [0, 1] rfl
    · skip
      have h2d := B.df h2
      refine WX.run ttOk rfl ?_
      have hX1 : slices_EqualFunc_Consumer_L1 eqq s2 s1 0 = none := by rw [v2, List.drop_eq_nil_of_le (show (s1).length ≤ i by omega)]; simp only [slices_EqualFunc_Consumer_L1, cond_true, cond_false]
      have hP4 : slices_EqualFunc_Consumer s1 s2 eqq = true := by simp only [slices_EqualFunc_Consumer, h1, hX1, cond_true, cond_false]
      refine WX.ret ttOk rfl ?_
      intro w1 G bs hI hΓ
      rw [hP4]
      exact ⟨rfl, trivial⟩
theorem f235 (w : World) (n : Nat) (hn : n + 0 ≤ 9) (a : Rule) (paDataPattern : Option Addr) (caDataPattern : Nat) (hpaDataPattern : RdSl (hp w) paDataPattern caDataPattern a.dataPattern.parts) (paKeyPattern : Option Addr) (caKeyPattern : Nat) (hpaKeyPattern : RdSl (hp w) paKeyPattern caKeyPattern a.keyPattern.parts) (b : Rule) (pbDataPattern : Option Addr) (cbDataPattern : Nat) (hpbDataPattern : RdSl (hp w) pbDataPattern cbDataPattern b.dataPattern.parts) (pbKeyPattern : Option Addr) (cbKeyPattern : Nat) (hpbKeyPattern : RdSl (hp w) pbKeyPattern cbKeyPattern b.keyPattern.parts) (hoka : GoT.ok n a) (hokb : GoT.ok n b) :
    Does Tryz.prog 235 #[.agg #[.slice paDataPattern ((a.dataPattern.parts).length) caDataPattern, .slice paKeyPattern ((a.keyPattern.parts).length) caKeyPattern], .agg #[.slice pbDataPattern ((b.dataPattern.parts).length) cbDataPattern, .slice pbKeyPattern ((b.keyPattern.parts).length) cbKeyPattern]] w emp (fun (rv : Value) (_ : World) => rv = .bool (impl_EqualRules a b) ∧ True) := by
  have hbP := bd_pos n
  have hbB := bd_big (n := n) (by omega)
  refine WX.enter (tt := tt) (Γ := [(0, MF.rs .stb paDataPattern caDataPattern a.dataPattern.parts), (1, MF.rs .stb paKeyPattern caKeyPattern a.keyPattern.parts), (2, MF.rs .stb pbDataPattern cbDataPattern b.dataPattern.parts), (3, MF.rs .stb pbKeyPattern cbKeyPattern b.keyPattern.parts)]) Tryz.func235 rfl (by kernel_rfl) rfl (allS_cons rfl hpaDataPattern (allS_cons rfl hpaKeyPattern (allS_cons rfl hpbDataPattern (allS_cons rfl hpbKeyPattern allS_nil)))) ?_
  refine WX.run ttOk rfl ?_
  refine WX.callV rfl rfl rfl rfl rfl (fun _ => rfl) rfl (fun w G bs hI hΓ => f210 w n (by omega) a.dataPattern.parts paDataPattern caDataPattern (hΓ.get 0 rfl) b.dataPattern.parts pbDataPattern cbDataPattern (hΓ.get 2 rfl) (ok_Pattern (ok_Rule hoka).1) (ok_Pattern (ok_Rule hokb).1)) ?_
  intro hq1
  refine WX.run ttOk rfl ?_
  refine WX.cases 12 rfl (fun h1 => ?_) (fun h1 => ?_)
  · skip
    refine WX.run ttOk rfl ?_
    refine WX.callV rfl rfl rfl rfl rfl (fun _ => rfl) rfl (fun w G bs hI hΓ => f210 w n (by omega) a.keyPattern.parts paKeyPattern caKeyPattern (hΓ.get 1 rfl) b.keyPattern.parts pbKeyPattern cbKeyPattern (hΓ.get 3 rfl) (ok_Pattern (ok_Rule hoka).2) (ok_Pattern (ok_Rule hokb).2)) ?_
    intro hq2
    refine WX.run ttOk rfl ?_
    have hP1 : impl_EqualRules a b = (slices_Equal_string a.keyPattern.parts b.keyPattern.parts) := by simp only [impl_EqualRules, h1, cond_true, cond_false]
    refine WX.ret ttOk rfl ?_
    intro w1 G bs hI hΓ
    rw [hP1]
    exact ⟨rfl, trivial⟩
  · skip
    refine WX.run ttOk rfl ?_
    have hP2 : impl_EqualRules a b = false := by simp only [impl_EqualRules, h1, cond_true, cond_false]
    refine WX.ret ttOk rfl ?_
    intro w1 G bs hI hΓ
    rw [hP2]
    exact ⟨rfl, trivial⟩
theorem f319 (w : World) (n : Nat) (hn : n + 0 ≤ 9) (a : Pattern) (pa : Option Addr) (ca : Nat) (hpa : RdSl (hp w) pa ca a.parts) (b : Pattern) (pb : Option Addr) (cb : Nat) (hpb : RdSl (hp w) pb cb b.parts) (hoka : GoT.ok n a) (hokb : GoT.ok n b) :
    Does Tryz.prog 319 #[.agg #[.slice pa ((a.parts).length) ca], .agg #[.slice pb ((b.parts).length) cb]] w emp (fun (rv : Value) (_ : World) => rv = .bool (spec_l10SamePat a b) ∧ True) := by
  have hbP := bd_pos n
  have hbB := bd_big (n := n) (by omega)
  refine WX.enter (tt := tt) (Γ := [(0, MF.rs .stb pa ca a.parts), (1, MF.rs .stb pb cb b.parts)]) Tryz.func319 rfl (by kernel_rfl) rfl (allS_cons rfl hpa (allS_cons rfl hpb allS_nil)) ?_
  refine WX.run ttOk rfl ?_
  refine WX.callV rfl rfl rfl rfl rfl (fun _ => rfl) rfl (fun w G bs hI hΓ => f92 w n (by omega) (Name.mk a.parts) pa ca (hΓ.get 0 rfl) (Name.mk b.parts) pb cb (hΓ.get 1 rfl) (ok_Pattern hoka) (ok_Pattern hokb)) ?_
  intro hq1
  refine WX.run ttOk rfl ?_
  have hP1 : spec_l10SamePat a b = (spec_EqualNames (Name.mk a.parts) (Name.mk b.parts)) := by simp only [spec_l10SamePat, cond_true, cond_false]
  refine WX.ret ttOk rfl ?_
  intro w1 G bs hI hΓ
  rw [hP1]
  exact ⟨rfl, trivial⟩
theorem f220 (w : World) (n : Nat) (hn : n + 0 ≤ 9) (a : Rule) (paDataPattern : Option Addr) (caDataPattern : Nat) (hpaDataPattern : RdSl (hp w) paDataPattern caDataPattern a.dataPattern.parts) (paKeyPattern : Option Addr) (caKeyPattern : Nat) (hpaKeyPattern : RdSl (hp w) paKeyPattern caKeyPattern a.keyPattern.parts) (b : Rule) (pbDataPattern : Option Addr) (cbDataPattern : Nat) (hpbDataPattern : RdSl (hp w) pbDataPattern cbDataPattern b.dataPattern.parts) (pbKeyPattern : Option Addr) (cbKeyPattern : Nat) (hpbKeyPattern : RdSl (hp w) pbKeyPattern cbKeyPattern b.keyPattern.parts) (hoka : GoT.ok n a) (hokb : GoT.ok n b) :
    Does Tryz.prog 220 #[.agg #[.slice paDataPattern ((a.dataPattern.parts).length) caDataPattern, .slice paKeyPattern ((a.keyPattern.parts).length) caKeyPattern], .agg #[.slice pbDataPattern ((b.dataPattern.parts).length) cbDataPattern, .slice pbKeyPattern ((b.keyPattern.parts).length) cbKeyPattern]] w emp (fun (rv : Value) (_ : World) => rv = .bool (spec_EqualRules a b) ∧ True) := by
  have hbP := bd_pos n
  have hbB := bd_big (n := n) (by omega)
  refine WX.enter (tt := tt) (Γ := [(0, MF.rs .stb paDataPattern caDataPattern a.dataPattern.parts), (1, MF.rs .stb paKeyPattern caKeyPattern a.keyPattern.parts), (2, MF.rs .stb pbDataPattern cbDataPattern b.dataPattern.parts), (3, MF.rs .stb pbKeyPattern cbKeyPattern b.keyPattern.parts)]) Tryz.func220 rfl (by kernel_rfl) rfl (allS_cons rfl hpaDataPattern (allS_cons rfl hpaKeyPattern (allS_cons rfl hpbDataPattern (allS_cons rfl hpbKeyPattern allS_nil)))) ?_
  refine WX.run ttOk rfl ?_
  refine WX.callV rfl rfl rfl rfl rfl (fun _ => rfl) rfl (fun w G bs hI hΓ => f319 w n (by omega) a.dataPattern paDataPattern caDataPattern (hΓ.get 0 rfl) b.dataPattern pbDataPattern cbDataPattern (hΓ.get 2 rfl) ((ok_Rule hoka).1) ((ok_Rule hokb).1)) ?_
  intro hq1
  refine WX.run ttOk rfl ?_
  refine WX.cases 10 rfl (fun h1 => ?_) (fun h1 => ?_)
  · skip
    refine WX.run ttOk rfl ?_
    refine WX.callV rfl rfl rfl rfl rfl (fun _ => rfl) rfl (fun w G bs hI hΓ => f319 w n (by omega) a.keyPattern paKeyPattern caKeyPattern (hΓ.get 1 rfl) b.keyPattern pbKeyPattern cbKeyPattern (hΓ.get 3 rfl) ((ok_Rule hoka).2) ((ok_Rule hokb).2)) ?_
    intro hq2
    refine WX.run ttOk rfl ?_
    have hP1 : spec_EqualRules a b = (spec_l10SamePat a.keyPattern b.keyPattern) := by simp only [spec_EqualRules, h1, cond_true, cond_false]
    refine WX.ret ttOk rfl ?_
    intro w1 G bs hI hΓ
    rw [hP1]
    exact ⟨rfl, trivial⟩
  · skip
    refine WX.run ttOk rfl ?_
    have hP2 : spec_EqualRules a b = false := by simp only [spec_EqualRules, h1, cond_true, cond_false]
    refine WX.ret ttOk rfl ?_
    intro w1 G bs hI hΓ
    rw [hP2]
    exact ⟨rfl, trivial⟩
theorem f232 (w : World) (n : Nat) (hn : n + 0 ≤ 9) (x_ : Key) (px_Name : Option Addr) (cx_Name : Nat) (hpx_Name : RdSl (hp w) px_Name cx_Name x_.name.parts) (y : Key) (pyName : Option Addr) (cyName : Nat) (hpyName : RdSl (hp w) pyName cyName y.name.parts) (hokx_ : GoT.ok n x_) (hoky : GoT.ok n y) :
    Does Tryz.prog 232 #[.agg #[.slice px_Name ((x_.name.parts).length) cx_Name, .int .i64 (x_.secret)], .agg #[.slice pyName ((y.name.parts).length) cyName, .int .i64 (y.secret)]] w emp (fun (rv : Value) (_ : World) => rv = .bool (impl_equalTrust_c1 x_ y) ∧ True) := by
  have hbP := bd_pos n
  have hbB := bd_big (n := n) (by omega)
  refine WX.enter (tt := tt) (Γ := [(0, MF.rs .stb px_Name cx_Name x_.name.parts), (1, MF.rs .stb pyName cyName y.name.parts)]) Tryz.func232 rfl (by kernel_rfl) rfl (allS_cons rfl hpx_Name (allS_cons rfl hpyName allS_nil)) ?_
  refine WX.run ttOk rfl ?_
  refine WX.callV rfl rfl rfl rfl rfl (fun _ => rfl) rfl (fun w G bs hI hΓ => f100 w n (by omega) x_.name px_Name cx_Name (hΓ.get 0 rfl) y.name pyName cyName (hΓ.get 1 rfl) ((ok_Key hokx_).1) ((ok_Key hoky).1)) ?_
  intro hq1
  refine WX.run ttOk rfl ?_
  refine WX.cases 10 rfl (fun h1 => ?_) (fun h1 => ?_)
  · skip
    refine WX.run ttOk rfl ?_
    have hP1 : impl_equalTrust_c1 x_ y = (x_.secret == y.secret) := by simp only [impl_equalTrust_c1, h1, cond_true, cond_false]
    refine WX.ret ttOk rfl ?_
    intro w1 G bs hI hΓ
    rw [hP1]
    exact ⟨rfl, trivial⟩
  · skip
    refine WX.run ttOk rfl ?_
    have hP2 : impl_equalTrust_c1 x_ y = false := by simp only [impl_equalTrust_c1, h1, cond_true, cond_false]
    refine WX.ret ttOk rfl ?_
    intro w1 G bs hI hΓ
    rw [hP2]
    exact ⟨rfl, trivial⟩
theorem f132 (w : World) (n : Nat) (hn : n + 0 ≤ 9) (a : TrustPolicy) (paKeys : Option Addr) (caKeys : Nat) (hpaKeys : RdSl (hp w) paKeys caKeys a.keys) (paRules : Option Addr) (caRules : Nat) (hpaRules : RdSl (hp w) paRules caRules a.rules) (paAnchors : Option Addr) (caAnchors : Nat) (hpaAnchors : RdSl (hp w) paAnchors caAnchors a.anchors) (paCertificates : Option Addr) (caCertificates : Nat) (hpaCertificates : RdSl (hp w) paCertificates caCertificates a.certificates) (b : TrustPolicy) (pbKeys : Option Addr) (cbKeys : Nat) (hpbKeys : RdSl (hp w) pbKeys cbKeys b.keys) (pbRules : Option Addr) (cbRules : Nat) (hpbRules : RdSl (hp w) pbRules cbRules b.rules) (pbAnchors : Option Addr) (cbAnchors : Nat) (hpbAnchors : RdSl (hp w) pbAnchors cbAnchors b.anchors) (pbCertificates : Option Addr) (cbCertificates : Nat) (hpbCertificates : RdSl (hp w) pbCertificates cbCertificates b.certificates) (hoka : GoT.ok n a) (hokb : GoT.ok n b) :
    Does Tryz.prog 132 #[.agg #[.slice paKeys ((a.keys).length) caKeys, .slice paRules ((a.rules).length) caRules, .slice paAnchors ((a.anchors).length) caAnchors, .slice paCertificates ((a.certificates).length) caCertificates], .agg #[.slice pbKeys ((b.keys).length) cbKeys, .slice pbRules ((b.rules).length) cbRules, .slice pbAnchors ((b.anchors).length) cbAnchors, .slice pbCertificates ((b.certificates).length) cbCertificates]] w emp (fun (rv : Value) (_ : World) => rv = .bool (impl_equalTrust a b) ∧ True) := by
  have hbP := bd_pos n
  have hbB := bd_big (n := n) (by omega)
  refine WX.enter (tt := tt) (Γ := [(0, MF.rs .stb paKeys caKeys a.keys), (1, MF.rs .stb paRules caRules a.rules), (2, MF.rs .stb paAnchors caAnchors a.anchors), (3, MF.rs .stb paCertificates caCertificates a.certificates), (4, MF.rs .stb pbKeys cbKeys b.keys), (5, MF.rs .stb pbRules cbRules b.rules), (6, MF.rs .stb pbAnchors cbAnchors b.anchors), (7, MF.rs .stb pbCertificates cbCertificates b.certificates)]) Tryz.func132 rfl (by kernel_rfl) rfl (allS_cons rfl hpaKeys (allS_cons rfl hpaRules (allS_cons rfl hpaAnchors (allS_cons rfl hpaCertificates (allS_cons rfl hpbKeys (allS_cons rfl hpbRules (allS_cons rfl hpbAnchors (allS_cons rfl hpbCertificates allS_nil)))))))) ?_
  refine WX.run ttOk rfl ?_
  refine WX.callV rfl rfl rfl rfl rfl (fun _ => rfl) rfl (fun w G bs hI hΓ => f233 w n (by omega) a.keys paKeys caKeys (hΓ.get 0 rfl) b.keys pbKeys cbKeys (hΓ.get 4 rfl) 232 [] (fun e0_ e1_ => (impl_equalTrust_c1 e0_ e1_)) (fun w1_ hb_ e0_ x0_ hk0_ hx0_ e1_ x1_ hk1_ hx1_ => f232 w1_ n (by omega) e0_ x0_.1.1 x0_.1.2 (hx0_ _ List.mem_cons_self) e1_ x1_.1.1 x1_.1.2 (hx1_ _ List.mem_cons_self) hk0_ hk1_) ((ok_TrustPolicy hoka).1) ((ok_TrustPolicy hokb).1)) ?_
  intro hq1
  refine WX.run ttOk rfl ?_
  refine WX.cases 12 rfl (fun h1 => ?_) (fun h1 => ?_)
  · skip
    refine WX.run ttOk rfl ?_
    refine WX.callV rfl rfl rfl rfl rfl (fun _ => rfl) rfl (fun w G bs hI hΓ => f234 w n (by omega) a.rules paRules caRules (hΓ.get 1 rfl) b.rules pbRules cbRules (hΓ.get 5 rfl) 235 [] (fun e0_ e1_ => (impl_EqualRules e0_ e1_)) (fun w1_ hb_ e0_ x0_ hk0_ hx0_ e1_ x1_ hk1_ hx1_ => f235 w1_ n (by omega) e0_ x0_.1.1 x0_.1.2 (hx0_ _ List.mem_cons_self) x0_.2.1 x0_.2.2 (hx0_ (MF.rs .der x0_.2.1 x0_.2.2 e0_.keyPattern.parts) (by simp [GoT.fa])) e1_ x1_.1.1 x1_.1.2 (hx1_ _ List.mem_cons_self) x1_.2.1 x1_.2.2 (hx1_ (MF.rs .der x1_.2.1 x1_.2.2 e1_.keyPattern.parts) (by simp [GoT.fa])) hk0_ hk1_) ((ok_TrustPolicy hoka).2.1) ((ok_TrustPolicy hokb).2.1)) ?_
    intro hq2
    refine WX.run ttOk rfl ?_
    refine WX.cases 19 rfl (fun h2 => ?_) (fun h2 => ?_)
    · skip
      refine WX.run ttOk rfl ?_
      refine WX.callV rfl rfl rfl rfl rfl (fun _ => rfl) rfl (fun w G bs hI hΓ => f236 w n (by omega) a.anchors paAnchors caAnchors (hΓ.get 2 rfl) b.anchors pbAnchors cbAnchors (hΓ.get 6 rfl) 100 [] (fun e0_ e1_ => (impl_EqualNames e0_ e1_)) (fun w1_ hb_ e0_ x0_ hk0_ hx0_ e1_ x1_ hk1_ hx1_ => f100 w1_ n (by omega) e0_ x0_.1 x0_.2 (hx0_ _ List.mem_cons_self) e1_ x1_.1 x1_.2 (hx1_ _ List.mem_cons_self) hk0_ hk1_) ((ok_TrustPolicy hoka).2.2.1) ((ok_TrustPolicy hokb).2.2.1)) ?_
      intro hq3
      refine WX.run ttOk rfl ?_
      refine WX.cases 26 rfl (fun h3 => ?_) (fun h3 => ?_)
      · skip
        refine WX.run ttOk rfl ?_
        refine WX.callV rfl rfl rfl rfl rfl (fun _ => rfl) rfl (fun w G bs hI hΓ => f237 w n (by omega) a.certificates paCertificates caCertificates (hΓ.get 3 rfl) b.certificates pbCertificates cbCertificates (hΓ.get 7 rfl) 238 [] (fun e0_ e1_ => (impl_EqualData e0_ e1_)) (fun w1_ hb_ e0_ x0_ hk0_ hx0_ e1_ x1_ hk1_ hx1_ => f238 w1_ n (by omega) e0_ x0_.1.1 x0_.1.2 (hx0_ _ List.mem_cons_self) x0_.2.1.1 x0_.2.1.2 (hx0_ (MF.rs .der x0_.2.1.1 x0_.2.1.2 e0_.content) (by simp [GoT.fa])) x0_.2.2.1.1 x0_.2.2.1.2 (hx0_ (MF.rs .der x0_.2.2.1.1 x0_.2.2.1.2 e0_.keyName.parts) (by simp [GoT.fa])) e1_ x1_.1.1 x1_.1.2 (hx1_ _ List.mem_cons_self) x1_.2.1.1 x1_.2.1.2 (hx1_ (MF.rs .der x1_.2.1.1 x1_.2.1.2 e1_.content) (by simp [GoT.fa])) x1_.2.2.1.1 x1_.2.2.1.2 (hx1_ (MF.rs .der x1_.2.2.1.1 x1_.2.2.1.2 e1_.keyName.parts) (by simp [GoT.fa])) hk0_ hk1_) ((ok_TrustPolicy hoka).2.2.2) ((ok_TrustPolicy hokb).2.2.2)) ?_
        intro hq4
        refine WX.run ttOk rfl ?_
        have hP1 : impl_equalTrust a b = (slices_EqualFunc_Data a.certificates b.certificates (fun e0_ e1_ => (impl_EqualData e0_ e1_))) := by simp only [impl_equalTrust, h1, h2, h3, cond_true, cond_false]
        refine WX.ret ttOk rfl ?_
        intro w1 G bs hI hΓ
        rw [hP1]
        exact ⟨rfl, trivial⟩
      · skip
        refine WX.run ttOk rfl ?_
        have hP2 : impl_equalTrust a b = false := by simp only [impl_equalTrust, h1, h2, h3, cond_true, cond_false]
        refine WX.ret ttOk rfl ?_
        intro w1 G bs hI hΓ
        rw [hP2]
        exact ⟨rfl, trivial⟩
    · skip
      refine WX.run ttOk rfl ?_
      have hP3 : impl_equalTrust a b = false := by simp only [impl_equalTrust, h1, h2, cond_true, cond_false]
      refine WX.ret ttOk rfl ?_
      intro w1 G bs hI hΓ
      rw [hP3]
      exact ⟨rfl, trivial⟩
  · skip
    refine WX.run ttOk rfl ?_
    have hP4 : impl_equalTrust a b = false := by simp only [impl_equalTrust, h1, cond_true, cond_false]
    refine WX.ret ttOk rfl ?_
    intro w1 G bs hI hΓ
    rw [hP4]
    exact ⟨rfl, trivial⟩
theorem f219 (w : World) (n : Nat) (hn : n + 0 ≤ 9) (a : (List DataP)) (pa : Option Addr) (ca : Nat) (hpa : RdSl (hp w) pa ca a) (b : (List DataP)) (pb : Option Addr) (cb : Nat) (hpb : RdSl (hp w) pb cb b) (hoka : GoT.ok n a) (hokb : GoT.ok n b) :
    Does Tryz.prog 219 #[.slice pa ((a).length) ca, .slice pb ((b).length) cb] w emp (fun (rv : Value) (_ : World) => rv = .bool (spec_l16SameThings a b) ∧ True) := by
  have hbP := bd_pos n
  have hbB := bd_big (n := n) (by omega)
  refine WX.enter (tt := tt) (Γ := [(0, MF.rs .stb pa ca a), (1, MF.rs .stb pb cb b)]) Tryz.func219 rfl (by kernel_rfl) rfl (allS_cons rfl hpa (allS_cons rfl hpb allS_nil)) ?_
  refine WX.run ttOk rfl ?_
  refine WX.cases 10 rfl (fun h1 => ?_) (fun h1 => ?_)
  · skip
    have h1d := B.nt' h1
    refine WX.run ttOk rfl ?_
    have hP1 : spec_l16SameThings a b = false := by simp only [spec_l16SameThings, h1, cond_true, cond_false]
    refine WX.ret ttOk rfl ?_
    intro w1 G bs hI hΓ
    rw [hP1]
    exact ⟨rfl, trivial⟩
  · skip
    have h1d := B.nf' h1
    refine WX.run ttOk rfl ?_
    have r1 : (a).length ≤ bd n := (okl hoka).1
    refine WX.loop (ι := Nat) ⟨fun i => (i ≤ (a).length) ∧ (spec_l16SameThings_L1 b a 0 = spec_l16SameThings_L1 b ((a).drop i) i), fun i => (a).length - i, fun i => [(5, .v (.int .i64 (((i : Nat) : Int)))), (0, .v (.slice pa ((a).length) ca)), (1, .v (.slice pb ((b).length) cb))], fun i => [], fun i => [], fun i => [(0, MF.rs .stb pa ca a), (1, MF.rs .stb pb cb b)]⟩ 0 ⟨(Nat.zero_le _), rfl⟩
      (.cons rfl (.cons rfl (.cons rfl (.nil)))) .nil .nil [0, 1] rfl ?_
    rintro i hpre
    have hpre_ : (i ≤ (a).length) ∧ (spec_l16SameThings_L1 b a 0 = spec_l16SameThings_L1 b ((a).drop i) i) := hpre
    clear hpre
    obtain ⟨v1, v2⟩ := hpre_
    refine WX.run ttOk rfl ?_
    refine WX.cases 14 rfl (fun h2 => ?_) (fun h2 => ?_)
    · skip
      have h2d := B.dt h2
      have e1i : i < (a).length := (by omega)
      obtain ⟨e1, e1h⟩ : ∃ e1, (a)[i]? = some e1 := ⟨_, List.getElem?_eq_getElem e1i⟩
      have ok1 : GoT.ok n e1 := (okl hoka).2 _ (List.mem_of_getElem? e1h)
      refine WX.run ttOk rfl ?_
      refine WX.draw [] mixed ?_
      intro bs G0 hΓ0
      refine DX.takes (fuel := 8) ttOk [(0, true), (1, true)] (by kernel_rfl) rfl ?_
      refine DX.idx 2 0 i ttOk hΓ0 (by kernel_rfl) rfl rfl rfl rfl rfl rfl rfl rfl rfl rfl rfl e1i ?_
      rintro ad1 rfl
      refine DX.ldE 3 0 2 e1 ttOk hΓ0 (by kernel_rfl) rfl rfl rfl rfl rfl rfl rfl rfl e1h (fun _ => rfl) (fun _ => rfl) ?_
      rintro ⟨⟨p1, c1⟩, ⟨p2, c2⟩, ⟨p3, c3⟩, ⟨⟩, ⟨⟩⟩
      refine DX.takes (fuel := 4) ttOk [(4, true), (5, true)] (by kernel_rfl) rfl ?_
      have e2i : i < (b).length := (by first | assumption | omega)
      obtain ⟨e2, e2h⟩ : ∃ e2, (b)[i]? = some e2 := ⟨_, List.getElem?_eq_getElem e2i⟩
      have ok2 : GoT.ok n e2 := (okl hokb).2 _ (List.mem_of_getElem? e2h)
      refine DX.idx 6 1 i ttOk hΓ0 (by kernel_rfl) rfl rfl rfl rfl rfl rfl rfl rfl rfl rfl rfl e2i ?_
      rintro ad2 rfl
      refine DX.ldE 7 1 5 e2 ttOk hΓ0 (by kernel_rfl) rfl rfl rfl rfl rfl rfl rfl rfl e2h (fun _ => rfl) (fun _ => rfl) ?_
      rintro ⟨⟨p4, c4⟩, ⟨p5, c5⟩, ⟨p6, c6⟩, ⟨⟩, ⟨⟩⟩
      refine DX.callV 8 rfl (by kernel_rfl) rfl rfl rfl rfl rfl rfl (fun _ => rfl) rfl (fun w G bs hI hΓ => f227 w n (by omega) e1 p1 c1 (hΓ.get 2 rfl) p2 c2 (hΓ.get 3 rfl) p3 c3 (hΓ.get 4 rfl) e2 p4 c4 (hΓ.get 5 rfl) p5 c5 (hΓ.get 6 rfl) p6 c6 (hΓ.get 7 rfl) ok1 ok2) ?_
      intro hq1
      refine DX.takes (fuel := 0) ttOk [(9, true)] (by kernel_rfl) rfl ?_
      refine DX.tail2 [] rfl rfl (by kernel_rfl) ?_
      refine WX.run ttOk rfl ?_
      refine WX.cases 26 rfl (fun h3 => ?_) (fun h3 => ?_)
      · skip
        have h3d := (B.nt h3)
        refine WX.run ttOk rfl ?_
        have hP2 : spec_l16SameThings_L1 b a 0 = (some false) := by rw [v2, drop_get e1h]; simp only [spec_l16SameThings_L1, e2h, h3, cond_true, cond_false]
        have hP3 : spec_l16SameThings a b = false := by simp only [spec_l16SameThings, h1, hP2, cond_true, cond_false]
        refine WX.ret ttOk rfl ?_
        intro w1 G bs hI hΓ
        rw [hP3]
        exact ⟨rfl, trivial⟩
      · skip
        have h3d := (B.nf h3)
        refine WX.run ttOk rfl ?_
        refine WX.see rfl rfl rfl (fun _ hΓ => looks_arith rfl rfl rfl rfl (by unfold I64; first | omega | (simp only [List.length_take, List.length_drop] at *; omega) | (dsimp only; omega))) ?_
        refine WX.run ttOk rfl ?_
        exact WX.iter (i + 1) ⟨(by omega), (by rw [v2, drop_get e1h]; simp only [spec_l16SameThings_L1, e2h, h3, cond_true, cond_false])⟩ (by first | (dsimp only; omega) | omega) (.cons rfl (.cons rfl (.cons rfl (.nil)))) .nil .nil [0, 1] rfl
    · skip
      have h2d := B.df h2
      refine WX.run ttOk rfl ?_
      have hX1 : spec_l16SameThings_L1 b a 0 = none := by rw [v2, List.drop_eq_nil_of_le (show (a).length ≤ i by omega)]; simp only [spec_l16SameThings_L1, cond_true, cond_false]
      have hP4 : spec_l16SameThings a b = true := by simp only [spec_l16SameThings, h1, hX1, cond_true, cond_false]
      refine WX.ret ttOk rfl ?_
      intro w1 G bs hI hΓ
      rw [hP4]
      exact ⟨rfl, trivial⟩
theorem f118 (w : World) (n : Nat) (hn : n + 0 ≤ 9) (a : Topology) (paLinks : Option Addr) (caLinks : Nat) (hpaLinks : RdSl (hp w) paLinks caLinks a.links) (b : Topology) (pbLinks : Option Addr) (cbLinks : Nat) (hpbLinks : RdSl (hp w) pbLinks cbLinks b.links) (hoka : GoT.ok n a) (hokb : GoT.ok n b) :
    Does Tryz.prog 118 #[.agg #[.int .i64 (a.size), .slice paLinks ((a.links).length) caLinks], .agg #[.int .i64 (b.size), .slice pbLinks ((b.links).length) cbLinks]] w emp (fun (rv : Value) (_ : World) => rv = .bool (spec_l32SameNet a b) ∧ True) := by
  have hbP := bd_pos n
  have hbB := bd_big (n := n) (by omega)
  refine WX.enter (tt := tt) (Γ := [(0, MF.rs .stb paLinks caLinks a.links), (1, MF.rs .stb pbLinks cbLinks b.links)]) Tryz.func118 rfl (by kernel_rfl) rfl (allS_cons rfl hpaLinks (allS_cons rfl hpbLinks allS_nil)) ?_
  refine WX.run ttOk rfl ?_
  refine WX.cases 11 rfl (fun h1 => ?_) (fun h1 => ?_)
  · skip
    have h1d := B.nt' h1
    refine WX.run ttOk rfl ?_
    have hP1 : spec_l32SameNet a b = false := by simp only [spec_l32SameNet, h1, cond_true, cond_false]
    refine WX.ret ttOk rfl ?_
    intro w1 G bs hI hΓ
    rw [hP1]
    exact ⟨rfl, trivial⟩
  · skip
    have h1d := B.nf' h1
    refine WX.run ttOk rfl ?_
    refine WX.cases 19 rfl (fun h2 => ?_) (fun h2 => ?_)
    · skip
      have h2d := B.nt' h2
      refine WX.run ttOk rfl ?_
      have hP2 : spec_l32SameNet a b = false := by simp only [spec_l32SameNet, h1, h2, cond_true, cond_false]
      refine WX.ret ttOk rfl ?_
      intro w1 G bs hI hΓ
      rw [hP2]
      exact ⟨rfl, trivial⟩
    · skip
      have h2d := B.nf' h2
      refine WX.run ttOk rfl ?_
      have r1 : (a.links).length ≤ bd n := (okl (ok_Topology hoka).2).1
      refine WX.loop (ι := Nat) ⟨fun i => (i ≤ (a.links).length) ∧ (spec_l32SameNet_L1 b a.links 0 = spec_l32SameNet_L1 b ((a.links).drop i) i), fun i => (a.links).length - i, fun i => [(5, .v (.int .i64 (((i : Nat) : Int)))), (3, .p 3 0), (2, .p 2 0)], fun i => [(3, ⟨108, [.int .i64 (b.size), .slice pbLinks ((b.links).length) cbLinks]⟩), (2, ⟨108, [.int .i64 (a.size), .slice paLinks ((a.links).length) caLinks]⟩)], fun i => [], fun i => [(0, MF.rs .stb paLinks caLinks a.links), (1, MF.rs .stb pbLinks cbLinks b.links)]⟩ 0 ⟨(Nat.zero_le _), rfl⟩
        (.cons rfl (.cons rfl (.cons rfl (.nil)))) (.cons rfl (.cons rfl (.nil))) .nil [0, 1] rfl ?_
      rintro i hpre
      have hpre_ : (i ≤ (a.links).length) ∧ (spec_l32SameNet_L1 b a.links 0 = spec_l32SameNet_L1 b ((a.links).drop i) i) := hpre
      clear hpre
      obtain ⟨v1, v2⟩ := hpre_
      refine WX.run ttOk rfl ?_
      refine WX.cases 24 rfl (fun h3 => ?_) (fun h3 => ?_)
      · skip
        have h3d := B.dt h3
        have e1i : i < (a.links).length := (by omega)
        obtain ⟨e1, e1h⟩ : ∃ e1, (a.links)[i]? = some e1 := ⟨_, List.getElem?_eq_getElem e1i⟩
        have ok1 : GoT.ok n e1 := (okl (ok_Topology hoka).2).2 _ (List.mem_of_getElem? e1h)
        refine WX.run ttOk rfl ?_
        refine WX.draw [] mixed ?_
        intro bs G0 hΓ0
        refine DX.takes (fuel := 8) ttOk [(0, true), (1, false), (2, true)] (by kernel_rfl) rfl ?_
        refine DX.idx 3 0 i ttOk hΓ0 (by kernel_rfl) rfl rfl rfl rfl rfl rfl rfl rfl rfl rfl rfl e1i ?_
        rintro ad1 rfl
        refine DX.ldE 4 0 2 e1 ttOk hΓ0 (by kernel_rfl) rfl rfl rfl rfl rfl rfl rfl rfl e1h (fun _ => rfl) (fun _ => rfl) ?_
        rintro ⟨⟨⟩, ⟨⟩⟩
        refine DX.takes (fuel := 3) ttOk [(5, true), (6, false), (7, true)] (by kernel_rfl) rfl ?_
        have e2i : i < (b.links).length := (by first | assumption | omega)
        obtain ⟨e2, e2h⟩ : ∃ e2, (b.links)[i]? = some e2 := ⟨_, List.getElem?_eq_getElem e2i⟩
        have ok2 : GoT.ok n e2 := (okl (ok_Topology hokb).2).2 _ (List.mem_of_getElem? e2h)
        refine DX.idx 8 1 i ttOk hΓ0 (by kernel_rfl) rfl rfl rfl rfl rfl rfl rfl rfl rfl rfl rfl e2i ?_
        rintro ad2 rfl
        refine DX.ldE 9 1 2 e2 ttOk hΓ0 (by kernel_rfl) rfl rfl rfl rfl rfl rfl rfl rfl e2h (fun _ => rfl) (fun _ => rfl) ?_
        rintro ⟨⟨⟩, ⟨⟩⟩
        refine DX.see 10 (by kernel_rfl) rfl rfl rfl rfl (looks_eq2 ttOk rfl rfl rfl (by kernel_rfl) (by kernel_rfl) rfl rfl rfl rfl (by decide) (by decide) rfl rfl rfl rfl rfl) ?_
        refine DX.tail2 [] rfl rfl (by kernel_rfl) ?_
        refine WX.run ttOk rfl ?_
        refine WX.cases 37 rfl (fun h4 => ?_) (fun h4 => ?_)
        · skip
          have h4d := (B.nt h4)
          refine WX.run ttOk rfl ?_
          have hP3 : spec_l32SameNet_L1 b a.links 0 = (some false) := by rw [v2, drop_get e1h]; simp only [spec_l32SameNet_L1, e2h, h4, cond_true, cond_false]
          have hP4 : spec_l32SameNet a b = false := by simp only [spec_l32SameNet, h1, h2, hP3, cond_true, cond_false]
          refine WX.ret ttOk rfl ?_
          intro w1 G bs hI hΓ
          rw [hP4]
          exact ⟨rfl, trivial⟩
        · skip
          have h4d := (B.nf h4)
          refine WX.run ttOk rfl ?_
          refine WX.see rfl rfl rfl (fun _ hΓ => looks_arith rfl rfl rfl rfl (by unfold I64; first | omega | (simp only [List.length_take, List.length_drop] at *; omega) | (dsimp only; omega))) ?_
          refine WX.run ttOk rfl ?_
          exact WX.iter (i + 1) ⟨(by omega), (by rw [v2, drop_get e1h]; simp only [spec_l32SameNet_L1, e2h, h4, cond_true, cond_false])⟩ (by first | (dsimp only; omega) | omega) (.cons rfl (.cons rfl (.cons rfl (.nil)))) (.cons rfl (.cons rfl (.nil))) .nil [0, 1] rfl
      · skip
        have h3d := B.df h3
        refine WX.run ttOk rfl ?_
        have hX1 : spec_l32SameNet_L1 b a.links 0 = none := by rw [v2, List.drop_eq_nil_of_le (show (a.links).length ≤ i by omega)]; simp only [spec_l32SameNet_L1, cond_true, cond_false]
        have hP5 : spec_l32SameNet a b = true := by simp only [spec_l32SameNet, h1, h2, hX1, cond_true, cond_false]
        refine WX.ret ttOk rfl ?_
        intro w1 G bs hI hΓ
        rw [hP5]
        exact ⟨rfl, trivial⟩
theorem f119 (w : World) (n : Nat) (hn : n + 0 ≤ 9) (a : TrustPolicy) (paKeys : Option Addr) (caKeys : Nat) (hpaKeys : RdSl (hp w) paKeys caKeys a.keys) (paRules : Option Addr) (caRules : Nat) (hpaRules : RdSl (hp w) paRules caRules a.rules) (paAnchors : Option Addr) (caAnchors : Nat) (hpaAnchors : RdSl (hp w) paAnchors caAnchors a.anchors) (paCertificates : Option Addr) (caCertificates : Nat) (hpaCertificates : RdSl (hp w) paCertificates caCertificates a.certificates) (b : TrustPolicy) (pbKeys : Option Addr) (cbKeys : Nat) (hpbKeys : RdSl (hp w) pbKeys cbKeys b.keys) (pbRules : Option Addr) (cbRules : Nat) (hpbRules : RdSl (hp w) pbRules cbRules b.rules) (pbAnchors : Option Addr) (cbAnchors : Nat) (hpbAnchors : RdSl (hp w) pbAnchors cbAnchors b.anchors) (pbCertificates : Option Addr) (cbCertificates : Nat) (hpbCertificates : RdSl (hp w) pbCertificates cbCertificates b.certificates) (hoka : GoT.ok n a) (hokb : GoT.ok n b) :
    Does Tryz.prog 119 #[.agg #[.slice paKeys ((a.keys).length) caKeys, .slice paRules ((a.rules).length) caRules, .slice paAnchors ((a.anchors).length) caAnchors, .slice paCertificates ((a.certificates).length) caCertificates], .agg #[.slice pbKeys ((b.keys).length) cbKeys, .slice pbRules ((b.rules).length) cbRules, .slice pbAnchors ((b.anchors).length) cbAnchors, .slice pbCertificates ((b.certificates).length) cbCertificates]] w emp (fun (rv : Value) (_ : World) => rv = .bool (spec_l32SameTrust a b) ∧ True) := by
  have hbP := bd_pos n
  have hbB := bd_big (n := n) (by omega)
  refine WX.enter (tt := tt) (Γ := [(0, MF.rs .stb paKeys caKeys a.keys), (1, MF.rs .stb paRules caRules a.rules), (2, MF.rs .stb paAnchors caAnchors a.anchors), (3, MF.rs .stb paCertificates caCertificates a.certificates), (4, MF.rs .stb pbKeys cbKeys b.keys), (5, MF.rs .stb pbRules cbRules b.rules), (6, MF.rs .stb pbAnchors cbAnchors b.anchors), (7, MF.rs .stb pbCertificates cbCertificates b.certificates)]) Tryz.func119 rfl (by kernel_rfl) rfl (allS_cons rfl hpaKeys (allS_cons rfl hpaRules (allS_cons rfl hpaAnchors (allS_cons rfl hpaCertificates (allS_cons rfl hpbKeys (allS_cons rfl hpbRules (allS_cons rfl hpbAnchors (allS_cons rfl hpbCertificates allS_nil)))))))) ?_
  refine WX.run ttOk rfl ?_
  refine WX.cases 15 rfl (fun h1 => ?_) (fun h1 => ?_)
  · skip
    have h1d := B.nt' h1
    refine WX.run ttOk rfl ?_
    have hP1 : spec_l32SameTrust a b = false := by simp only [spec_l32SameTrust, h1, cond_true, cond_false]
    refine WX.ret ttOk rfl ?_
    intro w1 G bs hI hΓ
    rw [hP1]
    exact ⟨rfl, trivial⟩
  · skip
    have h1d := B.nf' h1
    refine WX.run ttOk rfl ?_
    refine WX.cases 24 rfl (fun h2 => ?_) (fun h2 => ?_)
    · skip
      have h2d := B.nt' h2
      refine WX.run ttOk rfl ?_
      have hP2 : spec_l32SameTrust a b = false := by simp only [spec_l32SameTrust, h1, h2, cond_true, cond_false]
      refine WX.ret ttOk rfl ?_
      intro w1 G bs hI hΓ
      rw [hP2]
      exact ⟨rfl, trivial⟩
    · skip
      have h2d := B.nf' h2
      refine WX.run ttOk rfl ?_
      refine WX.cases 33 rfl (fun h3 => ?_) (fun h3 => ?_)
      · skip
        have h3d := B.nt' h3
        refine WX.run ttOk rfl ?_
        have hP3 : spec_l32SameTrust a b = false := by simp only [spec_l32SameTrust, h1, h2, h3, cond_true, cond_false]
        refine WX.ret ttOk rfl ?_
        intro w1 G bs hI hΓ
        rw [hP3]
        exact ⟨rfl, trivial⟩
      · skip
        have h3d := B.nf' h3
        refine WX.run ttOk rfl ?_
        refine WX.callV rfl rfl rfl rfl rfl (fun _ => rfl) rfl (fun w G bs hI hΓ => f219 w n (by omega) a.certificates paCertificates caCertificates (hΓ.get 3 rfl) b.certificates pbCertificates cbCertificates (hΓ.get 7 rfl) ((ok_TrustPolicy hoka).2.2.2) ((ok_TrustPolicy hokb).2.2.2)) ?_
        intro hq1
        refine WX.run ttOk rfl ?_
        refine WX.cases 40 rfl (fun h4 => ?_) (fun h4 => ?_)
        · skip
          have h4d := (B.nt h4)
          refine WX.run ttOk rfl ?_
          have hP4 : spec_l32SameTrust a b = false := by simp only [spec_l32SameTrust, h1, h2, h3, h4, cond_true, cond_false]
          refine WX.ret ttOk rfl ?_
          intro w1 G bs hI hΓ
          rw [hP4]
          exact ⟨rfl, trivial⟩
        · skip
          have h4d := (B.nf h4)
          refine WX.run ttOk rfl ?_
          have r1 : (a.keys).length ≤ bd n := (okl (ok_TrustPolicy hoka).1).1
          refine WX.loop (ι := Nat) ⟨fun i => (i ≤ (a.keys).length) ∧ (spec_l32SameTrust_L1 b a.keys 0 = spec_l32SameTrust_L1 b ((a.keys).drop i) i), fun i => (a.keys).length - i, fun i => [(5, .v (.int .i64 (((i : Nat) : Int)))), (3, .p 3 0), (2, .p 2 0)], fun i => [(3, ⟨85, [.slice pbKeys ((b.keys).length) cbKeys, .slice pbRules ((b.rules).length) cbRules, .slice pbAnchors ((b.anchors).length) cbAnchors, .slice pbCertificates ((b.certificates).length) cbCertificates]⟩), (2, ⟨85, [.slice paKeys ((a.keys).length) caKeys, .slice paRules ((a.rules).length) caRules, .slice paAnchors ((a.anchors).length) caAnchors, .slice paCertificates ((a.certificates).length) caCertificates]⟩)], fun i => [], fun i => [(0, MF.rs .stb paKeys caKeys a.keys), (1, MF.rs .stb paRules caRules a.rules), (2, MF.rs .stb paAnchors caAnchors a.anchors), (3, MF.rs .stb paCertificates caCertificates a.certificates), (4, MF.rs .stb pbKeys cbKeys b.keys), (5, MF.rs .stb pbRules cbRules b.rules), (6, MF.rs .stb pbAnchors cbAnchors b.anchors), (7, MF.rs .stb pbCertificates cbCertificates b.certificates)]⟩ 0 ⟨(Nat.zero_le _), rfl⟩
            (.cons rfl (.cons rfl (.cons rfl (.nil)))) (.cons rfl (.cons rfl (.nil))) .nil [0, 1, 2, 3, 4, 5, 6, 7] rfl ?_
          rintro i hpre
          have hpre_ : (i ≤ (a.keys).length) ∧ (spec_l32SameTrust_L1 b a.keys 0 = spec_l32SameTrust_L1 b ((a.keys).drop i) i) := hpre
          clear hpre
          obtain ⟨v1, v2⟩ := hpre_
          refine WX.run ttOk rfl ?_
          refine WX.cases 45 rfl (fun h5 => ?_) (fun h5 => ?_)
          · skip
            have h5d := B.dt h5
            have e1i : i < (a.keys).length := (by omega)
            obtain ⟨e1, e1h⟩ : ∃ e1, (a.keys)[i]? = some e1 := ⟨_, List.getElem?_eq_getElem e1i⟩
            have ok1 : GoT.ok n e1 := (okl (ok_TrustPolicy hoka).1).2 _ (List.mem_of_getElem? e1h)
            refine WX.run ttOk rfl ?_
            refine WX.draw [] mixed ?_
            intro bs G0 hΓ0
            refine DX.takes (fuel := 26) ttOk [(0, true), (1, false), (2, true)] (by kernel_rfl) rfl ?_
            refine DX.idx 3 0 i ttOk hΓ0 (by kernel_rfl) rfl rfl rfl rfl rfl rfl rfl rfl rfl rfl rfl e1i ?_
            rintro ad1 rfl
            refine DX.takes (fuel := 24) ttOk [(4, true)] (by kernel_rfl) rfl ?_
            refine DX.ldE 5 0 8 e1 ttOk hΓ0 (by kernel_rfl) rfl rfl rfl rfl rfl rfl rfl rfl e1h (fun _ => rfl) (fun _ => rfl) ?_
            rintro ⟨⟨p1, c1⟩, ⟨⟩⟩
            refine DX.takes (fuel := 20) ttOk [(6, true), (7, false), (8, true)] (by kernel_rfl) rfl ?_
            have e2i : i < (b.keys).length := (by first | assumption | omega)
            obtain ⟨e2, e2h⟩ : ∃ e2, (b.keys)[i]? = some e2 := ⟨_, List.getElem?_eq_getElem e2i⟩
            have ok2 : GoT.ok n e2 := (okl (ok_TrustPolicy hokb).1).2 _ (List.mem_of_getElem? e2h)
            refine DX.idx 9 4 i ttOk hΓ0 (by kernel_rfl) rfl rfl rfl rfl rfl rfl rfl rfl rfl rfl rfl e2i ?_
            rintro ad2 rfl
            refine DX.takes (fuel := 18) ttOk [(10, true)] (by kernel_rfl) rfl ?_
            refine DX.ldE 11 4 9 e2 ttOk hΓ0 (by kernel_rfl) rfl rfl rfl rfl rfl rfl rfl rfl e2h (fun _ => rfl) (fun _ => rfl) ?_
            rintro ⟨⟨p2, c2⟩, ⟨⟩⟩
            refine DX.takes (fuel := 15) ttOk [(12, true), (13, true)] (by kernel_rfl) rfl ?_
            refine DX.cases 61 rfl (fun h6 => ?_) (fun h6 => ?_)
            · skip
              have h6d := B.nt' h6
              refine DX.takes (fuel := 0) ttOk [(14, true), (15, true), (16, true), (17, true), (18, true), (19, true), (20, true), (21, true), (22, true), (23, true), (24, true), (25, true), (26, true), (27, true), (28, true)] (by kernel_rfl) rfl ?_
              refine DX.tail2 [] rfl rfl (by kernel_rfl) ?_
              refine WX.run ttOk rfl ?_
              have hP5 : spec_l32SameTrust_L1 b a.keys 0 = (some false) := by rw [v2, drop_get e1h]; simp only [spec_l32SameTrust_L1, e2h, h6, cond_true, cond_false]
              have hP6 : spec_l32SameTrust a b = false := by simp only [spec_l32SameTrust, h1, h2, h3, h4, hP5, cond_true, cond_false]
              refine WX.ret ttOk rfl ?_
              intro w1 G bs hI hΓ
              rw [hP6]
              exact ⟨rfl, trivial⟩
            · skip
              have h6d := B.nf' h6
              refine DX.takes (fuel := 12) ttOk [(14, true), (15, false), (16, true)] (by kernel_rfl) rfl ?_
              refine DX.idx 17 0 i ttOk hΓ0 (by kernel_rfl) rfl rfl rfl rfl rfl rfl rfl rfl rfl rfl rfl e1i ?_
              rintro ad3 ⟨⟩
              refine DX.takes (fuel := 10) ttOk [(18, true)] (by kernel_rfl) rfl ?_
              refine DX.ldE 19 0 10 e1 ttOk hΓ0 (by kernel_rfl) rfl rfl rfl rfl rfl rfl rfl rfl e1h (fun _ => rfl) (fun _ => rfl) ?_
              rintro ⟨⟨p3, c3⟩, ⟨⟩⟩
              refine DX.takes (fuel := 6) ttOk [(20, true), (21, false), (22, true)] (by kernel_rfl) rfl ?_
              refine DX.idx 23 4 i ttOk hΓ0 (by kernel_rfl) rfl rfl rfl rfl rfl rfl rfl rfl rfl rfl rfl e2i ?_
              rintro ad4 ⟨⟩
              refine DX.takes (fuel := 4) ttOk [(24, true)] (by kernel_rfl) rfl ?_
              refine DX.ldE 25 4 11 e2 ttOk hΓ0 (by kernel_rfl) rfl rfl rfl rfl rfl rfl rfl rfl e2h (fun _ => rfl) (fun _ => rfl) ?_
              rintro ⟨⟨p4, c4⟩, ⟨⟩⟩
              refine DX.callV 26 rfl (by kernel_rfl) rfl rfl rfl rfl rfl rfl (fun _ => rfl) rfl (fun w G bs hI hΓ => f92 w n (by omega) e1.name p3 c3 (hΓ.get 10 rfl) e2.name p4 c4 (hΓ.get 11 rfl) ((ok_Key ok1).1) ((ok_Key ok2).1)) ?_
              intro hq2
              refine DX.takes (fuel := 0) ttOk [(27, true), (28, true)] (by kernel_rfl) rfl ?_
              refine DX.tail2 [] rfl rfl (by kernel_rfl) ?_
              refine WX.run ttOk rfl ?_
              refine WX.cases 76 rfl (fun h7 => ?_) (fun h7 => ?_)
              · skip
                have h7d := (B.nt h7)
                refine WX.run ttOk rfl ?_
                have hP7 : spec_l32SameTrust_L1 b a.keys 0 = (some false) := by rw [v2, drop_get e1h]; simp only [spec_l32SameTrust_L1, e2h, h6, h7, cond_true, cond_false]
                have hP8 : spec_l32SameTrust a b = false := by simp only [spec_l32SameTrust, h1, h2, h3, h4, hP7, cond_true, cond_false]
                refine WX.ret ttOk rfl ?_
                intro w1 G bs hI hΓ
                rw [hP8]
                exact ⟨rfl, trivial⟩
              · skip
                have h7d := (B.nf h7)
                refine WX.run ttOk rfl ?_
                refine WX.see rfl rfl rfl (fun _ hΓ => looks_arith rfl rfl rfl rfl (by unfold I64; first | omega | (simp only [List.length_take, List.length_drop] at *; omega) | (dsimp only; omega))) ?_
                refine WX.run ttOk rfl ?_
                exact WX.iter (i + 1) ⟨(by omega), (by rw [v2, drop_get e1h]; simp only [spec_l32SameTrust_L1, e2h, h6, h7, cond_true, cond_false])⟩ (by first | (dsimp only; omega) | omega) (.cons rfl (.cons rfl (.cons rfl (.nil)))) (.cons rfl (.cons rfl (.nil))) .nil [0, 1, 2, 3, 4, 5, 6, 7] rfl
          · skip
            have h5d := B.df h5
            refine WX.run ttOk rfl ?_
            have hX1 : spec_l32SameTrust_L1 b a.keys 0 = none := by rw [v2, List.drop_eq_nil_of_le (show (a.keys).length ≤ i by omega)]; simp only [spec_l32SameTrust_L1, cond_true, cond_false]
            have r2 : (a.rules).length ≤ bd n := (okl (ok_TrustPolicy hoka).2.1).1
            refine WX.loop (ι := Nat) ⟨fun i => (i ≤ (a.rules).length) ∧ (spec_l32SameTrust_L2 b a.rules 0 = spec_l32SameTrust_L2 b ((a.rules).drop i) i), fun i => (a.rules).length - i, fun i => [(6, .v (.int .i64 (((i : Nat) : Int)))), (3, .p 3 0), (2, .p 2 0)], fun i => [(3, ⟨85, [.slice pbKeys ((b.keys).length) cbKeys, .slice pbRules ((b.rules).length) cbRules, .slice pbAnchors ((b.anchors).length) cbAnchors, .slice pbCertificates ((b.certificates).length) cbCertificates]⟩), (2, ⟨85, [.slice paKeys ((a.keys).length) caKeys, .slice paRules ((a.rules).length) caRules, .slice paAnchors ((a.anchors).length) caAnchors, .slice paCertificates ((a.certificates).length) caCertificates]⟩)], fun i => [], fun i => [(0, MF.rs .stb paKeys caKeys a.keys), (1, MF.rs .stb paRules caRules a.rules), (2, MF.rs .stb paAnchors caAnchors a.anchors), (3, MF.rs .stb paCertificates caCertificates a.certificates), (4, MF.rs .stb pbKeys cbKeys b.keys), (5, MF.rs .stb pbRules cbRules b.rules), (6, MF.rs .stb pbAnchors cbAnchors b.anchors), (7, MF.rs .stb pbCertificates cbCertificates b.certificates)]⟩ 0 ⟨(Nat.zero_le _), rfl⟩
              (.cons rfl (.cons rfl (.cons rfl (.nil)))) (.cons rfl (.cons rfl (.nil))) .nil [0, 1, 2, 3, 4, 5, 6, 7] rfl ?_
            rintro i hpre
            have hpre_ : (i ≤ (a.rules).length) ∧ (spec_l32SameTrust_L2 b a.rules 0 = spec_l32SameTrust_L2 b ((a.rules).drop i) i) := hpre
            clear hpre
            obtain ⟨v3, v4⟩ := hpre_
            refine WX.run ttOk rfl ?_
            refine WX.cases 81 rfl (fun h8 => ?_) (fun h8 => ?_)
            · skip
              have h8d := B.dt h8
              have e3i : i < (a.rules).length := (by omega)
              obtain ⟨e3, e3h⟩ : ∃ e3, (a.rules)[i]? = some e3 := ⟨_, List.getElem?_eq_getElem e3i⟩
              have ok3 : GoT.ok n e3 := (okl (ok_TrustPolicy hoka).2.1).2 _ (List.mem_of_getElem? e3h)
              refine WX.run ttOk rfl ?_
              refine WX.draw [] mixed ?_
              intro bs G0 hΓ0
              refine DX.takes (fuel := 9) ttOk [(0, true), (1, false), (2, true)] (by kernel_rfl) rfl ?_
              refine DX.idx 3 1 i ttOk hΓ0 (by kernel_rfl) rfl rfl rfl rfl rfl rfl rfl rfl rfl rfl rfl e3i ?_
              rintro ad5 rfl
              refine DX.ldE 4 1 12 e3 ttOk hΓ0 (by kernel_rfl) rfl rfl rfl rfl rfl rfl rfl rfl e3h (fun _ => rfl) (fun _ => rfl) ?_
              rintro ⟨⟨p5, c5⟩, ⟨p6, c6⟩⟩
              refine DX.takes (fuel := 4) ttOk [(5, true), (6, false), (7, true)] (by kernel_rfl) rfl ?_
              have e4i : i < (b.rules).length := (by first | assumption | omega)
              obtain ⟨e4, e4h⟩ : ∃ e4, (b.rules)[i]? = some e4 := ⟨_, List.getElem?_eq_getElem e4i⟩
              have ok4 : GoT.ok n e4 := (okl (ok_TrustPolicy hokb).2.1).2 _ (List.mem_of_getElem? e4h)
              refine DX.idx 8 5 i ttOk hΓ0 (by kernel_rfl) rfl rfl rfl rfl rfl rfl rfl rfl rfl rfl rfl e4i ?_
              rintro ad6 rfl
              refine DX.ldE 9 5 14 e4 ttOk hΓ0 (by kernel_rfl) rfl rfl rfl rfl rfl rfl rfl rfl e4h (fun _ => rfl) (fun _ => rfl) ?_
              rintro ⟨⟨p7, c7⟩, ⟨p8, c8⟩⟩
              refine DX.callV 10 rfl (by kernel_rfl) rfl rfl rfl rfl rfl rfl (fun _ => rfl) rfl (fun w G bs hI hΓ => f220 w n (by omega) e3 p5 c5 (hΓ.get 12 rfl) p6 c6 (hΓ.get 13 rfl) e4 p7 c7 (hΓ.get 14 rfl) p8 c8 (hΓ.get 15 rfl) ok3 ok4) ?_
              intro hq3
              refine DX.takes (fuel := 0) ttOk [(11, true)] (by kernel_rfl) rfl ?_
              refine DX.tail2 [] rfl rfl (by kernel_rfl) ?_
              refine WX.run ttOk rfl ?_
              refine WX.cases 95 rfl (fun h9 => ?_) (fun h9 => ?_)
              · skip
                have h9d := (B.nt h9)
                refine WX.run ttOk rfl ?_
                have hP9 : spec_l32SameTrust_L2 b a.rules 0 = (some false) := by rw [v4, drop_get e3h]; simp only [spec_l32SameTrust_L2, e4h, h9, cond_true, cond_false]
                have hP10 : spec_l32SameTrust a b = false := by simp only [spec_l32SameTrust, h1, h2, h3, h4, hX1, hP9, cond_true, cond_false]
                refine WX.ret ttOk rfl ?_
                intro w1 G bs hI hΓ
                rw [hP10]
                exact ⟨rfl, trivial⟩
              · skip
                have h9d := (B.nf h9)
                refine WX.run ttOk rfl ?_
                refine WX.see rfl rfl rfl (fun _ hΓ => looks_arith rfl rfl rfl rfl (by unfold I64; first | omega | (simp only [List.length_take, List.length_drop] at *; omega) | (dsimp only; omega))) ?_
                refine WX.run ttOk rfl ?_
                exact WX.iter (i + 1) ⟨(by omega), (by rw [v4, drop_get e3h]; simp only [spec_l32SameTrust_L2, e4h, h9, cond_true, cond_false])⟩ (by first | (dsimp only; omega) | omega) (.cons rfl (.cons rfl (.cons rfl (.nil)))) (.cons rfl (.cons rfl (.nil))) .nil [0, 1, 2, 3, 4, 5, 6, 7] rfl
            · skip
              have h8d := B.df h8
              refine WX.run ttOk rfl ?_
              have hX2 : spec_l32SameTrust_L2 b a.rules 0 = none := by rw [v4, List.drop_eq_nil_of_le (show (a.rules).length ≤ i by omega)]; simp only [spec_l32SameTrust_L2, cond_true, cond_false]
              have r3 : (a.anchors).length ≤ bd n := (okl (ok_TrustPolicy hoka).2.2.1).1
              refine WX.loop (ι := Nat) ⟨fun i => (i ≤ (a.anchors).length) ∧ (spec_l32SameTrust_L3 b a.anchors 0 = spec_l32SameTrust_L3 b ((a.anchors).drop i) i), fun i => (a.anchors).length - i, fun i => [(7, .v (.int .i64 (((i : Nat) : Int)))), (3, .p 3 0), (2, .p 2 0)], fun i => [(3, ⟨85, [.slice pbKeys ((b.keys).length) cbKeys, .slice pbRules ((b.rules).length) cbRules, .slice pbAnchors ((b.anchors).length) cbAnchors, .slice pbCertificates ((b.certificates).length) cbCertificates]⟩), (2, ⟨85, [.slice paKeys ((a.keys).length) caKeys, .slice paRules ((a.rules).length) caRules, .slice paAnchors ((a.anchors).length) caAnchors, .slice paCertificates ((a.certificates).length) caCertificates]⟩)], fun i => [], fun i => [(0, MF.rs .stb paKeys caKeys a.keys), (1, MF.rs .stb paRules caRules a.rules), (2, MF.rs .stb paAnchors caAnchors a.anchors), (3, MF.rs .stb paCertificates caCertificates a.certificates), (4, MF.rs .stb pbKeys cbKeys b.keys), (5, MF.rs .stb pbRules cbRules b.rules), (6, MF.rs .stb pbAnchors cbAnchors b.anchors), (7, MF.rs .stb pbCertificates cbCertificates b.certificates)]⟩ 0 ⟨(Nat.zero_le _), rfl⟩
                (.cons rfl (.cons rfl (.cons rfl (.nil)))) (.cons rfl (.cons rfl (.nil))) .nil [0, 1, 2, 3, 4, 5, 6, 7] rfl ?_
              rintro i hpre
              have hpre_ : (i ≤ (a.anchors).length) ∧ (spec_l32SameTrust_L3 b a.anchors 0 = spec_l32SameTrust_L3 b ((a.anchors).drop i) i) := hpre
              clear hpre
              obtain ⟨v5, v6⟩ := hpre_
              refine WX.run ttOk rfl ?_
              refine WX.cases 100 rfl (fun h10 => ?_) (fun h10 => ?_)
              · skip
                have h10d := B.dt h10
                have e5i : i < (a.anchors).length := (by omega)
                obtain ⟨e5, e5h⟩ : ∃ e5, (a.anchors)[i]? = some e5 := ⟨_, List.getElem?_eq_getElem e5i⟩
                have ok5 : GoT.ok n e5 := (okl (ok_TrustPolicy hoka).2.2.1).2 _ (List.mem_of_getElem? e5h)
                refine WX.run ttOk rfl ?_
                refine WX.draw [] mixed ?_
                intro bs G0 hΓ0
                refine DX.takes (fuel := 9) ttOk [(0, true), (1, false), (2, true)] (by kernel_rfl) rfl ?_
                refine DX.idx 3 2 i ttOk hΓ0 (by kernel_rfl) rfl rfl rfl rfl rfl rfl rfl rfl rfl rfl rfl e5i ?_
                rintro ad7 rfl
                refine DX.ldE 4 2 16 e5 ttOk hΓ0 (by kernel_rfl) rfl rfl rfl rfl rfl rfl rfl rfl e5h (fun _ => rfl) (fun _ => rfl) ?_
                rintro ⟨p9, c9⟩
                refine DX.takes (fuel := 4) ttOk [(5, true), (6, false), (7, true)] (by kernel_rfl) rfl ?_
                have e6i : i < (b.anchors).length := (by first | assumption | omega)
                obtain ⟨e6, e6h⟩ : ∃ e6, (b.anchors)[i]? = some e6 := ⟨_, List.getElem?_eq_getElem e6i⟩
                have ok6 : GoT.ok n e6 := (okl (ok_TrustPolicy hokb).2.2.1).2 _ (List.mem_of_getElem? e6h)
                refine DX.idx 8 6 i ttOk hΓ0 (by kernel_rfl) rfl rfl rfl rfl rfl rfl rfl rfl rfl rfl rfl e6i ?_
                rintro ad8 rfl
                refine DX.ldE 9 6 17 e6 ttOk hΓ0 (by kernel_rfl) rfl rfl rfl rfl rfl rfl rfl rfl e6h (fun _ => rfl) (fun _ => rfl) ?_
                rintro ⟨p10, c10⟩
                refine DX.callV 10 rfl (by kernel_rfl) rfl rfl rfl rfl rfl rfl (fun _ => rfl) rfl (fun w G bs hI hΓ => f92 w n (by omega) e5 p9 c9 (hΓ.get 16 rfl) e6 p10 c10 (hΓ.get 17 rfl) ok5 ok6) ?_
                intro hq4
                refine DX.takes (fuel := 0) ttOk [(11, true)] (by kernel_rfl) rfl ?_
                refine DX.tail2 [] rfl rfl (by kernel_rfl) ?_
                refine WX.run ttOk rfl ?_
                refine WX.cases 114 rfl (fun h11 => ?_) (fun h11 => ?_)
                · skip
                  have h11d := (B.nt h11)
                  refine WX.run ttOk rfl ?_
                  have hP11 : spec_l32SameTrust_L3 b a.anchors 0 = (some false) := by rw [v6, drop_get e5h]; simp only [spec_l32SameTrust_L3, e6h, h11, cond_true, cond_false]
                  have hP12 : spec_l32SameTrust a b = false := by simp only [spec_l32SameTrust, h1, h2, h3, h4, hX1, hX2, hP11, cond_true, cond_false]
                  refine WX.ret ttOk rfl ?_
                  intro w1 G bs hI hΓ
                  rw [hP12]
                  exact ⟨rfl, trivial⟩
                · skip
                  have h11d := (B.nf h11)
                  refine WX.run ttOk rfl ?_
                  refine WX.see rfl rfl rfl (fun _ hΓ => looks_arith rfl rfl rfl rfl (by unfold I64; first | omega | (simp only [List.length_take, List.length_drop] at *; omega) | (dsimp only; omega))) ?_
                  refine WX.run ttOk rfl ?_
                  exact WX.iter (i + 1) ⟨(by omega), (by rw [v6, drop_get e5h]; simp only [spec_l32SameTrust_L3, e6h, h11, cond_true, cond_false])⟩ (by first | (dsimp only; omega) | omega) (.cons rfl (.cons rfl (.cons rfl (.nil)))) (.cons rfl (.cons rfl (.nil))) .nil [0, 1, 2, 3, 4, 5, 6, 7] rfl
              · skip
                have h10d := B.df h10
                refine WX.run ttOk rfl ?_
                have hX3 : spec_l32SameTrust_L3 b a.anchors 0 = none := by rw [v6, List.drop_eq_nil_of_le (show (a.anchors).length ≤ i by omega)]; simp only [spec_l32SameTrust_L3, cond_true, cond_false]
                have hP13 : spec_l32SameTrust a b = true := by simp only [spec_l32SameTrust, h1, h2, h3, h4, hX1, hX2, hX3, cond_true, cond_false]
                refine WX.ret ttOk rfl ?_
                intro w1 G bs hI hΓ
                rw [hP13]
                exact ⟨rfl, trivial⟩
theorem f330 (w : World) (n : Nat) (hn : n + 0 ≤ 9) (x_ : CacheEntry) (px_DataName : Option Addr) (cx_DataName : Nat) (hpx_DataName : RdSl (hp w) px_DataName cx_DataName x_.data.name.parts) (px_DataContent : Option Addr) (cx_DataContent : Nat) (hpx_DataContent : RdSl (hp w) px_DataContent cx_DataContent x_.data.content) (px_DataKeyName : Option Addr) (cx_DataKeyName : Nat) (hpx_DataKeyName : RdSl (hp w) px_DataKeyName cx_DataKeyName x_.data.keyName.parts) (y : CacheEntry) (pyDataName : Option Addr) (cyDataName : Nat) (hpyDataName : RdSl (hp w) pyDataName cyDataName y.data.name.parts) (pyDataContent : Option Addr) (cyDataContent : Nat) (hpyDataContent : RdSl (hp w) pyDataContent cyDataContent y.data.content) (pyDataKeyName : Option Addr) (cyDataKeyName : Nat) (hpyDataKeyName : RdSl (hp w) pyDataKeyName cyDataKeyName y.data.keyName.parts) (hokx_ : GoT.ok n x_) (hoky : GoT.ok n y) :
    Does Tryz.prog 330 #[.agg #[.slice px_DataName ((x_.data.name.parts).length) cx_DataName, .slice px_DataContent ((x_.data.content).length) cx_DataContent, .slice px_DataKeyName ((x_.data.keyName.parts).length) cx_DataKeyName, .int .i64 (x_.data.freshUntil), .int .i64 (x_.data.signature), .int .i64 (x_.lastUsed)], .agg #[.slice pyDataName ((y.data.name.parts).length) cyDataName, .slice pyDataContent ((y.data.content).length) cyDataContent, .slice pyDataKeyName ((y.data.keyName.parts).length) cyDataKeyName, .int .i64 (y.data.freshUntil), .int .i64 (y.data.signature), .int .i64 (y.lastUsed)]] w emp (fun (rv : Value) (_ : World) => rv = .bool (impl_EqualContentStores_c1 x_ y) ∧ True) := by
  have hbP := bd_pos n
  have hbB := bd_big (n := n) (by omega)
  refine WX.enter (tt := tt) (Γ := [(0, MF.rs .stb px_DataName cx_DataName x_.data.name.parts), (1, MF.rs .stb px_DataContent cx_DataContent x_.data.content), (2, MF.rs .stb px_DataKeyName cx_DataKeyName x_.data.keyName.parts), (3, MF.rs .stb pyDataName cyDataName y.data.name.parts), (4, MF.rs .stb pyDataContent cyDataContent y.data.content), (5, MF.rs .stb pyDataKeyName cyDataKeyName y.data.keyName.parts)]) Tryz.func330 rfl (by kernel_rfl) rfl (allS_cons rfl hpx_DataName (allS_cons rfl hpx_DataContent (allS_cons rfl hpx_DataKeyName (allS_cons rfl hpyDataName (allS_cons rfl hpyDataContent (allS_cons rfl hpyDataKeyName allS_nil)))))) ?_
  refine WX.run ttOk rfl ?_
  refine WX.callV rfl rfl rfl rfl rfl (fun _ => rfl) rfl (fun w G bs hI hΓ => f238 w n (by omega) x_.data px_DataName cx_DataName (hΓ.get 0 rfl) px_DataContent cx_DataContent (hΓ.get 1 rfl) px_DataKeyName cx_DataKeyName (hΓ.get 2 rfl) y.data pyDataName cyDataName (hΓ.get 3 rfl) pyDataContent cyDataContent (hΓ.get 4 rfl) pyDataKeyName cyDataKeyName (hΓ.get 5 rfl) ((ok_CacheEntry hokx_).1) ((ok_CacheEntry hoky).1)) ?_
  intro hq1
  refine WX.run ttOk rfl ?_
  refine WX.cases 10 rfl (fun h1 => ?_) (fun h1 => ?_)
  · skip
    refine WX.run ttOk rfl ?_
    have hP1 : impl_EqualContentStores_c1 x_ y = (x_.lastUsed == y.lastUsed) := by simp only [impl_EqualContentStores_c1, h1, cond_true, cond_false]
    refine WX.ret ttOk rfl ?_
    intro w1 G bs hI hΓ
    rw [hP1]
    exact ⟨rfl, trivial⟩
  · skip
    refine WX.run ttOk rfl ?_
    have hP2 : impl_EqualContentStores_c1 x_ y = false := by simp only [impl_EqualContentStores_c1, h1, cond_true, cond_false]
    refine WX.ret ttOk rfl ?_
    intro w1 G bs hI hΓ
    rw [hP2]
    exact ⟨rfl, trivial⟩
theorem f241 (w : World) (n : Nat) (hn : n + 0 ≤ 9) (a : ContentStore) (paEntries : Option Addr) (caEntries : Nat) (hpaEntries : RdSl (hp w) paEntries caEntries a.entries) (b : ContentStore) (pbEntries : Option Addr) (cbEntries : Nat) (hpbEntries : RdSl (hp w) pbEntries cbEntries b.entries) (hoka : GoT.ok n a) (hokb : GoT.ok n b) :
    Does Tryz.prog 241 #[.agg #[.int .i64 (a.capacity), .slice paEntries ((a.entries).length) caEntries], .agg #[.int .i64 (b.capacity), .slice pbEntries ((b.entries).length) cbEntries]] w emp (fun (rv : Value) (_ : World) => rv = .bool (impl_EqualContentStores a b) ∧ True) := by
  have hbP := bd_pos n
  have hbB := bd_big (n := n) (by omega)
  refine WX.enter (tt := tt) (Γ := [(0, MF.rs .stb paEntries caEntries a.entries), (1, MF.rs .stb pbEntries cbEntries b.entries)]) Tryz.func241 rfl (by kernel_rfl) rfl (allS_cons rfl hpaEntries (allS_cons rfl hpbEntries allS_nil)) ?_
  refine WX.run ttOk rfl ?_
  refine WX.cases 10 rfl (fun h1 => ?_) (fun h1 => ?_)
  · skip
    have h1d := B.et h1
    refine WX.run ttOk rfl ?_
    refine WX.callV rfl rfl rfl rfl rfl (fun _ => rfl) rfl (fun w G bs hI hΓ => f329 w n (by omega) a.entries paEntries caEntries (hΓ.get 0 rfl) b.entries pbEntries cbEntries (hΓ.get 1 rfl) 330 [] (fun e0_ e1_ => (impl_EqualContentStores_c1 e0_ e1_)) (fun w1_ hb_ e0_ x0_ hk0_ hx0_ e1_ x1_ hk1_ hx1_ => f330 w1_ n (by omega) e0_ x0_.1.1.1 x0_.1.1.2 (hx0_ _ List.mem_cons_self) x0_.1.2.1.1 x0_.1.2.1.2 (hx0_ (MF.rs .der x0_.1.2.1.1 x0_.1.2.1.2 e0_.data.content) (by simp [GoT.fa])) x0_.1.2.2.1.1 x0_.1.2.2.1.2 (hx0_ (MF.rs .der x0_.1.2.2.1.1 x0_.1.2.2.1.2 e0_.data.keyName.parts) (by simp [GoT.fa])) e1_ x1_.1.1.1 x1_.1.1.2 (hx1_ _ List.mem_cons_self) x1_.1.2.1.1 x1_.1.2.1.2 (hx1_ (MF.rs .der x1_.1.2.1.1 x1_.1.2.1.2 e1_.data.content) (by simp [GoT.fa])) x1_.1.2.2.1.1 x1_.1.2.2.1.2 (hx1_ (MF.rs .der x1_.1.2.2.1.1 x1_.1.2.2.1.2 e1_.data.keyName.parts) (by simp [GoT.fa])) hk0_ hk1_) ((ok_ContentStore hoka).2) ((ok_ContentStore hokb).2)) ?_
    intro hq1
    refine WX.run ttOk rfl ?_
    have hP1 : impl_EqualContentStores a b = (slices_EqualFunc_CacheEntry a.entries b.entries (fun e0_ e1_ => (impl_EqualContentStores_c1 e0_ e1_))) := by simp only [impl_EqualContentStores, h1, cond_true, cond_false]
    refine WX.ret ttOk rfl ?_
    intro w1 G bs hI hΓ
    rw [hP1]
    exact ⟨rfl, trivial⟩
  · skip
    have h1d := B.ef h1
    refine WX.run ttOk rfl ?_
    have hP2 : impl_EqualContentStores a b = false := by simp only [impl_EqualContentStores, h1, cond_true, cond_false]
    refine WX.ret ttOk rfl ?_
    intro w1 G bs hI hΓ
    rw [hP2]
    exact ⟨rfl, trivial⟩
theorem f221 (w : World) (n : Nat) (hn : n + 0 ≤ 9) (a : ContentStore) (paEntries : Option Addr) (caEntries : Nat) (hpaEntries : RdSl (hp w) paEntries caEntries a.entries) (b : ContentStore) (pbEntries : Option Addr) (cbEntries : Nat) (hpbEntries : RdSl (hp w) pbEntries cbEntries b.entries) (hoka : GoT.ok n a) (hokb : GoT.ok n b) :
    Does Tryz.prog 221 #[.agg #[.int .i64 (a.capacity), .slice paEntries ((a.entries).length) caEntries], .agg #[.int .i64 (b.capacity), .slice pbEntries ((b.entries).length) cbEntries]] w emp (fun (rv : Value) (_ : World) => rv = .bool (spec_EqualContentStores a b) ∧ True) := by
  have hbP := bd_pos n
  have hbB := bd_big (n := n) (by omega)
  refine WX.enter (tt := tt) (Γ := [(0, MF.rs .stb paEntries caEntries a.entries), (1, MF.rs .stb pbEntries cbEntries b.entries)]) Tryz.func221 rfl (by kernel_rfl) rfl (allS_cons rfl hpaEntries (allS_cons rfl hpbEntries allS_nil)) ?_
  refine WX.run ttOk rfl ?_
  refine WX.cases 11 rfl (fun h1 => ?_) (fun h1 => ?_)
  · skip
    have h1d := B.nt' h1
    refine WX.run ttOk rfl ?_
    have hP1 : spec_EqualContentStores a b = false := by simp only [spec_EqualContentStores, h1, cond_true, cond_false]
    refine WX.ret ttOk rfl ?_
    intro w1 G bs hI hΓ
    rw [hP1]
    exact ⟨rfl, trivial⟩
  · skip
    have h1d := B.nf' h1
    refine WX.run ttOk rfl ?_
    refine WX.cases 19 rfl (fun h2 => ?_) (fun h2 => ?_)
    · skip
      have h2d := B.nt' h2
      refine WX.run ttOk rfl ?_
      have hP2 : spec_EqualContentStores a b = false := by simp only [spec_EqualContentStores, h1, h2, cond_true, cond_false]
      refine WX.ret ttOk rfl ?_
      intro w1 G bs hI hΓ
      rw [hP2]
      exact ⟨rfl, trivial⟩
    · skip
      have h2d := B.nf' h2
      refine WX.run ttOk rfl ?_
      have r1 : (a.entries).length ≤ bd n := (okl (ok_ContentStore hoka).2).1
      refine WX.loop (ι := Nat) ⟨fun i => (i ≤ (a.entries).length) ∧ (spec_EqualContentStores_L1 b a.entries 0 = spec_EqualContentStores_L1 b ((a.entries).drop i) i), fun i => (a.entries).length - i, fun i => [(5, .v (.int .i64 (((i : Nat) : Int)))), (3, .p 3 0), (2, .p 2 0)], fun i => [(3, ⟨175, [.int .i64 (b.capacity), .slice pbEntries ((b.entries).length) cbEntries]⟩), (2, ⟨175, [.int .i64 (a.capacity), .slice paEntries ((a.entries).length) caEntries]⟩)], fun i => [], fun i => [(0, MF.rs .stb paEntries caEntries a.entries), (1, MF.rs .stb pbEntries cbEntries b.entries)]⟩ 0 ⟨(Nat.zero_le _), rfl⟩
        (.cons rfl (.cons rfl (.cons rfl (.nil)))) (.cons rfl (.cons rfl (.nil))) .nil [0, 1] rfl ?_
      rintro i hpre
      have hpre_ : (i ≤ (a.entries).length) ∧ (spec_EqualContentStores_L1 b a.entries 0 = spec_EqualContentStores_L1 b ((a.entries).drop i) i) := hpre
      clear hpre
      obtain ⟨v1, v2⟩ := hpre_
      refine WX.run ttOk rfl ?_
      refine WX.cases 24 rfl (fun h3 => ?_) (fun h3 => ?_)
      · skip
        have h3d := B.dt h3
        have e1i : i < (a.entries).length := (by omega)
        obtain ⟨e1, e1h⟩ : ∃ e1, (a.entries)[i]? = some e1 := ⟨_, List.getElem?_eq_getElem e1i⟩
        have ok1 : GoT.ok n e1 := (okl (ok_ContentStore hoka).2).2 _ (List.mem_of_getElem? e1h)
        refine WX.run ttOk rfl ?_
        refine WX.draw [] mixed ?_
        intro bs G0 hΓ0
        refine DX.takes (fuel := 26) ttOk [(0, true), (1, false), (2, true)] (by kernel_rfl) rfl ?_
        refine DX.idx 3 0 i ttOk hΓ0 (by kernel_rfl) rfl rfl rfl rfl rfl rfl rfl rfl rfl rfl rfl e1i ?_
        rintro ad1 rfl
        refine DX.takes (fuel := 24) ttOk [(4, true)] (by kernel_rfl) rfl ?_
        refine DX.ldE 5 0 2 e1 ttOk hΓ0 (by kernel_rfl) rfl rfl rfl rfl rfl rfl rfl rfl e1h (fun _ => rfl) (fun _ => rfl) ?_
        rintro ⟨⟨⟨p1, c1⟩, ⟨p2, c2⟩, ⟨p3, c3⟩, ⟨⟩, ⟨⟩⟩, ⟨⟩⟩
        refine DX.takes (fuel := 20) ttOk [(6, true), (7, false), (8, true)] (by kernel_rfl) rfl ?_
        have e2i : i < (b.entries).length := (by first | assumption | omega)
        obtain ⟨e2, e2h⟩ : ∃ e2, (b.entries)[i]? = some e2 := ⟨_, List.getElem?_eq_getElem e2i⟩
        have ok2 : GoT.ok n e2 := (okl (ok_ContentStore hokb).2).2 _ (List.mem_of_getElem? e2h)
        refine DX.idx 9 1 i ttOk hΓ0 (by kernel_rfl) rfl rfl rfl rfl rfl rfl rfl rfl rfl rfl rfl e2i ?_
        rintro ad2 rfl
        refine DX.takes (fuel := 18) ttOk [(10, true)] (by kernel_rfl) rfl ?_
        refine DX.ldE 11 1 5 e2 ttOk hΓ0 (by kernel_rfl) rfl rfl rfl rfl rfl rfl rfl rfl e2h (fun _ => rfl) (fun _ => rfl) ?_
        rintro ⟨⟨⟨p4, c4⟩, ⟨p5, c5⟩, ⟨p6, c6⟩, ⟨⟩, ⟨⟩⟩, ⟨⟩⟩
        refine DX.takes (fuel := 15) ttOk [(12, true), (13, true)] (by kernel_rfl) rfl ?_
        refine DX.cases 40 rfl (fun h4 => ?_) (fun h4 => ?_)
        · skip
          have h4d := B.nt' h4
          refine DX.takes (fuel := 0) ttOk [(14, true), (15, true), (16, true), (17, true), (18, true), (19, true), (20, true), (21, true), (22, true), (23, true), (24, true), (25, true), (26, true), (27, true), (28, true)] (by kernel_rfl) rfl ?_
          refine DX.tail2 [] rfl rfl (by kernel_rfl) ?_
          refine WX.run ttOk rfl ?_
          have hP3 : spec_EqualContentStores_L1 b a.entries 0 = (some false) := by rw [v2, drop_get e1h]; simp only [spec_EqualContentStores_L1, e2h, h4, cond_true, cond_false]
          have hP4 : spec_EqualContentStores a b = false := by simp only [spec_EqualContentStores, h1, h2, hP3, cond_true, cond_false]
          refine WX.ret ttOk rfl ?_
          intro w1 G bs hI hΓ
          rw [hP4]
          exact ⟨rfl, trivial⟩
        · skip
          have h4d := B.nf' h4
          refine DX.takes (fuel := 12) ttOk [(14, true), (15, false), (16, true)] (by kernel_rfl) rfl ?_
          refine DX.idx 17 0 i ttOk hΓ0 (by kernel_rfl) rfl rfl rfl rfl rfl rfl rfl rfl rfl rfl rfl e1i ?_
          rintro ad3 ⟨⟩
          refine DX.takes (fuel := 10) ttOk [(18, true)] (by kernel_rfl) rfl ?_
          refine DX.ldE 19 0 8 e1 ttOk hΓ0 (by kernel_rfl) rfl rfl rfl rfl rfl rfl rfl rfl e1h (fun _ => rfl) (fun _ => rfl) ?_
          rintro ⟨⟨⟨p7, c7⟩, ⟨p8, c8⟩, ⟨p9, c9⟩, ⟨⟩, ⟨⟩⟩, ⟨⟩⟩
          refine DX.takes (fuel := 6) ttOk [(20, true), (21, false), (22, true)] (by kernel_rfl) rfl ?_
          refine DX.idx 23 1 i ttOk hΓ0 (by kernel_rfl) rfl rfl rfl rfl rfl rfl rfl rfl rfl rfl rfl e2i ?_
          rintro ad4 ⟨⟩
          refine DX.takes (fuel := 4) ttOk [(24, true)] (by kernel_rfl) rfl ?_
          refine DX.ldE 25 1 11 e2 ttOk hΓ0 (by kernel_rfl) rfl rfl rfl rfl rfl rfl rfl rfl e2h (fun _ => rfl) (fun _ => rfl) ?_
          rintro ⟨⟨⟨p10, c10⟩, ⟨p11, c11⟩, ⟨p12, c12⟩, ⟨⟩, ⟨⟩⟩, ⟨⟩⟩
          refine DX.callV 26 rfl (by kernel_rfl) rfl rfl rfl rfl rfl rfl (fun _ => rfl) rfl (fun w G bs hI hΓ => f227 w n (by omega) e1.data p7 c7 (hΓ.get 8 rfl) p8 c8 (hΓ.get 9 rfl) p9 c9 (hΓ.get 10 rfl) e2.data p10 c10 (hΓ.get 11 rfl) p11 c11 (hΓ.get 12 rfl) p12 c12 (hΓ.get 13 rfl) ((ok_CacheEntry ok1).1) ((ok_CacheEntry ok2).1)) ?_
          intro hq1
          refine DX.takes (fuel := 0) ttOk [(27, true), (28, true)] (by kernel_rfl) rfl ?_
          refine DX.tail2 [] rfl rfl (by kernel_rfl) ?_
          refine WX.run ttOk rfl ?_
          refine WX.cases 55 rfl (fun h5 => ?_) (fun h5 => ?_)
          · skip
            have h5d := (B.nt h5)
            refine WX.run ttOk rfl ?_
            have hP5 : spec_EqualContentStores_L1 b a.entries 0 = (some false) := by rw [v2, drop_get e1h]; simp only [spec_EqualContentStores_L1, e2h, h4, h5, cond_true, cond_false]
            have hP6 : spec_EqualContentStores a b = false := by simp only [spec_EqualContentStores, h1, h2, hP5, cond_true, cond_false]
            refine WX.ret ttOk rfl ?_
            intro w1 G bs hI hΓ
            rw [hP6]
            exact ⟨rfl, trivial⟩
          · skip
            have h5d := (B.nf h5)
            refine WX.run ttOk rfl ?_
            refine WX.see rfl rfl rfl (fun _ hΓ => looks_arith rfl rfl rfl rfl (by unfold I64; first | omega | (simp only [List.length_take, List.length_drop] at *; omega) | (dsimp only; omega))) ?_
            refine WX.run ttOk rfl ?_
            exact WX.iter (i + 1) ⟨(by omega), (by rw [v2, drop_get e1h]; simp only [spec_EqualContentStores_L1, e2h, h4, h5, cond_true, cond_false])⟩ (by first | (dsimp only; omega) | omega) (.cons rfl (.cons rfl (.cons rfl (.nil)))) (.cons rfl (.cons rfl (.nil))) .nil [0, 1] rfl
      · skip
        have h3d := B.df h3
        refine WX.run ttOk rfl ?_
        have hX1 : spec_EqualContentStores_L1 b a.entries 0 = none := by rw [v2, List.drop_eq_nil_of_le (show (a.entries).length ≤ i by omega)]; simp only [spec_EqualContentStores_L1, cond_true, cond_false]
        have hP7 : spec_EqualContentStores a b = true := by simp only [spec_EqualContentStores, h1, h2, hX1, cond_true, cond_false]
        refine WX.ret ttOk rfl ?_
        intro w1 G bs hI hΓ
        rw [hP7]
        exact ⟨rfl, trivial⟩
theorem f332 (w : World) (n : Nat) (hn : n + 0 ≤ 9) (x_ : PendingInterest) (px_Name : Option Addr) (cx_Name : Nat) (hpx_Name : RdSl (hp w) px_Name cx_Name x_.name.parts) (px_Requesters : Option Addr) (cx_Requesters : Nat) (hpx_Requesters : RdSl (hp w) px_Requesters cx_Requesters x_.requesters) (y : PendingInterest) (pyName : Option Addr) (cyName : Nat) (hpyName : RdSl (hp w) pyName cyName y.name.parts) (pyRequesters : Option Addr) (cyRequesters : Nat) (hpyRequesters : RdSl (hp w) pyRequesters cyRequesters y.requesters) (hokx_ : GoT.ok n x_) (hoky : GoT.ok n y) :
    Does Tryz.prog 332 #[.agg #[.slice px_Name ((x_.name.parts).length) cx_Name, .slice px_Requesters ((x_.requesters).length) cx_Requesters, .int .i64 (x_.lastSent)], .agg #[.slice pyName ((y.name.parts).length) cyName, .slice pyRequesters ((y.requesters).length) cyRequesters, .int .i64 (y.lastSent)]] w emp (fun (rv : Value) (_ : World) => rv = .bool (impl_EqualPending_c1 x_ y) ∧ True) := by
  have hbP := bd_pos n
  have hbB := bd_big (n := n) (by omega)
  refine WX.enter (tt := tt) (Γ := [(0, MF.rs .stb px_Name cx_Name x_.name.parts), (1, MF.rs .stb px_Requesters cx_Requesters x_.requesters), (2, MF.rs .stb pyName cyName y.name.parts), (3, MF.rs .stb pyRequesters cyRequesters y.requesters)]) Tryz.func332 rfl (by kernel_rfl) rfl (allS_cons rfl hpx_Name (allS_cons rfl hpx_Requesters (allS_cons rfl hpyName (allS_cons rfl hpyRequesters allS_nil)))) ?_
  refine WX.run ttOk rfl ?_
  refine WX.callV rfl rfl rfl rfl rfl (fun _ => rfl) rfl (fun w G bs hI hΓ => f100 w n (by omega) x_.name px_Name cx_Name (hΓ.get 0 rfl) y.name pyName cyName (hΓ.get 2 rfl) ((ok_PendingInterest hokx_).1) ((ok_PendingInterest hoky).1)) ?_
  intro hq1
  refine WX.run ttOk rfl ?_
  refine WX.cases 10 rfl (fun h1 => ?_) (fun h1 => ?_)
  · skip
    refine WX.run ttOk rfl ?_
    refine WX.callV rfl rfl rfl rfl rfl (fun _ => rfl) rfl (fun w G bs hI hΓ => f333 w n (by omega) x_.requesters px_Requesters cx_Requesters (hΓ.get 1 rfl) y.requesters pyRequesters cyRequesters (hΓ.get 3 rfl) ((ok_PendingInterest hokx_).2.1) ((ok_PendingInterest hoky).2.1)) ?_
    intro hq2
    refine WX.run ttOk rfl ?_
    refine WX.cases 17 rfl (fun h2 => ?_) (fun h2 => ?_)
    · skip
      refine WX.run ttOk rfl ?_
      have hP1 : impl_EqualPending_c1 x_ y = (x_.lastSent == y.lastSent) := by simp only [impl_EqualPending_c1, h1, h2, cond_true, cond_false]
      refine WX.ret ttOk rfl ?_
      intro w1 G bs hI hΓ
      rw [hP1]
      exact ⟨rfl, trivial⟩
    · skip
      refine WX.run ttOk rfl ?_
      have hP2 : impl_EqualPending_c1 x_ y = false := by simp only [impl_EqualPending_c1, h1, h2, cond_true, cond_false]
      refine WX.ret ttOk rfl ?_
      intro w1 G bs hI hΓ
      rw [hP2]
      exact ⟨rfl, trivial⟩
  · skip
    refine WX.run ttOk rfl ?_
    have hP3 : impl_EqualPending_c1 x_ y = false := by simp only [impl_EqualPending_c1, h1, cond_true, cond_false]
    refine WX.ret ttOk rfl ?_
    intro w1 G bs hI hΓ
    rw [hP3]
    exact ⟨rfl, trivial⟩
theorem f242 (w : World) (n : Nat) (hn : n + 0 ≤ 9) (a : (List PendingInterest)) (pa : Option Addr) (ca : Nat) (hpa : RdSl (hp w) pa ca a) (b : (List PendingInterest)) (pb : Option Addr) (cb : Nat) (hpb : RdSl (hp w) pb cb b) (hoka : GoT.ok n a) (hokb : GoT.ok n b) :
    Does Tryz.prog 242 #[.slice pa ((a).length) ca, .slice pb ((b).length) cb] w emp (fun (rv : Value) (_ : World) => rv = .bool (impl_EqualPending a b) ∧ True) := by
  have hbP := bd_pos n
  have hbB := bd_big (n := n) (by omega)
  refine WX.enter (tt := tt) (Γ := [(0, MF.rs .stb pa ca a), (1, MF.rs .stb pb cb b)]) Tryz.func242 rfl (by kernel_rfl) rfl (allS_cons rfl hpa (allS_cons rfl hpb allS_nil)) ?_
  refine WX.run ttOk rfl ?_
  refine WX.callV rfl rfl rfl rfl rfl (fun _ => rfl) rfl (fun w G bs hI hΓ => f331 w n (by omega) a pa ca (hΓ.get 0 rfl) b pb cb (hΓ.get 1 rfl) 332 [] (fun e0_ e1_ => (impl_EqualPending_c1 e0_ e1_)) (fun w1_ hb_ e0_ x0_ hk0_ hx0_ e1_ x1_ hk1_ hx1_ => f332 w1_ n (by omega) e0_ x0_.1.1 x0_.1.2 (hx0_ _ List.mem_cons_self) x0_.2.1.1 x0_.2.1.2 (hx0_ (MF.rs .der x0_.2.1.1 x0_.2.1.2 e0_.requesters) (by simp [GoT.fa])) e1_ x1_.1.1 x1_.1.2 (hx1_ _ List.mem_cons_self) x1_.2.1.1 x1_.2.1.2 (hx1_ (MF.rs .der x1_.2.1.1 x1_.2.1.2 e1_.requesters) (by simp [GoT.fa])) hk0_ hk1_) hoka hokb) ?_
  intro hq1
  refine WX.run ttOk rfl ?_
  have hP1 : impl_EqualPending a b = (slices_EqualFunc_PendingInterest a b (fun e0_ e1_ => (impl_EqualPending_c1 e0_ e1_))) := by simp only [impl_EqualPending, cond_true, cond_false]
  refine WX.ret ttOk rfl ?_
  intro w1 G bs hI hΓ
  rw [hP1]
  exact ⟨rfl, trivial⟩
theorem f222 (w : World) (n : Nat) (hn : n + 0 ≤ 9) (a : (List PendingInterest)) (pa : Option Addr) (ca : Nat) (hpa : RdSl (hp w) pa ca a) (b : (List PendingInterest)) (pb : Option Addr) (cb : Nat) (hpb : RdSl (hp w) pb cb b) (hoka : GoT.ok n a) (hokb : GoT.ok n b) :
    Does Tryz.prog 222 #[.slice pa ((a).length) ca, .slice pb ((b).length) cb] w emp (fun (rv : Value) (_ : World) => rv = .bool (spec_EqualPending a b) ∧ True) := by
  have hbP := bd_pos n
  have hbB := bd_big (n := n) (by omega)
  refine WX.enter (tt := tt) (Γ := [(0, MF.rs .stb pa ca a), (1, MF.rs .stb pb cb b)]) Tryz.func222 rfl (by kernel_rfl) rfl (allS_cons rfl hpa (allS_cons rfl hpb allS_nil)) ?_
  refine WX.run ttOk rfl ?_
  refine WX.cases 11 rfl (fun h1 => ?_) (fun h1 => ?_)
  · skip
    have h1d : (((a).length : Nat) : Int) ≠ (((b).length : Nat) : Int) := B.nt' h1
    refine WX.run ttOk rfl ?_
    have hP1 : spec_EqualPending a b = false := by simp only [spec_EqualPending, h1, cond_true, cond_false]
    refine WX.ret ttOk rfl ?_
    intro w1 G bs hI hΓ
    rw [hP1]
    exact ⟨rfl, trivial⟩
  · skip
    have h1d : (((a).length : Nat) : Int) = (((b).length : Nat) : Int) := B.nf' h1
    refine WX.run ttOk rfl ?_
    have r1 : (a).length ≤ bd n := (okl hoka).1
    refine WX.loop (ι := Nat) ⟨fun i => (i ≤ (a).length) ∧ (spec_EqualPending_L1 b a 0 = spec_EqualPending_L1 b ((a).drop i) i), fun i => (a).length - i, fun i => [(5, .v (.int .i64 (((i : Nat) : Int)))), (0, .v (.slice pa ((a).length) ca)), (1, .v (.slice pb ((b).length) cb))], fun i => [], fun i => [], fun i => [(0, MF.rs .stb pa ca a), (1, MF.rs .stb pb cb b)]⟩ 0 ⟨(Nat.zero_le _), rfl⟩
      (.cons rfl (.cons rfl (.cons rfl (.nil)))) .nil .nil [0, 1] rfl ?_
    rintro i hpre
    have hpre_ : (i ≤ (a).length) ∧ (spec_EqualPending_L1 b a 0 = spec_EqualPending_L1 b ((a).drop i) i) := hpre
    clear hpre
    obtain ⟨v1, v2⟩ := hpre_
    refine WX.run ttOk rfl ?_
    refine WX.cases 15 rfl (fun h2 => ?_) (fun h2 => ?_)
    · skip
      have h2d : (((i : Nat) : Int) < (((a).length : Nat) : Int)) := B.dt h2
      have e1i : i < (a).length := (by omega)
      obtain ⟨e1, e1h⟩ : ∃ e1, (a)[i]? = some e1 := ⟨_, List.getElem?_eq_getElem e1i⟩
      have ok1 : GoT.ok n e1 := (okl hoka).2 _ (List.mem_of_getElem? e1h)
      refine WX.run ttOk rfl ?_
      refine WX.draw [] mixed ?_
      intro bs G0 hΓ0
      refine DX.takes (fuel := 38) ttOk [(0, true), (1, true)] (by kernel_rfl) rfl ?_
      refine DX.idx 2 0 i ttOk hΓ0 (by kernel_rfl) rfl rfl rfl rfl rfl rfl rfl rfl rfl rfl rfl e1i ?_
      rintro ad1 rfl
      refine DX.takes (fuel := 36) ttOk [(3, true)] (by kernel_rfl) rfl ?_
      refine DX.ldE2 4 0 2 e1 ttOk hΓ0 (by kernel_rfl) rfl rfl rfl rfl rfl rfl rfl rfl e1h (fun _ => rfl) (fun _ => rfl) (fun _ => rfl) ?_
      rintro ⟨⟨p1, c1⟩, ⟨p2, c2⟩, ⟨⟩⟩ hD1
      refine DX.takes (fuel := 33) ttOk [(5, true), (6, true)] (by kernel_rfl) rfl ?_
      have e2i : i < (b).length := (by first | assumption | omega)
      obtain ⟨e2, e2h⟩ : ∃ e2, (b)[i]? = some e2 := ⟨_, List.getElem?_eq_getElem e2i⟩
      have ok2 : GoT.ok n e2 := (okl hokb).2 _ (List.mem_of_getElem? e2h)
      refine DX.idx 7 1 i ttOk hD1 (by kernel_rfl) rfl rfl rfl rfl rfl rfl rfl rfl rfl rfl rfl e2i ?_
      rintro ad2 rfl
      refine DX.takes (fuel := 31) ttOk [(8, true)] (by kernel_rfl) rfl ?_
      refine DX.ldE2 9 1 4 e2 ttOk hD1 (by kernel_rfl) rfl rfl rfl rfl rfl rfl rfl rfl e2h (fun _ => rfl) (fun _ => rfl) (fun _ => rfl) ?_
      rintro ⟨⟨p3, c3⟩, ⟨p4, c4⟩, ⟨⟩⟩ hD2
      refine DX.takes (fuel := 28) ttOk [(10, true), (11, true)] (by kernel_rfl) rfl ?_
      refine DX.cases 29 rfl (fun h3 => ?_) (fun h3 => ?_)
      · skip
        have h3d : e1.lastSent ≠ e2.lastSent := B.nt' h3
        refine DX.takes (fuel := 0) ttOk [(12, true), (13, true), (14, true), (15, true), (16, true), (17, true), (18, true), (19, true), (20, true), (21, true), (22, true), (23, true), (24, true), (25, true), (26, true), (27, true), (28, true), (29, true), (30, true), (31, true), (32, true), (33, true), (34, true), (35, true), (36, true), (37, true), (38, true), (39, true)] (by kernel_rfl) rfl ?_
        refine DX.tail2 [] rfl rfl (by kernel_rfl) ?_
        refine WX.run ttOk rfl ?_
        have hP2 : spec_EqualPending_L1 b a 0 = (some false) := by rw [v2, drop_get e1h]; simp only [spec_EqualPending_L1, e2h, h3, cond_true, cond_false]
        have hP3 : spec_EqualPending a b = false := by simp only [spec_EqualPending, h1, hP2, cond_true, cond_false]
        refine WX.ret ttOk rfl ?_
        intro w1 G bs hI hΓ
        rw [hP3]
        exact ⟨rfl, trivial⟩
      · skip
        have h3d : e1.lastSent = e2.lastSent := B.nf' h3
        refine DX.takes (fuel := 26) ttOk [(12, true), (13, true)] (by kernel_rfl) rfl ?_
        refine DX.idx 14 0 i ttOk hD2 (by kernel_rfl) rfl rfl rfl rfl rfl rfl rfl rfl rfl rfl rfl e1i ?_
        rintro ad3 ⟨⟩
        refine DX.takes (fuel := 24) ttOk [(15, true)] (by kernel_rfl) rfl ?_
        refine DX.ldE2 16 0 6 e1 ttOk hD2 (by kernel_rfl) rfl rfl rfl rfl rfl rfl rfl rfl e1h (fun _ => rfl) (fun _ => rfl) (fun _ => rfl) ?_
        rintro ⟨⟨p5, c5⟩, ⟨p6, c6⟩, ⟨⟩⟩ hD3
        refine DX.takes (fuel := 21) ttOk [(17, true), (18, true)] (by kernel_rfl) rfl ?_
        refine DX.idx 19 1 i ttOk hD3 (by kernel_rfl) rfl rfl rfl rfl rfl rfl rfl rfl rfl rfl rfl e2i ?_
        rintro ad4 ⟨⟩
        refine DX.takes (fuel := 19) ttOk [(20, true)] (by kernel_rfl) rfl ?_
        refine DX.ldE2 21 1 8 e2 ttOk hD3 (by kernel_rfl) rfl rfl rfl rfl rfl rfl rfl rfl e2h (fun _ => rfl) (fun _ => rfl) (fun _ => rfl) ?_
        rintro ⟨⟨p7, c7⟩, ⟨p8, c8⟩, ⟨⟩⟩ hD4
        refine DX.callV 22 rfl (by kernel_rfl) rfl rfl rfl rfl rfl rfl (fun _ => rfl) rfl (fun w G bs hI hΓ => f92 w n (by omega) e1.name p5 c5 (hΓ.get 6 rfl) e2.name p7 c7 (hΓ.get 8 rfl) ((ok_PendingInterest ok1).1) ((ok_PendingInterest ok2).1)) ?_
        intro hq1
        refine DX.takes (fuel := 14) ttOk [(23, true), (24, true), (25, true)] (by kernel_rfl) rfl ?_
        refine DX.cases 43 rfl (fun h4 => ?_) (fun h4 => ?_)
        · skip
          have h4d := (B.nt h4)
          refine DX.takes (fuel := 0) ttOk [(26, true), (27, true), (28, true), (29, true), (30, true), (31, true), (32, true), (33, true), (34, true), (35, true), (36, true), (37, true), (38, true), (39, true)] (by kernel_rfl) rfl ?_
          refine DX.tail2 [] rfl rfl (by kernel_rfl) ?_
          refine WX.run ttOk rfl ?_
          have hP4 : spec_EqualPending_L1 b a 0 = (some false) := by rw [v2, drop_get e1h]; simp only [spec_EqualPending_L1, e2h, h3, h4, cond_true, cond_false]
          have hP5 : spec_EqualPending a b = false := by simp only [spec_EqualPending, h1, hP4, cond_true, cond_false]
          refine WX.ret ttOk rfl ?_
          intro w1 G bs hI hΓ
          rw [hP5]
          exact ⟨rfl, trivial⟩
        · skip
          have h4d := (B.nf h4)
          refine DX.takes (fuel := 12) ttOk [(26, true), (27, true)] (by kernel_rfl) rfl ?_
          refine DX.idx 28 0 i ttOk hD4 (by kernel_rfl) rfl rfl rfl rfl rfl rfl rfl rfl rfl rfl rfl e1i ?_
          rintro ad5 ⟨⟩
          refine DX.takes (fuel := 10) ttOk [(29, true)] (by kernel_rfl) rfl ?_
          refine DX.ldE2 30 0 10 e1 ttOk hD4 (by kernel_rfl) rfl rfl rfl rfl rfl rfl rfl rfl e1h (fun _ => rfl) (fun _ => rfl) (fun _ => rfl) ?_
          rintro ⟨⟨p9, c9⟩, ⟨p10, c10⟩, ⟨⟩⟩ hD5
          refine DX.takes (fuel := 6) ttOk [(31, true), (32, true), (33, true)] (by kernel_rfl) rfl ?_
          refine DX.idx 34 1 i ttOk hD5 (by kernel_rfl) rfl rfl rfl rfl rfl rfl rfl rfl rfl rfl rfl e2i ?_
          rintro ad6 ⟨⟩
          refine DX.takes (fuel := 4) ttOk [(35, true)] (by kernel_rfl) rfl ?_
          refine DX.ldE2 36 1 12 e2 ttOk hD5 (by kernel_rfl) rfl rfl rfl rfl rfl rfl rfl rfl e2h (fun _ => rfl) (fun _ => rfl) (fun _ => rfl) ?_
          rintro ⟨⟨p11, c11⟩, ⟨p12, c12⟩, ⟨⟩⟩ hD6
          refine DX.takes (fuel := 0) ttOk [(37, true), (38, true), (39, true)] (by kernel_rfl) rfl ?_
          refine DX.tail2 [] rfl rfl (by kernel_rfl) ?_
          refine WX.run ttOk rfl ?_
          refine WX.cases 57 rfl (fun h5 => ?_) (fun h5 => ?_)
          · skip
            have h5d : (((e1.requesters).length : Nat) : Int) ≠ (((e2.requesters).length : Nat) : Int) := B.nt' h5
            refine WX.run ttOk rfl ?_
            have hP6 : spec_EqualPending_L1 b a 0 = (some false) := by rw [v2, drop_get e1h]; simp only [spec_EqualPending_L1, e2h, h3, h4, h5, cond_true, cond_false]
            have hP7 : spec_EqualPending a b = false := by simp only [spec_EqualPending, h1, hP6, cond_true, cond_false]
            refine WX.ret ttOk rfl ?_
            intro w1 G bs hI hΓ
            rw [hP7]
            exact ⟨rfl, trivial⟩
          · skip
            have h5d : (((e1.requesters).length : Nat) : Int) = (((e2.requesters).length : Nat) : Int) := B.nf' h5
            refine WX.run ttOk rfl ?_
            refine WX.loop (ι := Nat) ⟨fun i2 => (i2 ≤ e1.requesters.length) ∧ (spec_EqualPending_L2 e1 e2 0 = spec_EqualPending_L2 e1 e2 i2), fun i2 => e1.requesters.length - i2, fun i2 => [(6, .v (.int .i64 (((i2 : Nat) : Int)))), (56, .v (.bool ((((e1.requesters).length : Nat) : Int) != (((e2.requesters).length : Nat) : Int)))), (55, .v (.int .i64 ((((e2.requesters).length : Nat) : Int)))), (54, .v (.slice p12 ((e2.requesters).length) c12)), (53, .e (some ad2) i 3 1), (52, .e (some ad2) i 3 0), (51, .v (.int .i64 (((i : Nat) : Int)))), (50, .v (.slice (some ad2) ((b).length) cb)), (49, .v (.int .i64 ((((e1.requesters).length : Nat) : Int)))), (48, .v (.slice p10 ((e1.requesters).length) c10)), (47, .e (some ad1) i 3 1), (46, .e (some ad1) i 3 0), (45, .v (.int .i64 (((i : Nat) : Int)))), (44, .v (.slice (some ad1) ((a).length) ca)), (41, .v (.bool (!(spec_EqualNames e1.name e2.name)))), (40, .v (.bool (spec_EqualNames e1.name e2.name))), (39, .v (.agg #[.slice p7 ((e2.name.parts).length) c7])), (38, .e (some ad2) i 3 0), (37, .e (some ad2) i 3 0), (36, .v (.int .i64 (((i : Nat) : Int)))), (35, .v (.slice (some ad2) ((b).length) cb)), (34, .v (.agg #[.slice p5 ((e1.name.parts).length) c5])), (33, .e (some ad1) i 3 0), (32, .e (some ad1) i 3 0), (31, .v (.int .i64 (((i : Nat) : Int)))), (30, .v (.slice (some ad1) ((a).length) ca)), (5, .v (.int .i64 (((i : Nat) : Int)))), (0, .v (.slice (some ad1) ((a).length) ca)), (1, .v (.slice (some ad2) ((b).length) cb))], fun i2 => [], fun i2 => [], fun i2 => [(0, MF.rs .stb (some ad1) ca a), (1, MF.rs .stb (some ad2) cb b)]⟩ 0 ⟨(Nat.zero_le _), rfl⟩
              (.cons rfl (.cons rfl (.cons rfl (.cons rfl (.cons rfl (.cons rfl (.cons rfl (.cons rfl (.cons rfl (.cons rfl (.cons rfl (.cons rfl (.cons rfl (.cons rfl (.cons rfl (.cons rfl (.cons rfl (.cons rfl (.cons rfl (.cons rfl (.cons rfl (.cons rfl (.cons rfl (.cons rfl (.cons rfl (.cons rfl (.cons rfl (.cons rfl (.cons rfl (.nil)))))))))))))))))))))))))))))) .nil .nil [0, 1] rfl ?_
            rintro i2 hpre
            have hpre_ : (i2 ≤ e1.requesters.length) ∧ (spec_EqualPending_L2 e1 e2 0 = spec_EqualPending_L2 e1 e2 i2) := hpre
            clear hpre
            obtain ⟨v3, v4⟩ := hpre_
            have hr0 : e1.requesters.length ≤ bd n := (okl (ok_PendingInterest ok1).2.1).1
            refine WX.run ttOk rfl ?_
            refine WX.idx 0 i ttOk rfl rfl rfl rfl rfl rfl rfl rfl rfl rfl e1i ?_
            rintro ad7 ⟨⟩
            refine WX.run ttOk rfl ?_
            refine WX.ldE 0 14 e1 ttOk rfl rfl rfl rfl rfl rfl rfl rfl e1h (fun _ => rfl) (fun _ => rfl) ?_
            rintro ⟨⟨p13, c13⟩, ⟨p14, c14⟩, ⟨⟩⟩
            refine WX.run ttOk rfl ?_
            refine WX.cases 65 rfl (fun h6 => ?_) (fun h6 => ?_)
            · skip
              have h6d : (((i2 : Nat) : Int) < (((e1.requesters).length : Nat) : Int)) := B.dt h6
              refine WX.run ttOk rfl ?_
              refine WX.draw [] mixed ?_
              intro bs G0 hΓ0
              refine DX.takes (fuel := 15) ttOk [(0, true), (1, true)] (by kernel_rfl) rfl ?_
              refine DX.idx 2 0 i ttOk hΓ0 (by kernel_rfl) rfl rfl rfl rfl rfl rfl rfl rfl rfl rfl rfl e1i ?_
              rintro ad8 ⟨⟩
              refine DX.takes (fuel := 13) ttOk [(3, true)] (by kernel_rfl) rfl ?_
              refine DX.ldE2 4 0 16 e1 ttOk hΓ0 (by kernel_rfl) rfl rfl rfl rfl rfl rfl rfl rfl e1h (fun _ => rfl) (fun _ => rfl) (fun _ => rfl) ?_
              rintro ⟨⟨p15, c15⟩, ⟨p16, c16⟩, ⟨⟩⟩ hD7
              refine DX.takes (fuel := 11) ttOk [(5, true)] (by kernel_rfl) rfl ?_
              have e3i : i2 < (e1.requesters).length := (by first | assumption | omega)
              obtain ⟨e3, e3h⟩ : ∃ e3, (e1.requesters)[i2]? = some e3 := ⟨_, List.getElem?_eq_getElem e3i⟩
              have ok3 : GoT.ok n e3 := (okl (ok_PendingInterest ok1).2.1).2 _ (List.mem_of_getElem? e3h)
              refine DX.idx 6 17 i2 ttOk hD7 (by kernel_rfl) rfl rfl rfl rfl rfl rfl rfl rfl rfl rfl rfl e3i ?_
              rintro ad9 rfl
              refine DX.ldE2 7 17 18 e3 ttOk hD7 (by kernel_rfl) rfl rfl rfl rfl rfl rfl rfl rfl e3h (fun _ => rfl) (fun _ => rfl) (fun _ => rfl) ?_
              rintro ⟨⟨⟩, ⟨⟩, ⟨⟩⟩ hD8
              refine DX.takes (fuel := 7) ttOk [(8, true), (9, true)] (by kernel_rfl) rfl ?_
              refine DX.idx 10 1 i ttOk hD8 (by kernel_rfl) rfl rfl rfl rfl rfl rfl rfl rfl rfl rfl rfl e2i ?_
              rintro ad10 ⟨⟩
              refine DX.takes (fuel := 5) ttOk [(11, true)] (by kernel_rfl) rfl ?_
              refine DX.ldE2 12 1 18 e2 ttOk hD8 (by kernel_rfl) rfl rfl rfl rfl rfl rfl rfl rfl e2h (fun _ => rfl) (fun _ => rfl) (fun _ => rfl) ?_
              rintro ⟨⟨p17, c17⟩, ⟨p18, c18⟩, ⟨⟩⟩ hD9
              refine DX.takes (fuel := 3) ttOk [(13, true)] (by kernel_rfl) rfl ?_
              have e4i : i2 < (e2.requesters).length := (by first | assumption | omega)
              obtain ⟨e4, e4h⟩ : ∃ e4, (e2.requesters)[i2]? = some e4 := ⟨_, List.getElem?_eq_getElem e4i⟩
              have ok4 : GoT.ok n e4 := (okl (ok_PendingInterest ok2).2.1).2 _ (List.mem_of_getElem? e4h)
              refine DX.idx 14 19 i2 ttOk hD9 (by kernel_rfl) rfl rfl rfl rfl rfl rfl rfl rfl rfl rfl rfl e4i ?_
              rintro ad11 rfl
              refine DX.ldE2 15 19 20 e4 ttOk hD9 (by kernel_rfl) rfl rfl rfl rfl rfl rfl rfl rfl e4h (fun _ => rfl) (fun _ => rfl) (fun _ => rfl) ?_
              rintro ⟨⟨⟩, ⟨⟩, ⟨⟩⟩ hD10
              refine DX.see 16 (by kernel_rfl) rfl rfl rfl rfl (looks_eq3 ttOk rfl rfl rfl (by kernel_rfl) (by kernel_rfl) rfl rfl rfl rfl rfl rfl (by decide) (by decide) (by decide) rfl rfl rfl rfl rfl rfl) ?_
              refine DX.tail2 [] rfl rfl (by kernel_rfl) ?_
              refine WX.run ttOk rfl ?_
              refine WX.cases 84 rfl (fun h7 => ?_) (fun h7 => ?_)
              · skip
                have h7d := (B.nt h7)
                refine WX.run ttOk rfl ?_
                have hP8 : spec_EqualPending_L2 e1 e2 0 = (Ctl.ret false) := by rw [v4]; rw [spec_EqualPending_L2]; simp only [h6, h6d, e3h, e4h, h7, cond_true, cond_false, ↓reduceIte, Bool.false_eq_true]
                have hP9 : spec_EqualPending_L1 b a 0 = (some false) := by rw [v2, drop_get e1h]; simp only [spec_EqualPending_L1, e2h, h3, h4, h5, hP8, cond_true, cond_false]
                have hP10 : spec_EqualPending a b = false := by simp only [spec_EqualPending, h1, hP9, cond_true, cond_false]
                refine WX.ret ttOk rfl ?_
                intro w1 G bs hI hΓ
                rw [hP10]
                exact ⟨rfl, trivial⟩
              · skip
                have h7d := (B.nf h7)
                refine WX.run ttOk rfl ?_
                refine WX.see rfl rfl rfl (fun _ hΓ => looks_arith rfl rfl rfl rfl (by unfold I64; first | omega | (simp only [List.length_take, List.length_drop] at *; omega) | (dsimp only; omega))) ?_
                refine WX.run ttOk rfl ?_
                exact WX.iter (i2 + 1) ⟨(by omega), (by rw [v4]; rw [spec_EqualPending_L2]; simp only [h6, h6d, e3h, e4h, h7, cond_true, cond_false, ↓reduceIte, Bool.false_eq_true])⟩ (by first | (dsimp only; omega) | omega) (.cons rfl (.cons rfl (.cons rfl (.cons rfl (.cons rfl (.cons rfl (.cons rfl (.cons rfl (.cons rfl (.cons rfl (.cons rfl (.cons rfl (.cons rfl (.cons rfl (.cons rfl (.cons rfl (.cons rfl (.cons rfl (.cons rfl (.cons rfl (.cons rfl (.cons rfl (.cons rfl (.cons rfl (.cons rfl (.cons rfl (.cons rfl (.cons rfl (.cons rfl (.nil)))))))))))))))))))))))))))))) .nil .nil [0, 1] rfl
            · skip
              have h6d : ¬ (((i2 : Nat) : Int) < (((e1.requesters).length : Nat) : Int)) := B.df h6
              refine WX.run ttOk rfl ?_
              have hX1 : spec_EqualPending_L2 e1 e2 0 = (Ctl.nxt i2) := by rw [v4]; rw [spec_EqualPending_L2]; simp only [h6, h6d, cond_true, cond_false, ↓reduceIte, Bool.false_eq_true]
              refine WX.see rfl rfl rfl (fun _ hΓ => looks_arith rfl rfl rfl rfl (by unfold I64; first | omega | (simp only [List.length_take, List.length_drop] at *; omega) | (dsimp only; omega))) ?_
              refine WX.run ttOk rfl ?_
              exact WX.iter (i + 1) ⟨(by omega), (by rw [v2, drop_get e1h]; simp only [spec_EqualPending_L1, e2h, h3, h4, h5, hX1, cond_true, cond_false])⟩ (by first | (dsimp only; omega) | omega) (.cons rfl (.cons rfl (.cons rfl (.nil)))) .nil .nil [0, 1] rfl
    · skip
      have h2d : ¬ (((i : Nat) : Int) < (((a).length : Nat) : Int)) := B.df h2
      refine WX.run ttOk rfl ?_
      have hX2 : spec_EqualPending_L1 b a 0 = none := by rw [v2, List.drop_eq_nil_of_le (show (a).length ≤ i by omega)]; simp only [spec_EqualPending_L1, cond_true, cond_false]
      have hP11 : spec_EqualPending a b = true := by simp only [spec_EqualPending, h1, hX2, cond_true, cond_false]
      refine WX.ret ttOk rfl ?_
      intro w1 G bs hI hΓ
      rw [hP11]
      exact ⟨rfl, trivial⟩
end Go.Proofs.YtfffongneoegbaaGreat
