/-
  What the proof of one law needs: rules of the program logic, functions as Lean functions, contracts. No condition but what each says. Written by a program (pack.py) out of my own texts.
-/
import Derived.Test.YtfffongneoegbaaGreatKEqualNetworks7
namespace Go.Proofs.YtfffongneoegbaaGreat
open Go.Stp
set_option linter.unusedVariables false
set_option linter.unusedSimpArgs false
theorem f223 (w : World) (n : Nat) (hn : n + 0 ≤ 9) (a : (List SeenNonce)) (pa : Option Addr) (ca : Nat) (hpa : RdSl (hp w) pa ca a) (b : (List SeenNonce)) (pb : Option Addr) (cb : Nat) (hpb : RdSl (hp w) pb cb b) (hoka : GoT.ok n a) (hokb : GoT.ok n b) :
    Does Tryz.prog 223 #[.slice pa ((a).length) ca, .slice pb ((b).length) cb] w emp (fun (rv : Value) (_ : World) => rv = .bool (spec_l16SameSeen a b) ∧ True) := by
  have hbP := bd_pos n
  have hbB := bd_big (n := n) (by omega)
  refine WX.enter (tt := tt) (Γ := [(0, MF.rs .stb pa ca a), (1, MF.rs .stb pb cb b)]) Tryz.func223 rfl (by kernel_rfl) rfl (allS_cons rfl hpa (allS_cons rfl hpb allS_nil)) ?_
  refine WX.run ttOk rfl ?_
  refine WX.cases 10 rfl (fun h1 => ?_) (fun h1 => ?_)
  · skip
    have h1d := B.nt' h1
    refine WX.run ttOk rfl ?_
    have hP1 : spec_l16SameSeen a b = false := by simp only [spec_l16SameSeen, h1, cond_true, cond_false]
    refine WX.ret ttOk rfl ?_
    intro w1 G bs hI hΓ
    rw [hP1]
    exact ⟨rfl, trivial⟩
  · skip
    have h1d := B.nf' h1
    refine WX.run ttOk rfl ?_
    have r1 : (a).length ≤ bd n := (okl hoka).1
    refine WX.loop (ι := Nat) ⟨fun i => (i ≤ (a).length) ∧ (spec_l16SameSeen_L1 b a 0 = spec_l16SameSeen_L1 b ((a).drop i) i), fun i => (a).length - i, fun i => [(5, .v (.int .i64 (((i : Nat) : Int)))), (0, .v (.slice pa ((a).length) ca)), (1, .v (.slice pb ((b).length) cb))], fun i => [], fun i => [], fun i => [(0, MF.rs .stb pa ca a), (1, MF.rs .stb pb cb b)]⟩ 0 ⟨(Nat.zero_le _), rfl⟩
      (.cons rfl (.cons rfl (.cons rfl (.nil)))) .nil .nil [0, 1] rfl ?_
    rintro i hpre
    have hpre_ : (i ≤ (a).length) ∧ (spec_l16SameSeen_L1 b a 0 = spec_l16SameSeen_L1 b ((a).drop i) i) := hpre
    clear hpre
    obtain ⟨v1, v2⟩ := hpre_
    refine WX.run ttOk rfl ?_
    refine WX.cases 14 rfl (fun h2 => ?_) (fun h2 => ?_)
    · skip
      have h2d := B.dt h2
      have e1i : i < (a).length := (by omega)
      obtain ⟨e1, e1h⟩ : ∃ e1, (a)[i]? = some e1 := ⟨_, List.getElem?_eq_getElem e1i⟩
      have ok1 : GoT.ok n e1 := (okl hoka).2 _ (List.mem_of_getElem? e1h)
      refine WX.run ttOk rfl ?_
      refine WX.draw [] mixed ?_
      intro bs G0 hΓ0
      refine DX.takes (fuel := 23) ttOk [(0, true), (1, true)] (by kernel_rfl) rfl ?_
      refine DX.idx 2 0 i ttOk hΓ0 (by kernel_rfl) rfl rfl rfl rfl rfl rfl rfl rfl rfl rfl rfl e1i ?_
      rintro ad1 rfl
      refine DX.takes (fuel := 21) ttOk [(3, true)] (by kernel_rfl) rfl ?_
      refine DX.ldE 4 0 2 e1 ttOk hΓ0 (by kernel_rfl) rfl rfl rfl rfl rfl rfl rfl rfl e1h (fun _ => rfl) (fun _ => rfl) ?_
      rintro ⟨⟨p1, c1⟩, ⟨⟩⟩
      refine DX.takes (fuel := 18) ttOk [(5, true), (6, true)] (by kernel_rfl) rfl ?_
      have e2i : i < (b).length := (by first | assumption | omega)
      obtain ⟨e2, e2h⟩ : ∃ e2, (b)[i]? = some e2 := ⟨_, List.getElem?_eq_getElem e2i⟩
      have ok2 : GoT.ok n e2 := (okl hokb).2 _ (List.mem_of_getElem? e2h)
      refine DX.idx 7 1 i ttOk hΓ0 (by kernel_rfl) rfl rfl rfl rfl rfl rfl rfl rfl rfl rfl rfl e2i ?_
      rintro ad2 rfl
      refine DX.takes (fuel := 16) ttOk [(8, true)] (by kernel_rfl) rfl ?_
      refine DX.ldE 9 1 3 e2 ttOk hΓ0 (by kernel_rfl) rfl rfl rfl rfl rfl rfl rfl rfl e2h (fun _ => rfl) (fun _ => rfl) ?_
      rintro ⟨⟨p2, c2⟩, ⟨⟩⟩
      refine DX.takes (fuel := 13) ttOk [(10, true), (11, true)] (by kernel_rfl) rfl ?_
      refine DX.cases 28 rfl (fun h3 => ?_) (fun h3 => ?_)
      · skip
        have h3d := B.nt' h3
        refine DX.takes (fuel := 0) ttOk [(12, true), (13, true), (14, true), (15, true), (16, true), (17, true), (18, true), (19, true), (20, true), (21, true), (22, true), (23, true), (24, true)] (by kernel_rfl) rfl ?_
        refine DX.tail2 [] rfl rfl (by kernel_rfl) ?_
        refine WX.run ttOk rfl ?_
        have hP2 : spec_l16SameSeen_L1 b a 0 = (some false) := by rw [v2, drop_get e1h]; simp only [spec_l16SameSeen_L1, e2h, h3, cond_true, cond_false]
        have hP3 : spec_l16SameSeen a b = false := by simp only [spec_l16SameSeen, h1, hP2, cond_true, cond_false]
        refine WX.ret ttOk rfl ?_
        intro w1 G bs hI hΓ
        rw [hP3]
        exact ⟨rfl, trivial⟩
      · skip
        have h3d := B.nf' h3
        refine DX.takes (fuel := 11) ttOk [(12, true), (13, true)] (by kernel_rfl) rfl ?_
        refine DX.idx 14 0 i ttOk hΓ0 (by kernel_rfl) rfl rfl rfl rfl rfl rfl rfl rfl rfl rfl rfl e1i ?_
        rintro ad3 ⟨⟩
        refine DX.takes (fuel := 9) ttOk [(15, true)] (by kernel_rfl) rfl ?_
        refine DX.ldE 16 0 4 e1 ttOk hΓ0 (by kernel_rfl) rfl rfl rfl rfl rfl rfl rfl rfl e1h (fun _ => rfl) (fun _ => rfl) ?_
        rintro ⟨⟨p3, c3⟩, ⟨⟩⟩
        refine DX.takes (fuel := 6) ttOk [(17, true), (18, true)] (by kernel_rfl) rfl ?_
        refine DX.idx 19 1 i ttOk hΓ0 (by kernel_rfl) rfl rfl rfl rfl rfl rfl rfl rfl rfl rfl rfl e2i ?_
        rintro ad4 ⟨⟩
        refine DX.takes (fuel := 4) ttOk [(20, true)] (by kernel_rfl) rfl ?_
        refine DX.ldE 21 1 5 e2 ttOk hΓ0 (by kernel_rfl) rfl rfl rfl rfl rfl rfl rfl rfl e2h (fun _ => rfl) (fun _ => rfl) ?_
        rintro ⟨⟨p4, c4⟩, ⟨⟩⟩
        refine DX.callV 22 rfl (by kernel_rfl) rfl rfl rfl rfl rfl rfl (fun _ => rfl) rfl (fun w G bs hI hΓ => f92 w n (by omega) e1.name p3 c3 (hΓ.get 4 rfl) e2.name p4 c4 (hΓ.get 5 rfl) ((ok_SeenNonce ok1).1) ((ok_SeenNonce ok2).1)) ?_
        intro hq1
        refine DX.takes (fuel := 0) ttOk [(23, true), (24, true)] (by kernel_rfl) rfl ?_
        refine DX.tail2 [] rfl rfl (by kernel_rfl) ?_
        refine WX.run ttOk rfl ?_
        refine WX.cases 41 rfl (fun h4 => ?_) (fun h4 => ?_)
        · skip
          have h4d := (B.nt h4)
          refine WX.run ttOk rfl ?_
          have hP4 : spec_l16SameSeen_L1 b a 0 = (some false) := by rw [v2, drop_get e1h]; simp only [spec_l16SameSeen_L1, e2h, h3, h4, cond_true, cond_false]
          have hP5 : spec_l16SameSeen a b = false := by simp only [spec_l16SameSeen, h1, hP4, cond_true, cond_false]
          refine WX.ret ttOk rfl ?_
          intro w1 G bs hI hΓ
          rw [hP5]
          exact ⟨rfl, trivial⟩
        · skip
          have h4d := (B.nf h4)
          refine WX.run ttOk rfl ?_
          refine WX.see rfl rfl rfl (fun _ hΓ => looks_arith rfl rfl rfl rfl (by unfold I64; first | omega | (simp only [List.length_take, List.length_drop] at *; omega) | (dsimp only; omega))) ?_
          refine WX.run ttOk rfl ?_
          exact WX.iter (i + 1) ⟨(by omega), (by rw [v2, drop_get e1h]; simp only [spec_l16SameSeen_L1, e2h, h3, h4, cond_true, cond_false])⟩ (by first | (dsimp only; omega) | omega) (.cons rfl (.cons rfl (.cons rfl (.nil)))) .nil .nil [0, 1] rfl
    · skip
      have h2d := B.df h2
      refine WX.run ttOk rfl ?_
      have hX1 : spec_l16SameSeen_L1 b a 0 = none := by rw [v2, List.drop_eq_nil_of_le (show (a).length ≤ i by omega)]; simp only [spec_l16SameSeen_L1, cond_true, cond_false]
      have hP6 : spec_l16SameSeen a b = true := by simp only [spec_l16SameSeen, h1, hX1, cond_true, cond_false]
      refine WX.ret ttOk rfl ?_
      intro w1 G bs hI hΓ
      rw [hP6]
      exact ⟨rfl, trivial⟩
theorem f335 (w : World) (n : Nat) (hn : n + 0 ≤ 9) (x_ : Route) (px_Prefix : Option Addr) (cx_Prefix : Nat) (hpx_Prefix : RdSl (hp w) px_Prefix cx_Prefix x_.pfx.parts) (y : Route) (pyPrefix : Option Addr) (cyPrefix : Nat) (hpyPrefix : RdSl (hp w) pyPrefix cyPrefix y.pfx.parts) (hokx_ : GoT.ok n x_) (hoky : GoT.ok n y) :
    Does Tryz.prog 335 #[.agg #[.slice px_Prefix ((x_.pfx.parts).length) cx_Prefix, .int .i64 (x_.face), .int .i64 (x_.cost)], .agg #[.slice pyPrefix ((y.pfx.parts).length) cyPrefix, .int .i64 (y.face), .int .i64 (y.cost)]] w emp (fun (rv : Value) (_ : World) => rv = .bool (impl_EqualRoutes_c1 x_ y) ∧ True) := by
  have hbP := bd_pos n
  have hbB := bd_big (n := n) (by omega)
  refine WX.enter (tt := tt) (Γ := [(0, MF.rs .stb px_Prefix cx_Prefix x_.pfx.parts), (1, MF.rs .stb pyPrefix cyPrefix y.pfx.parts)]) Tryz.func335 rfl (by kernel_rfl) rfl (allS_cons rfl hpx_Prefix (allS_cons rfl hpyPrefix allS_nil)) ?_
  refine WX.run ttOk rfl ?_
  refine WX.callV rfl rfl rfl rfl rfl (fun _ => rfl) rfl (fun w G bs hI hΓ => f100 w n (by omega) x_.pfx px_Prefix cx_Prefix (hΓ.get 0 rfl) y.pfx pyPrefix cyPrefix (hΓ.get 1 rfl) ((ok_Route hokx_).1) ((ok_Route hoky).1)) ?_
  intro hq1
  refine WX.run ttOk rfl ?_
  refine WX.cases 10 rfl (fun h1 => ?_) (fun h1 => ?_)
  · skip
    refine WX.run ttOk rfl ?_
    refine WX.cases 17 rfl (fun h2 => ?_) (fun h2 => ?_)
    · skip
      have h2d := B.et h2
      refine WX.run ttOk rfl ?_
      have hP1 : impl_EqualRoutes_c1 x_ y = (x_.cost == y.cost) := by simp only [impl_EqualRoutes_c1, h1, h2, cond_true, cond_false]
      refine WX.ret ttOk rfl ?_
      intro w1 G bs hI hΓ
      rw [hP1]
      exact ⟨rfl, trivial⟩
    · skip
      have h2d := B.ef h2
      refine WX.run ttOk rfl ?_
      have hP2 : impl_EqualRoutes_c1 x_ y = false := by simp only [impl_EqualRoutes_c1, h1, h2, cond_true, cond_false]
      refine WX.ret ttOk rfl ?_
      intro w1 G bs hI hΓ
      rw [hP2]
      exact ⟨rfl, trivial⟩
  · skip
    refine WX.run ttOk rfl ?_
    have hP3 : impl_EqualRoutes_c1 x_ y = false := by simp only [impl_EqualRoutes_c1, h1, cond_true, cond_false]
    refine WX.ret ttOk rfl ?_
    intro w1 G bs hI hΓ
    rw [hP3]
    exact ⟨rfl, trivial⟩
theorem f245 (w : World) (n : Nat) (hn : n + 0 ≤ 9) (a : (List Route)) (pa : Option Addr) (ca : Nat) (hpa : RdSl (hp w) pa ca a) (b : (List Route)) (pb : Option Addr) (cb : Nat) (hpb : RdSl (hp w) pb cb b) (hoka : GoT.ok n a) (hokb : GoT.ok n b) :
    Does Tryz.prog 245 #[.slice pa ((a).length) ca, .slice pb ((b).length) cb] w emp (fun (rv : Value) (_ : World) => rv = .bool (impl_EqualRoutes a b) ∧ True) := by
  have hbP := bd_pos n
  have hbB := bd_big (n := n) (by omega)
  refine WX.enter (tt := tt) (Γ := [(0, MF.rs .stb pa ca a), (1, MF.rs .stb pb cb b)]) Tryz.func245 rfl (by kernel_rfl) rfl (allS_cons rfl hpa (allS_cons rfl hpb allS_nil)) ?_
  refine WX.run ttOk rfl ?_
  refine WX.callV rfl rfl rfl rfl rfl (fun _ => rfl) rfl (fun w G bs hI hΓ => f334 w n (by omega) a pa ca (hΓ.get 0 rfl) b pb cb (hΓ.get 1 rfl) 335 [] (fun e0_ e1_ => (impl_EqualRoutes_c1 e0_ e1_)) (fun w1_ hb_ e0_ x0_ hk0_ hx0_ e1_ x1_ hk1_ hx1_ => f335 w1_ n (by omega) e0_ x0_.1.1 x0_.1.2 (hx0_ _ List.mem_cons_self) e1_ x1_.1.1 x1_.1.2 (hx1_ _ List.mem_cons_self) hk0_ hk1_) hoka hokb) ?_
  intro hq1
  refine WX.run ttOk rfl ?_
  have hP1 : impl_EqualRoutes a b = (slices_EqualFunc_Route a b (fun e0_ e1_ => (impl_EqualRoutes_c1 e0_ e1_))) := by simp only [impl_EqualRoutes, cond_true, cond_false]
  refine WX.ret ttOk rfl ?_
  intro w1 G bs hI hΓ
  rw [hP1]
  exact ⟨rfl, trivial⟩
theorem f224 (w : World) (n : Nat) (hn : n + 0 ≤ 9) (a : (List Route)) (pa : Option Addr) (ca : Nat) (hpa : RdSl (hp w) pa ca a) (b : (List Route)) (pb : Option Addr) (cb : Nat) (hpb : RdSl (hp w) pb cb b) (hoka : GoT.ok n a) (hokb : GoT.ok n b) :
    Does Tryz.prog 224 #[.slice pa ((a).length) ca, .slice pb ((b).length) cb] w emp (fun (rv : Value) (_ : World) => rv = .bool (spec_EqualRoutes a b) ∧ True) := by
  have hbP := bd_pos n
  have hbB := bd_big (n := n) (by omega)
  refine WX.enter (tt := tt) (Γ := [(0, MF.rs .stb pa ca a), (1, MF.rs .stb pb cb b)]) Tryz.func224 rfl (by kernel_rfl) rfl (allS_cons rfl hpa (allS_cons rfl hpb allS_nil)) ?_
  refine WX.run ttOk rfl ?_
  refine WX.cases 10 rfl (fun h1 => ?_) (fun h1 => ?_)
  · skip
    have h1d := B.nt' h1
    refine WX.run ttOk rfl ?_
    have hP1 : spec_EqualRoutes a b = false := by simp only [spec_EqualRoutes, h1, cond_true, cond_false]
    refine WX.ret ttOk rfl ?_
    intro w1 G bs hI hΓ
    rw [hP1]
    exact ⟨rfl, trivial⟩
  · skip
    have h1d := B.nf' h1
    refine WX.run ttOk rfl ?_
    have r1 : (a).length ≤ bd n := (okl hoka).1
    refine WX.loop (ι := Nat) ⟨fun i => (i ≤ (a).length) ∧ (spec_EqualRoutes_L1 b a 0 = spec_EqualRoutes_L1 b ((a).drop i) i), fun i => (a).length - i, fun i => [(5, .v (.int .i64 (((i : Nat) : Int)))), (0, .v (.slice pa ((a).length) ca)), (1, .v (.slice pb ((b).length) cb))], fun i => [], fun i => [], fun i => [(0, MF.rs .stb pa ca a), (1, MF.rs .stb pb cb b)]⟩ 0 ⟨(Nat.zero_le _), rfl⟩
      (.cons rfl (.cons rfl (.cons rfl (.nil)))) .nil .nil [0, 1] rfl ?_
    rintro i hpre
    have hpre_ : (i ≤ (a).length) ∧ (spec_EqualRoutes_L1 b a 0 = spec_EqualRoutes_L1 b ((a).drop i) i) := hpre
    clear hpre
    obtain ⟨v1, v2⟩ := hpre_
    refine WX.run ttOk rfl ?_
    refine WX.cases 14 rfl (fun h2 => ?_) (fun h2 => ?_)
    · skip
      have h2d := B.dt h2
      have e1i : i < (a).length := (by omega)
      obtain ⟨e1, e1h⟩ : ∃ e1, (a)[i]? = some e1 := ⟨_, List.getElem?_eq_getElem e1i⟩
      have ok1 : GoT.ok n e1 := (okl hoka).2 _ (List.mem_of_getElem? e1h)
      refine WX.run ttOk rfl ?_
      refine WX.draw [] mixed ?_
      intro bs G0 hΓ0
      refine DX.takes (fuel := 36) ttOk [(0, true), (1, true)] (by kernel_rfl) rfl ?_
      refine DX.idx 2 0 i ttOk hΓ0 (by kernel_rfl) rfl rfl rfl rfl rfl rfl rfl rfl rfl rfl rfl e1i ?_
      rintro ad1 rfl
      refine DX.takes (fuel := 34) ttOk [(3, true)] (by kernel_rfl) rfl ?_
      refine DX.ldE 4 0 2 e1 ttOk hΓ0 (by kernel_rfl) rfl rfl rfl rfl rfl rfl rfl rfl e1h (fun _ => rfl) (fun _ => rfl) ?_
      rintro ⟨⟨p1, c1⟩, ⟨⟩, ⟨⟩⟩
      refine DX.takes (fuel := 31) ttOk [(5, true), (6, true)] (by kernel_rfl) rfl ?_
      have e2i : i < (b).length := (by first | assumption | omega)
      obtain ⟨e2, e2h⟩ : ∃ e2, (b)[i]? = some e2 := ⟨_, List.getElem?_eq_getElem e2i⟩
      have ok2 : GoT.ok n e2 := (okl hokb).2 _ (List.mem_of_getElem? e2h)
      refine DX.idx 7 1 i ttOk hΓ0 (by kernel_rfl) rfl rfl rfl rfl rfl rfl rfl rfl rfl rfl rfl e2i ?_
      rintro ad2 rfl
      refine DX.takes (fuel := 29) ttOk [(8, true)] (by kernel_rfl) rfl ?_
      refine DX.ldE 9 1 3 e2 ttOk hΓ0 (by kernel_rfl) rfl rfl rfl rfl rfl rfl rfl rfl e2h (fun _ => rfl) (fun _ => rfl) ?_
      rintro ⟨⟨p2, c2⟩, ⟨⟩, ⟨⟩⟩
      refine DX.takes (fuel := 26) ttOk [(10, true), (11, true)] (by kernel_rfl) rfl ?_
      refine DX.cases 28 rfl (fun h3 => ?_) (fun h3 => ?_)
      · skip
        have h3d := B.nt' h3
        refine DX.takes (fuel := 0) ttOk [(12, true), (13, true), (14, true), (15, true), (16, true), (17, true), (18, true), (19, true), (20, true), (21, true), (22, true), (23, true), (24, true), (25, true), (26, true), (27, true), (28, true), (29, true), (30, true), (31, true), (32, true), (33, true), (34, true), (35, true), (36, true), (37, true)] (by kernel_rfl) rfl ?_
        refine DX.tail2 [] rfl rfl (by kernel_rfl) ?_
        refine WX.run ttOk rfl ?_
        have hP2 : spec_EqualRoutes_L1 b a 0 = (some false) := by rw [v2, drop_get e1h]; simp only [spec_EqualRoutes_L1, e2h, h3, cond_true, cond_false]
        have hP3 : spec_EqualRoutes a b = false := by simp only [spec_EqualRoutes, h1, hP2, cond_true, cond_false]
        refine WX.ret ttOk rfl ?_
        intro w1 G bs hI hΓ
        rw [hP3]
        exact ⟨rfl, trivial⟩
      · skip
        have h3d := B.nf' h3
        refine DX.takes (fuel := 24) ttOk [(12, true), (13, true)] (by kernel_rfl) rfl ?_
        refine DX.idx 14 0 i ttOk hΓ0 (by kernel_rfl) rfl rfl rfl rfl rfl rfl rfl rfl rfl rfl rfl e1i ?_
        rintro ad3 ⟨⟩
        refine DX.takes (fuel := 22) ttOk [(15, true)] (by kernel_rfl) rfl ?_
        refine DX.ldE 16 0 4 e1 ttOk hΓ0 (by kernel_rfl) rfl rfl rfl rfl rfl rfl rfl rfl e1h (fun _ => rfl) (fun _ => rfl) ?_
        rintro ⟨⟨p3, c3⟩, ⟨⟩, ⟨⟩⟩
        refine DX.takes (fuel := 19) ttOk [(17, true), (18, true)] (by kernel_rfl) rfl ?_
        refine DX.idx 19 1 i ttOk hΓ0 (by kernel_rfl) rfl rfl rfl rfl rfl rfl rfl rfl rfl rfl rfl e2i ?_
        rintro ad4 ⟨⟩
        refine DX.takes (fuel := 17) ttOk [(20, true)] (by kernel_rfl) rfl ?_
        refine DX.ldE 21 1 5 e2 ttOk hΓ0 (by kernel_rfl) rfl rfl rfl rfl rfl rfl rfl rfl e2h (fun _ => rfl) (fun _ => rfl) ?_
        rintro ⟨⟨p4, c4⟩, ⟨⟩, ⟨⟩⟩
        refine DX.takes (fuel := 13) ttOk [(22, true), (23, true), (24, true)] (by kernel_rfl) rfl ?_
        refine DX.cases 41 rfl (fun h4 => ?_) (fun h4 => ?_)
        · skip
          have h4d := B.nt' h4
          refine DX.takes (fuel := 0) ttOk [(25, true), (26, true), (27, true), (28, true), (29, true), (30, true), (31, true), (32, true), (33, true), (34, true), (35, true), (36, true), (37, true)] (by kernel_rfl) rfl ?_
          refine DX.tail2 [] rfl rfl (by kernel_rfl) ?_
          refine WX.run ttOk rfl ?_
          have hP4 : spec_EqualRoutes_L1 b a 0 = (some false) := by rw [v2, drop_get e1h]; simp only [spec_EqualRoutes_L1, e2h, h3, h4, cond_true, cond_false]
          have hP5 : spec_EqualRoutes a b = false := by simp only [spec_EqualRoutes, h1, hP4, cond_true, cond_false]
          refine WX.ret ttOk rfl ?_
          intro w1 G bs hI hΓ
          rw [hP5]
          exact ⟨rfl, trivial⟩
        · skip
          have h4d := B.nf' h4
          refine DX.takes (fuel := 11) ttOk [(25, true), (26, true)] (by kernel_rfl) rfl ?_
          refine DX.idx 27 0 i ttOk hΓ0 (by kernel_rfl) rfl rfl rfl rfl rfl rfl rfl rfl rfl rfl rfl e1i ?_
          rintro ad5 ⟨⟩
          refine DX.takes (fuel := 9) ttOk [(28, true)] (by kernel_rfl) rfl ?_
          refine DX.ldE 29 0 6 e1 ttOk hΓ0 (by kernel_rfl) rfl rfl rfl rfl rfl rfl rfl rfl e1h (fun _ => rfl) (fun _ => rfl) ?_
          rintro ⟨⟨p5, c5⟩, ⟨⟩, ⟨⟩⟩
          refine DX.takes (fuel := 6) ttOk [(30, true), (31, true)] (by kernel_rfl) rfl ?_
          refine DX.idx 32 1 i ttOk hΓ0 (by kernel_rfl) rfl rfl rfl rfl rfl rfl rfl rfl rfl rfl rfl e2i ?_
          rintro ad6 ⟨⟩
          refine DX.takes (fuel := 4) ttOk [(33, true)] (by kernel_rfl) rfl ?_
          refine DX.ldE 34 1 7 e2 ttOk hΓ0 (by kernel_rfl) rfl rfl rfl rfl rfl rfl rfl rfl e2h (fun _ => rfl) (fun _ => rfl) ?_
          rintro ⟨⟨p6, c6⟩, ⟨⟩, ⟨⟩⟩
          refine DX.callV 35 rfl (by kernel_rfl) rfl rfl rfl rfl rfl rfl (fun _ => rfl) rfl (fun w G bs hI hΓ => f92 w n (by omega) e1.pfx p5 c5 (hΓ.get 6 rfl) e2.pfx p6 c6 (hΓ.get 7 rfl) ((ok_Route ok1).1) ((ok_Route ok2).1)) ?_
          intro hq1
          refine DX.takes (fuel := 0) ttOk [(36, true), (37, true)] (by kernel_rfl) rfl ?_
          refine DX.tail2 [] rfl rfl (by kernel_rfl) ?_
          refine WX.run ttOk rfl ?_
          refine WX.cases 54 rfl (fun h5 => ?_) (fun h5 => ?_)
          · skip
            have h5d := (B.nt h5)
            refine WX.run ttOk rfl ?_
            have hP6 : spec_EqualRoutes_L1 b a 0 = (some false) := by rw [v2, drop_get e1h]; simp only [spec_EqualRoutes_L1, e2h, h3, h4, h5, cond_true, cond_false]
            have hP7 : spec_EqualRoutes a b = false := by simp only [spec_EqualRoutes, h1, hP6, cond_true, cond_false]
            refine WX.ret ttOk rfl ?_
            intro w1 G bs hI hΓ
            rw [hP7]
            exact ⟨rfl, trivial⟩
          · skip
            have h5d := (B.nf h5)
            refine WX.run ttOk rfl ?_
            refine WX.see rfl rfl rfl (fun _ hΓ => looks_arith rfl rfl rfl rfl (by unfold I64; first | omega | (simp only [List.length_take, List.length_drop] at *; omega) | (dsimp only; omega))) ?_
            refine WX.run ttOk rfl ?_
            exact WX.iter (i + 1) ⟨(by omega), (by rw [v2, drop_get e1h]; simp only [spec_EqualRoutes_L1, e2h, h3, h4, h5, cond_true, cond_false])⟩ (by first | (dsimp only; omega) | omega) (.cons rfl (.cons rfl (.cons rfl (.nil)))) .nil .nil [0, 1] rfl
    · skip
      have h2d := B.df h2
      refine WX.run ttOk rfl ?_
      have hX1 : spec_EqualRoutes_L1 b a 0 = none := by rw [v2, List.drop_eq_nil_of_le (show (a).length ≤ i by omega)]; simp only [spec_EqualRoutes_L1, cond_true, cond_false]
      have hP8 : spec_EqualRoutes a b = true := by simp only [spec_EqualRoutes, h1, hX1, cond_true, cond_false]
      refine WX.ret ttOk rfl ?_
      intro w1 G bs hI hΓ
      rw [hP8]
      exact ⟨rfl, trivial⟩
theorem f337 (w : World) (n : Nat) (hn : n + 0 ≤ 9) (x_ : Measurement) (px_Prefix : Option Addr) (cx_Prefix : Nat) (hpx_Prefix : RdSl (hp w) px_Prefix cx_Prefix x_.pfx.parts) (y : Measurement) (pyPrefix : Option Addr) (cyPrefix : Nat) (hpyPrefix : RdSl (hp w) pyPrefix cyPrefix y.pfx.parts) (hokx_ : GoT.ok n x_) (hoky : GoT.ok n y) :
    Does Tryz.prog 337 #[.agg #[.slice px_Prefix ((x_.pfx.parts).length) cx_Prefix, .int .i64 (x_.face), .int .i64 (x_.failures)], .agg #[.slice pyPrefix ((y.pfx.parts).length) cyPrefix, .int .i64 (y.face), .int .i64 (y.failures)]] w emp (fun (rv : Value) (_ : World) => rv = .bool (impl_EqualMeasurements_c1 x_ y) ∧ True) := by
  have hbP := bd_pos n
  have hbB := bd_big (n := n) (by omega)
  refine WX.enter (tt := tt) (Γ := [(0, MF.rs .stb px_Prefix cx_Prefix x_.pfx.parts), (1, MF.rs .stb pyPrefix cyPrefix y.pfx.parts)]) Tryz.func337 rfl (by kernel_rfl) rfl (allS_cons rfl hpx_Prefix (allS_cons rfl hpyPrefix allS_nil)) ?_
  refine WX.run ttOk rfl ?_
  refine WX.callV rfl rfl rfl rfl rfl (fun _ => rfl) rfl (fun w G bs hI hΓ => f100 w n (by omega) x_.pfx px_Prefix cx_Prefix (hΓ.get 0 rfl) y.pfx pyPrefix cyPrefix (hΓ.get 1 rfl) ((ok_Measurement hokx_).1) ((ok_Measurement hoky).1)) ?_
  intro hq1
  refine WX.run ttOk rfl ?_
  refine WX.cases 10 rfl (fun h1 => ?_) (fun h1 => ?_)
  · skip
    refine WX.run ttOk rfl ?_
    refine WX.cases 17 rfl (fun h2 => ?_) (fun h2 => ?_)
    · skip
      have h2d := B.et h2
      refine WX.run ttOk rfl ?_
      have hP1 : impl_EqualMeasurements_c1 x_ y = (x_.failures == y.failures) := by simp only [impl_EqualMeasurements_c1, h1, h2, cond_true, cond_false]
      refine WX.ret ttOk rfl ?_
      intro w1 G bs hI hΓ
      rw [hP1]
      exact ⟨rfl, trivial⟩
    · skip
      have h2d := B.ef h2
      refine WX.run ttOk rfl ?_
      have hP2 : impl_EqualMeasurements_c1 x_ y = false := by simp only [impl_EqualMeasurements_c1, h1, h2, cond_true, cond_false]
      refine WX.ret ttOk rfl ?_
      intro w1 G bs hI hΓ
      rw [hP2]
      exact ⟨rfl, trivial⟩
  · skip
    refine WX.run ttOk rfl ?_
    have hP3 : impl_EqualMeasurements_c1 x_ y = false := by simp only [impl_EqualMeasurements_c1, h1, cond_true, cond_false]
    refine WX.ret ttOk rfl ?_
    intro w1 G bs hI hΓ
    rw [hP3]
    exact ⟨rfl, trivial⟩
theorem f246 (w : World) (n : Nat) (hn : n + 0 ≤ 9) (a : (List Measurement)) (pa : Option Addr) (ca : Nat) (hpa : RdSl (hp w) pa ca a) (b : (List Measurement)) (pb : Option Addr) (cb : Nat) (hpb : RdSl (hp w) pb cb b) (hoka : GoT.ok n a) (hokb : GoT.ok n b) :
    Does Tryz.prog 246 #[.slice pa ((a).length) ca, .slice pb ((b).length) cb] w emp (fun (rv : Value) (_ : World) => rv = .bool (impl_EqualMeasurements a b) ∧ True) := by
  have hbP := bd_pos n
  have hbB := bd_big (n := n) (by omega)
  refine WX.enter (tt := tt) (Γ := [(0, MF.rs .stb pa ca a), (1, MF.rs .stb pb cb b)]) Tryz.func246 rfl (by kernel_rfl) rfl (allS_cons rfl hpa (allS_cons rfl hpb allS_nil)) ?_
  refine WX.run ttOk rfl ?_
  refine WX.callV rfl rfl rfl rfl rfl (fun _ => rfl) rfl (fun w G bs hI hΓ => f336 w n (by omega) a pa ca (hΓ.get 0 rfl) b pb cb (hΓ.get 1 rfl) 337 [] (fun e0_ e1_ => (impl_EqualMeasurements_c1 e0_ e1_)) (fun w1_ hb_ e0_ x0_ hk0_ hx0_ e1_ x1_ hk1_ hx1_ => f337 w1_ n (by omega) e0_ x0_.1.1 x0_.1.2 (hx0_ _ List.mem_cons_self) e1_ x1_.1.1 x1_.1.2 (hx1_ _ List.mem_cons_self) hk0_ hk1_) hoka hokb) ?_
  intro hq1
  refine WX.run ttOk rfl ?_
  have hP1 : impl_EqualMeasurements a b = (slices_EqualFunc_Measurement a b (fun e0_ e1_ => (impl_EqualMeasurements_c1 e0_ e1_))) := by simp only [impl_EqualMeasurements, cond_true, cond_false]
  refine WX.ret ttOk rfl ?_
  intro w1 G bs hI hΓ
  rw [hP1]
  exact ⟨rfl, trivial⟩
theorem f225 (w : World) (n : Nat) (hn : n + 0 ≤ 9) (a : (List Measurement)) (pa : Option Addr) (ca : Nat) (hpa : RdSl (hp w) pa ca a) (b : (List Measurement)) (pb : Option Addr) (cb : Nat) (hpb : RdSl (hp w) pb cb b) (hoka : GoT.ok n a) (hokb : GoT.ok n b) :
    Does Tryz.prog 225 #[.slice pa ((a).length) ca, .slice pb ((b).length) cb] w emp (fun (rv : Value) (_ : World) => rv = .bool (spec_EqualMeasurements a b) ∧ True) := by
  have hbP := bd_pos n
  have hbB := bd_big (n := n) (by omega)
  refine WX.enter (tt := tt) (Γ := [(0, MF.rs .stb pa ca a), (1, MF.rs .stb pb cb b)]) Tryz.func225 rfl (by kernel_rfl) rfl (allS_cons rfl hpa (allS_cons rfl hpb allS_nil)) ?_
  refine WX.run ttOk rfl ?_
  refine WX.cases 10 rfl (fun h1 => ?_) (fun h1 => ?_)
  · skip
    have h1d := B.nt' h1
    refine WX.run ttOk rfl ?_
    have hP1 : spec_EqualMeasurements a b = false := by simp only [spec_EqualMeasurements, h1, cond_true, cond_false]
    refine WX.ret ttOk rfl ?_
    intro w1 G bs hI hΓ
    rw [hP1]
    exact ⟨rfl, trivial⟩
  · skip
    have h1d := B.nf' h1
    refine WX.run ttOk rfl ?_
    have r1 : (a).length ≤ bd n := (okl hoka).1
    refine WX.loop (ι := Nat) ⟨fun i => (i ≤ (a).length) ∧ (spec_EqualMeasurements_L1 b a 0 = spec_EqualMeasurements_L1 b ((a).drop i) i), fun i => (a).length - i, fun i => [(5, .v (.int .i64 (((i : Nat) : Int)))), (0, .v (.slice pa ((a).length) ca)), (1, .v (.slice pb ((b).length) cb))], fun i => [], fun i => [], fun i => [(0, MF.rs .stb pa ca a), (1, MF.rs .stb pb cb b)]⟩ 0 ⟨(Nat.zero_le _), rfl⟩
      (.cons rfl (.cons rfl (.cons rfl (.nil)))) .nil .nil [0, 1] rfl ?_
    rintro i hpre
    have hpre_ : (i ≤ (a).length) ∧ (spec_EqualMeasurements_L1 b a 0 = spec_EqualMeasurements_L1 b ((a).drop i) i) := hpre
    clear hpre
    obtain ⟨v1, v2⟩ := hpre_
    refine WX.run ttOk rfl ?_
    refine WX.cases 14 rfl (fun h2 => ?_) (fun h2 => ?_)
    · skip
      have h2d := B.dt h2
      have e1i : i < (a).length := (by omega)
      obtain ⟨e1, e1h⟩ : ∃ e1, (a)[i]? = some e1 := ⟨_, List.getElem?_eq_getElem e1i⟩
      have ok1 : GoT.ok n e1 := (okl hoka).2 _ (List.mem_of_getElem? e1h)
      refine WX.run ttOk rfl ?_
      refine WX.draw [] mixed ?_
      intro bs G0 hΓ0
      refine DX.takes (fuel := 36) ttOk [(0, true), (1, true)] (by kernel_rfl) rfl ?_
      refine DX.idx 2 0 i ttOk hΓ0 (by kernel_rfl) rfl rfl rfl rfl rfl rfl rfl rfl rfl rfl rfl e1i ?_
      rintro ad1 rfl
      refine DX.takes (fuel := 34) ttOk [(3, true)] (by kernel_rfl) rfl ?_
      refine DX.ldE 4 0 2 e1 ttOk hΓ0 (by kernel_rfl) rfl rfl rfl rfl rfl rfl rfl rfl e1h (fun _ => rfl) (fun _ => rfl) ?_
      rintro ⟨⟨p1, c1⟩, ⟨⟩, ⟨⟩⟩
      refine DX.takes (fuel := 31) ttOk [(5, true), (6, true)] (by kernel_rfl) rfl ?_
      have e2i : i < (b).length := (by first | assumption | omega)
      obtain ⟨e2, e2h⟩ : ∃ e2, (b)[i]? = some e2 := ⟨_, List.getElem?_eq_getElem e2i⟩
      have ok2 : GoT.ok n e2 := (okl hokb).2 _ (List.mem_of_getElem? e2h)
      refine DX.idx 7 1 i ttOk hΓ0 (by kernel_rfl) rfl rfl rfl rfl rfl rfl rfl rfl rfl rfl rfl e2i ?_
      rintro ad2 rfl
      refine DX.takes (fuel := 29) ttOk [(8, true)] (by kernel_rfl) rfl ?_
      refine DX.ldE 9 1 3 e2 ttOk hΓ0 (by kernel_rfl) rfl rfl rfl rfl rfl rfl rfl rfl e2h (fun _ => rfl) (fun _ => rfl) ?_
      rintro ⟨⟨p2, c2⟩, ⟨⟩, ⟨⟩⟩
      refine DX.takes (fuel := 26) ttOk [(10, true), (11, true)] (by kernel_rfl) rfl ?_
      refine DX.cases 28 rfl (fun h3 => ?_) (fun h3 => ?_)
      · skip
        have h3d := B.nt' h3
        refine DX.takes (fuel := 0) ttOk [(12, true), (13, true), (14, true), (15, true), (16, true), (17, true), (18, true), (19, true), (20, true), (21, true), (22, true), (23, true), (24, true), (25, true), (26, true), (27, true), (28, true), (29, true), (30, true), (31, true), (32, true), (33, true), (34, true), (35, true), (36, true), (37, true)] (by kernel_rfl) rfl ?_
        refine DX.tail2 [] rfl rfl (by kernel_rfl) ?_
        refine WX.run ttOk rfl ?_
        have hP2 : spec_EqualMeasurements_L1 b a 0 = (some false) := by rw [v2, drop_get e1h]; simp only [spec_EqualMeasurements_L1, e2h, h3, cond_true, cond_false]
        have hP3 : spec_EqualMeasurements a b = false := by simp only [spec_EqualMeasurements, h1, hP2, cond_true, cond_false]
        refine WX.ret ttOk rfl ?_
        intro w1 G bs hI hΓ
        rw [hP3]
        exact ⟨rfl, trivial⟩
      · skip
        have h3d := B.nf' h3
        refine DX.takes (fuel := 24) ttOk [(12, true), (13, true)] (by kernel_rfl) rfl ?_
        refine DX.idx 14 0 i ttOk hΓ0 (by kernel_rfl) rfl rfl rfl rfl rfl rfl rfl rfl rfl rfl rfl e1i ?_
        rintro ad3 ⟨⟩
        refine DX.takes (fuel := 22) ttOk [(15, true)] (by kernel_rfl) rfl ?_
        refine DX.ldE 16 0 4 e1 ttOk hΓ0 (by kernel_rfl) rfl rfl rfl rfl rfl rfl rfl rfl e1h (fun _ => rfl) (fun _ => rfl) ?_
        rintro ⟨⟨p3, c3⟩, ⟨⟩, ⟨⟩⟩
        refine DX.takes (fuel := 19) ttOk [(17, true), (18, true)] (by kernel_rfl) rfl ?_
        refine DX.idx 19 1 i ttOk hΓ0 (by kernel_rfl) rfl rfl rfl rfl rfl rfl rfl rfl rfl rfl rfl e2i ?_
        rintro ad4 ⟨⟩
        refine DX.takes (fuel := 17) ttOk [(20, true)] (by kernel_rfl) rfl ?_
        refine DX.ldE 21 1 5 e2 ttOk hΓ0 (by kernel_rfl) rfl rfl rfl rfl rfl rfl rfl rfl e2h (fun _ => rfl) (fun _ => rfl) ?_
        rintro ⟨⟨p4, c4⟩, ⟨⟩, ⟨⟩⟩
        refine DX.takes (fuel := 13) ttOk [(22, true), (23, true), (24, true)] (by kernel_rfl) rfl ?_
        refine DX.cases 41 rfl (fun h4 => ?_) (fun h4 => ?_)
        · skip
          have h4d := B.nt' h4
          refine DX.takes (fuel := 0) ttOk [(25, true), (26, true), (27, true), (28, true), (29, true), (30, true), (31, true), (32, true), (33, true), (34, true), (35, true), (36, true), (37, true)] (by kernel_rfl) rfl ?_
          refine DX.tail2 [] rfl rfl (by kernel_rfl) ?_
          refine WX.run ttOk rfl ?_
          have hP4 : spec_EqualMeasurements_L1 b a 0 = (some false) := by rw [v2, drop_get e1h]; simp only [spec_EqualMeasurements_L1, e2h, h3, h4, cond_true, cond_false]
          have hP5 : spec_EqualMeasurements a b = false := by simp only [spec_EqualMeasurements, h1, hP4, cond_true, cond_false]
          refine WX.ret ttOk rfl ?_
          intro w1 G bs hI hΓ
          rw [hP5]
          exact ⟨rfl, trivial⟩
        · skip
          have h4d := B.nf' h4
          refine DX.takes (fuel := 11) ttOk [(25, true), (26, true)] (by kernel_rfl) rfl ?_
          refine DX.idx 27 0 i ttOk hΓ0 (by kernel_rfl) rfl rfl rfl rfl rfl rfl rfl rfl rfl rfl rfl e1i ?_
          rintro ad5 ⟨⟩
          refine DX.takes (fuel := 9) ttOk [(28, true)] (by kernel_rfl) rfl ?_
          refine DX.ldE 29 0 6 e1 ttOk hΓ0 (by kernel_rfl) rfl rfl rfl rfl rfl rfl rfl rfl e1h (fun _ => rfl) (fun _ => rfl) ?_
          rintro ⟨⟨p5, c5⟩, ⟨⟩, ⟨⟩⟩
          refine DX.takes (fuel := 6) ttOk [(30, true), (31, true)] (by kernel_rfl) rfl ?_
          refine DX.idx 32 1 i ttOk hΓ0 (by kernel_rfl) rfl rfl rfl rfl rfl rfl rfl rfl rfl rfl rfl e2i ?_
          rintro ad6 ⟨⟩
          refine DX.takes (fuel := 4) ttOk [(33, true)] (by kernel_rfl) rfl ?_
          refine DX.ldE 34 1 7 e2 ttOk hΓ0 (by kernel_rfl) rfl rfl rfl rfl rfl rfl rfl rfl e2h (fun _ => rfl) (fun _ => rfl) ?_
          rintro ⟨⟨p6, c6⟩, ⟨⟩, ⟨⟩⟩
          refine DX.callV 35 rfl (by kernel_rfl) rfl rfl rfl rfl rfl rfl (fun _ => rfl) rfl (fun w G bs hI hΓ => f92 w n (by omega) e1.pfx p5 c5 (hΓ.get 6 rfl) e2.pfx p6 c6 (hΓ.get 7 rfl) ((ok_Measurement ok1).1) ((ok_Measurement ok2).1)) ?_
          intro hq1
          refine DX.takes (fuel := 0) ttOk [(36, true), (37, true)] (by kernel_rfl) rfl ?_
          refine DX.tail2 [] rfl rfl (by kernel_rfl) ?_
          refine WX.run ttOk rfl ?_
          refine WX.cases 54 rfl (fun h5 => ?_) (fun h5 => ?_)
          · skip
            have h5d := (B.nt h5)
            refine WX.run ttOk rfl ?_
            have hP6 : spec_EqualMeasurements_L1 b a 0 = (some false) := by rw [v2, drop_get e1h]; simp only [spec_EqualMeasurements_L1, e2h, h3, h4, h5, cond_true, cond_false]
            have hP7 : spec_EqualMeasurements a b = false := by simp only [spec_EqualMeasurements, h1, hP6, cond_true, cond_false]
            refine WX.ret ttOk rfl ?_
            intro w1 G bs hI hΓ
            rw [hP7]
            exact ⟨rfl, trivial⟩
          · skip
            have h5d := (B.nf h5)
            refine WX.run ttOk rfl ?_
            refine WX.see rfl rfl rfl (fun _ hΓ => looks_arith rfl rfl rfl rfl (by unfold I64; first | omega | (simp only [List.length_take, List.length_drop] at *; omega) | (dsimp only; omega))) ?_
            refine WX.run ttOk rfl ?_
            exact WX.iter (i + 1) ⟨(by omega), (by rw [v2, drop_get e1h]; simp only [spec_EqualMeasurements_L1, e2h, h3, h4, h5, cond_true, cond_false])⟩ (by first | (dsimp only; omega) | omega) (.cons rfl (.cons rfl (.cons rfl (.nil)))) .nil .nil [0, 1] rfl
    · skip
      have h2d := B.df h2
      refine WX.run ttOk rfl ?_
      have hX1 : spec_EqualMeasurements_L1 b a 0 = none := by rw [v2, List.drop_eq_nil_of_le (show (a).length ≤ i by omega)]; simp only [spec_EqualMeasurements_L1, cond_true, cond_false]
      have hP8 : spec_EqualMeasurements a b = true := by simp only [spec_EqualMeasurements, h1, hX1, cond_true, cond_false]
      refine WX.ret ttOk rfl ?_
      intro w1 G bs hI hΓ
      rw [hP8]
      exact ⟨rfl, trivial⟩
theorem f244 (w : World) (n : Nat) (hn : n + 0 ≤ 9) (x_ : SeenNonce) (px_Name : Option Addr) (cx_Name : Nat) (hpx_Name : RdSl (hp w) px_Name cx_Name x_.name.parts) (y : SeenNonce) (pyName : Option Addr) (cyName : Nat) (hpyName : RdSl (hp w) pyName cyName y.name.parts) (hokx_ : GoT.ok n x_) (hoky : GoT.ok n y) :
    Does Tryz.prog 244 #[.agg #[.slice px_Name ((x_.name.parts).length) cx_Name, .int .i64 (x_.nonce)], .agg #[.slice pyName ((y.name.parts).length) cyName, .int .i64 (y.nonce)]] w emp (fun (rv : Value) (_ : World) => rv = .bool (impl_EqualNodes_c1 x_ y) ∧ True) := by
  have hbP := bd_pos n
  have hbB := bd_big (n := n) (by omega)
  refine WX.enter (tt := tt) (Γ := [(0, MF.rs .stb px_Name cx_Name x_.name.parts), (1, MF.rs .stb pyName cyName y.name.parts)]) Tryz.func244 rfl (by kernel_rfl) rfl (allS_cons rfl hpx_Name (allS_cons rfl hpyName allS_nil)) ?_
  refine WX.run ttOk rfl ?_
  refine WX.callV rfl rfl rfl rfl rfl (fun _ => rfl) rfl (fun w G bs hI hΓ => f100 w n (by omega) x_.name px_Name cx_Name (hΓ.get 0 rfl) y.name pyName cyName (hΓ.get 1 rfl) ((ok_SeenNonce hokx_).1) ((ok_SeenNonce hoky).1)) ?_
  intro hq1
  refine WX.run ttOk rfl ?_
  refine WX.cases 10 rfl (fun h1 => ?_) (fun h1 => ?_)
  · skip
    refine WX.run ttOk rfl ?_
    have hP1 : impl_EqualNodes_c1 x_ y = (x_.nonce == y.nonce) := by simp only [impl_EqualNodes_c1, h1, cond_true, cond_false]
    refine WX.ret ttOk rfl ?_
    intro w1 G bs hI hΓ
    rw [hP1]
    exact ⟨rfl, trivial⟩
  · skip
    refine WX.run ttOk rfl ?_
    have hP2 : impl_EqualNodes_c1 x_ y = false := by simp only [impl_EqualNodes_c1, h1, cond_true, cond_false]
    refine WX.ret ttOk rfl ?_
    intro w1 G bs hI hΓ
    rw [hP2]
    exact ⟨rfl, trivial⟩
theorem f136 (w : World) (n : Nat) (hn : n + 0 ≤ 9) (a : NodeP) (paLocal : Option Addr) (caLocal : Nat) (hpaLocal : RdSl (hp w) paLocal caLocal a.locl) (paCacheEntries : Option Addr) (caCacheEntries : Nat) (hpaCacheEntries : RdSl (hp w) paCacheEntries caCacheEntries a.cache.entries) (paPending : Option Addr) (caPending : Nat) (hpaPending : RdSl (hp w) paPending caPending a.pending) (paSeen : Option Addr) (caSeen : Nat) (hpaSeen : RdSl (hp w) paSeen caSeen a.seen) (paRoutes : Option Addr) (caRoutes : Nat) (hpaRoutes : RdSl (hp w) paRoutes caRoutes a.routes) (paMeasurements : Option Addr) (caMeasurements : Nat) (hpaMeasurements : RdSl (hp w) paMeasurements caMeasurements a.measurements) (b : NodeP) (pbLocal : Option Addr) (cbLocal : Nat) (hpbLocal : RdSl (hp w) pbLocal cbLocal b.locl) (pbCacheEntries : Option Addr) (cbCacheEntries : Nat) (hpbCacheEntries : RdSl (hp w) pbCacheEntries cbCacheEntries b.cache.entries) (pbPending : Option Addr) (cbPending : Nat) (hpbPending : RdSl (hp w) pbPending cbPending b.pending) (pbSeen : Option Addr) (cbSeen : Nat) (hpbSeen : RdSl (hp w) pbSeen cbSeen b.seen) (pbRoutes : Option Addr) (cbRoutes : Nat) (hpbRoutes : RdSl (hp w) pbRoutes cbRoutes b.routes) (pbMeasurements : Option Addr) (cbMeasurements : Nat) (hpbMeasurements : RdSl (hp w) pbMeasurements cbMeasurements b.measurements) (hoka : GoT.ok n a) (hokb : GoT.ok n b) :
    Does Tryz.prog 136 #[.agg #[.slice paLocal ((a.locl).length) caLocal, .int .i64 (a.cache.capacity), .slice paCacheEntries ((a.cache.entries).length) caCacheEntries, .slice paPending ((a.pending).length) caPending, .slice paSeen ((a.seen).length) caSeen, .slice paRoutes ((a.routes).length) caRoutes, .slice paMeasurements ((a.measurements).length) caMeasurements, .int .i64 (a.dropped)], .agg #[.slice pbLocal ((b.locl).length) cbLocal, .int .i64 (b.cache.capacity), .slice pbCacheEntries ((b.cache.entries).length) cbCacheEntries, .slice pbPending ((b.pending).length) cbPending, .slice pbSeen ((b.seen).length) cbSeen, .slice pbRoutes ((b.routes).length) cbRoutes, .slice pbMeasurements ((b.measurements).length) cbMeasurements, .int .i64 (b.dropped)]] w emp (fun (rv : Value) (_ : World) => rv = .bool (impl_EqualNodes a b) ∧ True) := by
  have hbP := bd_pos n
  have hbB := bd_big (n := n) (by omega)
  refine WX.enter (tt := tt) (Γ := [(0, MF.rs .stb paLocal caLocal a.locl), (1, MF.rs .stb paCacheEntries caCacheEntries a.cache.entries), (2, MF.rs .stb paPending caPending a.pending), (3, MF.rs .stb paSeen caSeen a.seen), (4, MF.rs .stb paRoutes caRoutes a.routes), (5, MF.rs .stb paMeasurements caMeasurements a.measurements), (6, MF.rs .stb pbLocal cbLocal b.locl), (7, MF.rs .stb pbCacheEntries cbCacheEntries b.cache.entries), (8, MF.rs .stb pbPending cbPending b.pending), (9, MF.rs .stb pbSeen cbSeen b.seen), (10, MF.rs .stb pbRoutes cbRoutes b.routes), (11, MF.rs .stb pbMeasurements cbMeasurements b.measurements)]) Tryz.func136 rfl (by kernel_rfl) rfl (allS_cons rfl hpaLocal (allS_cons rfl hpaCacheEntries (allS_cons rfl hpaPending (allS_cons rfl hpaSeen (allS_cons rfl hpaRoutes (allS_cons rfl hpaMeasurements (allS_cons rfl hpbLocal (allS_cons rfl hpbCacheEntries (allS_cons rfl hpbPending (allS_cons rfl hpbSeen (allS_cons rfl hpbRoutes (allS_cons rfl hpbMeasurements allS_nil)))))))))))) ?_
  refine WX.run ttOk rfl ?_
  refine WX.callV rfl rfl rfl rfl rfl (fun _ => rfl) rfl (fun w G bs hI hΓ => f237 w n (by omega) a.locl paLocal caLocal (hΓ.get 0 rfl) b.locl pbLocal cbLocal (hΓ.get 6 rfl) 238 [] (fun e0_ e1_ => (impl_EqualData e0_ e1_)) (fun w1_ hb_ e0_ x0_ hk0_ hx0_ e1_ x1_ hk1_ hx1_ => f238 w1_ n (by omega) e0_ x0_.1.1 x0_.1.2 (hx0_ _ List.mem_cons_self) x0_.2.1.1 x0_.2.1.2 (hx0_ (MF.rs .der x0_.2.1.1 x0_.2.1.2 e0_.content) (by simp [GoT.fa])) x0_.2.2.1.1 x0_.2.2.1.2 (hx0_ (MF.rs .der x0_.2.2.1.1 x0_.2.2.1.2 e0_.keyName.parts) (by simp [GoT.fa])) e1_ x1_.1.1 x1_.1.2 (hx1_ _ List.mem_cons_self) x1_.2.1.1 x1_.2.1.2 (hx1_ (MF.rs .der x1_.2.1.1 x1_.2.1.2 e1_.content) (by simp [GoT.fa])) x1_.2.2.1.1 x1_.2.2.1.2 (hx1_ (MF.rs .der x1_.2.2.1.1 x1_.2.2.1.2 e1_.keyName.parts) (by simp [GoT.fa])) hk0_ hk1_) ((ok_NodeP hoka).1) ((ok_NodeP hokb).1)) ?_
  intro hq1
  refine WX.run ttOk rfl ?_
  refine WX.cases 10 rfl (fun h1 => ?_) (fun h1 => ?_)
  · skip
    refine WX.run ttOk rfl ?_
    refine WX.callV rfl rfl rfl rfl rfl (fun _ => rfl) rfl (fun w G bs hI hΓ => f241 w n (by omega) a.cache paCacheEntries caCacheEntries (hΓ.get 1 rfl) b.cache pbCacheEntries cbCacheEntries (hΓ.get 7 rfl) ((ok_NodeP hoka).2.1) ((ok_NodeP hokb).2.1)) ?_
    intro hq2
    refine WX.run ttOk rfl ?_
    refine WX.cases 17 rfl (fun h2 => ?_) (fun h2 => ?_)
    · skip
      refine WX.run ttOk rfl ?_
      refine WX.callV rfl rfl rfl rfl rfl (fun _ => rfl) rfl (fun w G bs hI hΓ => f242 w n (by omega) a.pending paPending caPending (hΓ.get 2 rfl) b.pending pbPending cbPending (hΓ.get 8 rfl) ((ok_NodeP hoka).2.2.1) ((ok_NodeP hokb).2.2.1)) ?_
      intro hq3
      refine WX.run ttOk rfl ?_
      refine WX.cases 24 rfl (fun h3 => ?_) (fun h3 => ?_)
      · skip
        refine WX.run ttOk rfl ?_
        refine WX.callV rfl rfl rfl rfl rfl (fun _ => rfl) rfl (fun w G bs hI hΓ => f243 w n (by omega) a.seen paSeen caSeen (hΓ.get 3 rfl) b.seen pbSeen cbSeen (hΓ.get 9 rfl) 244 [] (fun e0_ e1_ => (impl_EqualNodes_c1 e0_ e1_)) (fun w1_ hb_ e0_ x0_ hk0_ hx0_ e1_ x1_ hk1_ hx1_ => f244 w1_ n (by omega) e0_ x0_.1.1 x0_.1.2 (hx0_ _ List.mem_cons_self) e1_ x1_.1.1 x1_.1.2 (hx1_ _ List.mem_cons_self) hk0_ hk1_) ((ok_NodeP hoka).2.2.2.1) ((ok_NodeP hokb).2.2.2.1)) ?_
        intro hq4
        refine WX.run ttOk rfl ?_
        refine WX.cases 31 rfl (fun h4 => ?_) (fun h4 => ?_)
        · skip
          refine WX.run ttOk rfl ?_
          refine WX.callV rfl rfl rfl rfl rfl (fun _ => rfl) rfl (fun w G bs hI hΓ => f245 w n (by omega) a.routes paRoutes caRoutes (hΓ.get 4 rfl) b.routes pbRoutes cbRoutes (hΓ.get 10 rfl) ((ok_NodeP hoka).2.2.2.2.1) ((ok_NodeP hokb).2.2.2.2.1)) ?_
          intro hq5
          refine WX.run ttOk rfl ?_
          refine WX.cases 38 rfl (fun h5 => ?_) (fun h5 => ?_)
          · skip
            refine WX.run ttOk rfl ?_
            refine WX.callV rfl rfl rfl rfl rfl (fun _ => rfl) rfl (fun w G bs hI hΓ => f246 w n (by omega) a.measurements paMeasurements caMeasurements (hΓ.get 5 rfl) b.measurements pbMeasurements cbMeasurements (hΓ.get 11 rfl) ((ok_NodeP hoka).2.2.2.2.2.1) ((ok_NodeP hokb).2.2.2.2.2.1)) ?_
            intro hq6
            refine WX.run ttOk rfl ?_
            refine WX.cases 45 rfl (fun h6 => ?_) (fun h6 => ?_)
            · skip
              refine WX.run ttOk rfl ?_
              have hP1 : impl_EqualNodes a b = (a.dropped == b.dropped) := by simp only [impl_EqualNodes, h1, h2, h3, h4, h5, h6, cond_true, cond_false]
              refine WX.ret ttOk rfl ?_
              intro w1 G bs hI hΓ
              rw [hP1]
              exact ⟨rfl, trivial⟩
            · skip
              refine WX.run ttOk rfl ?_
              have hP2 : impl_EqualNodes a b = false := by simp only [impl_EqualNodes, h1, h2, h3, h4, h5, h6, cond_true, cond_false]
              refine WX.ret ttOk rfl ?_
              intro w1 G bs hI hΓ
              rw [hP2]
              exact ⟨rfl, trivial⟩
          · skip
            refine WX.run ttOk rfl ?_
            have hP3 : impl_EqualNodes a b = false := by simp only [impl_EqualNodes, h1, h2, h3, h4, h5, cond_true, cond_false]
            refine WX.ret ttOk rfl ?_
            intro w1 G bs hI hΓ
            rw [hP3]
            exact ⟨rfl, trivial⟩
        · skip
          refine WX.run ttOk rfl ?_
          have hP4 : impl_EqualNodes a b = false := by simp only [impl_EqualNodes, h1, h2, h3, h4, cond_true, cond_false]
          refine WX.ret ttOk rfl ?_
          intro w1 G bs hI hΓ
          rw [hP4]
          exact ⟨rfl, trivial⟩
      · skip
        refine WX.run ttOk rfl ?_
        have hP5 : impl_EqualNodes a b = false := by simp only [impl_EqualNodes, h1, h2, h3, cond_true, cond_false]
        refine WX.ret ttOk rfl ?_
        intro w1 G bs hI hΓ
        rw [hP5]
        exact ⟨rfl, trivial⟩
    · skip
      refine WX.run ttOk rfl ?_
      have hP6 : impl_EqualNodes a b = false := by simp only [impl_EqualNodes, h1, h2, cond_true, cond_false]
      refine WX.ret ttOk rfl ?_
      intro w1 G bs hI hΓ
      rw [hP6]
      exact ⟨rfl, trivial⟩
  · skip
    refine WX.run ttOk rfl ?_
    have hP7 : impl_EqualNodes a b = false := by simp only [impl_EqualNodes, h1, cond_true, cond_false]
    refine WX.ret ttOk rfl ?_
    intro w1 G bs hI hΓ
    rw [hP7]
    exact ⟨rfl, trivial⟩
theorem f122 (w : World) (n : Nat) (hn : n + 0 ≤ 9) (a : NodeP) (paLocal : Option Addr) (caLocal : Nat) (hpaLocal : RdSl (hp w) paLocal caLocal a.locl) (paCacheEntries : Option Addr) (caCacheEntries : Nat) (hpaCacheEntries : RdSl (hp w) paCacheEntries caCacheEntries a.cache.entries) (paPending : Option Addr) (caPending : Nat) (hpaPending : RdSl (hp w) paPending caPending a.pending) (paSeen : Option Addr) (caSeen : Nat) (hpaSeen : RdSl (hp w) paSeen caSeen a.seen) (paRoutes : Option Addr) (caRoutes : Nat) (hpaRoutes : RdSl (hp w) paRoutes caRoutes a.routes) (paMeasurements : Option Addr) (caMeasurements : Nat) (hpaMeasurements : RdSl (hp w) paMeasurements caMeasurements a.measurements) (b : NodeP) (pbLocal : Option Addr) (cbLocal : Nat) (hpbLocal : RdSl (hp w) pbLocal cbLocal b.locl) (pbCacheEntries : Option Addr) (cbCacheEntries : Nat) (hpbCacheEntries : RdSl (hp w) pbCacheEntries cbCacheEntries b.cache.entries) (pbPending : Option Addr) (cbPending : Nat) (hpbPending : RdSl (hp w) pbPending cbPending b.pending) (pbSeen : Option Addr) (cbSeen : Nat) (hpbSeen : RdSl (hp w) pbSeen cbSeen b.seen) (pbRoutes : Option Addr) (cbRoutes : Nat) (hpbRoutes : RdSl (hp w) pbRoutes cbRoutes b.routes) (pbMeasurements : Option Addr) (cbMeasurements : Nat) (hpbMeasurements : RdSl (hp w) pbMeasurements cbMeasurements b.measurements) (hoka : GoT.ok n a) (hokb : GoT.ok n b) :
    Does Tryz.prog 122 #[.agg #[.slice paLocal ((a.locl).length) caLocal, .int .i64 (a.cache.capacity), .slice paCacheEntries ((a.cache.entries).length) caCacheEntries, .slice paPending ((a.pending).length) caPending, .slice paSeen ((a.seen).length) caSeen, .slice paRoutes ((a.routes).length) caRoutes, .slice paMeasurements ((a.measurements).length) caMeasurements, .int .i64 (a.dropped)], .agg #[.slice pbLocal ((b.locl).length) cbLocal, .int .i64 (b.cache.capacity), .slice pbCacheEntries ((b.cache.entries).length) cbCacheEntries, .slice pbPending ((b.pending).length) cbPending, .slice pbSeen ((b.seen).length) cbSeen, .slice pbRoutes ((b.routes).length) cbRoutes, .slice pbMeasurements ((b.measurements).length) cbMeasurements, .int .i64 (b.dropped)]] w emp (fun (rv : Value) (_ : World) => rv = .bool (spec_EqualNodes a b) ∧ True) := by
  have hbP := bd_pos n
  have hbB := bd_big (n := n) (by omega)
  refine WX.enter (tt := tt) (Γ := [(0, MF.rs .stb paLocal caLocal a.locl), (1, MF.rs .stb paCacheEntries caCacheEntries a.cache.entries), (2, MF.rs .stb paPending caPending a.pending), (3, MF.rs .stb paSeen caSeen a.seen), (4, MF.rs .stb paRoutes caRoutes a.routes), (5, MF.rs .stb paMeasurements caMeasurements a.measurements), (6, MF.rs .stb pbLocal cbLocal b.locl), (7, MF.rs .stb pbCacheEntries cbCacheEntries b.cache.entries), (8, MF.rs .stb pbPending cbPending b.pending), (9, MF.rs .stb pbSeen cbSeen b.seen), (10, MF.rs .stb pbRoutes cbRoutes b.routes), (11, MF.rs .stb pbMeasurements cbMeasurements b.measurements)]) Tryz.func122 rfl (by kernel_rfl) rfl (allS_cons rfl hpaLocal (allS_cons rfl hpaCacheEntries (allS_cons rfl hpaPending (allS_cons rfl hpaSeen (allS_cons rfl hpaRoutes (allS_cons rfl hpaMeasurements (allS_cons rfl hpbLocal (allS_cons rfl hpbCacheEntries (allS_cons rfl hpbPending (allS_cons rfl hpbSeen (allS_cons rfl hpbRoutes (allS_cons rfl hpbMeasurements allS_nil)))))))))))) ?_
  refine WX.run ttOk rfl ?_
  refine WX.callV rfl rfl rfl rfl rfl (fun _ => rfl) rfl (fun w G bs hI hΓ => f219 w n (by omega) a.locl paLocal caLocal (hΓ.get 0 rfl) b.locl pbLocal cbLocal (hΓ.get 6 rfl) ((ok_NodeP hoka).1) ((ok_NodeP hokb).1)) ?_
  intro hq1
  refine WX.run ttOk rfl ?_
  refine WX.cases 10 rfl (fun h1 => ?_) (fun h1 => ?_)
  · skip
    refine WX.run ttOk rfl ?_
    refine WX.callV rfl rfl rfl rfl rfl (fun _ => rfl) rfl (fun w G bs hI hΓ => f221 w n (by omega) a.cache paCacheEntries caCacheEntries (hΓ.get 1 rfl) b.cache pbCacheEntries cbCacheEntries (hΓ.get 7 rfl) ((ok_NodeP hoka).2.1) ((ok_NodeP hokb).2.1)) ?_
    intro hq2
    refine WX.run ttOk rfl ?_
    refine WX.cases 17 rfl (fun h2 => ?_) (fun h2 => ?_)
    · skip
      refine WX.run ttOk rfl ?_
      refine WX.callV rfl rfl rfl rfl rfl (fun _ => rfl) rfl (fun w G bs hI hΓ => f222 w n (by omega) a.pending paPending caPending (hΓ.get 2 rfl) b.pending pbPending cbPending (hΓ.get 8 rfl) ((ok_NodeP hoka).2.2.1) ((ok_NodeP hokb).2.2.1)) ?_
      intro hq3
      refine WX.run ttOk rfl ?_
      refine WX.cases 24 rfl (fun h3 => ?_) (fun h3 => ?_)
      · skip
        refine WX.run ttOk rfl ?_
        refine WX.callV rfl rfl rfl rfl rfl (fun _ => rfl) rfl (fun w G bs hI hΓ => f223 w n (by omega) a.seen paSeen caSeen (hΓ.get 3 rfl) b.seen pbSeen cbSeen (hΓ.get 9 rfl) ((ok_NodeP hoka).2.2.2.1) ((ok_NodeP hokb).2.2.2.1)) ?_
        intro hq4
        refine WX.run ttOk rfl ?_
        refine WX.cases 31 rfl (fun h4 => ?_) (fun h4 => ?_)
        · skip
          refine WX.run ttOk rfl ?_
          refine WX.callV rfl rfl rfl rfl rfl (fun _ => rfl) rfl (fun w G bs hI hΓ => f224 w n (by omega) a.routes paRoutes caRoutes (hΓ.get 4 rfl) b.routes pbRoutes cbRoutes (hΓ.get 10 rfl) ((ok_NodeP hoka).2.2.2.2.1) ((ok_NodeP hokb).2.2.2.2.1)) ?_
          intro hq5
          refine WX.run ttOk rfl ?_
          refine WX.cases 38 rfl (fun h5 => ?_) (fun h5 => ?_)
          · skip
            refine WX.run ttOk rfl ?_
            refine WX.callV rfl rfl rfl rfl rfl (fun _ => rfl) rfl (fun w G bs hI hΓ => f225 w n (by omega) a.measurements paMeasurements caMeasurements (hΓ.get 5 rfl) b.measurements pbMeasurements cbMeasurements (hΓ.get 11 rfl) ((ok_NodeP hoka).2.2.2.2.2.1) ((ok_NodeP hokb).2.2.2.2.2.1)) ?_
            intro hq6
            refine WX.run ttOk rfl ?_
            refine WX.cases 45 rfl (fun h6 => ?_) (fun h6 => ?_)
            · skip
              refine WX.run ttOk rfl ?_
              have hP1 : spec_EqualNodes a b = (a.dropped == b.dropped) := by simp only [spec_EqualNodes, h1, h2, h3, h4, h5, h6, cond_true, cond_false]
              refine WX.ret ttOk rfl ?_
              intro w1 G bs hI hΓ
              rw [hP1]
              exact ⟨rfl, trivial⟩
            · skip
              refine WX.run ttOk rfl ?_
              have hP2 : spec_EqualNodes a b = false := by simp only [spec_EqualNodes, h1, h2, h3, h4, h5, h6, cond_true, cond_false]
              refine WX.ret ttOk rfl ?_
              intro w1 G bs hI hΓ
              rw [hP2]
              exact ⟨rfl, trivial⟩
          · skip
            refine WX.run ttOk rfl ?_
            have hP3 : spec_EqualNodes a b = false := by simp only [spec_EqualNodes, h1, h2, h3, h4, h5, cond_true, cond_false]
            refine WX.ret ttOk rfl ?_
            intro w1 G bs hI hΓ
            rw [hP3]
            exact ⟨rfl, trivial⟩
        · skip
          refine WX.run ttOk rfl ?_
          have hP4 : spec_EqualNodes a b = false := by simp only [spec_EqualNodes, h1, h2, h3, h4, cond_true, cond_false]
          refine WX.ret ttOk rfl ?_
          intro w1 G bs hI hΓ
          rw [hP4]
          exact ⟨rfl, trivial⟩
      · skip
        refine WX.run ttOk rfl ?_
        have hP5 : spec_EqualNodes a b = false := by simp only [spec_EqualNodes, h1, h2, h3, cond_true, cond_false]
        refine WX.ret ttOk rfl ?_
        intro w1 G bs hI hΓ
        rw [hP5]
        exact ⟨rfl, trivial⟩
    · skip
      refine WX.run ttOk rfl ?_
      have hP6 : spec_EqualNodes a b = false := by simp only [spec_EqualNodes, h1, h2, cond_true, cond_false]
      refine WX.ret ttOk rfl ?_
      intro w1 G bs hI hΓ
      rw [hP6]
      exact ⟨rfl, trivial⟩
  · skip
    refine WX.run ttOk rfl ?_
    have hP7 : spec_EqualNodes a b = false := by simp only [spec_EqualNodes, h1, cond_true, cond_false]
    refine WX.ret ttOk rfl ?_
    intro w1 G bs hI hΓ
    rw [hP7]
    exact ⟨rfl, trivial⟩
theorem f138 (w : World) (n : Nat) (hn : n + 0 ≤ 9) (a : PacketInFlight) (paInterestName : Option Addr) (caInterestName : Nat) (hpaInterestName : RdSl (hp w) paInterestName caInterestName a.interest.name.parts) (paDataName : Option Addr) (caDataName : Nat) (hpaDataName : RdSl (hp w) paDataName caDataName a.data.name.parts) (paDataContent : Option Addr) (caDataContent : Nat) (hpaDataContent : RdSl (hp w) paDataContent caDataContent a.data.content) (paDataKeyName : Option Addr) (caDataKeyName : Nat) (hpaDataKeyName : RdSl (hp w) paDataKeyName caDataKeyName a.data.keyName.parts) (b : PacketInFlight) (pbInterestName : Option Addr) (cbInterestName : Nat) (hpbInterestName : RdSl (hp w) pbInterestName cbInterestName b.interest.name.parts) (pbDataName : Option Addr) (cbDataName : Nat) (hpbDataName : RdSl (hp w) pbDataName cbDataName b.data.name.parts) (pbDataContent : Option Addr) (cbDataContent : Nat) (hpbDataContent : RdSl (hp w) pbDataContent cbDataContent b.data.content) (pbDataKeyName : Option Addr) (cbDataKeyName : Nat) (hpbDataKeyName : RdSl (hp w) pbDataKeyName cbDataKeyName b.data.keyName.parts) (hoka : GoT.ok n a) (hokb : GoT.ok n b) :
    Does Tryz.prog 138 #[.agg #[.int .i64 (a.to), .int .i64 (a.face), .bool a.isInterest, .slice paInterestName ((a.interest.name.parts).length) caInterestName, .int .i64 (a.interest.nonce), .int .i64 (a.interest.hopLimit), .int .i64 (a.interest.lifetime), .slice paDataName ((a.data.name.parts).length) caDataName, .slice paDataContent ((a.data.content).length) caDataContent, .slice paDataKeyName ((a.data.keyName.parts).length) caDataKeyName, .int .i64 (a.data.freshUntil), .int .i64 (a.data.signature)], .agg #[.int .i64 (b.to), .int .i64 (b.face), .bool b.isInterest, .slice pbInterestName ((b.interest.name.parts).length) cbInterestName, .int .i64 (b.interest.nonce), .int .i64 (b.interest.hopLimit), .int .i64 (b.interest.lifetime), .slice pbDataName ((b.data.name.parts).length) cbDataName, .slice pbDataContent ((b.data.content).length) cbDataContent, .slice pbDataKeyName ((b.data.keyName.parts).length) cbDataKeyName, .int .i64 (b.data.freshUntil), .int .i64 (b.data.signature)]] w emp (fun (rv : Value) (_ : World) => rv = .bool (impl_equalPackets a b) ∧ True) := by
  have hbP := bd_pos n
  have hbB := bd_big (n := n) (by omega)
  refine WX.enter (tt := tt) (Γ := [(0, MF.rs .stb paInterestName caInterestName a.interest.name.parts), (1, MF.rs .stb paDataName caDataName a.data.name.parts), (2, MF.rs .stb paDataContent caDataContent a.data.content), (3, MF.rs .stb paDataKeyName caDataKeyName a.data.keyName.parts), (4, MF.rs .stb pbInterestName cbInterestName b.interest.name.parts), (5, MF.rs .stb pbDataName cbDataName b.data.name.parts), (6, MF.rs .stb pbDataContent cbDataContent b.data.content), (7, MF.rs .stb pbDataKeyName cbDataKeyName b.data.keyName.parts)]) Tryz.func138 rfl (by kernel_rfl) rfl (allS_cons rfl hpaInterestName (allS_cons rfl hpaDataName (allS_cons rfl hpaDataContent (allS_cons rfl hpaDataKeyName (allS_cons rfl hpbInterestName (allS_cons rfl hpbDataName (allS_cons rfl hpbDataContent (allS_cons rfl hpbDataKeyName allS_nil)))))))) ?_
  refine WX.run ttOk rfl ?_
  refine WX.cases 10 rfl (fun h1 => ?_) (fun h1 => ?_)
  · skip
    have h1d := B.et h1
    refine WX.run ttOk rfl ?_
    refine WX.cases 17 rfl (fun h2 => ?_) (fun h2 => ?_)
    · skip
      have h2d := B.et h2
      refine WX.run ttOk rfl ?_
      refine WX.see rfl rfl rfl (fun _ hΓ => looks_beq ttOk rfl rfl rfl rfl rfl rfl) ?_
      refine WX.run ttOk rfl ?_
      refine WX.cases 24 rfl (fun h3 => ?_) (fun h3 => ?_)
      · skip
        refine WX.run ttOk rfl ?_
        refine WX.callV rfl rfl rfl rfl rfl (fun _ => rfl) rfl (fun w G bs hI hΓ => f247 w n (by omega) a.interest paInterestName caInterestName (hΓ.get 0 rfl) b.interest pbInterestName cbInterestName (hΓ.get 4 rfl) ((ok_PacketInFlight hoka).2.2.2.1) ((ok_PacketInFlight hokb).2.2.2.1)) ?_
        intro hq1
        refine WX.run ttOk rfl ?_
        refine WX.cases 31 rfl (fun h4 => ?_) (fun h4 => ?_)
        · skip
          refine WX.run ttOk rfl ?_
          refine WX.callV rfl rfl rfl rfl rfl (fun _ => rfl) rfl (fun w G bs hI hΓ => f238 w n (by omega) a.data paDataName caDataName (hΓ.get 1 rfl) paDataContent caDataContent (hΓ.get 2 rfl) paDataKeyName caDataKeyName (hΓ.get 3 rfl) b.data pbDataName cbDataName (hΓ.get 5 rfl) pbDataContent cbDataContent (hΓ.get 6 rfl) pbDataKeyName cbDataKeyName (hΓ.get 7 rfl) ((ok_PacketInFlight hoka).2.2.2.2) ((ok_PacketInFlight hokb).2.2.2.2)) ?_
          intro hq2
          refine WX.run ttOk rfl ?_
          have hP1 : impl_equalPackets a b = (impl_EqualData a.data b.data) := by simp only [impl_equalPackets, h1, h2, h3, h4, cond_true, cond_false]
          refine WX.ret ttOk rfl ?_
          intro w1 G bs hI hΓ
          rw [hP1]
          exact ⟨rfl, trivial⟩
        · skip
          refine WX.run ttOk rfl ?_
          have hP2 : impl_equalPackets a b = false := by simp only [impl_equalPackets, h1, h2, h3, h4, cond_true, cond_false]
          refine WX.ret ttOk rfl ?_
          intro w1 G bs hI hΓ
          rw [hP2]
          exact ⟨rfl, trivial⟩
      · skip
        refine WX.run ttOk rfl ?_
        have hP3 : impl_equalPackets a b = false := by simp only [impl_equalPackets, h1, h2, h3, cond_true, cond_false]
        refine WX.ret ttOk rfl ?_
        intro w1 G bs hI hΓ
        rw [hP3]
        exact ⟨rfl, trivial⟩
    · skip
      have h2d := B.ef h2
      refine WX.run ttOk rfl ?_
      have hP4 : impl_equalPackets a b = false := by simp only [impl_equalPackets, h1, h2, cond_true, cond_false]
      refine WX.ret ttOk rfl ?_
      intro w1 G bs hI hΓ
      rw [hP4]
      exact ⟨rfl, trivial⟩
  · skip
    have h1d := B.ef h1
    refine WX.run ttOk rfl ?_
    have hP5 : impl_equalPackets a b = false := by simp only [impl_equalPackets, h1, cond_true, cond_false]
    refine WX.ret ttOk rfl ?_
    intro w1 G bs hI hΓ
    rw [hP5]
    exact ⟨rfl, trivial⟩
theorem f123 (w : World) (n : Nat) (hn : n + 0 ≤ 9) (a : PacketInFlight) (paInterestName : Option Addr) (caInterestName : Nat) (hpaInterestName : RdSl (hp w) paInterestName caInterestName a.interest.name.parts) (paDataName : Option Addr) (caDataName : Nat) (hpaDataName : RdSl (hp w) paDataName caDataName a.data.name.parts) (paDataContent : Option Addr) (caDataContent : Nat) (hpaDataContent : RdSl (hp w) paDataContent caDataContent a.data.content) (paDataKeyName : Option Addr) (caDataKeyName : Nat) (hpaDataKeyName : RdSl (hp w) paDataKeyName caDataKeyName a.data.keyName.parts) (b : PacketInFlight) (pbInterestName : Option Addr) (cbInterestName : Nat) (hpbInterestName : RdSl (hp w) pbInterestName cbInterestName b.interest.name.parts) (pbDataName : Option Addr) (cbDataName : Nat) (hpbDataName : RdSl (hp w) pbDataName cbDataName b.data.name.parts) (pbDataContent : Option Addr) (cbDataContent : Nat) (hpbDataContent : RdSl (hp w) pbDataContent cbDataContent b.data.content) (pbDataKeyName : Option Addr) (cbDataKeyName : Nat) (hpbDataKeyName : RdSl (hp w) pbDataKeyName cbDataKeyName b.data.keyName.parts) (hoka : GoT.ok n a) (hokb : GoT.ok n b) :
    Does Tryz.prog 123 #[.agg #[.int .i64 (a.to), .int .i64 (a.face), .bool a.isInterest, .slice paInterestName ((a.interest.name.parts).length) caInterestName, .int .i64 (a.interest.nonce), .int .i64 (a.interest.hopLimit), .int .i64 (a.interest.lifetime), .slice paDataName ((a.data.name.parts).length) caDataName, .slice paDataContent ((a.data.content).length) caDataContent, .slice paDataKeyName ((a.data.keyName.parts).length) caDataKeyName, .int .i64 (a.data.freshUntil), .int .i64 (a.data.signature)], .agg #[.int .i64 (b.to), .int .i64 (b.face), .bool b.isInterest, .slice pbInterestName ((b.interest.name.parts).length) cbInterestName, .int .i64 (b.interest.nonce), .int .i64 (b.interest.hopLimit), .int .i64 (b.interest.lifetime), .slice pbDataName ((b.data.name.parts).length) cbDataName, .slice pbDataContent ((b.data.content).length) cbDataContent, .slice pbDataKeyName ((b.data.keyName.parts).length) cbDataKeyName, .int .i64 (b.data.freshUntil), .int .i64 (b.data.signature)]] w emp (fun (rv : Value) (_ : World) => rv = .bool (spec_l32SameFly a b) ∧ True) := by
  have hbP := bd_pos n
  have hbB := bd_big (n := n) (by omega)
  refine WX.enter (tt := tt) (Γ := [(0, MF.rs .stb paInterestName caInterestName a.interest.name.parts), (1, MF.rs .stb paDataName caDataName a.data.name.parts), (2, MF.rs .stb paDataContent caDataContent a.data.content), (3, MF.rs .stb paDataKeyName caDataKeyName a.data.keyName.parts), (4, MF.rs .stb pbInterestName cbInterestName b.interest.name.parts), (5, MF.rs .stb pbDataName cbDataName b.data.name.parts), (6, MF.rs .stb pbDataContent cbDataContent b.data.content), (7, MF.rs .stb pbDataKeyName cbDataKeyName b.data.keyName.parts)]) Tryz.func123 rfl (by kernel_rfl) rfl (allS_cons rfl hpaInterestName (allS_cons rfl hpaDataName (allS_cons rfl hpaDataContent (allS_cons rfl hpaDataKeyName (allS_cons rfl hpbInterestName (allS_cons rfl hpbDataName (allS_cons rfl hpbDataContent (allS_cons rfl hpbDataKeyName allS_nil)))))))) ?_
  refine WX.run ttOk rfl ?_
  refine WX.cases 10 rfl (fun h1 => ?_) (fun h1 => ?_)
  · skip
    have h1d := B.et h1
    refine WX.run ttOk rfl ?_
    refine WX.cases 17 rfl (fun h2 => ?_) (fun h2 => ?_)
    · skip
      have h2d := B.et h2
      refine WX.run ttOk rfl ?_
      refine WX.see rfl rfl rfl (fun _ hΓ => looks_beq ttOk rfl rfl rfl rfl rfl rfl) ?_
      refine WX.run ttOk rfl ?_
      refine WX.cases 24 rfl (fun h3 => ?_) (fun h3 => ?_)
      · skip
        refine WX.run ttOk rfl ?_
        refine WX.callV rfl rfl rfl rfl rfl (fun _ => rfl) rfl (fun w G bs hI hΓ => f226 w n (by omega) a.interest paInterestName caInterestName (hΓ.get 0 rfl) b.interest pbInterestName cbInterestName (hΓ.get 4 rfl) ((ok_PacketInFlight hoka).2.2.2.1) ((ok_PacketInFlight hokb).2.2.2.1)) ?_
        intro hq1
        refine WX.run ttOk rfl ?_
        refine WX.cases 31 rfl (fun h4 => ?_) (fun h4 => ?_)
        · skip
          refine WX.run ttOk rfl ?_
          refine WX.callV rfl rfl rfl rfl rfl (fun _ => rfl) rfl (fun w G bs hI hΓ => f227 w n (by omega) a.data paDataName caDataName (hΓ.get 1 rfl) paDataContent caDataContent (hΓ.get 2 rfl) paDataKeyName caDataKeyName (hΓ.get 3 rfl) b.data pbDataName cbDataName (hΓ.get 5 rfl) pbDataContent cbDataContent (hΓ.get 6 rfl) pbDataKeyName cbDataKeyName (hΓ.get 7 rfl) ((ok_PacketInFlight hoka).2.2.2.2) ((ok_PacketInFlight hokb).2.2.2.2)) ?_
          intro hq2
          refine WX.run ttOk rfl ?_
          have hP1 : spec_l32SameFly a b = (spec_EqualData a.data b.data) := by simp only [spec_l32SameFly, h1, h2, h3, h4, cond_true, cond_false]
          refine WX.ret ttOk rfl ?_
          intro w1 G bs hI hΓ
          rw [hP1]
          exact ⟨rfl, trivial⟩
        · skip
          refine WX.run ttOk rfl ?_
          have hP2 : spec_l32SameFly a b = false := by simp only [spec_l32SameFly, h1, h2, h3, h4, cond_true, cond_false]
          refine WX.ret ttOk rfl ?_
          intro w1 G bs hI hΓ
          rw [hP2]
          exact ⟨rfl, trivial⟩
      · skip
        refine WX.run ttOk rfl ?_
        have hP3 : spec_l32SameFly a b = false := by simp only [spec_l32SameFly, h1, h2, h3, cond_true, cond_false]
        refine WX.ret ttOk rfl ?_
        intro w1 G bs hI hΓ
        rw [hP3]
        exact ⟨rfl, trivial⟩
    · skip
      have h2d := B.ef h2
      refine WX.run ttOk rfl ?_
      have hP4 : spec_l32SameFly a b = false := by simp only [spec_l32SameFly, h1, h2, cond_true, cond_false]
      refine WX.ret ttOk rfl ?_
      intro w1 G bs hI hΓ
      rw [hP4]
      exact ⟨rfl, trivial⟩
  · skip
    have h1d := B.ef h1
    refine WX.run ttOk rfl ?_
    have hP5 : spec_l32SameFly a b = false := by simp only [spec_l32SameFly, h1, cond_true, cond_false]
    refine WX.ret ttOk rfl ?_
    intro w1 G bs hI hΓ
    rw [hP5]
    exact ⟨rfl, trivial⟩
theorem f46 (w : World) (n : Nat) (hn : n + 0 ≤ 9) (a : Network) (paTopologyLinks : Option Addr) (caTopologyLinks : Nat) (hpaTopologyLinks : RdSl (hp w) paTopologyLinks caTopologyLinks a.topology.links) (paTrustKeys : Option Addr) (caTrustKeys : Nat) (hpaTrustKeys : RdSl (hp w) paTrustKeys caTrustKeys a.trust.keys) (paTrustRules : Option Addr) (caTrustRules : Nat) (hpaTrustRules : RdSl (hp w) paTrustRules caTrustRules a.trust.rules) (paTrustAnchors : Option Addr) (caTrustAnchors : Nat) (hpaTrustAnchors : RdSl (hp w) paTrustAnchors caTrustAnchors a.trust.anchors) (paTrustCertificates : Option Addr) (caTrustCertificates : Nat) (hpaTrustCertificates : RdSl (hp w) paTrustCertificates caTrustCertificates a.trust.certificates) (paProducers : Option Addr) (caProducers : Nat) (hpaProducers : RdSl (hp w) paProducers caProducers a.producers) (paNodes : Option Addr) (caNodes : Nat) (hpaNodes : RdSl (hp w) paNodes caNodes a.nodes) (paFailedLinks : Option Addr) (caFailedLinks : Nat) (hpaFailedLinks : RdSl (hp w) paFailedLinks caFailedLinks a.failedLinks) (paInFlight : Option Addr) (caInFlight : Nat) (hpaInFlight : RdSl (hp w) paInFlight caInFlight a.inFlight) (paConsumers : Option Addr) (caConsumers : Nat) (hpaConsumers : RdSl (hp w) paConsumers caConsumers a.consumers) (b : Network) (pbTopologyLinks : Option Addr) (cbTopologyLinks : Nat) (hpbTopologyLinks : RdSl (hp w) pbTopologyLinks cbTopologyLinks b.topology.links) (pbTrustKeys : Option Addr) (cbTrustKeys : Nat) (hpbTrustKeys : RdSl (hp w) pbTrustKeys cbTrustKeys b.trust.keys) (pbTrustRules : Option Addr) (cbTrustRules : Nat) (hpbTrustRules : RdSl (hp w) pbTrustRules cbTrustRules b.trust.rules) (pbTrustAnchors : Option Addr) (cbTrustAnchors : Nat) (hpbTrustAnchors : RdSl (hp w) pbTrustAnchors cbTrustAnchors b.trust.anchors) (pbTrustCertificates : Option Addr) (cbTrustCertificates : Nat) (hpbTrustCertificates : RdSl (hp w) pbTrustCertificates cbTrustCertificates b.trust.certificates) (pbProducers : Option Addr) (cbProducers : Nat) (hpbProducers : RdSl (hp w) pbProducers cbProducers b.producers) (pbNodes : Option Addr) (cbNodes : Nat) (hpbNodes : RdSl (hp w) pbNodes cbNodes b.nodes) (pbFailedLinks : Option Addr) (cbFailedLinks : Nat) (hpbFailedLinks : RdSl (hp w) pbFailedLinks cbFailedLinks b.failedLinks) (pbInFlight : Option Addr) (cbInFlight : Nat) (hpbInFlight : RdSl (hp w) pbInFlight cbInFlight b.inFlight) (pbConsumers : Option Addr) (cbConsumers : Nat) (hpbConsumers : RdSl (hp w) pbConsumers cbConsumers b.consumers) (hoka : GoT.ok n a) (hokb : GoT.ok n b) :
    Does Tryz.prog 46 #[.agg #[.int .i64 (a.topology.size), .slice paTopologyLinks ((a.topology.links).length) caTopologyLinks, .slice paTrustKeys ((a.trust.keys).length) caTrustKeys, .slice paTrustRules ((a.trust.rules).length) caTrustRules, .slice paTrustAnchors ((a.trust.anchors).length) caTrustAnchors, .slice paTrustCertificates ((a.trust.certificates).length) caTrustCertificates, .slice paProducers ((a.producers).length) caProducers, .slice paNodes ((a.nodes).length) caNodes, .int .i64 (a.downNodes), .slice paFailedLinks ((a.failedLinks).length) caFailedLinks, .slice paInFlight ((a.inFlight).length) caInFlight, .slice paConsumers ((a.consumers).length) caConsumers, .int .i64 (a.now), .int .i64 (a.dropped)], .agg #[.int .i64 (b.topology.size), .slice pbTopologyLinks ((b.topology.links).length) cbTopologyLinks, .slice pbTrustKeys ((b.trust.keys).length) cbTrustKeys, .slice pbTrustRules ((b.trust.rules).length) cbTrustRules, .slice pbTrustAnchors ((b.trust.anchors).length) cbTrustAnchors, .slice pbTrustCertificates ((b.trust.certificates).length) cbTrustCertificates, .slice pbProducers ((b.producers).length) cbProducers, .slice pbNodes ((b.nodes).length) cbNodes, .int .i64 (b.downNodes), .slice pbFailedLinks ((b.failedLinks).length) cbFailedLinks, .slice pbInFlight ((b.inFlight).length) cbInFlight, .slice pbConsumers ((b.consumers).length) cbConsumers, .int .i64 (b.now), .int .i64 (b.dropped)]] w emp (fun (rv : Value) (_ : World) => rv = .bool (impl_EqualNetworks a b) ∧ True) := by
  have hbP := bd_pos n
  have hbB := bd_big (n := n) (by omega)
  refine WX.enter (tt := tt) (Γ := [(0, MF.rs .stb paTopologyLinks caTopologyLinks a.topology.links), (1, MF.rs .stb paTrustKeys caTrustKeys a.trust.keys), (2, MF.rs .stb paTrustRules caTrustRules a.trust.rules), (3, MF.rs .stb paTrustAnchors caTrustAnchors a.trust.anchors), (4, MF.rs .stb paTrustCertificates caTrustCertificates a.trust.certificates), (5, MF.rs .stb paProducers caProducers a.producers), (6, MF.rs .stb paNodes caNodes a.nodes), (7, MF.rs .stb paFailedLinks caFailedLinks a.failedLinks), (8, MF.rs .stb paInFlight caInFlight a.inFlight), (9, MF.rs .stb paConsumers caConsumers a.consumers), (10, MF.rs .stb pbTopologyLinks cbTopologyLinks b.topology.links), (11, MF.rs .stb pbTrustKeys cbTrustKeys b.trust.keys), (12, MF.rs .stb pbTrustRules cbTrustRules b.trust.rules), (13, MF.rs .stb pbTrustAnchors cbTrustAnchors b.trust.anchors), (14, MF.rs .stb pbTrustCertificates cbTrustCertificates b.trust.certificates), (15, MF.rs .stb pbProducers cbProducers b.producers), (16, MF.rs .stb pbNodes cbNodes b.nodes), (17, MF.rs .stb pbFailedLinks cbFailedLinks b.failedLinks), (18, MF.rs .stb pbInFlight cbInFlight b.inFlight), (19, MF.rs .stb pbConsumers cbConsumers b.consumers)]) Tryz.func46 rfl (by kernel_rfl) rfl (allS_cons rfl hpaTopologyLinks (allS_cons rfl hpaTrustKeys (allS_cons rfl hpaTrustRules (allS_cons rfl hpaTrustAnchors (allS_cons rfl hpaTrustCertificates (allS_cons rfl hpaProducers (allS_cons rfl hpaNodes (allS_cons rfl hpaFailedLinks (allS_cons rfl hpaInFlight (allS_cons rfl hpaConsumers (allS_cons rfl hpbTopologyLinks (allS_cons rfl hpbTrustKeys (allS_cons rfl hpbTrustRules (allS_cons rfl hpbTrustAnchors (allS_cons rfl hpbTrustCertificates (allS_cons rfl hpbProducers (allS_cons rfl hpbNodes (allS_cons rfl hpbFailedLinks (allS_cons rfl hpbInFlight (allS_cons rfl hpbConsumers allS_nil)))))))))))))))))))) ?_
  refine WX.run ttOk rfl ?_
  refine WX.cases 12 rfl (fun h1 => ?_) (fun h1 => ?_)
  · skip
    have h1d := B.nt' h1
    refine WX.run ttOk rfl ?_
    have hP1 : impl_EqualNetworks a b = false := by simp only [impl_EqualNetworks, h1, cond_true, cond_false]
    refine WX.ret ttOk rfl ?_
    intro w1 G bs hI hΓ
    rw [hP1]
    exact ⟨rfl, trivial⟩
  · skip
    have h1d := B.nf' h1
    refine WX.run ttOk rfl ?_
    refine WX.callV rfl rfl rfl rfl rfl (fun _ => rfl) rfl (fun w G bs hI hΓ => f131 w n (by omega) a.topology.links paTopologyLinks caTopologyLinks (hΓ.get 0 rfl) b.topology.links pbTopologyLinks cbTopologyLinks (hΓ.get 10 rfl) ((ok_Topology (ok_Network hoka).1).2) ((ok_Topology (ok_Network hokb).1).2)) ?_
    intro hq1
    refine WX.run ttOk rfl ?_
    refine WX.cases 22 rfl (fun h2 => ?_) (fun h2 => ?_)
    · skip
      have h2d := (B.nt h2)
      refine WX.run ttOk rfl ?_
      have hP2 : impl_EqualNetworks a b = false := by simp only [impl_EqualNetworks, h1, h2, cond_true, cond_false]
      refine WX.ret ttOk rfl ?_
      intro w1 G bs hI hΓ
      rw [hP2]
      exact ⟨rfl, trivial⟩
    · skip
      have h2d := (B.nf h2)
      refine WX.run ttOk rfl ?_
      refine WX.callV rfl rfl rfl rfl rfl (fun _ => rfl) rfl (fun w G bs hI hΓ => f132 w n (by omega) a.trust paTrustKeys caTrustKeys (hΓ.get 1 rfl) paTrustRules caTrustRules (hΓ.get 2 rfl) paTrustAnchors caTrustAnchors (hΓ.get 3 rfl) paTrustCertificates caTrustCertificates (hΓ.get 4 rfl) b.trust pbTrustKeys cbTrustKeys (hΓ.get 11 rfl) pbTrustRules cbTrustRules (hΓ.get 12 rfl) pbTrustAnchors cbTrustAnchors (hΓ.get 13 rfl) pbTrustCertificates cbTrustCertificates (hΓ.get 14 rfl) ((ok_Network hoka).2.1) ((ok_Network hokb).2.1)) ?_
      intro hq2
      refine WX.run ttOk rfl ?_
      refine WX.cases 30 rfl (fun h3 => ?_) (fun h3 => ?_)
      · skip
        have h3d := (B.nt h3)
        refine WX.run ttOk rfl ?_
        have hP3 : impl_EqualNetworks a b = false := by simp only [impl_EqualNetworks, h1, h2, h3, cond_true, cond_false]
        refine WX.ret ttOk rfl ?_
        intro w1 G bs hI hΓ
        rw [hP3]
        exact ⟨rfl, trivial⟩
      · skip
        have h3d := (B.nf h3)
        refine WX.run ttOk rfl ?_
        refine WX.callV rfl rfl rfl rfl rfl (fun _ => rfl) rfl (fun w G bs hI hΓ => f133 w n (by omega) a.producers paProducers caProducers (hΓ.get 5 rfl) b.producers pbProducers cbProducers (hΓ.get 15 rfl) ((ok_Network hoka).2.2.1) ((ok_Network hokb).2.2.1)) ?_
        intro hq3
        refine WX.run ttOk rfl ?_
        refine WX.cases 38 rfl (fun h4 => ?_) (fun h4 => ?_)
        · skip
          have h4d := (B.nt h4)
          refine WX.run ttOk rfl ?_
          have hP4 : impl_EqualNetworks a b = false := by simp only [impl_EqualNetworks, h1, h2, h3, h4, cond_true, cond_false]
          refine WX.ret ttOk rfl ?_
          intro w1 G bs hI hΓ
          rw [hP4]
          exact ⟨rfl, trivial⟩
        · skip
          have h4d := (B.nf h4)
          refine WX.run ttOk rfl ?_
          refine WX.cases 45 rfl (fun h5 => ?_) (fun h5 => ?_)
          · skip
            have h5d := B.nt' h5
            refine WX.run ttOk rfl ?_
            have hP5 : impl_EqualNetworks a b = false := by simp only [impl_EqualNetworks, h1, h2, h3, h4, h5, cond_true, cond_false]
            refine WX.ret ttOk rfl ?_
            intro w1 G bs hI hΓ
            rw [hP5]
            exact ⟨rfl, trivial⟩
          · skip
            have h5d := B.nf' h5
            refine WX.run ttOk rfl ?_
            refine WX.callV rfl rfl rfl rfl rfl (fun _ => rfl) rfl (fun w G bs hI hΓ => f134 w n (by omega) a.failedLinks paFailedLinks caFailedLinks (hΓ.get 7 rfl) b.failedLinks pbFailedLinks cbFailedLinks (hΓ.get 17 rfl) ((ok_Network hoka).2.2.2.2.2.1) ((ok_Network hokb).2.2.2.2.2.1)) ?_
            intro hq4
            refine WX.run ttOk rfl ?_
            refine WX.cases 53 rfl (fun h6 => ?_) (fun h6 => ?_)
            · skip
              have h6d := (B.nt h6)
              refine WX.run ttOk rfl ?_
              have hP6 : impl_EqualNetworks a b = false := by simp only [impl_EqualNetworks, h1, h2, h3, h4, h5, h6, cond_true, cond_false]
              refine WX.ret ttOk rfl ?_
              intro w1 G bs hI hΓ
              rw [hP6]
              exact ⟨rfl, trivial⟩
            · skip
              have h6d := (B.nf h6)
              refine WX.run ttOk rfl ?_
              refine WX.cases 60 rfl (fun h7 => ?_) (fun h7 => ?_)
              · skip
                have h7d := B.nt' h7
                refine WX.run ttOk rfl ?_
                have hP7 : impl_EqualNetworks a b = false := by simp only [impl_EqualNetworks, h1, h2, h3, h4, h5, h6, h7, cond_true, cond_false]
                refine WX.ret ttOk rfl ?_
                intro w1 G bs hI hΓ
                rw [hP7]
                exact ⟨rfl, trivial⟩
              · skip
                have h7d := B.nf' h7
                refine WX.run ttOk rfl ?_
                refine WX.cases 66 rfl (fun h8 => ?_) (fun h8 => ?_)
                · skip
                  have h8d := B.nt' h8
                  refine WX.run ttOk rfl ?_
                  have hP8 : impl_EqualNetworks a b = false := by simp only [impl_EqualNetworks, h1, h2, h3, h4, h5, h6, h7, h8, cond_true, cond_false]
                  refine WX.ret ttOk rfl ?_
                  intro w1 G bs hI hΓ
                  rw [hP8]
                  exact ⟨rfl, trivial⟩
                · skip
                  have h8d := B.nf' h8
                  refine WX.run ttOk rfl ?_
                  refine WX.callV rfl rfl rfl rfl rfl (fun _ => rfl) rfl (fun w G bs hI hΓ => f135 w n (by omega) a.nodes paNodes caNodes (hΓ.get 6 rfl) b.nodes pbNodes cbNodes (hΓ.get 16 rfl) 136 [] (fun e0_ e1_ => (impl_EqualNodes e0_ e1_)) (fun w1_ hb_ e0_ x0_ hk0_ hx0_ e1_ x1_ hk1_ hx1_ => f136 w1_ n (by omega) e0_ x0_.1.1 x0_.1.2 (hx0_ _ List.mem_cons_self) x0_.2.1.2.1 x0_.2.1.2.2 (hx0_ (MF.rs .der x0_.2.1.2.1 x0_.2.1.2.2 e0_.cache.entries) (by simp [GoT.fa])) x0_.2.2.1.1 x0_.2.2.1.2 (hx0_ (MF.rs .der x0_.2.2.1.1 x0_.2.2.1.2 e0_.pending) (by simp [GoT.fa])) x0_.2.2.2.1.1 x0_.2.2.2.1.2 (hx0_ (MF.rs .der x0_.2.2.2.1.1 x0_.2.2.2.1.2 e0_.seen) (by simp [GoT.fa])) x0_.2.2.2.2.1.1 x0_.2.2.2.2.1.2 (hx0_ (MF.rs .der x0_.2.2.2.2.1.1 x0_.2.2.2.2.1.2 e0_.routes) (by simp [GoT.fa])) x0_.2.2.2.2.2.1.1 x0_.2.2.2.2.2.1.2 (hx0_ (MF.rs .der x0_.2.2.2.2.2.1.1 x0_.2.2.2.2.2.1.2 e0_.measurements) (by simp [GoT.fa])) e1_ x1_.1.1 x1_.1.2 (hx1_ _ List.mem_cons_self) x1_.2.1.2.1 x1_.2.1.2.2 (hx1_ (MF.rs .der x1_.2.1.2.1 x1_.2.1.2.2 e1_.cache.entries) (by simp [GoT.fa])) x1_.2.2.1.1 x1_.2.2.1.2 (hx1_ (MF.rs .der x1_.2.2.1.1 x1_.2.2.1.2 e1_.pending) (by simp [GoT.fa])) x1_.2.2.2.1.1 x1_.2.2.2.1.2 (hx1_ (MF.rs .der x1_.2.2.2.1.1 x1_.2.2.2.1.2 e1_.seen) (by simp [GoT.fa])) x1_.2.2.2.2.1.1 x1_.2.2.2.2.1.2 (hx1_ (MF.rs .der x1_.2.2.2.2.1.1 x1_.2.2.2.2.1.2 e1_.routes) (by simp [GoT.fa])) x1_.2.2.2.2.2.1.1 x1_.2.2.2.2.2.1.2 (hx1_ (MF.rs .der x1_.2.2.2.2.2.1.1 x1_.2.2.2.2.2.1.2 e1_.measurements) (by simp [GoT.fa])) hk0_ hk1_) ((ok_Network hoka).2.2.2.1) ((ok_Network hokb).2.2.2.1)) ?_
                  intro hq5
                  refine WX.run ttOk rfl ?_
                  refine WX.cases 72 rfl (fun h9 => ?_) (fun h9 => ?_)
                  · skip
                    refine WX.run ttOk rfl ?_
                    refine WX.callV rfl rfl rfl rfl rfl (fun _ => rfl) rfl (fun w G bs hI hΓ => f137 w n (by omega) a.inFlight paInFlight caInFlight (hΓ.get 8 rfl) b.inFlight pbInFlight cbInFlight (hΓ.get 18 rfl) 138 [] (fun e0_ e1_ => (impl_equalPackets e0_ e1_)) (fun w1_ hb_ e0_ x0_ hk0_ hx0_ e1_ x1_ hk1_ hx1_ => f138 w1_ n (by omega) e0_ x0_.2.2.2.1.1.1 x0_.2.2.2.1.1.2 (hx0_ _ List.mem_cons_self) x0_.2.2.2.2.1.1 x0_.2.2.2.2.1.2 (hx0_ (MF.rs .der x0_.2.2.2.2.1.1 x0_.2.2.2.2.1.2 e0_.data.name.parts) (by simp [GoT.fa])) x0_.2.2.2.2.2.1.1 x0_.2.2.2.2.2.1.2 (hx0_ (MF.rs .der x0_.2.2.2.2.2.1.1 x0_.2.2.2.2.2.1.2 e0_.data.content) (by simp [GoT.fa])) x0_.2.2.2.2.2.2.1.1 x0_.2.2.2.2.2.2.1.2 (hx0_ (MF.rs .der x0_.2.2.2.2.2.2.1.1 x0_.2.2.2.2.2.2.1.2 e0_.data.keyName.parts) (by simp [GoT.fa])) e1_ x1_.2.2.2.1.1.1 x1_.2.2.2.1.1.2 (hx1_ _ List.mem_cons_self) x1_.2.2.2.2.1.1 x1_.2.2.2.2.1.2 (hx1_ (MF.rs .der x1_.2.2.2.2.1.1 x1_.2.2.2.2.1.2 e1_.data.name.parts) (by simp [GoT.fa])) x1_.2.2.2.2.2.1.1 x1_.2.2.2.2.2.1.2 (hx1_ (MF.rs .der x1_.2.2.2.2.2.1.1 x1_.2.2.2.2.2.1.2 e1_.data.content) (by simp [GoT.fa])) x1_.2.2.2.2.2.2.1.1 x1_.2.2.2.2.2.2.1.2 (hx1_ (MF.rs .der x1_.2.2.2.2.2.2.1.1 x1_.2.2.2.2.2.2.1.2 e1_.data.keyName.parts) (by simp [GoT.fa])) hk0_ hk1_) ((ok_Network hoka).2.2.2.2.2.2.1) ((ok_Network hokb).2.2.2.2.2.2.1)) ?_
                    intro hq6
                    refine WX.run ttOk rfl ?_
                    refine WX.cases 79 rfl (fun h10 => ?_) (fun h10 => ?_)
                    · skip
                      refine WX.run ttOk rfl ?_
                      refine WX.callV rfl rfl rfl rfl rfl (fun _ => rfl) rfl (fun w G bs hI hΓ => f139 w n (by omega) a.consumers paConsumers caConsumers (hΓ.get 9 rfl) b.consumers pbConsumers cbConsumers (hΓ.get 19 rfl) 140 [] (fun e0_ e1_ => (impl_EqualConsumers e0_ e1_)) (fun w1_ hb_ e0_ x0_ hk0_ hx0_ e1_ x1_ hk1_ hx1_ => f140 w1_ n (by omega) e0_ x0_.2.2.1.1 x0_.2.2.1.2 (hx0_ _ List.mem_cons_self) x0_.2.2.2.2.2.2.1.1 x0_.2.2.2.2.2.2.1.2 (hx0_ (MF.rs .der x0_.2.2.2.2.2.2.1.1 x0_.2.2.2.2.2.2.1.2 e0_.data.name.parts) (by simp [GoT.fa])) x0_.2.2.2.2.2.2.2.1.1 x0_.2.2.2.2.2.2.2.1.2 (hx0_ (MF.rs .der x0_.2.2.2.2.2.2.2.1.1 x0_.2.2.2.2.2.2.2.1.2 e0_.data.content) (by simp [GoT.fa])) x0_.2.2.2.2.2.2.2.2.1.1 x0_.2.2.2.2.2.2.2.2.1.2 (hx0_ (MF.rs .der x0_.2.2.2.2.2.2.2.2.1.1 x0_.2.2.2.2.2.2.2.2.1.2 e0_.data.keyName.parts) (by simp [GoT.fa])) e1_ x1_.2.2.1.1 x1_.2.2.1.2 (hx1_ _ List.mem_cons_self) x1_.2.2.2.2.2.2.1.1 x1_.2.2.2.2.2.2.1.2 (hx1_ (MF.rs .der x1_.2.2.2.2.2.2.1.1 x1_.2.2.2.2.2.2.1.2 e1_.data.name.parts) (by simp [GoT.fa])) x1_.2.2.2.2.2.2.2.1.1 x1_.2.2.2.2.2.2.2.1.2 (hx1_ (MF.rs .der x1_.2.2.2.2.2.2.2.1.1 x1_.2.2.2.2.2.2.2.1.2 e1_.data.content) (by simp [GoT.fa])) x1_.2.2.2.2.2.2.2.2.1.1 x1_.2.2.2.2.2.2.2.2.1.2 (hx1_ (MF.rs .der x1_.2.2.2.2.2.2.2.2.1.1 x1_.2.2.2.2.2.2.2.2.1.2 e1_.data.keyName.parts) (by simp [GoT.fa])) hk0_ hk1_) ((ok_Network hoka).2.2.2.2.2.2.2.1) ((ok_Network hokb).2.2.2.2.2.2.2.1)) ?_
                      intro hq7
                      refine WX.run ttOk rfl ?_
                      have hP9 : impl_EqualNetworks a b = (slices_EqualFunc_Consumer a.consumers b.consumers (fun e0_ e1_ => (impl_EqualConsumers e0_ e1_))) := by simp only [impl_EqualNetworks, h1, h2, h3, h4, h5, h6, h7, h8, h9, h10, cond_true, cond_false]
                      refine WX.ret ttOk rfl ?_
                      intro w1 G bs hI hΓ
                      rw [hP9]
                      exact ⟨rfl, trivial⟩
                    · skip
                      refine WX.run ttOk rfl ?_
                      have hP10 : impl_EqualNetworks a b = false := by simp only [impl_EqualNetworks, h1, h2, h3, h4, h5, h6, h7, h8, h9, h10, cond_true, cond_false]
                      refine WX.ret ttOk rfl ?_
                      intro w1 G bs hI hΓ
                      rw [hP10]
                      exact ⟨rfl, trivial⟩
                  · skip
                    refine WX.run ttOk rfl ?_
                    have hP11 : impl_EqualNetworks a b = false := by simp only [impl_EqualNetworks, h1, h2, h3, h4, h5, h6, h7, h8, h9, cond_true, cond_false]
                    refine WX.ret ttOk rfl ?_
                    intro w1 G bs hI hΓ
                    rw [hP11]
                    exact ⟨rfl, trivial⟩
theorem f44 (w : World) (n : Nat) (hn : n + 0 ≤ 9) (a : Network) (paTopologyLinks : Option Addr) (caTopologyLinks : Nat) (hpaTopologyLinks : RdSl (hp w) paTopologyLinks caTopologyLinks a.topology.links) (paTrustKeys : Option Addr) (caTrustKeys : Nat) (hpaTrustKeys : RdSl (hp w) paTrustKeys caTrustKeys a.trust.keys) (paTrustRules : Option Addr) (caTrustRules : Nat) (hpaTrustRules : RdSl (hp w) paTrustRules caTrustRules a.trust.rules) (paTrustAnchors : Option Addr) (caTrustAnchors : Nat) (hpaTrustAnchors : RdSl (hp w) paTrustAnchors caTrustAnchors a.trust.anchors) (paTrustCertificates : Option Addr) (caTrustCertificates : Nat) (hpaTrustCertificates : RdSl (hp w) paTrustCertificates caTrustCertificates a.trust.certificates) (paProducers : Option Addr) (caProducers : Nat) (hpaProducers : RdSl (hp w) paProducers caProducers a.producers) (paNodes : Option Addr) (caNodes : Nat) (hpaNodes : RdSl (hp w) paNodes caNodes a.nodes) (paFailedLinks : Option Addr) (caFailedLinks : Nat) (hpaFailedLinks : RdSl (hp w) paFailedLinks caFailedLinks a.failedLinks) (paInFlight : Option Addr) (caInFlight : Nat) (hpaInFlight : RdSl (hp w) paInFlight caInFlight a.inFlight) (paConsumers : Option Addr) (caConsumers : Nat) (hpaConsumers : RdSl (hp w) paConsumers caConsumers a.consumers) (b : Network) (pbTopologyLinks : Option Addr) (cbTopologyLinks : Nat) (hpbTopologyLinks : RdSl (hp w) pbTopologyLinks cbTopologyLinks b.topology.links) (pbTrustKeys : Option Addr) (cbTrustKeys : Nat) (hpbTrustKeys : RdSl (hp w) pbTrustKeys cbTrustKeys b.trust.keys) (pbTrustRules : Option Addr) (cbTrustRules : Nat) (hpbTrustRules : RdSl (hp w) pbTrustRules cbTrustRules b.trust.rules) (pbTrustAnchors : Option Addr) (cbTrustAnchors : Nat) (hpbTrustAnchors : RdSl (hp w) pbTrustAnchors cbTrustAnchors b.trust.anchors) (pbTrustCertificates : Option Addr) (cbTrustCertificates : Nat) (hpbTrustCertificates : RdSl (hp w) pbTrustCertificates cbTrustCertificates b.trust.certificates) (pbProducers : Option Addr) (cbProducers : Nat) (hpbProducers : RdSl (hp w) pbProducers cbProducers b.producers) (pbNodes : Option Addr) (cbNodes : Nat) (hpbNodes : RdSl (hp w) pbNodes cbNodes b.nodes) (pbFailedLinks : Option Addr) (cbFailedLinks : Nat) (hpbFailedLinks : RdSl (hp w) pbFailedLinks cbFailedLinks b.failedLinks) (pbInFlight : Option Addr) (cbInFlight : Nat) (hpbInFlight : RdSl (hp w) pbInFlight cbInFlight b.inFlight) (pbConsumers : Option Addr) (cbConsumers : Nat) (hpbConsumers : RdSl (hp w) pbConsumers cbConsumers b.consumers) (hoka : GoT.ok n a) (hokb : GoT.ok n b) :
    Does Tryz.prog 44 #[.agg #[.int .i64 (a.topology.size), .slice paTopologyLinks ((a.topology.links).length) caTopologyLinks, .slice paTrustKeys ((a.trust.keys).length) caTrustKeys, .slice paTrustRules ((a.trust.rules).length) caTrustRules, .slice paTrustAnchors ((a.trust.anchors).length) caTrustAnchors, .slice paTrustCertificates ((a.trust.certificates).length) caTrustCertificates, .slice paProducers ((a.producers).length) caProducers, .slice paNodes ((a.nodes).length) caNodes, .int .i64 (a.downNodes), .slice paFailedLinks ((a.failedLinks).length) caFailedLinks, .slice paInFlight ((a.inFlight).length) caInFlight, .slice paConsumers ((a.consumers).length) caConsumers, .int .i64 (a.now), .int .i64 (a.dropped)], .agg #[.int .i64 (b.topology.size), .slice pbTopologyLinks ((b.topology.links).length) cbTopologyLinks, .slice pbTrustKeys ((b.trust.keys).length) cbTrustKeys, .slice pbTrustRules ((b.trust.rules).length) cbTrustRules, .slice pbTrustAnchors ((b.trust.anchors).length) cbTrustAnchors, .slice pbTrustCertificates ((b.trust.certificates).length) cbTrustCertificates, .slice pbProducers ((b.producers).length) cbProducers, .slice pbNodes ((b.nodes).length) cbNodes, .int .i64 (b.downNodes), .slice pbFailedLinks ((b.failedLinks).length) cbFailedLinks, .slice pbInFlight ((b.inFlight).length) cbInFlight, .slice pbConsumers ((b.consumers).length) cbConsumers, .int .i64 (b.now), .int .i64 (b.dropped)]] w emp (fun (rv : Value) (_ : World) => rv = .bool (spec_EqualNetworks a b) ∧ True) := by
  have hbP := bd_pos n
  have hbB := bd_big (n := n) (by omega)
  refine WX.enter (tt := tt) (Γ := [(0, MF.rs .stb paTopologyLinks caTopologyLinks a.topology.links), (1, MF.rs .stb paTrustKeys caTrustKeys a.trust.keys), (2, MF.rs .stb paTrustRules caTrustRules a.trust.rules), (3, MF.rs .stb paTrustAnchors caTrustAnchors a.trust.anchors), (4, MF.rs .stb paTrustCertificates caTrustCertificates a.trust.certificates), (5, MF.rs .stb paProducers caProducers a.producers), (6, MF.rs .stb paNodes caNodes a.nodes), (7, MF.rs .stb paFailedLinks caFailedLinks a.failedLinks), (8, MF.rs .stb paInFlight caInFlight a.inFlight), (9, MF.rs .stb paConsumers caConsumers a.consumers), (10, MF.rs .stb pbTopologyLinks cbTopologyLinks b.topology.links), (11, MF.rs .stb pbTrustKeys cbTrustKeys b.trust.keys), (12, MF.rs .stb pbTrustRules cbTrustRules b.trust.rules), (13, MF.rs .stb pbTrustAnchors cbTrustAnchors b.trust.anchors), (14, MF.rs .stb pbTrustCertificates cbTrustCertificates b.trust.certificates), (15, MF.rs .stb pbProducers cbProducers b.producers), (16, MF.rs .stb pbNodes cbNodes b.nodes), (17, MF.rs .stb pbFailedLinks cbFailedLinks b.failedLinks), (18, MF.rs .stb pbInFlight cbInFlight b.inFlight), (19, MF.rs .stb pbConsumers cbConsumers b.consumers)]) Tryz.func44 rfl (by kernel_rfl) rfl (allS_cons rfl hpaTopologyLinks (allS_cons rfl hpaTrustKeys (allS_cons rfl hpaTrustRules (allS_cons rfl hpaTrustAnchors (allS_cons rfl hpaTrustCertificates (allS_cons rfl hpaProducers (allS_cons rfl hpaNodes (allS_cons rfl hpaFailedLinks (allS_cons rfl hpaInFlight (allS_cons rfl hpaConsumers (allS_cons rfl hpbTopologyLinks (allS_cons rfl hpbTrustKeys (allS_cons rfl hpbTrustRules (allS_cons rfl hpbTrustAnchors (allS_cons rfl hpbTrustCertificates (allS_cons rfl hpbProducers (allS_cons rfl hpbNodes (allS_cons rfl hpbFailedLinks (allS_cons rfl hpbInFlight (allS_cons rfl hpbConsumers allS_nil)))))))))))))))))))) ?_
  refine WX.run ttOk rfl ?_
  refine WX.callV rfl rfl rfl rfl rfl (fun _ => rfl) rfl (fun w G bs hI hΓ => f118 w n (by omega) a.topology paTopologyLinks caTopologyLinks (hΓ.get 0 rfl) b.topology pbTopologyLinks cbTopologyLinks (hΓ.get 10 rfl) ((ok_Network hoka).1) ((ok_Network hokb).1)) ?_
  intro hq1
  refine WX.run ttOk rfl ?_
  refine WX.cases 14 rfl (fun h1 => ?_) (fun h1 => ?_)
  · skip
    have h1d := (B.nt h1)
    refine WX.run ttOk rfl ?_
    have hP1 : spec_EqualNetworks a b = false := by simp only [spec_EqualNetworks, h1, cond_true, cond_false]
    refine WX.ret ttOk rfl ?_
    intro w1 G bs hI hΓ
    rw [hP1]
    exact ⟨rfl, trivial⟩
  · skip
    have h1d := (B.nf h1)
    refine WX.run ttOk rfl ?_
    refine WX.callV rfl rfl rfl rfl rfl (fun _ => rfl) rfl (fun w G bs hI hΓ => f119 w n (by omega) a.trust paTrustKeys caTrustKeys (hΓ.get 1 rfl) paTrustRules caTrustRules (hΓ.get 2 rfl) paTrustAnchors caTrustAnchors (hΓ.get 3 rfl) paTrustCertificates caTrustCertificates (hΓ.get 4 rfl) b.trust pbTrustKeys cbTrustKeys (hΓ.get 11 rfl) pbTrustRules cbTrustRules (hΓ.get 12 rfl) pbTrustAnchors cbTrustAnchors (hΓ.get 13 rfl) pbTrustCertificates cbTrustCertificates (hΓ.get 14 rfl) ((ok_Network hoka).2.1) ((ok_Network hokb).2.1)) ?_
    intro hq2
    refine WX.run ttOk rfl ?_
    refine WX.cases 22 rfl (fun h2 => ?_) (fun h2 => ?_)
    · skip
      have h2d := (B.nt h2)
      refine WX.run ttOk rfl ?_
      have hP2 : spec_EqualNetworks a b = false := by simp only [spec_EqualNetworks, h1, h2, cond_true, cond_false]
      refine WX.ret ttOk rfl ?_
      intro w1 G bs hI hΓ
      rw [hP2]
      exact ⟨rfl, trivial⟩
    · skip
      have h2d := (B.nf h2)
      refine WX.run ttOk rfl ?_
      refine WX.callV rfl rfl rfl rfl rfl (fun _ => rfl) rfl (fun w G bs hI hΓ => f120 w n (by omega) a.producers paProducers caProducers (hΓ.get 5 rfl) b.producers pbProducers cbProducers (hΓ.get 15 rfl) ((ok_Network hoka).2.2.1) ((ok_Network hokb).2.2.1)) ?_
      intro hq3
      refine WX.run ttOk rfl ?_
      refine WX.cases 30 rfl (fun h3 => ?_) (fun h3 => ?_)
      · skip
        have h3d := (B.nt h3)
        refine WX.run ttOk rfl ?_
        have hP3 : spec_EqualNetworks a b = false := by simp only [spec_EqualNetworks, h1, h2, h3, cond_true, cond_false]
        refine WX.ret ttOk rfl ?_
        intro w1 G bs hI hΓ
        rw [hP3]
        exact ⟨rfl, trivial⟩
      · skip
        have h3d := (B.nf h3)
        refine WX.run ttOk rfl ?_
        refine WX.cases 39 rfl (fun h4 => ?_) (fun h4 => ?_)
        · skip
          have h4d := B.nt' h4
          refine WX.run ttOk rfl ?_
          have hP4 : spec_EqualNetworks a b = false := by simp only [spec_EqualNetworks, h1, h2, h3, h4, cond_true, cond_false]
          refine WX.ret ttOk rfl ?_
          intro w1 G bs hI hΓ
          rw [hP4]
          exact ⟨rfl, trivial⟩
        · skip
          have h4d := B.nf' h4
          refine WX.run ttOk rfl ?_
          refine WX.cases 46 rfl (fun h5 => ?_) (fun h5 => ?_)
          · skip
            have h5d := B.nt' h5
            refine WX.run ttOk rfl ?_
            have hP5 : spec_EqualNetworks a b = false := by simp only [spec_EqualNetworks, h1, h2, h3, h4, h5, cond_true, cond_false]
            refine WX.ret ttOk rfl ?_
            intro w1 G bs hI hΓ
            rw [hP5]
            exact ⟨rfl, trivial⟩
          · skip
            have h5d := B.nf' h5
            refine WX.run ttOk rfl ?_
            refine WX.callV rfl rfl rfl rfl rfl (fun _ => rfl) rfl (fun w G bs hI hΓ => f121 w n (by omega) a.failedLinks paFailedLinks caFailedLinks (hΓ.get 7 rfl) b.failedLinks pbFailedLinks cbFailedLinks (hΓ.get 17 rfl) ((ok_Network hoka).2.2.2.2.2.1) ((ok_Network hokb).2.2.2.2.2.1)) ?_
            intro hq4
            refine WX.run ttOk rfl ?_
            refine WX.cases 54 rfl (fun h6 => ?_) (fun h6 => ?_)
            · skip
              have h6d := (B.nt h6)
              refine WX.run ttOk rfl ?_
              have hP6 : spec_EqualNetworks a b = false := by simp only [spec_EqualNetworks, h1, h2, h3, h4, h5, h6, cond_true, cond_false]
              refine WX.ret ttOk rfl ?_
              intro w1 G bs hI hΓ
              rw [hP6]
              exact ⟨rfl, trivial⟩
            · skip
              have h6d := (B.nf h6)
              refine WX.run ttOk rfl ?_
              refine WX.cases 63 rfl (fun h7 => ?_) (fun h7 => ?_)
              · skip
                have h7d := B.nt' h7
                refine WX.run ttOk rfl ?_
                have hP7 : spec_EqualNetworks a b = false := by simp only [spec_EqualNetworks, h1, h2, h3, h4, h5, h6, h7, cond_true, cond_false]
                refine WX.ret ttOk rfl ?_
                intro w1 G bs hI hΓ
                rw [hP7]
                exact ⟨rfl, trivial⟩
              · skip
                have h7d := B.nf' h7
                refine WX.run ttOk rfl ?_
                refine WX.cases 72 rfl (fun h8 => ?_) (fun h8 => ?_)
                · skip
                  have h8d := B.nt' h8
                  refine WX.run ttOk rfl ?_
                  have hP8 : spec_EqualNetworks a b = false := by simp only [spec_EqualNetworks, h1, h2, h3, h4, h5, h6, h7, h8, cond_true, cond_false]
                  refine WX.ret ttOk rfl ?_
                  intro w1 G bs hI hΓ
                  rw [hP8]
                  exact ⟨rfl, trivial⟩
                · skip
                  have h8d := B.nf' h8
                  refine WX.run ttOk rfl ?_
                  refine WX.cases 79 rfl (fun h9 => ?_) (fun h9 => ?_)
                  · skip
                    have h9d := B.nt' h9
                    refine WX.run ttOk rfl ?_
                    have hP9 : spec_EqualNetworks a b = false := by simp only [spec_EqualNetworks, h1, h2, h3, h4, h5, h6, h7, h8, h9, cond_true, cond_false]
                    refine WX.ret ttOk rfl ?_
                    intro w1 G bs hI hΓ
                    rw [hP9]
                    exact ⟨rfl, trivial⟩
                  · skip
                    have h9d := B.nf' h9
                    refine WX.run ttOk rfl ?_
                    refine WX.cases 85 rfl (fun h10 => ?_) (fun h10 => ?_)
                    · skip
                      have h10d := B.nt' h10
                      refine WX.run ttOk rfl ?_
                      have hP10 : spec_EqualNetworks a b = false := by simp only [spec_EqualNetworks, h1, h2, h3, h4, h5, h6, h7, h8, h9, h10, cond_true, cond_false]
                      refine WX.ret ttOk rfl ?_
                      intro w1 G bs hI hΓ
                      rw [hP10]
                      exact ⟨rfl, trivial⟩
                    · skip
                      have h10d := B.nf' h10
                      refine WX.run ttOk rfl ?_
                      have r1 : (a.nodes).length ≤ bd n := (okl (ok_Network hoka).2.2.2.1).1
                      refine WX.loop (ι := Nat) ⟨fun i => (i ≤ (a.nodes).length) ∧ (spec_EqualNetworks_L1 b a.nodes 0 = spec_EqualNetworks_L1 b ((a.nodes).drop i) i), fun i => (a.nodes).length - i, fun i => [(5, .v (.int .i64 (((i : Nat) : Int)))), (3, .p 3 0), (2, .p 2 0)], fun i => [(3, ⟨113, [.int .i64 (b.topology.size), .slice pbTopologyLinks ((b.topology.links).length) cbTopologyLinks, .slice pbTrustKeys ((b.trust.keys).length) cbTrustKeys, .slice pbTrustRules ((b.trust.rules).length) cbTrustRules, .slice pbTrustAnchors ((b.trust.anchors).length) cbTrustAnchors, .slice pbTrustCertificates ((b.trust.certificates).length) cbTrustCertificates, .slice pbProducers ((b.producers).length) cbProducers, .slice pbNodes ((b.nodes).length) cbNodes, .int .i64 (b.downNodes), .slice pbFailedLinks ((b.failedLinks).length) cbFailedLinks, .slice pbInFlight ((b.inFlight).length) cbInFlight, .slice pbConsumers ((b.consumers).length) cbConsumers, .int .i64 (b.now), .int .i64 (b.dropped)]⟩), (2, ⟨113, [.int .i64 (a.topology.size), .slice paTopologyLinks ((a.topology.links).length) caTopologyLinks, .slice paTrustKeys ((a.trust.keys).length) caTrustKeys, .slice paTrustRules ((a.trust.rules).length) caTrustRules, .slice paTrustAnchors ((a.trust.anchors).length) caTrustAnchors, .slice paTrustCertificates ((a.trust.certificates).length) caTrustCertificates, .slice paProducers ((a.producers).length) caProducers, .slice paNodes ((a.nodes).length) caNodes, .int .i64 (a.downNodes), .slice paFailedLinks ((a.failedLinks).length) caFailedLinks, .slice paInFlight ((a.inFlight).length) caInFlight, .slice paConsumers ((a.consumers).length) caConsumers, .int .i64 (a.now), .int .i64 (a.dropped)]⟩)], fun i => [], fun i => [(0, MF.rs .stb paTopologyLinks caTopologyLinks a.topology.links), (1, MF.rs .stb paTrustKeys caTrustKeys a.trust.keys), (2, MF.rs .stb paTrustRules caTrustRules a.trust.rules), (3, MF.rs .stb paTrustAnchors caTrustAnchors a.trust.anchors), (4, MF.rs .stb paTrustCertificates caTrustCertificates a.trust.certificates), (5, MF.rs .stb paProducers caProducers a.producers), (6, MF.rs .stb paNodes caNodes a.nodes), (7, MF.rs .stb paFailedLinks caFailedLinks a.failedLinks), (8, MF.rs .stb paInFlight caInFlight a.inFlight), (9, MF.rs .stb paConsumers caConsumers a.consumers), (10, MF.rs .stb pbTopologyLinks cbTopologyLinks b.topology.links), (11, MF.rs .stb pbTrustKeys cbTrustKeys b.trust.keys), (12, MF.rs .stb pbTrustRules cbTrustRules b.trust.rules), (13, MF.rs .stb pbTrustAnchors cbTrustAnchors b.trust.anchors), (14, MF.rs .stb pbTrustCertificates cbTrustCertificates b.trust.certificates), (15, MF.rs .stb pbProducers cbProducers b.producers), (16, MF.rs .stb pbNodes cbNodes b.nodes), (17, MF.rs .stb pbFailedLinks cbFailedLinks b.failedLinks), (18, MF.rs .stb pbInFlight cbInFlight b.inFlight), (19, MF.rs .stb pbConsumers cbConsumers b.consumers)]⟩ 0 ⟨(Nat.zero_le _), rfl⟩
                        (.cons rfl (.cons rfl (.cons rfl (.nil)))) (.cons rfl (.cons rfl (.nil))) .nil [0, 1, 2, 3, 4, 5, 6, 7, 8, 9, 10, 11, 12, 13, 14, 15, 16, 17, 18, 19] rfl ?_
                      rintro i hpre
                      have hpre_ : (i ≤ (a.nodes).length) ∧ (spec_EqualNetworks_L1 b a.nodes 0 = spec_EqualNetworks_L1 b ((a.nodes).drop i) i) := hpre
                      clear hpre
                      obtain ⟨v1, v2⟩ := hpre_
                      refine WX.run ttOk rfl ?_
                      refine WX.cases 90 rfl (fun h11 => ?_) (fun h11 => ?_)
                      · skip
                        have h11d := B.dt h11
                        have e1i : i < (a.nodes).length := (by omega)
                        obtain ⟨e1, e1h⟩ : ∃ e1, (a.nodes)[i]? = some e1 := ⟨_, List.getElem?_eq_getElem e1i⟩
                        have ok1 : GoT.ok n e1 := (okl (ok_Network hoka).2.2.2.1).2 _ (List.mem_of_getElem? e1h)
                        refine WX.run ttOk rfl ?_
                        refine WX.draw [] mixed ?_
                        intro bs G0 hΓ0
                        refine DX.takes (fuel := 9) ttOk [(0, true), (1, false), (2, true)] (by kernel_rfl) rfl ?_
                        refine DX.idx 3 6 i ttOk hΓ0 (by kernel_rfl) rfl rfl rfl rfl rfl rfl rfl rfl rfl rfl rfl e1i ?_
                        rintro ad1 rfl
                        refine DX.ldE 4 6 20 e1 ttOk hΓ0 (by kernel_rfl) rfl rfl rfl rfl rfl rfl rfl rfl e1h (fun _ => rfl) (fun _ => rfl) ?_
                        rintro ⟨⟨p1, c1⟩, ⟨⟨⟩, ⟨p2, c2⟩⟩, ⟨p3, c3⟩, ⟨p4, c4⟩, ⟨p5, c5⟩, ⟨p6, c6⟩, ⟨⟩⟩
                        refine DX.takes (fuel := 4) ttOk [(5, true), (6, false), (7, true)] (by kernel_rfl) rfl ?_
                        have e2i : i < (b.nodes).length := (by first | assumption | omega)
                        obtain ⟨e2, e2h⟩ : ∃ e2, (b.nodes)[i]? = some e2 := ⟨_, List.getElem?_eq_getElem e2i⟩
                        have ok2 : GoT.ok n e2 := (okl (ok_Network hokb).2.2.2.1).2 _ (List.mem_of_getElem? e2h)
                        refine DX.idx 8 16 i ttOk hΓ0 (by kernel_rfl) rfl rfl rfl rfl rfl rfl rfl rfl rfl rfl rfl e2i ?_
                        rintro ad2 rfl
                        refine DX.ldE 9 16 26 e2 ttOk hΓ0 (by kernel_rfl) rfl rfl rfl rfl rfl rfl rfl rfl e2h (fun _ => rfl) (fun _ => rfl) ?_
                        rintro ⟨⟨p7, c7⟩, ⟨⟨⟩, ⟨p8, c8⟩⟩, ⟨p9, c9⟩, ⟨p10, c10⟩, ⟨p11, c11⟩, ⟨p12, c12⟩, ⟨⟩⟩
                        refine DX.callV 10 rfl (by kernel_rfl) rfl rfl rfl rfl rfl rfl (fun _ => rfl) rfl (fun w G bs hI hΓ => f122 w n (by omega) e1 p1 c1 (hΓ.get 20 rfl) p2 c2 (hΓ.get 21 rfl) p3 c3 (hΓ.get 22 rfl) p4 c4 (hΓ.get 23 rfl) p5 c5 (hΓ.get 24 rfl) p6 c6 (hΓ.get 25 rfl) e2 p7 c7 (hΓ.get 26 rfl) p8 c8 (hΓ.get 27 rfl) p9 c9 (hΓ.get 28 rfl) p10 c10 (hΓ.get 29 rfl) p11 c11 (hΓ.get 30 rfl) p12 c12 (hΓ.get 31 rfl) ok1 ok2) ?_
                        intro hq5
                        refine DX.takes (fuel := 0) ttOk [(11, true)] (by kernel_rfl) rfl ?_
                        refine DX.tail2 [] rfl rfl (by kernel_rfl) ?_
                        refine WX.run ttOk rfl ?_
                        refine WX.cases 104 rfl (fun h12 => ?_) (fun h12 => ?_)
                        · skip
                          have h12d := (B.nt h12)
                          refine WX.run ttOk rfl ?_
                          have hP11 : spec_EqualNetworks_L1 b a.nodes 0 = (some false) := by rw [v2, drop_get e1h]; simp only [spec_EqualNetworks_L1, e2h, h12, cond_true, cond_false]
                          have hP12 : spec_EqualNetworks a b = false := by simp only [spec_EqualNetworks, h1, h2, h3, h4, h5, h6, h7, h8, h9, h10, hP11, cond_true, cond_false]
                          refine WX.ret ttOk rfl ?_
                          intro w1 G bs hI hΓ
                          rw [hP12]
                          exact ⟨rfl, trivial⟩
                        · skip
                          have h12d := (B.nf h12)
                          refine WX.run ttOk rfl ?_
                          refine WX.see rfl rfl rfl (fun _ hΓ => looks_arith rfl rfl rfl rfl (by unfold I64; first | omega | (simp only [List.length_take, List.length_drop] at *; omega) | (dsimp only; omega))) ?_
                          refine WX.run ttOk rfl ?_
                          exact WX.iter (i + 1) ⟨(by omega), (by rw [v2, drop_get e1h]; simp only [spec_EqualNetworks_L1, e2h, h12, cond_true, cond_false])⟩ (by first | (dsimp only; omega) | omega) (.cons rfl (.cons rfl (.cons rfl (.nil)))) (.cons rfl (.cons rfl (.nil))) .nil [0, 1, 2, 3, 4, 5, 6, 7, 8, 9, 10, 11, 12, 13, 14, 15, 16, 17, 18, 19] rfl
                      · skip
                        have h11d := B.df h11
                        refine WX.run ttOk rfl ?_
                        have hX1 : spec_EqualNetworks_L1 b a.nodes 0 = none := by rw [v2, List.drop_eq_nil_of_le (show (a.nodes).length ≤ i by omega)]; simp only [spec_EqualNetworks_L1, cond_true, cond_false]
                        have r2 : (a.inFlight).length ≤ bd n := (okl (ok_Network hoka).2.2.2.2.2.2.1).1
                        refine WX.loop (ι := Nat) ⟨fun i => (i ≤ (a.inFlight).length) ∧ (spec_EqualNetworks_L2 b a.inFlight 0 = spec_EqualNetworks_L2 b ((a.inFlight).drop i) i), fun i => (a.inFlight).length - i, fun i => [(6, .v (.int .i64 (((i : Nat) : Int)))), (3, .p 3 0), (2, .p 2 0)], fun i => [(3, ⟨113, [.int .i64 (b.topology.size), .slice pbTopologyLinks ((b.topology.links).length) cbTopologyLinks, .slice pbTrustKeys ((b.trust.keys).length) cbTrustKeys, .slice pbTrustRules ((b.trust.rules).length) cbTrustRules, .slice pbTrustAnchors ((b.trust.anchors).length) cbTrustAnchors, .slice pbTrustCertificates ((b.trust.certificates).length) cbTrustCertificates, .slice pbProducers ((b.producers).length) cbProducers, .slice pbNodes ((b.nodes).length) cbNodes, .int .i64 (b.downNodes), .slice pbFailedLinks ((b.failedLinks).length) cbFailedLinks, .slice pbInFlight ((b.inFlight).length) cbInFlight, .slice pbConsumers ((b.consumers).length) cbConsumers, .int .i64 (b.now), .int .i64 (b.dropped)]⟩), (2, ⟨113, [.int .i64 (a.topology.size), .slice paTopologyLinks ((a.topology.links).length) caTopologyLinks, .slice paTrustKeys ((a.trust.keys).length) caTrustKeys, .slice paTrustRules ((a.trust.rules).length) caTrustRules, .slice paTrustAnchors ((a.trust.anchors).length) caTrustAnchors, .slice paTrustCertificates ((a.trust.certificates).length) caTrustCertificates, .slice paProducers ((a.producers).length) caProducers, .slice paNodes ((a.nodes).length) caNodes, .int .i64 (a.downNodes), .slice paFailedLinks ((a.failedLinks).length) caFailedLinks, .slice paInFlight ((a.inFlight).length) caInFlight, .slice paConsumers ((a.consumers).length) caConsumers, .int .i64 (a.now), .int .i64 (a.dropped)]⟩)], fun i => [], fun i => [(0, MF.rs .stb paTopologyLinks caTopologyLinks a.topology.links), (1, MF.rs .stb paTrustKeys caTrustKeys a.trust.keys), (2, MF.rs .stb paTrustRules caTrustRules a.trust.rules), (3, MF.rs .stb paTrustAnchors caTrustAnchors a.trust.anchors), (4, MF.rs .stb paTrustCertificates caTrustCertificates a.trust.certificates), (5, MF.rs .stb paProducers caProducers a.producers), (6, MF.rs .stb paNodes caNodes a.nodes), (7, MF.rs .stb paFailedLinks caFailedLinks a.failedLinks), (8, MF.rs .stb paInFlight caInFlight a.inFlight), (9, MF.rs .stb paConsumers caConsumers a.consumers), (10, MF.rs .stb pbTopologyLinks cbTopologyLinks b.topology.links), (11, MF.rs .stb pbTrustKeys cbTrustKeys b.trust.keys), (12, MF.rs .stb pbTrustRules cbTrustRules b.trust.rules), (13, MF.rs .stb pbTrustAnchors cbTrustAnchors b.trust.anchors), (14, MF.rs .stb pbTrustCertificates cbTrustCertificates b.trust.certificates), (15, MF.rs .stb pbProducers cbProducers b.producers), (16, MF.rs .stb pbNodes cbNodes b.nodes), (17, MF.rs .stb pbFailedLinks cbFailedLinks b.failedLinks), (18, MF.rs .stb pbInFlight cbInFlight b.inFlight), (19, MF.rs .stb pbConsumers cbConsumers b.consumers)]⟩ 0 ⟨(Nat.zero_le _), rfl⟩
                          (.cons rfl (.cons rfl (.cons rfl (.nil)))) (.cons rfl (.cons rfl (.nil))) .nil [0, 1, 2, 3, 4, 5, 6, 7, 8, 9, 10, 11, 12, 13, 14, 15, 16, 17, 18, 19] rfl ?_
                        rintro i hpre
                        have hpre_ : (i ≤ (a.inFlight).length) ∧ (spec_EqualNetworks_L2 b a.inFlight 0 = spec_EqualNetworks_L2 b ((a.inFlight).drop i) i) := hpre
                        clear hpre
                        obtain ⟨v3, v4⟩ := hpre_
                        refine WX.run ttOk rfl ?_
                        refine WX.cases 109 rfl (fun h13 => ?_) (fun h13 => ?_)
                        · skip
                          have h13d := B.dt h13
                          have e3i : i < (a.inFlight).length := (by omega)
                          obtain ⟨e3, e3h⟩ : ∃ e3, (a.inFlight)[i]? = some e3 := ⟨_, List.getElem?_eq_getElem e3i⟩
                          have ok3 : GoT.ok n e3 := (okl (ok_Network hoka).2.2.2.2.2.2.1).2 _ (List.mem_of_getElem? e3h)
                          refine WX.run ttOk rfl ?_
                          refine WX.draw [] mixed ?_
                          intro bs G0 hΓ0
                          refine DX.takes (fuel := 9) ttOk [(0, true), (1, false), (2, true)] (by kernel_rfl) rfl ?_
                          refine DX.idx 3 8 i ttOk hΓ0 (by kernel_rfl) rfl rfl rfl rfl rfl rfl rfl rfl rfl rfl rfl e3i ?_
                          rintro ad3 rfl
                          refine DX.ldE 4 8 32 e3 ttOk hΓ0 (by kernel_rfl) rfl rfl rfl rfl rfl rfl rfl rfl e3h (fun _ => rfl) (fun _ => rfl) ?_
                          rintro ⟨⟨⟩, ⟨⟩, ⟨⟩, ⟨⟨p13, c13⟩, ⟨⟩, ⟨⟩, ⟨⟩⟩, ⟨⟨p14, c14⟩, ⟨p15, c15⟩, ⟨p16, c16⟩, ⟨⟩, ⟨⟩⟩⟩
                          refine DX.takes (fuel := 4) ttOk [(5, true), (6, false), (7, true)] (by kernel_rfl) rfl ?_
                          have e4i : i < (b.inFlight).length := (by first | assumption | omega)
                          obtain ⟨e4, e4h⟩ : ∃ e4, (b.inFlight)[i]? = some e4 := ⟨_, List.getElem?_eq_getElem e4i⟩
                          have ok4 : GoT.ok n e4 := (okl (ok_Network hokb).2.2.2.2.2.2.1).2 _ (List.mem_of_getElem? e4h)
                          refine DX.idx 8 18 i ttOk hΓ0 (by kernel_rfl) rfl rfl rfl rfl rfl rfl rfl rfl rfl rfl rfl e4i ?_
                          rintro ad4 rfl
                          refine DX.ldE 9 18 36 e4 ttOk hΓ0 (by kernel_rfl) rfl rfl rfl rfl rfl rfl rfl rfl e4h (fun _ => rfl) (fun _ => rfl) ?_
                          rintro ⟨⟨⟩, ⟨⟩, ⟨⟩, ⟨⟨p17, c17⟩, ⟨⟩, ⟨⟩, ⟨⟩⟩, ⟨⟨p18, c18⟩, ⟨p19, c19⟩, ⟨p20, c20⟩, ⟨⟩, ⟨⟩⟩⟩
                          refine DX.callV 10 rfl (by kernel_rfl) rfl rfl rfl rfl rfl rfl (fun _ => rfl) rfl (fun w G bs hI hΓ => f123 w n (by omega) e3 p13 c13 (hΓ.get 32 rfl) p14 c14 (hΓ.get 33 rfl) p15 c15 (hΓ.get 34 rfl) p16 c16 (hΓ.get 35 rfl) e4 p17 c17 (hΓ.get 36 rfl) p18 c18 (hΓ.get 37 rfl) p19 c19 (hΓ.get 38 rfl) p20 c20 (hΓ.get 39 rfl) ok3 ok4) ?_
                          intro hq6
                          refine DX.takes (fuel := 0) ttOk [(11, true)] (by kernel_rfl) rfl ?_
                          refine DX.tail2 [] rfl rfl (by kernel_rfl) ?_
                          refine WX.run ttOk rfl ?_
                          refine WX.cases 123 rfl (fun h14 => ?_) (fun h14 => ?_)
                          · skip
                            have h14d := (B.nt h14)
                            refine WX.run ttOk rfl ?_
                            have hP13 : spec_EqualNetworks_L2 b a.inFlight 0 = (some false) := by rw [v4, drop_get e3h]; simp only [spec_EqualNetworks_L2, e4h, h14, cond_true, cond_false]
                            have hP14 : spec_EqualNetworks a b = false := by simp only [spec_EqualNetworks, h1, h2, h3, h4, h5, h6, h7, h8, h9, h10, hX1, hP13, cond_true, cond_false]
                            refine WX.ret ttOk rfl ?_
                            intro w1 G bs hI hΓ
                            rw [hP14]
                            exact ⟨rfl, trivial⟩
                          · skip
                            have h14d := (B.nf h14)
                            refine WX.run ttOk rfl ?_
                            refine WX.see rfl rfl rfl (fun _ hΓ => looks_arith rfl rfl rfl rfl (by unfold I64; first | omega | (simp only [List.length_take, List.length_drop] at *; omega) | (dsimp only; omega))) ?_
                            refine WX.run ttOk rfl ?_
                            exact WX.iter (i + 1) ⟨(by omega), (by rw [v4, drop_get e3h]; simp only [spec_EqualNetworks_L2, e4h, h14, cond_true, cond_false])⟩ (by first | (dsimp only; omega) | omega) (.cons rfl (.cons rfl (.cons rfl (.nil)))) (.cons rfl (.cons rfl (.nil))) .nil [0, 1, 2, 3, 4, 5, 6, 7, 8, 9, 10, 11, 12, 13, 14, 15, 16, 17, 18, 19] rfl
                        · skip
                          have h13d := B.df h13
                          refine WX.run ttOk rfl ?_
                          have hX2 : spec_EqualNetworks_L2 b a.inFlight 0 = none := by rw [v4, List.drop_eq_nil_of_le (show (a.inFlight).length ≤ i by omega)]; simp only [spec_EqualNetworks_L2, cond_true, cond_false]
                          have r3 : (a.consumers).length ≤ bd n := (okl (ok_Network hoka).2.2.2.2.2.2.2.1).1
                          refine WX.loop (ι := Nat) ⟨fun i => (i ≤ (a.consumers).length) ∧ (spec_EqualNetworks_L3 b a.consumers 0 = spec_EqualNetworks_L3 b ((a.consumers).drop i) i), fun i => (a.consumers).length - i, fun i => [(7, .v (.int .i64 (((i : Nat) : Int)))), (3, .p 3 0), (2, .p 2 0)], fun i => [(3, ⟨113, [.int .i64 (b.topology.size), .slice pbTopologyLinks ((b.topology.links).length) cbTopologyLinks, .slice pbTrustKeys ((b.trust.keys).length) cbTrustKeys, .slice pbTrustRules ((b.trust.rules).length) cbTrustRules, .slice pbTrustAnchors ((b.trust.anchors).length) cbTrustAnchors, .slice pbTrustCertificates ((b.trust.certificates).length) cbTrustCertificates, .slice pbProducers ((b.producers).length) cbProducers, .slice pbNodes ((b.nodes).length) cbNodes, .int .i64 (b.downNodes), .slice pbFailedLinks ((b.failedLinks).length) cbFailedLinks, .slice pbInFlight ((b.inFlight).length) cbInFlight, .slice pbConsumers ((b.consumers).length) cbConsumers, .int .i64 (b.now), .int .i64 (b.dropped)]⟩), (2, ⟨113, [.int .i64 (a.topology.size), .slice paTopologyLinks ((a.topology.links).length) caTopologyLinks, .slice paTrustKeys ((a.trust.keys).length) caTrustKeys, .slice paTrustRules ((a.trust.rules).length) caTrustRules, .slice paTrustAnchors ((a.trust.anchors).length) caTrustAnchors, .slice paTrustCertificates ((a.trust.certificates).length) caTrustCertificates, .slice paProducers ((a.producers).length) caProducers, .slice paNodes ((a.nodes).length) caNodes, .int .i64 (a.downNodes), .slice paFailedLinks ((a.failedLinks).length) caFailedLinks, .slice paInFlight ((a.inFlight).length) caInFlight, .slice paConsumers ((a.consumers).length) caConsumers, .int .i64 (a.now), .int .i64 (a.dropped)]⟩)], fun i => [], fun i => [(0, MF.rs .stb paTopologyLinks caTopologyLinks a.topology.links), (1, MF.rs .stb paTrustKeys caTrustKeys a.trust.keys), (2, MF.rs .stb paTrustRules caTrustRules a.trust.rules), (3, MF.rs .stb paTrustAnchors caTrustAnchors a.trust.anchors), (4, MF.rs .stb paTrustCertificates caTrustCertificates a.trust.certificates), (5, MF.rs .stb paProducers caProducers a.producers), (6, MF.rs .stb paNodes caNodes a.nodes), (7, MF.rs .stb paFailedLinks caFailedLinks a.failedLinks), (8, MF.rs .stb paInFlight caInFlight a.inFlight), (9, MF.rs .stb paConsumers caConsumers a.consumers), (10, MF.rs .stb pbTopologyLinks cbTopologyLinks b.topology.links), (11, MF.rs .stb pbTrustKeys cbTrustKeys b.trust.keys), (12, MF.rs .stb pbTrustRules cbTrustRules b.trust.rules), (13, MF.rs .stb pbTrustAnchors cbTrustAnchors b.trust.anchors), (14, MF.rs .stb pbTrustCertificates cbTrustCertificates b.trust.certificates), (15, MF.rs .stb pbProducers cbProducers b.producers), (16, MF.rs .stb pbNodes cbNodes b.nodes), (17, MF.rs .stb pbFailedLinks cbFailedLinks b.failedLinks), (18, MF.rs .stb pbInFlight cbInFlight b.inFlight), (19, MF.rs .stb pbConsumers cbConsumers b.consumers)]⟩ 0 ⟨(Nat.zero_le _), rfl⟩
                            (.cons rfl (.cons rfl (.cons rfl (.nil)))) (.cons rfl (.cons rfl (.nil))) .nil [0, 1, 2, 3, 4, 5, 6, 7, 8, 9, 10, 11, 12, 13, 14, 15, 16, 17, 18, 19] rfl ?_
                          rintro i hpre
                          have hpre_ : (i ≤ (a.consumers).length) ∧ (spec_EqualNetworks_L3 b a.consumers 0 = spec_EqualNetworks_L3 b ((a.consumers).drop i) i) := hpre
                          clear hpre
                          obtain ⟨v5, v6⟩ := hpre_
                          refine WX.run ttOk rfl ?_
                          refine WX.cases 128 rfl (fun h15 => ?_) (fun h15 => ?_)
                          · skip
                            have h15d := B.dt h15
                            have e5i : i < (a.consumers).length := (by omega)
                            obtain ⟨e5, e5h⟩ : ∃ e5, (a.consumers)[i]? = some e5 := ⟨_, List.getElem?_eq_getElem e5i⟩
                            have ok5 : GoT.ok n e5 := (okl (ok_Network hoka).2.2.2.2.2.2.2.1).2 _ (List.mem_of_getElem? e5h)
                            refine WX.run ttOk rfl ?_
                            refine WX.draw [] mixed ?_
                            intro bs G0 hΓ0
                            refine DX.takes (fuel := 9) ttOk [(0, true), (1, false), (2, true)] (by kernel_rfl) rfl ?_
                            refine DX.idx 3 9 i ttOk hΓ0 (by kernel_rfl) rfl rfl rfl rfl rfl rfl rfl rfl rfl rfl rfl e5i ?_
                            rintro ad5 rfl
                            refine DX.ldE 4 9 40 e5 ttOk hΓ0 (by kernel_rfl) rfl rfl rfl rfl rfl rfl rfl rfl e5h (fun _ => rfl) (fun _ => rfl) ?_
                            rintro ⟨⟨⟩, ⟨⟩, ⟨p21, c21⟩, ⟨⟩, ⟨⟩, ⟨⟩, ⟨⟨p22, c22⟩, ⟨p23, c23⟩, ⟨p24, c24⟩, ⟨⟩, ⟨⟩⟩⟩
                            refine DX.takes (fuel := 4) ttOk [(5, true), (6, false), (7, true)] (by kernel_rfl) rfl ?_
                            have e6i : i < (b.consumers).length := (by first | assumption | omega)
                            obtain ⟨e6, e6h⟩ : ∃ e6, (b.consumers)[i]? = some e6 := ⟨_, List.getElem?_eq_getElem e6i⟩
                            have ok6 : GoT.ok n e6 := (okl (ok_Network hokb).2.2.2.2.2.2.2.1).2 _ (List.mem_of_getElem? e6h)
                            refine DX.idx 8 19 i ttOk hΓ0 (by kernel_rfl) rfl rfl rfl rfl rfl rfl rfl rfl rfl rfl rfl e6i ?_
                            rintro ad6 rfl
                            refine DX.ldE 9 19 44 e6 ttOk hΓ0 (by kernel_rfl) rfl rfl rfl rfl rfl rfl rfl rfl e6h (fun _ => rfl) (fun _ => rfl) ?_
                            rintro ⟨⟨⟩, ⟨⟩, ⟨p25, c25⟩, ⟨⟩, ⟨⟩, ⟨⟩, ⟨⟨p26, c26⟩, ⟨p27, c27⟩, ⟨p28, c28⟩, ⟨⟩, ⟨⟩⟩⟩
                            refine DX.callV 10 rfl (by kernel_rfl) rfl rfl rfl rfl rfl rfl (fun _ => rfl) rfl (fun w G bs hI hΓ => f124 w n (by omega) e5 p21 c21 (hΓ.get 40 rfl) p22 c22 (hΓ.get 41 rfl) p23 c23 (hΓ.get 42 rfl) p24 c24 (hΓ.get 43 rfl) e6 p25 c25 (hΓ.get 44 rfl) p26 c26 (hΓ.get 45 rfl) p27 c27 (hΓ.get 46 rfl) p28 c28 (hΓ.get 47 rfl) ok5 ok6) ?_
                            intro hq7
                            refine DX.takes (fuel := 0) ttOk [(11, true)] (by kernel_rfl) rfl ?_
                            refine DX.tail2 [] rfl rfl (by kernel_rfl) ?_
                            refine WX.run ttOk rfl ?_
                            refine WX.cases 142 rfl (fun h16 => ?_) (fun h16 => ?_)
                            · skip
                              have h16d := (B.nt h16)
                              refine WX.run ttOk rfl ?_
                              have hP15 : spec_EqualNetworks_L3 b a.consumers 0 = (some false) := by rw [v6, drop_get e5h]; simp only [spec_EqualNetworks_L3, e6h, h16, cond_true, cond_false]
                              have hP16 : spec_EqualNetworks a b = false := by simp only [spec_EqualNetworks, h1, h2, h3, h4, h5, h6, h7, h8, h9, h10, hX1, hX2, hP15, cond_true, cond_false]
                              refine WX.ret ttOk rfl ?_
                              intro w1 G bs hI hΓ
                              rw [hP16]
                              exact ⟨rfl, trivial⟩
                            · skip
                              have h16d := (B.nf h16)
                              refine WX.run ttOk rfl ?_
                              refine WX.see rfl rfl rfl (fun _ hΓ => looks_arith rfl rfl rfl rfl (by unfold I64; first | omega | (simp only [List.length_take, List.length_drop] at *; omega) | (dsimp only; omega))) ?_
                              refine WX.run ttOk rfl ?_
                              exact WX.iter (i + 1) ⟨(by omega), (by rw [v6, drop_get e5h]; simp only [spec_EqualNetworks_L3, e6h, h16, cond_true, cond_false])⟩ (by first | (dsimp only; omega) | omega) (.cons rfl (.cons rfl (.cons rfl (.nil)))) (.cons rfl (.cons rfl (.nil))) .nil [0, 1, 2, 3, 4, 5, 6, 7, 8, 9, 10, 11, 12, 13, 14, 15, 16, 17, 18, 19] rfl
                          · skip
                            have h15d := B.df h15
                            refine WX.run ttOk rfl ?_
                            have hX3 : spec_EqualNetworks_L3 b a.consumers 0 = none := by rw [v6, List.drop_eq_nil_of_le (show (a.consumers).length ≤ i by omega)]; simp only [spec_EqualNetworks_L3, cond_true, cond_false]
                            have hP17 : spec_EqualNetworks a b = true := by simp only [spec_EqualNetworks, h1, h2, h3, h4, h5, h6, h7, h8, h9, h10, hX1, hX2, hX3, cond_true, cond_false]
                            refine WX.ret ttOk rfl ?_
                            intro w1 G bs hI hΓ
                            rw [hP17]
                            exact ⟨rfl, trivial⟩
end Go.Proofs.YtfffongneoegbaaGreat
namespace Go.Stp
theorem mid {α : Type} (p : List α) (e : α) (l : List α) : (p ++ e :: l)[p.length]? = some e := by simp
theorem mid_set {α : Type} (p : List α) (e x : α) (l : List α) : (p ++ e :: l).set p.length x = (p ++ [x]) ++ l := by simp
theorem mid_app {α : Type} (p : List α) (e : α) (l : List α) : (p ++ [e]) ++ l = p ++ e :: l := by simp
theorem mid_len {α : Type} (p : List α) (e : α) : (p ++ [e]).length = p.length + 1 := by simp
def SzR (r left : Int) (s : Nat) : Prop := r = -1 ∨ ((s : Int) ≤ left ∧ r = left - s)
theorem SzR.pos {r left : Int} {s : Nat} (h : SzR r left s) (hr : 0 ≤ r) : (s : Int) ≤ left ∧ r = left - s := by
  rcases h with h | h
  · omega
  · exact h
def SzL (r : Ctl Int Int) (left : Int) (s : Nat) : Prop := r = .ret (-1) ∨ ((s : Int) ≤ left ∧ r = .nxt (left - s))
theorem dF {x : Int} (h : 0 ≤ x) : decide (x < 0) = false := decide_eq_false (by omega)
theorem dT {x : Int} (h : x < 0) : decide (x < 0) = true := decide_eq_true h
theorem wrap_sub {x : Int} {n : Nat} (h0 : 0 ≤ x) (h1 : x ≤ 1048576) (hn : n ≤ 9223372036854775807) : IntKind.i64.wrap (x - (n : Int)) = x - n := wrap_i64 (by unfold I64; omega)
theorem szL_cons {α : Type} [GoT α] [Sz α] (a : α) (l : List α) : szL (a :: l) = sz a + szL l := by simp [szL]
theorem szL_nil {α : Type} [GoT α] [Sz α] : szL ([] : List α) = 0 := rfl
theorem szL_zero {α : Type} [GoT α] [Sz α] (h : ∀ a : α, sz a = 0) : ∀ l : List α, szL l = 0
  | [] => rfl
  | a :: l => by rw [szL_cons, h a, szL_zero h l]
theorem szL_u8 (l : List UInt8) : szL l = 0 := szL_zero (fun _ => rfl) l
theorem szL_int (l : List Int) : szL l = 0 := szL_zero (fun _ => rfl) l
theorem bne_self_F {α : Type} [BEq α] [LawfulBEq α] (a : α) : (a != a) = false := by simp
theorem nbeq_self_F {α : Type} [BEq α] [LawfulBEq α] (a : α) : (!(a == a)) = false := by simp
theorem bytesLess_self : ∀ l : List UInt8, Op.bytesLess l l = false
  | [] => rfl
  | a :: l => by simp [Op.bytesLess, bytesLess_self l]
theorem l4_zero (a b : List UInt8) : ((bif Op.bytesLess a b then (-1) else bif (!(Op.bytesLess a b || a == b)) then 1 else 0 : Int) = 0) ↔ a = b := by
  cases h : Op.bytesLess a b
  · by_cases e : a = b
    · simp [e]
    · have : (a == b) = false := by simpa using e
      simp [this, e]
  · constructor
    · intro x; simp at x
    · intro e; rw [e, bytesLess_self] at h; cases h
end Go.Stp

namespace Go.Stp
set_option linter.unusedVariables false
set_option linter.unusedSimpArgs false
theorem eqL_StringS : ∀ (l p : (List Str)), laws_eqStringS_L1 (p ++ l) l p.length = none
  | [], _ => rfl
  | e :: l, p => by
    have ih := eqL_StringS l (p ++ [e])
    rw [mid_app, mid_len] at ih
    simp only [laws_eqStringS_L1, mid, bne_self_F, nbeq_self_F, cond_false]
    exact ih
theorem eq_StringS (a : (List Str)) : laws_eqStringS a a = true := by
  have h := eqL_StringS a []
  simp only [List.nil_append, List.length_nil] at h
  simp only [laws_eqStringS, bne_self_F, cond_false, h]
theorem toL_StringS : ∀ (l p z : (List Str)), z.length = l.length → laws_toStringS_L1 l p.length (p ++ z) = p ++ l
  | [], p, [], _ => rfl
  | e :: l, p, y :: z, h => by
    have ih := toL_StringS l (p ++ [e]) z (by simpa using h)
    rw [mid_app p e l, mid_len] at ih
    simp only [laws_toStringS_L1, mid, mid_set]
    exact ih
theorem to_StringS (a : (List Str)) : laws_toStringS a = a := by
  simp only [laws_toStringS]
  exact toL_StringS a [] _ (by simp)
theorem szL_StringS_R : ∀ (l : (List Str)) (left : Int), (∀ a ∈ l, GoT.ok 10 a) → 0 ≤ left → left ≤ 1048576 → SzL (laws_szStringS_L1 l left) left (szL l)
  | [], left, _, h0, _ => .inr ⟨by simp [szL_nil]; omega, by simp [szL_nil, laws_szStringS_L1]⟩
  | e :: l, left, hk, h0, h1 => by
    have he : e.size ≤ 9223372036854775807 := hk e List.mem_cons_self
    rw [szL_cons, sz_str]
    unfold laws_szStringS_L1
    rw [wrap_sub h0 h1 he]
    by_cases hc : left - (e.size : Int) < 0
    · rw [dT hc, cond_true]; exact .inl rfl
    · rw [dF (by omega), cond_false]
      rcases szL_StringS_R l (left - (e.size : Int)) (fun a ha => hk a (List.mem_cons_of_mem _ ha)) (by omega) (by omega) with r | ⟨q, r⟩
      · exact .inl r
      · exact .inr ⟨by omega, by rw [r]; congr 1; omega⟩
theorem sz_StringS_R (a : (List Str)) (left : Int) (h : GoT.ok 10 a) (h0 : 0 ≤ left) (h1 : left ≤ 1048576) : SzR (laws_szStringS a left) left (sz a) := by
  have hl : a.length ≤ 9223372036854775807 := h.1
  rw [sz_list]
  unfold laws_szStringS
  rw [wrap_sub h0 h1 hl]
  by_cases hc : left - (a.length : Int) < 0
  · rw [dT hc, cond_true]; exact .inl rfl
  · rw [dF (by omega), cond_false]
    rcases szL_StringS_R a (left - (a.length : Int)) h.2 (by omega) (by omega) with r | ⟨q, r⟩
    · rw [r]; exact .inl rfl
    · rw [r]; exact .inr ⟨by omega, by show left - (a.length : Int) - (szL a : Int) = _; omega⟩
theorem eq_Name (a : Name) : laws_eqName a a = true := by
  simp only [laws_eqName, bne_self_F, nbeq_self_F, cond_false, Bool.not_true, eq_StringS]
theorem to_Name (a : Name) : laws_toName a = a := by
  simp only [laws_toName, to_StringS]
theorem sz_Name_R (a : Name) (left : Int) (h : GoT.ok 10 a) (h0 : 0 ≤ left) (h1 : left ≤ 1048576) : SzR (laws_szName a left) left (sz a) := by
  rw [sz_Name]
  unfold laws_szName
  rcases sz_StringS_R a.parts left (ok_Name h) (by omega) (by omega) with r0 | ⟨q0, r0⟩
  · rw [r0]; exact .inl rfl
  rw [r0, dF (by omega), cond_false]
  exact .inr ⟨by omega, by omega⟩
theorem eq_TableEntry (a : TableEntry) : laws_eqTableEntry a a = true := by
  simp only [laws_eqTableEntry, bne_self_F, nbeq_self_F, cond_false, Bool.not_true, eq_Name]
theorem to_TableEntry (a : TableEntry) : laws_toTableEntry a = a := by
  simp only [laws_toTableEntry, to_Name]
theorem sz_TableEntry_R (a : TableEntry) (left : Int) (h : GoT.ok 10 a) (h0 : 0 ≤ left) (h1 : left ≤ 1048576) : SzR (laws_szTableEntry a left) left (sz a) := by
  rw [sz_TableEntry]
  unfold laws_szTableEntry
  rcases sz_Name_R a.name left (ok_TableEntry h).1 (by omega) (by omega) with r0 | ⟨q0, r0⟩
  · rw [r0]; exact .inl rfl
  rw [r0, dF (by omega), cond_false]
  exact .inr ⟨by omega, by omega⟩
theorem eqL_TableEntryS : ∀ (l p : (List TableEntry)), laws_eqTableEntryS_L1 (p ++ l) l p.length = none
  | [], _ => rfl
  | e :: l, p => by
    have ih := eqL_TableEntryS l (p ++ [e])
    rw [mid_app, mid_len] at ih
    simp only [laws_eqTableEntryS_L1, mid, eq_TableEntry e, Bool.not_true, cond_false]
    exact ih
theorem eq_TableEntryS (a : (List TableEntry)) : laws_eqTableEntryS a a = true := by
  have h := eqL_TableEntryS a []
  simp only [List.nil_append, List.length_nil] at h
  simp only [laws_eqTableEntryS, bne_self_F, cond_false, h]
theorem toL_TableEntryS : ∀ (l p z : (List TableEntry)), z.length = l.length → laws_toTableEntryS_L1 l p.length (p ++ z) = p ++ l
  | [], p, [], _ => rfl
  | e :: l, p, y :: z, h => by
    have ih := toL_TableEntryS l (p ++ [e]) z (by simpa using h)
    rw [mid_app p e l, mid_len] at ih
    simp only [laws_toTableEntryS_L1, mid, mid_set, to_TableEntry e]
    exact ih
theorem to_TableEntryS (a : (List TableEntry)) : laws_toTableEntryS a = a := by
  simp only [laws_toTableEntryS]
  exact toL_TableEntryS a [] _ (by simp)
theorem szL_TableEntryS_R : ∀ (l : (List TableEntry)) (left : Int), (∀ a ∈ l, GoT.ok 10 a) → 0 ≤ left → left ≤ 1048576 → SzL (laws_szTableEntryS_L1 l left) left (szL l)
  | [], left, _, h0, _ => .inr ⟨by simp [szL_nil]; omega, by simp [szL_nil, laws_szTableEntryS_L1]⟩
  | e :: l, left, hk, h0, h1 => by
    rw [szL_cons]
    unfold laws_szTableEntryS_L1
    rcases sz_TableEntry_R e left (hk e List.mem_cons_self) h0 h1 with r0 | ⟨q0, r0⟩
    · rw [r0]; exact .inl rfl
    · rw [r0, dF (by omega), cond_false]
      rcases szL_TableEntryS_R l (left - (sz e : Int)) (fun a ha => hk a (List.mem_cons_of_mem _ ha)) (by omega) (by omega) with r | ⟨q, r⟩
      · exact .inl r
      · exact .inr ⟨by omega, by rw [r]; congr 1; omega⟩
theorem sz_TableEntryS_R (a : (List TableEntry)) (left : Int) (h : GoT.ok 10 a) (h0 : 0 ≤ left) (h1 : left ≤ 1048576) : SzR (laws_szTableEntryS a left) left (sz a) := by
  have hl : a.length ≤ 9223372036854775807 := h.1
  rw [sz_list]
  unfold laws_szTableEntryS
  rw [wrap_sub h0 h1 hl]
  by_cases hc : left - (a.length : Int) < 0
  · rw [dT hc, cond_true]; exact .inl rfl
  · rw [dF (by omega), cond_false]
    rcases szL_TableEntryS_R a (left - (a.length : Int)) h.2 (by omega) (by omega) with r | ⟨q, r⟩
    · rw [r]; exact .inl rfl
    · rw [r]; exact .inr ⟨by omega, by show left - (a.length : Int) - (szL a : Int) = _; omega⟩
theorem eqL_ByteS : ∀ (l p : (List UInt8)), laws_eqByteS_L1 (p ++ l) l p.length = none
  | [], _ => rfl
  | e :: l, p => by
    have ih := eqL_ByteS l (p ++ [e])
    rw [mid_app, mid_len] at ih
    simp only [laws_eqByteS_L1, mid, bne_self_F, nbeq_self_F, cond_false]
    exact ih
theorem eq_ByteS (a : (List UInt8)) : laws_eqByteS a a = true := by
  have h := eqL_ByteS a []
  simp only [List.nil_append, List.length_nil] at h
  simp only [laws_eqByteS, bne_self_F, cond_false, h]
theorem toL_ByteS : ∀ (l p z : (List UInt8)), z.length = l.length → laws_toByteS_L1 l p.length (p ++ z) = p ++ l
  | [], p, [], _ => rfl
  | e :: l, p, y :: z, h => by
    have ih := toL_ByteS l (p ++ [e]) z (by simpa using h)
    rw [mid_app p e l, mid_len] at ih
    simp only [laws_toByteS_L1, mid, mid_set]
    exact ih
theorem to_ByteS (a : (List UInt8)) : laws_toByteS a = a := by
  simp only [laws_toByteS]
  exact toL_ByteS a [] _ (by simp)
theorem sz_ByteS_R (a : (List UInt8)) (left : Int) (h : GoT.ok 10 a) (h0 : 0 ≤ left) (h1 : left ≤ 1048576) : SzR (laws_szByteS a left) left (sz a) := by
  have hl : a.length ≤ 9223372036854775807 := h.1
  rw [sz_list, szL_u8]
  unfold laws_szByteS
  rw [wrap_sub h0 h1 hl]
  by_cases hc : left - (a.length : Int) < 0
  · rw [dT hc, cond_true]; exact .inl rfl
  · rw [dF (by omega), cond_false]; exact .inr ⟨by omega, rfl⟩
theorem eq_Data (a : DataP) : laws_eqData a a = true := by
  simp only [laws_eqData, bne_self_F, nbeq_self_F, cond_false, Bool.not_true, eq_Name, eq_ByteS]
theorem to_Data (a : DataP) : laws_toData a = a := by
  simp only [laws_toData, to_Name, to_ByteS]
theorem sz_Data_R (a : DataP) (left : Int) (h : GoT.ok 10 a) (h0 : 0 ≤ left) (h1 : left ≤ 1048576) : SzR (laws_szData a left) left (sz a) := by
  rw [sz_DataP]
  unfold laws_szData
  rcases sz_Name_R a.name left (ok_DataP h).1 (by omega) (by omega) with r0 | ⟨q0, r0⟩
  · rw [r0]; exact .inl rfl
  rw [r0, dF (by omega), cond_false]
  rcases sz_ByteS_R a.content (left - (sz a.name : Int)) (ok_DataP h).2.1 (by omega) (by omega) with r1 | ⟨q1, r1⟩
  · rw [r1]; exact .inl rfl
  rw [r1, dF (by omega), cond_false]
  rcases sz_Name_R a.keyName ((left - (sz a.name : Int)) - (sz a.content : Int)) (ok_DataP h).2.2.1 (by omega) (by omega) with r2 | ⟨q2, r2⟩
  · rw [r2]; exact .inl rfl
  rw [r2, dF (by omega), cond_false]
  exact .inr ⟨by omega, by omega⟩
theorem eq_Consumer (a : Consumer) : laws_eqConsumer a a = true := by
  simp only [laws_eqConsumer, bne_self_F, nbeq_self_F, cond_false, Bool.not_true, eq_Name, eq_Data]
theorem to_Consumer (a : Consumer) : laws_toConsumer a = a := by
  simp only [laws_toConsumer, to_Name, to_Data]
theorem sz_Consumer_R (a : Consumer) (left : Int) (h : GoT.ok 10 a) (h0 : 0 ≤ left) (h1 : left ≤ 1048576) : SzR (laws_szConsumer a left) left (sz a) := by
  rw [sz_Consumer]
  unfold laws_szConsumer
  rcases sz_Name_R a.name left (ok_Consumer h).2.2.1 (by omega) (by omega) with r0 | ⟨q0, r0⟩
  · rw [r0]; exact .inl rfl
  rw [r0, dF (by omega), cond_false]
  rcases sz_Data_R a.data (left - (sz a.name : Int)) (ok_Consumer h).2.2.2.2.2.2 (by omega) (by omega) with r1 | ⟨q1, r1⟩
  · rw [r1]; exact .inl rfl
  rw [r1, dF (by omega), cond_false]
  exact .inr ⟨by omega, by omega⟩
theorem eq_Key (a : Key) : laws_eqKey a a = true := by
  simp only [laws_eqKey, bne_self_F, nbeq_self_F, cond_false, Bool.not_true, eq_Name]
theorem to_Key (a : Key) : laws_toKey a = a := by
  simp only [laws_toKey, to_Name]
theorem sz_Key_R (a : Key) (left : Int) (h : GoT.ok 10 a) (h0 : 0 ≤ left) (h1 : left ≤ 1048576) : SzR (laws_szKey a left) left (sz a) := by
  rw [sz_Key]
  unfold laws_szKey
  rcases sz_Name_R a.name left (ok_Key h).1 (by omega) (by omega) with r0 | ⟨q0, r0⟩
  · rw [r0]; exact .inl rfl
  rw [r0, dF (by omega), cond_false]
  exact .inr ⟨by omega, by omega⟩
theorem eqL_KeyS : ∀ (l p : (List Key)), laws_eqKeyS_L1 (p ++ l) l p.length = none
  | [], _ => rfl
  | e :: l, p => by
    have ih := eqL_KeyS l (p ++ [e])
    rw [mid_app, mid_len] at ih
    simp only [laws_eqKeyS_L1, mid, eq_Key e, Bool.not_true, cond_false]
    exact ih
theorem eq_KeyS (a : (List Key)) : laws_eqKeyS a a = true := by
  have h := eqL_KeyS a []
  simp only [List.nil_append, List.length_nil] at h
  simp only [laws_eqKeyS, bne_self_F, cond_false, h]
theorem toL_KeyS : ∀ (l p z : (List Key)), z.length = l.length → laws_toKeyS_L1 l p.length (p ++ z) = p ++ l
  | [], p, [], _ => rfl
  | e :: l, p, y :: z, h => by
    have ih := toL_KeyS l (p ++ [e]) z (by simpa using h)
    rw [mid_app p e l, mid_len] at ih
    simp only [laws_toKeyS_L1, mid, mid_set, to_Key e]
    exact ih
theorem to_KeyS (a : (List Key)) : laws_toKeyS a = a := by
  simp only [laws_toKeyS]
  exact toL_KeyS a [] _ (by simp)
theorem szL_KeyS_R : ∀ (l : (List Key)) (left : Int), (∀ a ∈ l, GoT.ok 10 a) → 0 ≤ left → left ≤ 1048576 → SzL (laws_szKeyS_L1 l left) left (szL l)
  | [], left, _, h0, _ => .inr ⟨by simp [szL_nil]; omega, by simp [szL_nil, laws_szKeyS_L1]⟩
  | e :: l, left, hk, h0, h1 => by
    rw [szL_cons]
    unfold laws_szKeyS_L1
    rcases sz_Key_R e left (hk e List.mem_cons_self) h0 h1 with r0 | ⟨q0, r0⟩
    · rw [r0]; exact .inl rfl
    · rw [r0, dF (by omega), cond_false]
      rcases szL_KeyS_R l (left - (sz e : Int)) (fun a ha => hk a (List.mem_cons_of_mem _ ha)) (by omega) (by omega) with r | ⟨q, r⟩
      · exact .inl r
      · exact .inr ⟨by omega, by rw [r]; congr 1; omega⟩
theorem sz_KeyS_R (a : (List Key)) (left : Int) (h : GoT.ok 10 a) (h0 : 0 ≤ left) (h1 : left ≤ 1048576) : SzR (laws_szKeyS a left) left (sz a) := by
  have hl : a.length ≤ 9223372036854775807 := h.1
  rw [sz_list]
  unfold laws_szKeyS
  rw [wrap_sub h0 h1 hl]
  by_cases hc : left - (a.length : Int) < 0
  · rw [dT hc, cond_true]; exact .inl rfl
  · rw [dF (by omega), cond_false]
    rcases szL_KeyS_R a (left - (a.length : Int)) h.2 (by omega) (by omega) with r | ⟨q, r⟩
    · rw [r]; exact .inl rfl
    · rw [r]; exact .inr ⟨by omega, by show left - (a.length : Int) - (szL a : Int) = _; omega⟩
theorem eq_Pattern (a : Pattern) : laws_eqPattern a a = true := by
  simp only [laws_eqPattern, bne_self_F, nbeq_self_F, cond_false, Bool.not_true, eq_StringS]
theorem to_Pattern (a : Pattern) : laws_toPattern a = a := by
  simp only [laws_toPattern, to_StringS]
theorem sz_Pattern_R (a : Pattern) (left : Int) (h : GoT.ok 10 a) (h0 : 0 ≤ left) (h1 : left ≤ 1048576) : SzR (laws_szPattern a left) left (sz a) := by
  rw [sz_Pattern]
  unfold laws_szPattern
  rcases sz_StringS_R a.parts left (ok_Pattern h) (by omega) (by omega) with r0 | ⟨q0, r0⟩
  · rw [r0]; exact .inl rfl
  rw [r0, dF (by omega), cond_false]
  exact .inr ⟨by omega, by omega⟩
theorem eq_Rule (a : Rule) : laws_eqRule a a = true := by
  simp only [laws_eqRule, bne_self_F, nbeq_self_F, cond_false, Bool.not_true, eq_Pattern]
theorem to_Rule (a : Rule) : laws_toRule a = a := by
  simp only [laws_toRule, to_Pattern]
theorem sz_Rule_R (a : Rule) (left : Int) (h : GoT.ok 10 a) (h0 : 0 ≤ left) (h1 : left ≤ 1048576) : SzR (laws_szRule a left) left (sz a) := by
  rw [sz_Rule]
  unfold laws_szRule
  rcases sz_Pattern_R a.dataPattern left (ok_Rule h).1 (by omega) (by omega) with r0 | ⟨q0, r0⟩
  · rw [r0]; exact .inl rfl
  rw [r0, dF (by omega), cond_false]
  rcases sz_Pattern_R a.keyPattern (left - (sz a.dataPattern : Int)) (ok_Rule h).2 (by omega) (by omega) with r1 | ⟨q1, r1⟩
  · rw [r1]; exact .inl rfl
  rw [r1, dF (by omega), cond_false]
  exact .inr ⟨by omega, by omega⟩
theorem eqL_RuleS : ∀ (l p : (List Rule)), laws_eqRuleS_L1 (p ++ l) l p.length = none
  | [], _ => rfl
  | e :: l, p => by
    have ih := eqL_RuleS l (p ++ [e])
    rw [mid_app, mid_len] at ih
    simp only [laws_eqRuleS_L1, mid, eq_Rule e, Bool.not_true, cond_false]
    exact ih
theorem eq_RuleS (a : (List Rule)) : laws_eqRuleS a a = true := by
  have h := eqL_RuleS a []
  simp only [List.nil_append, List.length_nil] at h
  simp only [laws_eqRuleS, bne_self_F, cond_false, h]
theorem toL_RuleS : ∀ (l p z : (List Rule)), z.length = l.length → laws_toRuleS_L1 l p.length (p ++ z) = p ++ l
  | [], p, [], _ => rfl
  | e :: l, p, y :: z, h => by
    have ih := toL_RuleS l (p ++ [e]) z (by simpa using h)
    rw [mid_app p e l, mid_len] at ih
    simp only [laws_toRuleS_L1, mid, mid_set, to_Rule e]
    exact ih
theorem to_RuleS (a : (List Rule)) : laws_toRuleS a = a := by
  simp only [laws_toRuleS]
  exact toL_RuleS a [] _ (by simp)
theorem szL_RuleS_R : ∀ (l : (List Rule)) (left : Int), (∀ a ∈ l, GoT.ok 10 a) → 0 ≤ left → left ≤ 1048576 → SzL (laws_szRuleS_L1 l left) left (szL l)
  | [], left, _, h0, _ => .inr ⟨by simp [szL_nil]; omega, by simp [szL_nil, laws_szRuleS_L1]⟩
  | e :: l, left, hk, h0, h1 => by
    rw [szL_cons]
    unfold laws_szRuleS_L1
    rcases sz_Rule_R e left (hk e List.mem_cons_self) h0 h1 with r0 | ⟨q0, r0⟩
    · rw [r0]; exact .inl rfl
    · rw [r0, dF (by omega), cond_false]
      rcases szL_RuleS_R l (left - (sz e : Int)) (fun a ha => hk a (List.mem_cons_of_mem _ ha)) (by omega) (by omega) with r | ⟨q, r⟩
      · exact .inl r
      · exact .inr ⟨by omega, by rw [r]; congr 1; omega⟩
theorem sz_RuleS_R (a : (List Rule)) (left : Int) (h : GoT.ok 10 a) (h0 : 0 ≤ left) (h1 : left ≤ 1048576) : SzR (laws_szRuleS a left) left (sz a) := by
  have hl : a.length ≤ 9223372036854775807 := h.1
  rw [sz_list]
  unfold laws_szRuleS
  rw [wrap_sub h0 h1 hl]
  by_cases hc : left - (a.length : Int) < 0
  · rw [dT hc, cond_true]; exact .inl rfl
  · rw [dF (by omega), cond_false]
    rcases szL_RuleS_R a (left - (a.length : Int)) h.2 (by omega) (by omega) with r | ⟨q, r⟩
    · rw [r]; exact .inl rfl
    · rw [r]; exact .inr ⟨by omega, by show left - (a.length : Int) - (szL a : Int) = _; omega⟩
theorem eqL_NameS : ∀ (l p : (List Name)), laws_eqNameS_L1 (p ++ l) l p.length = none
  | [], _ => rfl
  | e :: l, p => by
    have ih := eqL_NameS l (p ++ [e])
    rw [mid_app, mid_len] at ih
    simp only [laws_eqNameS_L1, mid, eq_Name e, Bool.not_true, cond_false]
    exact ih
theorem eq_NameS (a : (List Name)) : laws_eqNameS a a = true := by
  have h := eqL_NameS a []
  simp only [List.nil_append, List.length_nil] at h
  simp only [laws_eqNameS, bne_self_F, cond_false, h]
theorem toL_NameS : ∀ (l p z : (List Name)), z.length = l.length → laws_toNameS_L1 l p.length (p ++ z) = p ++ l
  | [], p, [], _ => rfl
  | e :: l, p, y :: z, h => by
    have ih := toL_NameS l (p ++ [e]) z (by simpa using h)
    rw [mid_app p e l, mid_len] at ih
    simp only [laws_toNameS_L1, mid, mid_set, to_Name e]
    exact ih
theorem to_NameS (a : (List Name)) : laws_toNameS a = a := by
  simp only [laws_toNameS]
  exact toL_NameS a [] _ (by simp)
theorem szL_NameS_R : ∀ (l : (List Name)) (left : Int), (∀ a ∈ l, GoT.ok 10 a) → 0 ≤ left → left ≤ 1048576 → SzL (laws_szNameS_L1 l left) left (szL l)
  | [], left, _, h0, _ => .inr ⟨by simp [szL_nil]; omega, by simp [szL_nil, laws_szNameS_L1]⟩
  | e :: l, left, hk, h0, h1 => by
    rw [szL_cons]
    unfold laws_szNameS_L1
    rcases sz_Name_R e left (hk e List.mem_cons_self) h0 h1 with r0 | ⟨q0, r0⟩
    · rw [r0]; exact .inl rfl
    · rw [r0, dF (by omega), cond_false]
      rcases szL_NameS_R l (left - (sz e : Int)) (fun a ha => hk a (List.mem_cons_of_mem _ ha)) (by omega) (by omega) with r | ⟨q, r⟩
      · exact .inl r
      · exact .inr ⟨by omega, by rw [r]; congr 1; omega⟩
theorem sz_NameS_R (a : (List Name)) (left : Int) (h : GoT.ok 10 a) (h0 : 0 ≤ left) (h1 : left ≤ 1048576) : SzR (laws_szNameS a left) left (sz a) := by
  have hl : a.length ≤ 9223372036854775807 := h.1
  rw [sz_list]
  unfold laws_szNameS
  rw [wrap_sub h0 h1 hl]
  by_cases hc : left - (a.length : Int) < 0
  · rw [dT hc, cond_true]; exact .inl rfl
  · rw [dF (by omega), cond_false]
    rcases szL_NameS_R a (left - (a.length : Int)) h.2 (by omega) (by omega) with r | ⟨q, r⟩
    · rw [r]; exact .inl rfl
    · rw [r]; exact .inr ⟨by omega, by show left - (a.length : Int) - (szL a : Int) = _; omega⟩
theorem eqL_DataS : ∀ (l p : (List DataP)), laws_eqDataS_L1 (p ++ l) l p.length = none
  | [], _ => rfl
  | e :: l, p => by
    have ih := eqL_DataS l (p ++ [e])
    rw [mid_app, mid_len] at ih
    simp only [laws_eqDataS_L1, mid, eq_Data e, Bool.not_true, cond_false]
    exact ih
theorem eq_DataS (a : (List DataP)) : laws_eqDataS a a = true := by
  have h := eqL_DataS a []
  simp only [List.nil_append, List.length_nil] at h
  simp only [laws_eqDataS, bne_self_F, cond_false, h]
theorem toL_DataS : ∀ (l p z : (List DataP)), z.length = l.length → laws_toDataS_L1 l p.length (p ++ z) = p ++ l
  | [], p, [], _ => rfl
  | e :: l, p, y :: z, h => by
    have ih := toL_DataS l (p ++ [e]) z (by simpa using h)
    rw [mid_app p e l, mid_len] at ih
    simp only [laws_toDataS_L1, mid, mid_set, to_Data e]
    exact ih
theorem to_DataS (a : (List DataP)) : laws_toDataS a = a := by
  simp only [laws_toDataS]
  exact toL_DataS a [] _ (by simp)
theorem szL_DataS_R : ∀ (l : (List DataP)) (left : Int), (∀ a ∈ l, GoT.ok 10 a) → 0 ≤ left → left ≤ 1048576 → SzL (laws_szDataS_L1 l left) left (szL l)
  | [], left, _, h0, _ => .inr ⟨by simp [szL_nil]; omega, by simp [szL_nil, laws_szDataS_L1]⟩
  | e :: l, left, hk, h0, h1 => by
    rw [szL_cons]
    unfold laws_szDataS_L1
    rcases sz_Data_R e left (hk e List.mem_cons_self) h0 h1 with r0 | ⟨q0, r0⟩
    · rw [r0]; exact .inl rfl
    · rw [r0, dF (by omega), cond_false]
      rcases szL_DataS_R l (left - (sz e : Int)) (fun a ha => hk a (List.mem_cons_of_mem _ ha)) (by omega) (by omega) with r | ⟨q, r⟩
      · exact .inl r
      · exact .inr ⟨by omega, by rw [r]; congr 1; omega⟩
theorem sz_DataS_R (a : (List DataP)) (left : Int) (h : GoT.ok 10 a) (h0 : 0 ≤ left) (h1 : left ≤ 1048576) : SzR (laws_szDataS a left) left (sz a) := by
  have hl : a.length ≤ 9223372036854775807 := h.1
  rw [sz_list]
  unfold laws_szDataS
  rw [wrap_sub h0 h1 hl]
  by_cases hc : left - (a.length : Int) < 0
  · rw [dT hc, cond_true]; exact .inl rfl
  · rw [dF (by omega), cond_false]
    rcases szL_DataS_R a (left - (a.length : Int)) h.2 (by omega) (by omega) with r | ⟨q, r⟩
    · rw [r]; exact .inl rfl
    · rw [r]; exact .inr ⟨by omega, by show left - (a.length : Int) - (szL a : Int) = _; omega⟩
theorem eq_TrustPolicy (a : TrustPolicy) : laws_eqTrustPolicy a a = true := by
  simp only [laws_eqTrustPolicy, bne_self_F, nbeq_self_F, cond_false, Bool.not_true, eq_KeyS, eq_RuleS, eq_NameS, eq_DataS]
theorem to_TrustPolicy (a : TrustPolicy) : laws_toTrustPolicy a = a := by
  simp only [laws_toTrustPolicy, to_KeyS, to_RuleS, to_NameS, to_DataS]
theorem sz_TrustPolicy_R (a : TrustPolicy) (left : Int) (h : GoT.ok 10 a) (h0 : 0 ≤ left) (h1 : left ≤ 1048576) : SzR (laws_szTrustPolicy a left) left (sz a) := by
  rw [sz_TrustPolicy]
  unfold laws_szTrustPolicy
  rcases sz_KeyS_R a.keys left (ok_TrustPolicy h).1 (by omega) (by omega) with r0 | ⟨q0, r0⟩
  · rw [r0]; exact .inl rfl
  rw [r0, dF (by omega), cond_false]
  rcases sz_RuleS_R a.rules (left - (sz a.keys : Int)) (ok_TrustPolicy h).2.1 (by omega) (by omega) with r1 | ⟨q1, r1⟩
  · rw [r1]; exact .inl rfl
  rw [r1, dF (by omega), cond_false]
  rcases sz_NameS_R a.anchors ((left - (sz a.keys : Int)) - (sz a.rules : Int)) (ok_TrustPolicy h).2.2.1 (by omega) (by omega) with r2 | ⟨q2, r2⟩
  · rw [r2]; exact .inl rfl
  rw [r2, dF (by omega), cond_false]
  rcases sz_DataS_R a.certificates (((left - (sz a.keys : Int)) - (sz a.rules : Int)) - (sz a.anchors : Int)) (ok_TrustPolicy h).2.2.2 (by omega) (by omega) with r3 | ⟨q3, r3⟩
  · rw [r3]; exact .inl rfl
  rw [r3, dF (by omega), cond_false]
  exact .inr ⟨by omega, by omega⟩
theorem eq_Link (a : Link) : laws_eqLink a a = true := by
  simp only [laws_eqLink, bne_self_F, nbeq_self_F, cond_false, Bool.not_true]
theorem to_Link (a : Link) : laws_toLink a = a := by
  simp only [laws_toLink]
theorem eqL_LinkS : ∀ (l p : (List Link)), laws_eqLinkS_L1 (p ++ l) l p.length = none
  | [], _ => rfl
  | e :: l, p => by
    have ih := eqL_LinkS l (p ++ [e])
    rw [mid_app, mid_len] at ih
    simp only [laws_eqLinkS_L1, mid, eq_Link e, Bool.not_true, cond_false]
    exact ih
theorem eq_LinkS (a : (List Link)) : laws_eqLinkS a a = true := by
  have h := eqL_LinkS a []
  simp only [List.nil_append, List.length_nil] at h
  simp only [laws_eqLinkS, bne_self_F, cond_false, h]
theorem toL_LinkS : ∀ (l p z : (List Link)), z.length = l.length → laws_toLinkS_L1 l p.length (p ++ z) = p ++ l
  | [], p, [], _ => rfl
  | e :: l, p, y :: z, h => by
    have ih := toL_LinkS l (p ++ [e]) z (by simpa using h)
    rw [mid_app p e l, mid_len] at ih
    simp only [laws_toLinkS_L1, mid, mid_set, to_Link e]
    exact ih
theorem to_LinkS (a : (List Link)) : laws_toLinkS a = a := by
  simp only [laws_toLinkS]
  exact toL_LinkS a [] _ (by simp)
theorem sz_LinkS_R (a : (List Link)) (left : Int) (h : GoT.ok 10 a) (h0 : 0 ≤ left) (h1 : left ≤ 1048576) : SzR (laws_szLinkS a left) left (sz a) := by
  have hl : a.length ≤ 9223372036854775807 := h.1
  rw [sz_list, szL_zero (fun b => sz_Link b)]
  unfold laws_szLinkS
  rw [wrap_sub h0 h1 hl]
  by_cases hc : left - (a.length : Int) < 0
  · rw [dT hc, cond_true]; exact .inl rfl
  · rw [dF (by omega), cond_false]; exact .inr ⟨by omega, rfl⟩
theorem eq_Topology (a : Topology) : laws_eqTopology a a = true := by
  simp only [laws_eqTopology, bne_self_F, nbeq_self_F, cond_false, Bool.not_true, eq_LinkS]
theorem to_Topology (a : Topology) : laws_toTopology a = a := by
  simp only [laws_toTopology, to_LinkS]
theorem sz_Topology_R (a : Topology) (left : Int) (h : GoT.ok 10 a) (h0 : 0 ≤ left) (h1 : left ≤ 1048576) : SzR (laws_szTopology a left) left (sz a) := by
  rw [sz_Topology]
  unfold laws_szTopology
  rcases sz_LinkS_R a.links left (ok_Topology h).2 (by omega) (by omega) with r0 | ⟨q0, r0⟩
  · rw [r0]; exact .inl rfl
  rw [r0, dF (by omega), cond_false]
  exact .inr ⟨by omega, by omega⟩
theorem eq_CacheEntry (a : CacheEntry) : laws_eqCacheEntry a a = true := by
  simp only [laws_eqCacheEntry, bne_self_F, nbeq_self_F, cond_false, Bool.not_true, eq_Data]
theorem to_CacheEntry (a : CacheEntry) : laws_toCacheEntry a = a := by
  simp only [laws_toCacheEntry, to_Data]
theorem sz_CacheEntry_R (a : CacheEntry) (left : Int) (h : GoT.ok 10 a) (h0 : 0 ≤ left) (h1 : left ≤ 1048576) : SzR (laws_szCacheEntry a left) left (sz a) := by
  rw [sz_CacheEntry]
  unfold laws_szCacheEntry
  rcases sz_Data_R a.data left (ok_CacheEntry h).1 (by omega) (by omega) with r0 | ⟨q0, r0⟩
  · rw [r0]; exact .inl rfl
  rw [r0, dF (by omega), cond_false]
  exact .inr ⟨by omega, by omega⟩
theorem eqL_CacheEntryS : ∀ (l p : (List CacheEntry)), laws_eqCacheEntryS_L1 (p ++ l) l p.length = none
  | [], _ => rfl
  | e :: l, p => by
    have ih := eqL_CacheEntryS l (p ++ [e])
    rw [mid_app, mid_len] at ih
    simp only [laws_eqCacheEntryS_L1, mid, eq_CacheEntry e, Bool.not_true, cond_false]
    exact ih
theorem eq_CacheEntryS (a : (List CacheEntry)) : laws_eqCacheEntryS a a = true := by
  have h := eqL_CacheEntryS a []
  simp only [List.nil_append, List.length_nil] at h
  simp only [laws_eqCacheEntryS, bne_self_F, cond_false, h]
theorem toL_CacheEntryS : ∀ (l p z : (List CacheEntry)), z.length = l.length → laws_toCacheEntryS_L1 l p.length (p ++ z) = p ++ l
  | [], p, [], _ => rfl
  | e :: l, p, y :: z, h => by
    have ih := toL_CacheEntryS l (p ++ [e]) z (by simpa using h)
    rw [mid_app p e l, mid_len] at ih
    simp only [laws_toCacheEntryS_L1, mid, mid_set, to_CacheEntry e]
    exact ih
theorem to_CacheEntryS (a : (List CacheEntry)) : laws_toCacheEntryS a = a := by
  simp only [laws_toCacheEntryS]
  exact toL_CacheEntryS a [] _ (by simp)
theorem szL_CacheEntryS_R : ∀ (l : (List CacheEntry)) (left : Int), (∀ a ∈ l, GoT.ok 10 a) → 0 ≤ left → left ≤ 1048576 → SzL (laws_szCacheEntryS_L1 l left) left (szL l)
  | [], left, _, h0, _ => .inr ⟨by simp [szL_nil]; omega, by simp [szL_nil, laws_szCacheEntryS_L1]⟩
  | e :: l, left, hk, h0, h1 => by
    rw [szL_cons]
    unfold laws_szCacheEntryS_L1
    rcases sz_CacheEntry_R e left (hk e List.mem_cons_self) h0 h1 with r0 | ⟨q0, r0⟩
    · rw [r0]; exact .inl rfl
    · rw [r0, dF (by omega), cond_false]
      rcases szL_CacheEntryS_R l (left - (sz e : Int)) (fun a ha => hk a (List.mem_cons_of_mem _ ha)) (by omega) (by omega) with r | ⟨q, r⟩
      · exact .inl r
      · exact .inr ⟨by omega, by rw [r]; congr 1; omega⟩
theorem sz_CacheEntryS_R (a : (List CacheEntry)) (left : Int) (h : GoT.ok 10 a) (h0 : 0 ≤ left) (h1 : left ≤ 1048576) : SzR (laws_szCacheEntryS a left) left (sz a) := by
  have hl : a.length ≤ 9223372036854775807 := h.1
  rw [sz_list]
  unfold laws_szCacheEntryS
  rw [wrap_sub h0 h1 hl]
  by_cases hc : left - (a.length : Int) < 0
  · rw [dT hc, cond_true]; exact .inl rfl
  · rw [dF (by omega), cond_false]
    rcases szL_CacheEntryS_R a (left - (a.length : Int)) h.2 (by omega) (by omega) with r | ⟨q, r⟩
    · rw [r]; exact .inl rfl
    · rw [r]; exact .inr ⟨by omega, by show left - (a.length : Int) - (szL a : Int) = _; omega⟩
theorem eq_ContentStore (a : ContentStore) : laws_eqContentStore a a = true := by
  simp only [laws_eqContentStore, bne_self_F, nbeq_self_F, cond_false, Bool.not_true, eq_CacheEntryS]
theorem to_ContentStore (a : ContentStore) : laws_toContentStore a = a := by
  simp only [laws_toContentStore, to_CacheEntryS]
theorem sz_ContentStore_R (a : ContentStore) (left : Int) (h : GoT.ok 10 a) (h0 : 0 ≤ left) (h1 : left ≤ 1048576) : SzR (laws_szContentStore a left) left (sz a) := by
  rw [sz_ContentStore]
  unfold laws_szContentStore
  rcases sz_CacheEntryS_R a.entries left (ok_ContentStore h).2 (by omega) (by omega) with r0 | ⟨q0, r0⟩
  · rw [r0]; exact .inl rfl
  rw [r0, dF (by omega), cond_false]
  exact .inr ⟨by omega, by omega⟩
theorem eq_Requester (a : Requester) : laws_eqRequester a a = true := by
  simp only [laws_eqRequester, bne_self_F, nbeq_self_F, cond_false, Bool.not_true]
theorem to_Requester (a : Requester) : laws_toRequester a = a := by
  simp only [laws_toRequester]
theorem eqL_RequesterS : ∀ (l p : (List Requester)), laws_eqRequesterS_L1 (p ++ l) l p.length = none
  | [], _ => rfl
  | e :: l, p => by
    have ih := eqL_RequesterS l (p ++ [e])
    rw [mid_app, mid_len] at ih
    simp only [laws_eqRequesterS_L1, mid, eq_Requester e, Bool.not_true, cond_false]
    exact ih
theorem eq_RequesterS (a : (List Requester)) : laws_eqRequesterS a a = true := by
  have h := eqL_RequesterS a []
  simp only [List.nil_append, List.length_nil] at h
  simp only [laws_eqRequesterS, bne_self_F, cond_false, h]
theorem toL_RequesterS : ∀ (l p z : (List Requester)), z.length = l.length → laws_toRequesterS_L1 l p.length (p ++ z) = p ++ l
  | [], p, [], _ => rfl
  | e :: l, p, y :: z, h => by
    have ih := toL_RequesterS l (p ++ [e]) z (by simpa using h)
    rw [mid_app p e l, mid_len] at ih
    simp only [laws_toRequesterS_L1, mid, mid_set, to_Requester e]
    exact ih
theorem to_RequesterS (a : (List Requester)) : laws_toRequesterS a = a := by
  simp only [laws_toRequesterS]
  exact toL_RequesterS a [] _ (by simp)
theorem sz_RequesterS_R (a : (List Requester)) (left : Int) (h : GoT.ok 10 a) (h0 : 0 ≤ left) (h1 : left ≤ 1048576) : SzR (laws_szRequesterS a left) left (sz a) := by
  have hl : a.length ≤ 9223372036854775807 := h.1
  rw [sz_list, szL_zero (fun b => sz_Requester b)]
  unfold laws_szRequesterS
  rw [wrap_sub h0 h1 hl]
  by_cases hc : left - (a.length : Int) < 0
  · rw [dT hc, cond_true]; exact .inl rfl
  · rw [dF (by omega), cond_false]; exact .inr ⟨by omega, rfl⟩
theorem eq_PendingInterest (a : PendingInterest) : laws_eqPendingInterest a a = true := by
  simp only [laws_eqPendingInterest, bne_self_F, nbeq_self_F, cond_false, Bool.not_true, eq_Name, eq_RequesterS]
theorem to_PendingInterest (a : PendingInterest) : laws_toPendingInterest a = a := by
  simp only [laws_toPendingInterest, to_Name, to_RequesterS]
theorem sz_PendingInterest_R (a : PendingInterest) (left : Int) (h : GoT.ok 10 a) (h0 : 0 ≤ left) (h1 : left ≤ 1048576) : SzR (laws_szPendingInterest a left) left (sz a) := by
  rw [sz_PendingInterest]
  unfold laws_szPendingInterest
  rcases sz_Name_R a.name left (ok_PendingInterest h).1 (by omega) (by omega) with r0 | ⟨q0, r0⟩
  · rw [r0]; exact .inl rfl
  rw [r0, dF (by omega), cond_false]
  rcases sz_RequesterS_R a.requesters (left - (sz a.name : Int)) (ok_PendingInterest h).2.1 (by omega) (by omega) with r1 | ⟨q1, r1⟩
  · rw [r1]; exact .inl rfl
  rw [r1, dF (by omega), cond_false]
  exact .inr ⟨by omega, by omega⟩
theorem eqL_PendingInterestS : ∀ (l p : (List PendingInterest)), laws_eqPendingInterestS_L1 (p ++ l) l p.length = none
  | [], _ => rfl
  | e :: l, p => by
    have ih := eqL_PendingInterestS l (p ++ [e])
    rw [mid_app, mid_len] at ih
    simp only [laws_eqPendingInterestS_L1, mid, eq_PendingInterest e, Bool.not_true, cond_false]
    exact ih
theorem eq_PendingInterestS (a : (List PendingInterest)) : laws_eqPendingInterestS a a = true := by
  have h := eqL_PendingInterestS a []
  simp only [List.nil_append, List.length_nil] at h
  simp only [laws_eqPendingInterestS, bne_self_F, cond_false, h]
theorem toL_PendingInterestS : ∀ (l p z : (List PendingInterest)), z.length = l.length → laws_toPendingInterestS_L1 l p.length (p ++ z) = p ++ l
  | [], p, [], _ => rfl
  | e :: l, p, y :: z, h => by
    have ih := toL_PendingInterestS l (p ++ [e]) z (by simpa using h)
    rw [mid_app p e l, mid_len] at ih
    simp only [laws_toPendingInterestS_L1, mid, mid_set, to_PendingInterest e]
    exact ih
theorem to_PendingInterestS (a : (List PendingInterest)) : laws_toPendingInterestS a = a := by
  simp only [laws_toPendingInterestS]
  exact toL_PendingInterestS a [] _ (by simp)
theorem szL_PendingInterestS_R : ∀ (l : (List PendingInterest)) (left : Int), (∀ a ∈ l, GoT.ok 10 a) → 0 ≤ left → left ≤ 1048576 → SzL (laws_szPendingInterestS_L1 l left) left (szL l)
  | [], left, _, h0, _ => .inr ⟨by simp [szL_nil]; omega, by simp [szL_nil, laws_szPendingInterestS_L1]⟩
  | e :: l, left, hk, h0, h1 => by
    rw [szL_cons]
    unfold laws_szPendingInterestS_L1
    rcases sz_PendingInterest_R e left (hk e List.mem_cons_self) h0 h1 with r0 | ⟨q0, r0⟩
    · rw [r0]; exact .inl rfl
    · rw [r0, dF (by omega), cond_false]
      rcases szL_PendingInterestS_R l (left - (sz e : Int)) (fun a ha => hk a (List.mem_cons_of_mem _ ha)) (by omega) (by omega) with r | ⟨q, r⟩
      · exact .inl r
      · exact .inr ⟨by omega, by rw [r]; congr 1; omega⟩
theorem sz_PendingInterestS_R (a : (List PendingInterest)) (left : Int) (h : GoT.ok 10 a) (h0 : 0 ≤ left) (h1 : left ≤ 1048576) : SzR (laws_szPendingInterestS a left) left (sz a) := by
  have hl : a.length ≤ 9223372036854775807 := h.1
  rw [sz_list]
  unfold laws_szPendingInterestS
  rw [wrap_sub h0 h1 hl]
  by_cases hc : left - (a.length : Int) < 0
  · rw [dT hc, cond_true]; exact .inl rfl
  · rw [dF (by omega), cond_false]
    rcases szL_PendingInterestS_R a (left - (a.length : Int)) h.2 (by omega) (by omega) with r | ⟨q, r⟩
    · rw [r]; exact .inl rfl
    · rw [r]; exact .inr ⟨by omega, by show left - (a.length : Int) - (szL a : Int) = _; omega⟩
theorem eq_SeenNonce (a : SeenNonce) : laws_eqSeenNonce a a = true := by
  simp only [laws_eqSeenNonce, bne_self_F, nbeq_self_F, cond_false, Bool.not_true, eq_Name]
theorem to_SeenNonce (a : SeenNonce) : laws_toSeenNonce a = a := by
  simp only [laws_toSeenNonce, to_Name]
theorem sz_SeenNonce_R (a : SeenNonce) (left : Int) (h : GoT.ok 10 a) (h0 : 0 ≤ left) (h1 : left ≤ 1048576) : SzR (laws_szSeenNonce a left) left (sz a) := by
  rw [sz_SeenNonce]
  unfold laws_szSeenNonce
  rcases sz_Name_R a.name left (ok_SeenNonce h).1 (by omega) (by omega) with r0 | ⟨q0, r0⟩
  · rw [r0]; exact .inl rfl
  rw [r0, dF (by omega), cond_false]
  exact .inr ⟨by omega, by omega⟩
theorem eqL_SeenNonceS : ∀ (l p : (List SeenNonce)), laws_eqSeenNonceS_L1 (p ++ l) l p.length = none
  | [], _ => rfl
  | e :: l, p => by
    have ih := eqL_SeenNonceS l (p ++ [e])
    rw [mid_app, mid_len] at ih
    simp only [laws_eqSeenNonceS_L1, mid, eq_SeenNonce e, Bool.not_true, cond_false]
    exact ih
theorem eq_SeenNonceS (a : (List SeenNonce)) : laws_eqSeenNonceS a a = true := by
  have h := eqL_SeenNonceS a []
  simp only [List.nil_append, List.length_nil] at h
  simp only [laws_eqSeenNonceS, bne_self_F, cond_false, h]
theorem toL_SeenNonceS : ∀ (l p z : (List SeenNonce)), z.length = l.length → laws_toSeenNonceS_L1 l p.length (p ++ z) = p ++ l
  | [], p, [], _ => rfl
  | e :: l, p, y :: z, h => by
    have ih := toL_SeenNonceS l (p ++ [e]) z (by simpa using h)
    rw [mid_app p e l, mid_len] at ih
    simp only [laws_toSeenNonceS_L1, mid, mid_set, to_SeenNonce e]
    exact ih
theorem to_SeenNonceS (a : (List SeenNonce)) : laws_toSeenNonceS a = a := by
  simp only [laws_toSeenNonceS]
  exact toL_SeenNonceS a [] _ (by simp)
theorem szL_SeenNonceS_R : ∀ (l : (List SeenNonce)) (left : Int), (∀ a ∈ l, GoT.ok 10 a) → 0 ≤ left → left ≤ 1048576 → SzL (laws_szSeenNonceS_L1 l left) left (szL l)
  | [], left, _, h0, _ => .inr ⟨by simp [szL_nil]; omega, by simp [szL_nil, laws_szSeenNonceS_L1]⟩
  | e :: l, left, hk, h0, h1 => by
    rw [szL_cons]
    unfold laws_szSeenNonceS_L1
    rcases sz_SeenNonce_R e left (hk e List.mem_cons_self) h0 h1 with r0 | ⟨q0, r0⟩
    · rw [r0]; exact .inl rfl
    · rw [r0, dF (by omega), cond_false]
      rcases szL_SeenNonceS_R l (left - (sz e : Int)) (fun a ha => hk a (List.mem_cons_of_mem _ ha)) (by omega) (by omega) with r | ⟨q, r⟩
      · exact .inl r
      · exact .inr ⟨by omega, by rw [r]; congr 1; omega⟩
theorem sz_SeenNonceS_R (a : (List SeenNonce)) (left : Int) (h : GoT.ok 10 a) (h0 : 0 ≤ left) (h1 : left ≤ 1048576) : SzR (laws_szSeenNonceS a left) left (sz a) := by
  have hl : a.length ≤ 9223372036854775807 := h.1
  rw [sz_list]
  unfold laws_szSeenNonceS
  rw [wrap_sub h0 h1 hl]
  by_cases hc : left - (a.length : Int) < 0
  · rw [dT hc, cond_true]; exact .inl rfl
  · rw [dF (by omega), cond_false]
    rcases szL_SeenNonceS_R a (left - (a.length : Int)) h.2 (by omega) (by omega) with r | ⟨q, r⟩
    · rw [r]; exact .inl rfl
    · rw [r]; exact .inr ⟨by omega, by show left - (a.length : Int) - (szL a : Int) = _; omega⟩
theorem eq_Route (a : Route) : laws_eqRoute a a = true := by
  simp only [laws_eqRoute, bne_self_F, nbeq_self_F, cond_false, Bool.not_true, eq_Name]
theorem to_Route (a : Route) : laws_toRoute a = a := by
  simp only [laws_toRoute, to_Name]
theorem sz_Route_R (a : Route) (left : Int) (h : GoT.ok 10 a) (h0 : 0 ≤ left) (h1 : left ≤ 1048576) : SzR (laws_szRoute a left) left (sz a) := by
  rw [sz_Route]
  unfold laws_szRoute
  rcases sz_Name_R a.pfx left (ok_Route h).1 (by omega) (by omega) with r0 | ⟨q0, r0⟩
  · rw [r0]; exact .inl rfl
  rw [r0, dF (by omega), cond_false]
  exact .inr ⟨by omega, by omega⟩
theorem eqL_RouteS : ∀ (l p : (List Route)), laws_eqRouteS_L1 (p ++ l) l p.length = none
  | [], _ => rfl
  | e :: l, p => by
    have ih := eqL_RouteS l (p ++ [e])
    rw [mid_app, mid_len] at ih
    simp only [laws_eqRouteS_L1, mid, eq_Route e, Bool.not_true, cond_false]
    exact ih
theorem eq_RouteS (a : (List Route)) : laws_eqRouteS a a = true := by
  have h := eqL_RouteS a []
  simp only [List.nil_append, List.length_nil] at h
  simp only [laws_eqRouteS, bne_self_F, cond_false, h]
theorem toL_RouteS : ∀ (l p z : (List Route)), z.length = l.length → laws_toRouteS_L1 l p.length (p ++ z) = p ++ l
  | [], p, [], _ => rfl
  | e :: l, p, y :: z, h => by
    have ih := toL_RouteS l (p ++ [e]) z (by simpa using h)
    rw [mid_app p e l, mid_len] at ih
    simp only [laws_toRouteS_L1, mid, mid_set, to_Route e]
    exact ih
theorem to_RouteS (a : (List Route)) : laws_toRouteS a = a := by
  simp only [laws_toRouteS]
  exact toL_RouteS a [] _ (by simp)
theorem szL_RouteS_R : ∀ (l : (List Route)) (left : Int), (∀ a ∈ l, GoT.ok 10 a) → 0 ≤ left → left ≤ 1048576 → SzL (laws_szRouteS_L1 l left) left (szL l)
  | [], left, _, h0, _ => .inr ⟨by simp [szL_nil]; omega, by simp [szL_nil, laws_szRouteS_L1]⟩
  | e :: l, left, hk, h0, h1 => by
    rw [szL_cons]
    unfold laws_szRouteS_L1
    rcases sz_Route_R e left (hk e List.mem_cons_self) h0 h1 with r0 | ⟨q0, r0⟩
    · rw [r0]; exact .inl rfl
    · rw [r0, dF (by omega), cond_false]
      rcases szL_RouteS_R l (left - (sz e : Int)) (fun a ha => hk a (List.mem_cons_of_mem _ ha)) (by omega) (by omega) with r | ⟨q, r⟩
      · exact .inl r
      · exact .inr ⟨by omega, by rw [r]; congr 1; omega⟩
theorem sz_RouteS_R (a : (List Route)) (left : Int) (h : GoT.ok 10 a) (h0 : 0 ≤ left) (h1 : left ≤ 1048576) : SzR (laws_szRouteS a left) left (sz a) := by
  have hl : a.length ≤ 9223372036854775807 := h.1
  rw [sz_list]
  unfold laws_szRouteS
  rw [wrap_sub h0 h1 hl]
  by_cases hc : left - (a.length : Int) < 0
  · rw [dT hc, cond_true]; exact .inl rfl
  · rw [dF (by omega), cond_false]
    rcases szL_RouteS_R a (left - (a.length : Int)) h.2 (by omega) (by omega) with r | ⟨q, r⟩
    · rw [r]; exact .inl rfl
    · rw [r]; exact .inr ⟨by omega, by show left - (a.length : Int) - (szL a : Int) = _; omega⟩
theorem eq_Measurement (a : Measurement) : laws_eqMeasurement a a = true := by
  simp only [laws_eqMeasurement, bne_self_F, nbeq_self_F, cond_false, Bool.not_true, eq_Name]
theorem to_Measurement (a : Measurement) : laws_toMeasurement a = a := by
  simp only [laws_toMeasurement, to_Name]
theorem sz_Measurement_R (a : Measurement) (left : Int) (h : GoT.ok 10 a) (h0 : 0 ≤ left) (h1 : left ≤ 1048576) : SzR (laws_szMeasurement a left) left (sz a) := by
  rw [sz_Measurement]
  unfold laws_szMeasurement
  rcases sz_Name_R a.pfx left (ok_Measurement h).1 (by omega) (by omega) with r0 | ⟨q0, r0⟩
  · rw [r0]; exact .inl rfl
  rw [r0, dF (by omega), cond_false]
  exact .inr ⟨by omega, by omega⟩
theorem eqL_MeasurementS : ∀ (l p : (List Measurement)), laws_eqMeasurementS_L1 (p ++ l) l p.length = none
  | [], _ => rfl
  | e :: l, p => by
    have ih := eqL_MeasurementS l (p ++ [e])
    rw [mid_app, mid_len] at ih
    simp only [laws_eqMeasurementS_L1, mid, eq_Measurement e, Bool.not_true, cond_false]
    exact ih
theorem eq_MeasurementS (a : (List Measurement)) : laws_eqMeasurementS a a = true := by
  have h := eqL_MeasurementS a []
  simp only [List.nil_append, List.length_nil] at h
  simp only [laws_eqMeasurementS, bne_self_F, cond_false, h]
theorem toL_MeasurementS : ∀ (l p z : (List Measurement)), z.length = l.length → laws_toMeasurementS_L1 l p.length (p ++ z) = p ++ l
  | [], p, [], _ => rfl
  | e :: l, p, y :: z, h => by
    have ih := toL_MeasurementS l (p ++ [e]) z (by simpa using h)
    rw [mid_app p e l, mid_len] at ih
    simp only [laws_toMeasurementS_L1, mid, mid_set, to_Measurement e]
    exact ih
theorem to_MeasurementS (a : (List Measurement)) : laws_toMeasurementS a = a := by
  simp only [laws_toMeasurementS]
  exact toL_MeasurementS a [] _ (by simp)
theorem szL_MeasurementS_R : ∀ (l : (List Measurement)) (left : Int), (∀ a ∈ l, GoT.ok 10 a) → 0 ≤ left → left ≤ 1048576 → SzL (laws_szMeasurementS_L1 l left) left (szL l)
  | [], left, _, h0, _ => .inr ⟨by simp [szL_nil]; omega, by simp [szL_nil, laws_szMeasurementS_L1]⟩
  | e :: l, left, hk, h0, h1 => by
    rw [szL_cons]
    unfold laws_szMeasurementS_L1
    rcases sz_Measurement_R e left (hk e List.mem_cons_self) h0 h1 with r0 | ⟨q0, r0⟩
    · rw [r0]; exact .inl rfl
    · rw [r0, dF (by omega), cond_false]
      rcases szL_MeasurementS_R l (left - (sz e : Int)) (fun a ha => hk a (List.mem_cons_of_mem _ ha)) (by omega) (by omega) with r | ⟨q, r⟩
      · exact .inl r
      · exact .inr ⟨by omega, by rw [r]; congr 1; omega⟩
theorem sz_MeasurementS_R (a : (List Measurement)) (left : Int) (h : GoT.ok 10 a) (h0 : 0 ≤ left) (h1 : left ≤ 1048576) : SzR (laws_szMeasurementS a left) left (sz a) := by
  have hl : a.length ≤ 9223372036854775807 := h.1
  rw [sz_list]
  unfold laws_szMeasurementS
  rw [wrap_sub h0 h1 hl]
  by_cases hc : left - (a.length : Int) < 0
  · rw [dT hc, cond_true]; exact .inl rfl
  · rw [dF (by omega), cond_false]
    rcases szL_MeasurementS_R a (left - (a.length : Int)) h.2 (by omega) (by omega) with r | ⟨q, r⟩
    · rw [r]; exact .inl rfl
    · rw [r]; exact .inr ⟨by omega, by show left - (a.length : Int) - (szL a : Int) = _; omega⟩
theorem eq_Node (a : NodeP) : laws_eqNode a a = true := by
  simp only [laws_eqNode, bne_self_F, nbeq_self_F, cond_false, Bool.not_true, eq_DataS, eq_ContentStore, eq_PendingInterestS, eq_SeenNonceS, eq_RouteS, eq_MeasurementS]
theorem to_Node (a : NodeP) : laws_toNode a = a := by
  simp only [laws_toNode, to_DataS, to_ContentStore, to_PendingInterestS, to_SeenNonceS, to_RouteS, to_MeasurementS]
theorem sz_Node_R (a : NodeP) (left : Int) (h : GoT.ok 10 a) (h0 : 0 ≤ left) (h1 : left ≤ 1048576) : SzR (laws_szNode a left) left (sz a) := by
  rw [sz_NodeP]
  unfold laws_szNode
  rcases sz_DataS_R a.locl left (ok_NodeP h).1 (by omega) (by omega) with r0 | ⟨q0, r0⟩
  · rw [r0]; exact .inl rfl
  rw [r0, dF (by omega), cond_false]
  rcases sz_ContentStore_R a.cache (left - (sz a.locl : Int)) (ok_NodeP h).2.1 (by omega) (by omega) with r1 | ⟨q1, r1⟩
  · rw [r1]; exact .inl rfl
  rw [r1, dF (by omega), cond_false]
  rcases sz_PendingInterestS_R a.pending ((left - (sz a.locl : Int)) - (sz a.cache : Int)) (ok_NodeP h).2.2.1 (by omega) (by omega) with r2 | ⟨q2, r2⟩
  · rw [r2]; exact .inl rfl
  rw [r2, dF (by omega), cond_false]
  rcases sz_SeenNonceS_R a.seen (((left - (sz a.locl : Int)) - (sz a.cache : Int)) - (sz a.pending : Int)) (ok_NodeP h).2.2.2.1 (by omega) (by omega) with r3 | ⟨q3, r3⟩
  · rw [r3]; exact .inl rfl
  rw [r3, dF (by omega), cond_false]
  rcases sz_RouteS_R a.routes ((((left - (sz a.locl : Int)) - (sz a.cache : Int)) - (sz a.pending : Int)) - (sz a.seen : Int)) (ok_NodeP h).2.2.2.2.1 (by omega) (by omega) with r4 | ⟨q4, r4⟩
  · rw [r4]; exact .inl rfl
  rw [r4, dF (by omega), cond_false]
  rcases sz_MeasurementS_R a.measurements (((((left - (sz a.locl : Int)) - (sz a.cache : Int)) - (sz a.pending : Int)) - (sz a.seen : Int)) - (sz a.routes : Int)) (ok_NodeP h).2.2.2.2.2.1 (by omega) (by omega) with r5 | ⟨q5, r5⟩
  · rw [r5]; exact .inl rfl
  rw [r5, dF (by omega), cond_false]
  exact .inr ⟨by omega, by omega⟩
theorem eqL_NodeS : ∀ (l p : (List NodeP)), laws_eqNodeS_L1 (p ++ l) l p.length = none
  | [], _ => rfl
  | e :: l, p => by
    have ih := eqL_NodeS l (p ++ [e])
    rw [mid_app, mid_len] at ih
    simp only [laws_eqNodeS_L1, mid, eq_Node e, Bool.not_true, cond_false]
    exact ih
theorem eq_NodeS (a : (List NodeP)) : laws_eqNodeS a a = true := by
  have h := eqL_NodeS a []
  simp only [List.nil_append, List.length_nil] at h
  simp only [laws_eqNodeS, bne_self_F, cond_false, h]
theorem toL_NodeS : ∀ (l p z : (List NodeP)), z.length = l.length → laws_toNodeS_L1 l p.length (p ++ z) = p ++ l
  | [], p, [], _ => rfl
  | e :: l, p, y :: z, h => by
    have ih := toL_NodeS l (p ++ [e]) z (by simpa using h)
    rw [mid_app p e l, mid_len] at ih
    simp only [laws_toNodeS_L1, mid, mid_set, to_Node e]
    exact ih
theorem to_NodeS (a : (List NodeP)) : laws_toNodeS a = a := by
  simp only [laws_toNodeS]
  exact toL_NodeS a [] _ (by simp)
theorem szL_NodeS_R : ∀ (l : (List NodeP)) (left : Int), (∀ a ∈ l, GoT.ok 10 a) → 0 ≤ left → left ≤ 1048576 → SzL (laws_szNodeS_L1 l left) left (szL l)
  | [], left, _, h0, _ => .inr ⟨by simp [szL_nil]; omega, by simp [szL_nil, laws_szNodeS_L1]⟩
  | e :: l, left, hk, h0, h1 => by
    rw [szL_cons]
    unfold laws_szNodeS_L1
    rcases sz_Node_R e left (hk e List.mem_cons_self) h0 h1 with r0 | ⟨q0, r0⟩
    · rw [r0]; exact .inl rfl
    · rw [r0, dF (by omega), cond_false]
      rcases szL_NodeS_R l (left - (sz e : Int)) (fun a ha => hk a (List.mem_cons_of_mem _ ha)) (by omega) (by omega) with r | ⟨q, r⟩
      · exact .inl r
      · exact .inr ⟨by omega, by rw [r]; congr 1; omega⟩
theorem sz_NodeS_R (a : (List NodeP)) (left : Int) (h : GoT.ok 10 a) (h0 : 0 ≤ left) (h1 : left ≤ 1048576) : SzR (laws_szNodeS a left) left (sz a) := by
  have hl : a.length ≤ 9223372036854775807 := h.1
  rw [sz_list]
  unfold laws_szNodeS
  rw [wrap_sub h0 h1 hl]
  by_cases hc : left - (a.length : Int) < 0
  · rw [dT hc, cond_true]; exact .inl rfl
  · rw [dF (by omega), cond_false]
    rcases szL_NodeS_R a (left - (a.length : Int)) h.2 (by omega) (by omega) with r | ⟨q, r⟩
    · rw [r]; exact .inl rfl
    · rw [r]; exact .inr ⟨by omega, by show left - (a.length : Int) - (szL a : Int) = _; omega⟩
theorem eqL_IntS : ∀ (l p : (List Int)), laws_eqIntS_L1 (p ++ l) l p.length = none
  | [], _ => rfl
  | e :: l, p => by
    have ih := eqL_IntS l (p ++ [e])
    rw [mid_app, mid_len] at ih
    simp only [laws_eqIntS_L1, mid, bne_self_F, nbeq_self_F, cond_false]
    exact ih
theorem eq_IntS (a : (List Int)) : laws_eqIntS a a = true := by
  have h := eqL_IntS a []
  simp only [List.nil_append, List.length_nil] at h
  simp only [laws_eqIntS, bne_self_F, cond_false, h]
theorem toL_IntS : ∀ (l p z : (List Int)), z.length = l.length → laws_toIntS_L1 l p.length (p ++ z) = p ++ l
  | [], p, [], _ => rfl
  | e :: l, p, y :: z, h => by
    have ih := toL_IntS l (p ++ [e]) z (by simpa using h)
    rw [mid_app p e l, mid_len] at ih
    simp only [laws_toIntS_L1, mid, mid_set]
    exact ih
theorem to_IntS (a : (List Int)) : laws_toIntS a = a := by
  simp only [laws_toIntS]
  exact toL_IntS a [] _ (by simp)
theorem sz_IntS_R (a : (List Int)) (left : Int) (h : GoT.ok 10 a) (h0 : 0 ≤ left) (h1 : left ≤ 1048576) : SzR (laws_szIntS a left) left (sz a) := by
  have hl : a.length ≤ 9223372036854775807 := h.1
  rw [sz_list, szL_int]
  unfold laws_szIntS
  rw [wrap_sub h0 h1 hl]
  by_cases hc : left - (a.length : Int) < 0
  · rw [dT hc, cond_true]; exact .inl rfl
  · rw [dF (by omega), cond_false]; exact .inr ⟨by omega, rfl⟩
theorem eq_Interest (a : Interest) : laws_eqInterest a a = true := by
  simp only [laws_eqInterest, bne_self_F, nbeq_self_F, cond_false, Bool.not_true, eq_Name]
theorem to_Interest (a : Interest) : laws_toInterest a = a := by
  simp only [laws_toInterest, to_Name]
theorem sz_Interest_R (a : Interest) (left : Int) (h : GoT.ok 10 a) (h0 : 0 ≤ left) (h1 : left ≤ 1048576) : SzR (laws_szInterest a left) left (sz a) := by
  rw [sz_Interest]
  unfold laws_szInterest
  rcases sz_Name_R a.name left (ok_Interest h).1 (by omega) (by omega) with r0 | ⟨q0, r0⟩
  · rw [r0]; exact .inl rfl
  rw [r0, dF (by omega), cond_false]
  exact .inr ⟨by omega, by omega⟩
theorem eq_PacketInFlight (a : PacketInFlight) : laws_eqPacketInFlight a a = true := by
  simp only [laws_eqPacketInFlight, bne_self_F, nbeq_self_F, cond_false, Bool.not_true, eq_Interest, eq_Data]
theorem to_PacketInFlight (a : PacketInFlight) : laws_toPacketInFlight a = a := by
  simp only [laws_toPacketInFlight, to_Interest, to_Data]
theorem sz_PacketInFlight_R (a : PacketInFlight) (left : Int) (h : GoT.ok 10 a) (h0 : 0 ≤ left) (h1 : left ≤ 1048576) : SzR (laws_szPacketInFlight a left) left (sz a) := by
  rw [sz_PacketInFlight]
  unfold laws_szPacketInFlight
  rcases sz_Interest_R a.interest left (ok_PacketInFlight h).2.2.2.1 (by omega) (by omega) with r0 | ⟨q0, r0⟩
  · rw [r0]; exact .inl rfl
  rw [r0, dF (by omega), cond_false]
  rcases sz_Data_R a.data (left - (sz a.interest : Int)) (ok_PacketInFlight h).2.2.2.2 (by omega) (by omega) with r1 | ⟨q1, r1⟩
  · rw [r1]; exact .inl rfl
  rw [r1, dF (by omega), cond_false]
  exact .inr ⟨by omega, by omega⟩
theorem eqL_PacketInFlightS : ∀ (l p : (List PacketInFlight)), laws_eqPacketInFlightS_L1 (p ++ l) l p.length = none
  | [], _ => rfl
  | e :: l, p => by
    have ih := eqL_PacketInFlightS l (p ++ [e])
    rw [mid_app, mid_len] at ih
    simp only [laws_eqPacketInFlightS_L1, mid, eq_PacketInFlight e, Bool.not_true, cond_false]
    exact ih
theorem eq_PacketInFlightS (a : (List PacketInFlight)) : laws_eqPacketInFlightS a a = true := by
  have h := eqL_PacketInFlightS a []
  simp only [List.nil_append, List.length_nil] at h
  simp only [laws_eqPacketInFlightS, bne_self_F, cond_false, h]
theorem toL_PacketInFlightS : ∀ (l p z : (List PacketInFlight)), z.length = l.length → laws_toPacketInFlightS_L1 l p.length (p ++ z) = p ++ l
  | [], p, [], _ => rfl
  | e :: l, p, y :: z, h => by
    have ih := toL_PacketInFlightS l (p ++ [e]) z (by simpa using h)
    rw [mid_app p e l, mid_len] at ih
    simp only [laws_toPacketInFlightS_L1, mid, mid_set, to_PacketInFlight e]
    exact ih
theorem to_PacketInFlightS (a : (List PacketInFlight)) : laws_toPacketInFlightS a = a := by
  simp only [laws_toPacketInFlightS]
  exact toL_PacketInFlightS a [] _ (by simp)
theorem szL_PacketInFlightS_R : ∀ (l : (List PacketInFlight)) (left : Int), (∀ a ∈ l, GoT.ok 10 a) → 0 ≤ left → left ≤ 1048576 → SzL (laws_szPacketInFlightS_L1 l left) left (szL l)
  | [], left, _, h0, _ => .inr ⟨by simp [szL_nil]; omega, by simp [szL_nil, laws_szPacketInFlightS_L1]⟩
  | e :: l, left, hk, h0, h1 => by
    rw [szL_cons]
    unfold laws_szPacketInFlightS_L1
    rcases sz_PacketInFlight_R e left (hk e List.mem_cons_self) h0 h1 with r0 | ⟨q0, r0⟩
    · rw [r0]; exact .inl rfl
    · rw [r0, dF (by omega), cond_false]
      rcases szL_PacketInFlightS_R l (left - (sz e : Int)) (fun a ha => hk a (List.mem_cons_of_mem _ ha)) (by omega) (by omega) with r | ⟨q, r⟩
      · exact .inl r
      · exact .inr ⟨by omega, by rw [r]; congr 1; omega⟩
theorem sz_PacketInFlightS_R (a : (List PacketInFlight)) (left : Int) (h : GoT.ok 10 a) (h0 : 0 ≤ left) (h1 : left ≤ 1048576) : SzR (laws_szPacketInFlightS a left) left (sz a) := by
  have hl : a.length ≤ 9223372036854775807 := h.1
  rw [sz_list]
  unfold laws_szPacketInFlightS
  rw [wrap_sub h0 h1 hl]
  by_cases hc : left - (a.length : Int) < 0
  · rw [dT hc, cond_true]; exact .inl rfl
  · rw [dF (by omega), cond_false]
    rcases szL_PacketInFlightS_R a (left - (a.length : Int)) h.2 (by omega) (by omega) with r | ⟨q, r⟩
    · rw [r]; exact .inl rfl
    · rw [r]; exact .inr ⟨by omega, by show left - (a.length : Int) - (szL a : Int) = _; omega⟩
theorem eqL_ConsumerS : ∀ (l p : (List Consumer)), laws_eqConsumerS_L1 (p ++ l) l p.length = none
  | [], _ => rfl
  | e :: l, p => by
    have ih := eqL_ConsumerS l (p ++ [e])
    rw [mid_app, mid_len] at ih
    simp only [laws_eqConsumerS_L1, mid, eq_Consumer e, Bool.not_true, cond_false]
    exact ih
theorem eq_ConsumerS (a : (List Consumer)) : laws_eqConsumerS a a = true := by
  have h := eqL_ConsumerS a []
  simp only [List.nil_append, List.length_nil] at h
  simp only [laws_eqConsumerS, bne_self_F, cond_false, h]
theorem toL_ConsumerS : ∀ (l p z : (List Consumer)), z.length = l.length → laws_toConsumerS_L1 l p.length (p ++ z) = p ++ l
  | [], p, [], _ => rfl
  | e :: l, p, y :: z, h => by
    have ih := toL_ConsumerS l (p ++ [e]) z (by simpa using h)
    rw [mid_app p e l, mid_len] at ih
    simp only [laws_toConsumerS_L1, mid, mid_set, to_Consumer e]
    exact ih
theorem to_ConsumerS (a : (List Consumer)) : laws_toConsumerS a = a := by
  simp only [laws_toConsumerS]
  exact toL_ConsumerS a [] _ (by simp)
theorem szL_ConsumerS_R : ∀ (l : (List Consumer)) (left : Int), (∀ a ∈ l, GoT.ok 10 a) → 0 ≤ left → left ≤ 1048576 → SzL (laws_szConsumerS_L1 l left) left (szL l)
  | [], left, _, h0, _ => .inr ⟨by simp [szL_nil]; omega, by simp [szL_nil, laws_szConsumerS_L1]⟩
  | e :: l, left, hk, h0, h1 => by
    rw [szL_cons]
    unfold laws_szConsumerS_L1
    rcases sz_Consumer_R e left (hk e List.mem_cons_self) h0 h1 with r0 | ⟨q0, r0⟩
    · rw [r0]; exact .inl rfl
    · rw [r0, dF (by omega), cond_false]
      rcases szL_ConsumerS_R l (left - (sz e : Int)) (fun a ha => hk a (List.mem_cons_of_mem _ ha)) (by omega) (by omega) with r | ⟨q, r⟩
      · exact .inl r
      · exact .inr ⟨by omega, by rw [r]; congr 1; omega⟩
theorem sz_ConsumerS_R (a : (List Consumer)) (left : Int) (h : GoT.ok 10 a) (h0 : 0 ≤ left) (h1 : left ≤ 1048576) : SzR (laws_szConsumerS a left) left (sz a) := by
  have hl : a.length ≤ 9223372036854775807 := h.1
  rw [sz_list]
  unfold laws_szConsumerS
  rw [wrap_sub h0 h1 hl]
  by_cases hc : left - (a.length : Int) < 0
  · rw [dT hc, cond_true]; exact .inl rfl
  · rw [dF (by omega), cond_false]
    rcases szL_ConsumerS_R a (left - (a.length : Int)) h.2 (by omega) (by omega) with r | ⟨q, r⟩
    · rw [r]; exact .inl rfl
    · rw [r]; exact .inr ⟨by omega, by show left - (a.length : Int) - (szL a : Int) = _; omega⟩
theorem eq_Network (a : Network) : laws_eqNetwork a a = true := by
  simp only [laws_eqNetwork, bne_self_F, nbeq_self_F, cond_false, Bool.not_true, eq_Topology, eq_TrustPolicy, eq_TableEntryS, eq_NodeS, eq_IntS, eq_PacketInFlightS, eq_ConsumerS]
theorem to_Network (a : Network) : laws_toNetwork a = a := by
  simp only [laws_toNetwork, to_Topology, to_TrustPolicy, to_TableEntryS, to_NodeS, to_IntS, to_PacketInFlightS, to_ConsumerS]
theorem sz_Network_R (a : Network) (left : Int) (h : GoT.ok 10 a) (h0 : 0 ≤ left) (h1 : left ≤ 1048576) : SzR (laws_szNetwork a left) left (sz a) := by
  rw [sz_Network]
  unfold laws_szNetwork
  rcases sz_Topology_R a.topology left (ok_Network h).1 (by omega) (by omega) with r0 | ⟨q0, r0⟩
  · rw [r0]; exact .inl rfl
  rw [r0, dF (by omega), cond_false]
  rcases sz_TrustPolicy_R a.trust (left - (sz a.topology : Int)) (ok_Network h).2.1 (by omega) (by omega) with r1 | ⟨q1, r1⟩
  · rw [r1]; exact .inl rfl
  rw [r1, dF (by omega), cond_false]
  rcases sz_TableEntryS_R a.producers ((left - (sz a.topology : Int)) - (sz a.trust : Int)) (ok_Network h).2.2.1 (by omega) (by omega) with r2 | ⟨q2, r2⟩
  · rw [r2]; exact .inl rfl
  rw [r2, dF (by omega), cond_false]
  rcases sz_NodeS_R a.nodes (((left - (sz a.topology : Int)) - (sz a.trust : Int)) - (sz a.producers : Int)) (ok_Network h).2.2.2.1 (by omega) (by omega) with r3 | ⟨q3, r3⟩
  · rw [r3]; exact .inl rfl
  rw [r3, dF (by omega), cond_false]
  rcases sz_IntS_R a.failedLinks ((((left - (sz a.topology : Int)) - (sz a.trust : Int)) - (sz a.producers : Int)) - (sz a.nodes : Int)) (ok_Network h).2.2.2.2.2.1 (by omega) (by omega) with r4 | ⟨q4, r4⟩
  · rw [r4]; exact .inl rfl
  rw [r4, dF (by omega), cond_false]
  rcases sz_PacketInFlightS_R a.inFlight (((((left - (sz a.topology : Int)) - (sz a.trust : Int)) - (sz a.producers : Int)) - (sz a.nodes : Int)) - (sz a.failedLinks : Int)) (ok_Network h).2.2.2.2.2.2.1 (by omega) (by omega) with r5 | ⟨q5, r5⟩
  · rw [r5]; exact .inl rfl
  rw [r5, dF (by omega), cond_false]
  rcases sz_ConsumerS_R a.consumers ((((((left - (sz a.topology : Int)) - (sz a.trust : Int)) - (sz a.producers : Int)) - (sz a.nodes : Int)) - (sz a.failedLinks : Int)) - (sz a.inFlight : Int)) (ok_Network h).2.2.2.2.2.2.2.1 (by omega) (by omega) with r6 | ⟨q6, r6⟩
  · rw [r6]; exact .inl rfl
  rw [r6, dF (by omega), cond_false]
  exact .inr ⟨by omega, by omega⟩
end Go.Stp

namespace Go.Stp
set_option linter.unusedVariables false
set_option linter.unusedSimpArgs false
def laws_FnExactEqualNetworks (aA : Network) (aB : Network) : Bool :=
  bif decide ((laws_szNetwork aA 1048576) < 0) then
    true
  else
    bif decide ((laws_szNetwork aB (laws_szNetwork aA 1048576)) < 0) then
      true
    else
      bif (!((impl_EqualNetworks (laws_toNetwork aA) (laws_toNetwork aB)) == (spec_EqualNetworks (laws_toNetwork aA) (laws_toNetwork aB)))) then
        false
      else
        bif (!(laws_eqNetwork (laws_toNetwork aA) (laws_toNetwork aA))) then
          false
        else
          bif (!(laws_eqNetwork (laws_toNetwork aB) (laws_toNetwork aB))) then
            false
          else
            true
end Go.Stp

