/-
  That functions of the program compute what the Lean functions do. No condition but what each says. Written by a program (gen2.py).
-/
import Derived.Test.YtdkhklhnipiheaaC6
import Derived.Test.YtdkhklhnipiheaaP7
namespace Go.Proofs.Ytdkhklhnipiheaa
open Go.Stp
set_option linter.unusedVariables false
set_option linter.unusedSimpArgs false
theorem f160 (w : World) (n : Nat) (hn : n + 0 ≤ 9) (x_ : Str) (hokx_ : GoT.ok n x_) :
    Does Try.prog 160 #[.string x_] w emp (fun (rv : Value) (_ : World) => rv = .bool (cmp_isNaN_string x_) ∧ True) := by
  refine WX.enter (tt := tt) (Γ := []) Try.func160 rfl (by kernel_rfl) rfl allS_nil ?_
  refine WX.run ttOk rfl ?_
  have hP1 : cmp_isNaN_string x_ = (!((x_).toList == (x_).toList)) := by simp only [cmp_isNaN_string, cond_true, cond_false]
  refine WX.ret ttOk rfl ?_
  intro w1 G bs hI hΓ
  rw [hP1]
  exact ⟨rfl, trivial⟩
theorem f149 (w : World) (n : Nat) (hn : n + 0 ≤ 9) (x_ : Str) (y : Str) (hokx_ : GoT.ok n x_) (hoky : GoT.ok n y) :
    Does Try.prog 149 #[.string x_, .string y] w emp (fun (rv : Value) (_ : World) => rv = .int .i64 ((cmp_Compare_string x_ y)) ∧ GoT.ok n ((cmp_Compare_string x_ y) : Int)) := by
  have hbP := bd_pos n
  have hbB := bd_big (n := n) (by omega)
  refine WX.enter (tt := tt) (Γ := []) Try.func149 rfl (by kernel_rfl) rfl allS_nil ?_
  refine WX.run ttOk rfl ?_
  refine WX.callV rfl rfl rfl rfl rfl (fun _ => rfl) rfl (fun w G bs hI hΓ => f160 w n (by omega) x_ hokx_) ?_
  intro hq1
  refine WX.run ttOk rfl ?_
  refine WX.callV rfl rfl rfl rfl rfl (fun _ => rfl) rfl (fun w G bs hI hΓ => f160 w n (by omega) y hoky) ?_
  intro hq2
  refine WX.run ttOk rfl ?_
  refine WX.cases 11 rfl (fun h1 => ?_) (fun h1 => ?_)
  · skip
    refine WX.run ttOk rfl ?_
    refine WX.cases 12 rfl (fun h2 => ?_) (fun h2 => ?_)
    · skip
      refine WX.run ttOk rfl ?_
      have hP1 : cmp_Compare_string x_ y = 0 := by simp only [cmp_Compare_string, h1, h2, cond_true, cond_false]
      refine WX.ret ttOk rfl ?_
      intro w1 G bs hI hΓ
      rw [hP1]
      exact ⟨rfl, (show I64 0 from (by unfold I64; omega))⟩
    · skip
      refine WX.run ttOk rfl ?_
      have hP2 : cmp_Compare_string x_ y = (-1) := by simp only [cmp_Compare_string, h1, h2, cond_true, cond_false]
      refine WX.ret ttOk rfl ?_
      intro w1 G bs hI hΓ
      rw [hP2]
      exact ⟨rfl, (show I64 (-1) from (by unfold I64; omega))⟩
  · skip
    refine WX.run ttOk rfl ?_
    refine WX.cases 13 rfl (fun h3 => ?_) (fun h3 => ?_)
    · skip
      refine WX.run ttOk rfl ?_
      have hP3 : cmp_Compare_string x_ y = 1 := by simp only [cmp_Compare_string, h1, h3, cond_true, cond_false]
      refine WX.ret ttOk rfl ?_
      intro w1 G bs hI hΓ
      rw [hP3]
      exact ⟨rfl, (show I64 1 from (by unfold I64; omega))⟩
    · skip
      refine WX.run ttOk rfl ?_
      refine WX.cases 16 rfl (fun h4 => ?_) (fun h4 => ?_)
      · skip
        refine WX.run ttOk rfl ?_
        have hP4 : cmp_Compare_string x_ y = (-1) := by simp only [cmp_Compare_string, h1, h3, h4, cond_true, cond_false]
        refine WX.ret ttOk rfl ?_
        intro w1 G bs hI hΓ
        rw [hP4]
        exact ⟨rfl, (show I64 (-1) from (by unfold I64; omega))⟩
      · skip
        refine WX.run ttOk rfl ?_
        refine WX.cases 19 rfl (fun h5 => ?_) (fun h5 => ?_)
        · skip
          refine WX.run ttOk rfl ?_
          have hP5 : cmp_Compare_string x_ y = 1 := by first | (simp only [cmp_Compare_string, h1, h3, h4, h5, cond_true, cond_false]; done) | (unfold cmp_Compare_string; rw [h5, h4, h3, h1]; simp only [cond_true, cond_false])
          refine WX.ret ttOk rfl ?_
          intro w1 G bs hI hΓ
          rw [hP5]
          exact ⟨rfl, (show I64 1 from (by unfold I64; omega))⟩
        · skip
          refine WX.run ttOk rfl ?_
          have hP6 : cmp_Compare_string x_ y = 0 := by first | (simp only [cmp_Compare_string, h1, h3, h4, h5, cond_true, cond_false]; done) | (unfold cmp_Compare_string; rw [h5, h4, h3, h1]; simp only [cond_true, cond_false])
          refine WX.ret ttOk rfl ?_
          intro w1 G bs hI hΓ
          rw [hP6]
          exact ⟨rfl, (show I64 0 from (by unfold I64; omega))⟩
theorem f132 (w : World) (n : Nat) (hn : n + 0 ≤ 9) (s1 : (List Str)) (ps1 : Option Addr) (cs1 : Nat) (hps1 : RdSl (hp w) ps1 cs1 s1) (s2 : (List Str)) (ps2 : Option Addr) (cs2 : Nat) (hps2 : RdSl (hp w) ps2 cs2 s2) (hoks1 : GoT.ok n s1) (hoks2 : GoT.ok n s2) :
    Does Try.prog 132 #[.slice ps1 ((s1).length) cs1, .slice ps2 ((s2).length) cs2] w emp (fun (rv : Value) (_ : World) => rv = .int .i64 ((slices_Compare_string s1 s2)) ∧ GoT.ok n ((slices_Compare_string s1 s2) : Int)) := by
  have hbP := bd_pos n
  have hbB := bd_big (n := n) (by omega)
  refine WX.enter (tt := tt) (Γ := [(0, MF.rs .stb ps1 cs1 s1), (1, MF.rs .stb ps2 cs2 s2)]) Try.func132 rfl (by kernel_rfl) rfl (allS_cons rfl hps1 (allS_cons rfl hps2 allS_nil)) ?_
  refine WX.run ttOk rfl ?_
  have r1 : (s1).length ≤ bd n := (okl hoks1).1
  refine WX.loop (ι := Nat) ⟨fun i => (i ≤ (s1).length) ∧ (slices_Compare_string_L1 s2 s1 0 = slices_Compare_string_L1 s2 ((s1).drop i) i), fun i => (s1).length - i, fun i => [(11, .v (.int .i64 (((i : Nat) : Int)))), (10, .v (.int .i64 ((((s1).length : Nat) : Int)))), (9, .v (.slice ps1 ((s1).length) cs1)), (0, .v (.slice ps1 ((s1).length) cs1)), (1, .v (.slice ps2 ((s2).length) cs2))], fun i => [], fun i => [], fun i => [(0, MF.rs .stb ps1 cs1 s1), (1, MF.rs .stb ps2 cs2 s2)]⟩ 0 ⟨(Nat.zero_le _), rfl⟩
    (.cons rfl (.cons rfl (.cons rfl (.cons rfl (.cons rfl (.nil)))))) .nil .nil [0, 1] rfl ?_
  rintro i hpre
  have hpre_ : (i ≤ (s1).length) ∧ (slices_Compare_string_L1 s2 s1 0 = slices_Compare_string_L1 s2 ((s1).drop i) i) := hpre
  clear hpre
  obtain ⟨v1, v2⟩ := hpre_
  refine WX.run ttOk rfl ?_
  refine WX.cases 12 rfl (fun h1 => ?_) (fun h1 => ?_)
  · skip
    have h1d := B.dt h1
    have e1i : i < (s1).length := (by omega)
    obtain ⟨e1, e1h⟩ : ∃ e1, (s1)[i]? = some e1 := ⟨_, List.getElem?_eq_getElem e1i⟩
    have ok1 : GoT.ok n e1 := (okl hoks1).2 _ (List.mem_of_getElem? e1h)
    refine WX.run ttOk rfl ?_
    refine WX.idx 0 i ttOk rfl rfl rfl rfl rfl rfl rfl rfl rfl rfl e1i ?_
    rintro ad1 rfl
    refine WX.ldE 0 2 e1 ttOk rfl rfl rfl rfl rfl rfl rfl rfl e1h (fun _ => rfl) (fun _ => rfl) ?_
    rintro ⟨⟩
    refine WX.run ttOk rfl ?_
    refine WX.cases 19 rfl (fun h2 => ?_) (fun h2 => ?_)
    · skip
      have h2d := B.dt h2
      refine WX.run ttOk rfl ?_
      have hP1 : slices_Compare_string_L1 s2 s1 0 = (some 1) := by rw [v2, drop_get e1h]; simp only [slices_Compare_string_L1, h2, cond_true, cond_false]
      have hP2 : slices_Compare_string s1 s2 = 1 := by simp only [slices_Compare_string, hP1, cond_true, cond_false]
      refine WX.ret ttOk rfl ?_
      intro w1 G bs hI hΓ
      rw [hP2]
      exact ⟨rfl, (show I64 1 from (by unfold I64; omega))⟩
    · skip
      have h2d := B.df h2
      refine WX.run ttOk rfl ?_
      have e2i : i < (s2).length := (by first | assumption | omega)
      obtain ⟨e2, e2h⟩ : ∃ e2, (s2)[i]? = some e2 := ⟨_, List.getElem?_eq_getElem e2i⟩
      have ok2 : GoT.ok n e2 := (okl hoks2).2 _ (List.mem_of_getElem? e2h)
      refine WX.idx 1 i ttOk rfl rfl rfl rfl rfl rfl rfl rfl rfl rfl e2i ?_
      rintro ad2 rfl
      refine WX.ldE 1 2 e2 ttOk rfl rfl rfl rfl rfl rfl rfl rfl e2h (fun _ => rfl) (fun _ => rfl) ?_
      rintro ⟨⟩
      refine WX.run ttOk rfl ?_
      refine WX.callV rfl rfl rfl rfl rfl (fun _ => rfl) rfl (fun w G bs hI hΓ => f149 w n (by omega) e1 e2 ok1 ok2) ?_
      intro hq1
      refine WX.run ttOk rfl ?_
      refine WX.cases 28 rfl (fun h3 => ?_) (fun h3 => ?_)
      · skip
        have h3d := B.nt' h3
        refine WX.run ttOk rfl ?_
        have hP3 : slices_Compare_string_L1 s2 s1 0 = (some (cmp_Compare_string e1 e2)) := by rw [v2, drop_get e1h]; simp only [slices_Compare_string_L1, h2, e2h, h3, cond_true, cond_false]
        have hP4 : slices_Compare_string s1 s2 = (cmp_Compare_string e1 e2) := by simp only [slices_Compare_string, hP3, cond_true, cond_false]
        refine WX.ret ttOk rfl ?_
        intro w1 G bs hI hΓ
        rw [hP4]
        exact ⟨rfl, hq1⟩
      · skip
        have h3d := B.nf' h3
        refine WX.run ttOk rfl ?_
        refine WX.see rfl rfl rfl (fun _ hΓ => looks_arith rfl rfl rfl rfl (by unfold I64; omega)) ?_
        refine WX.run ttOk rfl ?_
        exact WX.iter (i + 1) ⟨(by omega), (by rw [v2, drop_get e1h]; simp only [slices_Compare_string_L1, h2, e2h, h3, cond_true, cond_false])⟩ (by dsimp only; omega) (.cons rfl (.cons rfl (.cons rfl (.cons rfl (.cons rfl (.nil)))))) .nil .nil [0, 1] rfl
  · skip
    have h1d := B.df h1
    refine WX.run ttOk rfl ?_
    have hX1 : slices_Compare_string_L1 s2 s1 0 = none := by rw [v2, List.drop_eq_nil_of_le (show (s1).length ≤ i by omega)]; simp only [slices_Compare_string_L1, cond_true, cond_false]
    refine WX.cases 35 rfl (fun h4 => ?_) (fun h4 => ?_)
    · skip
      have h4d := B.dt h4
      refine WX.run ttOk rfl ?_
      have hP5 : slices_Compare_string s1 s2 = (-1) := by simp only [slices_Compare_string, hX1, h4, cond_true, cond_false]
      refine WX.ret ttOk rfl ?_
      intro w1 G bs hI hΓ
      rw [hP5]
      exact ⟨rfl, (show I64 (-1) from (by unfold I64; omega))⟩
    · skip
      have h4d := B.df h4
      refine WX.run ttOk rfl ?_
      have hP6 : slices_Compare_string s1 s2 = 0 := by simp only [slices_Compare_string, hX1, h4, cond_true, cond_false]
      refine WX.ret ttOk rfl ?_
      intro w1 G bs hI hΓ
      rw [hP6]
      exact ⟨rfl, (show I64 0 from (by unfold I64; omega))⟩
theorem f104 (w : World) (n : Nat) (hn : n + 0 ≤ 9) (a : Name) (pa : Option Addr) (ca : Nat) (hpa : RdSl (hp w) pa ca a.parts) (b : Name) (pb : Option Addr) (cb : Nat) (hpb : RdSl (hp w) pb cb b.parts) (hoka : GoT.ok n a) (hokb : GoT.ok n b) :
    Does Try.prog 104 #[.agg #[.slice pa ((a.parts).length) ca], .agg #[.slice pb ((b.parts).length) cb]] w emp (fun (rv : Value) (_ : World) => rv = .int .i64 ((impl_CompareNames a b)) ∧ GoT.ok n ((impl_CompareNames a b) : Int)) := by
  have hbP := bd_pos n
  have hbB := bd_big (n := n) (by omega)
  refine WX.enter (tt := tt) (Γ := [(0, MF.rs .stb pa ca a.parts), (1, MF.rs .stb pb cb b.parts)]) Try.func104 rfl (by kernel_rfl) rfl (allS_cons rfl hpa (allS_cons rfl hpb allS_nil)) ?_
  refine WX.run ttOk rfl ?_
  refine WX.callV rfl rfl rfl rfl rfl (fun _ => rfl) rfl (fun w G bs hI hΓ => f132 w n (by omega) a.parts pa ca (hΓ.get 0 rfl) b.parts pb cb (hΓ.get 1 rfl) (ok_Name hoka) (ok_Name hokb)) ?_
  intro hq1
  refine WX.run ttOk rfl ?_
  have hP1 : impl_CompareNames a b = (slices_Compare_string a.parts b.parts) := by simp only [impl_CompareNames, cond_true, cond_false]
  refine WX.ret ttOk rfl ?_
  intro w1 G bs hI hΓ
  rw [hP1]
  exact ⟨rfl, hq1⟩
theorem f83 (w : World) (n : Nat) (hn : n + 0 ≤ 9) (l : (List TableEntry)) (pl : Option Addr) (cl : Nat) (hpl : RdSl (hp w) pl cl l) (hokl : GoT.ok n l) :
    Does Try.prog 83 #[.slice pl ((l).length) cl] w emp (fun (rv : Value) (_ : World) => rv = .bool (impl_ValidTable l) ∧ True) := by
  have hbP := bd_pos n
  have hbB := bd_big (n := n) (by omega)
  refine WX.enter (tt := tt) (Γ := [(0, MF.rs .stb pl cl l)]) Try.func83 rfl (by kernel_rfl) rfl (allS_cons rfl hpl allS_nil) ?_
  refine WX.run ttOk rfl ?_
  have r1 : (l).length ≤ bd n := (okl hokl).1
  refine WX.loop (ι := Nat) ⟨fun i => (i ≤ (l).length) ∧ (impl_ValidTable_L1 l l 0 = impl_ValidTable_L1 l ((l).drop i) i), fun i => (l).length - i, fun i => [(7, .v (.int .i64 (((i : Nat) : Int)))), (6, .v (.int .i64 ((((l).length : Nat) : Int)))), (5, .v (.slice pl ((l).length) cl)), (0, .v (.slice pl ((l).length) cl))], fun i => [], fun i => [], fun i => [(0, MF.rs .stb pl cl l)]⟩ 0 ⟨(Nat.zero_le _), rfl⟩
    (.cons rfl (.cons rfl (.cons rfl (.cons rfl (.nil))))) .nil .nil [0] rfl ?_
  rintro i hpre
  have hpre_ : (i ≤ (l).length) ∧ (impl_ValidTable_L1 l l 0 = impl_ValidTable_L1 l ((l).drop i) i) := hpre
  clear hpre
  obtain ⟨v1, v2⟩ := hpre_
  refine WX.run ttOk rfl ?_
  refine WX.cases 8 rfl (fun h1 => ?_) (fun h1 => ?_)
  · skip
    have h1d := B.dt h1
    have e1i : i < (l).length := (by omega)
    obtain ⟨e1, e1h⟩ : ∃ e1, (l)[i]? = some e1 := ⟨_, List.getElem?_eq_getElem e1i⟩
    have ok1 : GoT.ok n e1 := (okl hokl).2 _ (List.mem_of_getElem? e1h)
    refine WX.run ttOk rfl ?_
    refine WX.idx 0 i ttOk rfl rfl rfl rfl rfl rfl rfl rfl rfl rfl e1i ?_
    rintro ad1 rfl
    refine WX.ldE 0 1 e1 ttOk rfl rfl rfl rfl rfl rfl rfl rfl e1h (fun _ => rfl) (fun _ => rfl) ?_
    rintro ⟨⟨p1, c1⟩, ⟨⟩⟩
    refine WX.run ttOk rfl ?_
    refine WX.draw [] mixed ?_
    intro bs G0 hΓ0
    refine DX.takes (fuel := 18) ttOk [(0, true), (1, false)] (by kernel_rfl) rfl ?_
    refine DX.callV 2 rfl (by kernel_rfl) rfl rfl rfl rfl rfl rfl (fun _ => rfl) rfl (fun w G bs hI hΓ => f88 w n (by omega) e1.name p1 c1 (hΓ.get 1 rfl) ((ok_TableEntry ok1).1)) ?_
    intro hq1
    refine DX.takes (fuel := 15) ttOk [(3, true), (4, true)] (by kernel_rfl) rfl ?_
    refine DX.cases 16 rfl (fun h2 => ?_) (fun h2 => ?_)
    · skip
      have h2d := (B.nt h2)
      refine DX.takes (fuel := 0) ttOk [(5, true), (6, true), (7, true), (8, true), (9, true), (10, true), (11, true), (12, true), (13, true), (14, true), (15, true), (16, true), (17, true), (18, true), (19, true)] (by kernel_rfl) rfl ?_
      refine DX.tail2 [] rfl rfl (by kernel_rfl) ?_
      refine WX.run ttOk rfl ?_
      have hP1 : impl_ValidTable_L1 l l 0 = (some false) := by rw [v2, drop_get e1h]; simp only [impl_ValidTable_L1, h2, cond_true, cond_false]
      have hP2 : impl_ValidTable l = false := by simp only [impl_ValidTable, hP1, cond_true, cond_false]
      refine WX.ret ttOk rfl ?_
      intro w1 G bs hI hΓ
      rw [hP2]
      exact ⟨rfl, trivial⟩
    · skip
      have h2d := (B.nf h2)
      refine DX.takes (fuel := 12) ttOk [(5, true), (6, true), (7, true)] (by kernel_rfl) rfl ?_
      refine DX.cases 19 rfl (fun h3 => ?_) (fun h3 => ?_)
      · skip
        have h3d := B.dt h3
        refine DX.takes (fuel := 10) ttOk [(8, true), (9, true)] (by kernel_rfl) rfl ?_
        refine DX.seeP 10 (by kernel_rfl) rfl rfl rfl rfl (looksP_arith rfl rfl rfl rfl (by unfold I64; omega)) ?_
        refine DX.slot 22 (y := .v (.int .i64 (((((i : Nat) : Int) - 1).toNat : Nat) : Int))) rfl (fun _ => congrArg (Value.int .i64) (show ((i : Nat) : Int) - 1 = (((((i : Nat) : Int) - 1).toNat : Nat) : Int) from by omega)) ?_
        have e2i : (((i : Nat) : Int) - 1).toNat < (l).length := (by first | assumption | omega)
        obtain ⟨e2, e2h⟩ : ∃ e2, (l)[(((i : Nat) : Int) - 1).toNat]? = some e2 := ⟨_, List.getElem?_eq_getElem e2i⟩
        have ok2 : GoT.ok n e2 := (okl hokl).2 _ (List.mem_of_getElem? e2h)
        refine DX.idx 11 0 ((((i : Nat) : Int) - 1).toNat) ttOk hΓ0 (by kernel_rfl) rfl rfl rfl rfl rfl rfl rfl rfl rfl rfl rfl e2i ?_
        rintro ad2 ⟨⟩
        refine DX.takes (fuel := 7) ttOk [(12, true)] (by kernel_rfl) rfl ?_
        refine DX.ldE 13 0 2 e2 ttOk hΓ0 (by kernel_rfl) rfl rfl rfl rfl rfl rfl rfl rfl e2h (fun _ => rfl) (fun _ => rfl) ?_
        rintro ⟨⟨p2, c2⟩, ⟨⟩⟩
        refine DX.takes (fuel := 4) ttOk [(14, true), (15, false)] (by kernel_rfl) rfl ?_
        refine DX.callV 16 rfl (by kernel_rfl) rfl rfl rfl rfl rfl rfl (fun _ => rfl) rfl (fun w G bs hI hΓ => f104 w n (by omega) e2.name p2 c2 (hΓ.get 2 rfl) e1.name p1 c1 (hΓ.get 1 rfl) ((ok_TableEntry ok2).1) ((ok_TableEntry ok1).1)) ?_
        intro hq2
        refine DX.takes (fuel := 0) ttOk [(17, true), (18, true), (19, true)] (by kernel_rfl) rfl ?_
        refine DX.tail2 [] rfl rfl (by kernel_rfl) ?_
        refine WX.run ttOk rfl ?_
        refine WX.cases 31 rfl (fun h4 => ?_) (fun h4 => ?_)
        · skip
          have h4d := B.dt h4
          refine WX.run ttOk rfl ?_
          have hP3 : impl_ValidTable_L1 l l 0 = (some false) := by rw [v2, drop_get e1h]; simp only [impl_ValidTable_L1, h2, h3, e2h, h4, cond_true, cond_false]
          have hP4 : impl_ValidTable l = false := by simp only [impl_ValidTable, hP3, cond_true, cond_false]
          refine WX.ret ttOk rfl ?_
          intro w1 G bs hI hΓ
          rw [hP4]
          exact ⟨rfl, trivial⟩
        · skip
          have h4d := B.df h4
          refine WX.run ttOk rfl ?_
          refine WX.see rfl rfl rfl (fun _ hΓ => looks_arith rfl rfl rfl rfl (by unfold I64; omega)) ?_
          refine WX.run ttOk rfl ?_
          exact WX.iter (i + 1) ⟨(by omega), (by rw [v2, drop_get e1h]; simp only [impl_ValidTable_L1, h2, h3, e2h, h4, cond_true, cond_false])⟩ (by dsimp only; omega) (.cons rfl (.cons rfl (.cons rfl (.cons rfl (.nil))))) .nil .nil [0] rfl
      · skip
        have h3d := B.df h3
        refine DX.takes (fuel := 0) ttOk [(8, true), (9, true), (10, true), (11, true), (12, true), (13, true), (14, true), (15, true), (16, true), (17, true), (18, true), (19, true)] (by kernel_rfl) rfl ?_
        refine DX.tail2 [] rfl rfl (by kernel_rfl) ?_
        refine WX.run ttOk rfl ?_
        refine WX.see rfl rfl rfl (fun _ hΓ => looks_arith rfl rfl rfl rfl (by unfold I64; omega)) ?_
        refine WX.run ttOk rfl ?_
        exact WX.iter (i + 1) ⟨(by omega), (by rw [v2, drop_get e1h]; simp only [impl_ValidTable_L1, h2, h3, cond_true, cond_false])⟩ (by dsimp only; omega) (.cons rfl (.cons rfl (.cons rfl (.cons rfl (.nil))))) .nil .nil [0] rfl
  · skip
    have h1d := B.df h1
    refine WX.run ttOk rfl ?_
    have hX1 : impl_ValidTable_L1 l l 0 = none := by rw [v2, List.drop_eq_nil_of_le (show (l).length ≤ i by omega)]; simp only [impl_ValidTable_L1, cond_true, cond_false]
    have hP5 : impl_ValidTable l = (decide ((((l).length : Nat) : Int) ≤ 20)) := by simp only [impl_ValidTable, hX1, cond_true, cond_false]
    refine WX.ret ttOk rfl ?_
    intro w1 G bs hI hΓ
    rw [hP5]
    exact ⟨rfl, trivial⟩
theorem f79 (w : World) (n : Nat) (hn : n + 0 ≤ 9) (l : (List TableEntry)) (pl : Option Addr) (cl : Nat) (hpl : RdSl (hp w) pl cl l) (hokl : GoT.ok n l) :
    Does Try.prog 79 #[.slice pl ((l).length) cl] w emp (fun (rv : Value) (_ : World) => rv = .bool (spec_ValidTable l) ∧ True) := by
  have hbP := bd_pos n
  have hbB := bd_big (n := n) (by omega)
  refine WX.enter (tt := tt) (Γ := [(0, MF.rs .stb pl cl l)]) Try.func79 rfl (by kernel_rfl) rfl (allS_cons rfl hpl allS_nil) ?_
  refine WX.run ttOk rfl ?_
  have r1 : (l).length ≤ bd n := (okl hokl).1
  refine WX.loop (ι := Nat) ⟨fun i => (i ≤ (l).length) ∧ (spec_ValidTable_L1 l l 0 = spec_ValidTable_L1 l ((l).drop i) i), fun i => (l).length - i, fun i => [(3, .v (.int .i64 (((i : Nat) : Int)))), (0, .v (.slice pl ((l).length) cl))], fun i => [], fun i => [], fun i => [(0, MF.rs .stb pl cl l)]⟩ 0 ⟨(Nat.zero_le _), rfl⟩
    (.cons rfl (.cons rfl (.nil))) .nil .nil [0] rfl ?_
  rintro i hpre
  have hpre_ : (i ≤ (l).length) ∧ (spec_ValidTable_L1 l l 0 = spec_ValidTable_L1 l ((l).drop i) i) := hpre
  clear hpre
  obtain ⟨v1, v2⟩ := hpre_
  refine WX.run ttOk rfl ?_
  refine WX.cases 7 rfl (fun h1 => ?_) (fun h1 => ?_)
  · skip
    have h1d := B.dt h1
    have e1i : i < (l).length := (by omega)
    obtain ⟨e1, e1h⟩ : ∃ e1, (l)[i]? = some e1 := ⟨_, List.getElem?_eq_getElem e1i⟩
    have ok1 : GoT.ok n e1 := (okl hokl).2 _ (List.mem_of_getElem? e1h)
    refine WX.run ttOk rfl ?_
    refine WX.draw [] mixed ?_
    intro bs G0 hΓ0
    refine DX.takes (fuel := 24) ttOk [(0, true), (1, true)] (by kernel_rfl) rfl ?_
    refine DX.idx 2 0 i ttOk hΓ0 (by kernel_rfl) rfl rfl rfl rfl rfl rfl rfl rfl rfl rfl rfl e1i ?_
    rintro ad1 rfl
    refine DX.takes (fuel := 22) ttOk [(3, true)] (by kernel_rfl) rfl ?_
    refine DX.ldE 4 0 1 e1 ttOk hΓ0 (by kernel_rfl) rfl rfl rfl rfl rfl rfl rfl rfl e1h (fun _ => rfl) (fun _ => rfl) ?_
    rintro ⟨⟨p1, c1⟩, ⟨⟩⟩
    refine DX.callV 5 rfl (by kernel_rfl) rfl rfl rfl rfl rfl rfl (fun _ => rfl) rfl (fun w G bs hI hΓ => f80 w n (by omega) e1.name p1 c1 (hΓ.get 1 rfl) ((ok_TableEntry ok1).1)) ?_
    intro hq1
    refine DX.takes (fuel := 18) ttOk [(6, true), (7, true)] (by kernel_rfl) rfl ?_
    refine DX.cases 17 rfl (fun h2 => ?_) (fun h2 => ?_)
    · skip
      have h2d := (B.nt h2)
      refine DX.takes (fuel := 0) ttOk [(8, true), (9, true), (10, true), (11, true), (12, true), (13, true), (14, true), (15, true), (16, true), (17, true), (18, true), (19, true), (20, true), (21, true), (22, true), (23, true), (24, true), (25, true)] (by kernel_rfl) rfl ?_
      refine DX.tail2 [] rfl rfl (by kernel_rfl) ?_
      refine WX.run ttOk rfl ?_
      have hP1 : spec_ValidTable_L1 l l 0 = (some false) := by rw [v2, drop_get e1h]; simp only [spec_ValidTable_L1, h2, cond_true, cond_false]
      have hP2 : spec_ValidTable l = false := by simp only [spec_ValidTable, hP1, cond_true, cond_false]
      refine WX.ret ttOk rfl ?_
      intro w1 G bs hI hΓ
      rw [hP2]
      exact ⟨rfl, trivial⟩
    · skip
      have h2d := (B.nf h2)
      refine DX.takes (fuel := 15) ttOk [(8, true), (9, true), (10, true)] (by kernel_rfl) rfl ?_
      refine DX.cases 20 rfl (fun h3 => ?_) (fun h3 => ?_)
      · skip
        have h3d := B.dt h3
        refine DX.takes (fuel := 13) ttOk [(11, true), (12, true)] (by kernel_rfl) rfl ?_
        refine DX.seeP 13 (by kernel_rfl) rfl rfl rfl rfl (looksP_arith rfl rfl rfl rfl (by unfold I64; omega)) ?_
        refine DX.slot 23 (y := .v (.int .i64 (((((i : Nat) : Int) - 1).toNat : Nat) : Int))) rfl (fun _ => congrArg (Value.int .i64) (show ((i : Nat) : Int) - 1 = (((((i : Nat) : Int) - 1).toNat : Nat) : Int) from by omega)) ?_
        have e2i : (((i : Nat) : Int) - 1).toNat < (l).length := (by first | assumption | omega)
        obtain ⟨e2, e2h⟩ : ∃ e2, (l)[(((i : Nat) : Int) - 1).toNat]? = some e2 := ⟨_, List.getElem?_eq_getElem e2i⟩
        have ok2 : GoT.ok n e2 := (okl hokl).2 _ (List.mem_of_getElem? e2h)
        refine DX.idx 14 0 ((((i : Nat) : Int) - 1).toNat) ttOk hΓ0 (by kernel_rfl) rfl rfl rfl rfl rfl rfl rfl rfl rfl rfl rfl e2i ?_
        rintro ad2 ⟨⟩
        refine DX.takes (fuel := 10) ttOk [(15, true)] (by kernel_rfl) rfl ?_
        refine DX.ldE 16 0 2 e2 ttOk hΓ0 (by kernel_rfl) rfl rfl rfl rfl rfl rfl rfl rfl e2h (fun _ => rfl) (fun _ => rfl) ?_
        rintro ⟨⟨p2, c2⟩, ⟨⟩⟩
        refine DX.takes (fuel := 7) ttOk [(17, true), (18, true)] (by kernel_rfl) rfl ?_
        refine DX.idx 19 0 i ttOk hΓ0 (by kernel_rfl) rfl rfl rfl rfl rfl rfl rfl rfl rfl rfl rfl e1i ?_
        rintro ad3 ⟨⟩
        refine DX.takes (fuel := 5) ttOk [(20, true)] (by kernel_rfl) rfl ?_
        refine DX.ldE 21 0 3 e1 ttOk hΓ0 (by kernel_rfl) rfl rfl rfl rfl rfl rfl rfl rfl e1h (fun _ => rfl) (fun _ => rfl) ?_
        rintro ⟨⟨p3, c3⟩, ⟨⟩⟩
        refine DX.callV 22 rfl (by kernel_rfl) rfl rfl rfl rfl rfl rfl (fun _ => rfl) rfl (fun w G bs hI hΓ => f97 w n (by omega) e2.name p2 c2 (hΓ.get 2 rfl) e1.name p3 c3 (hΓ.get 3 rfl) ((ok_TableEntry ok2).1) ((ok_TableEntry ok1).1)) ?_
        intro hq2
        refine DX.takes (fuel := 0) ttOk [(23, true), (24, true), (25, true)] (by kernel_rfl) rfl ?_
        refine DX.tail2 [] rfl rfl (by kernel_rfl) ?_
        refine WX.run ttOk rfl ?_
        refine WX.cases 35 rfl (fun h4 => ?_) (fun h4 => ?_)
        · skip
          have h4d := B.dt h4
          refine WX.run ttOk rfl ?_
          have hP3 : spec_ValidTable_L1 l l 0 = (some false) := by rw [v2, drop_get e1h]; simp only [spec_ValidTable_L1, h2, h3, e2h, h4, cond_true, cond_false]
          have hP4 : spec_ValidTable l = false := by simp only [spec_ValidTable, hP3, cond_true, cond_false]
          refine WX.ret ttOk rfl ?_
          intro w1 G bs hI hΓ
          rw [hP4]
          exact ⟨rfl, trivial⟩
        · skip
          have h4d := B.df h4
          refine WX.run ttOk rfl ?_
          refine WX.see rfl rfl rfl (fun _ hΓ => looks_arith rfl rfl rfl rfl (by unfold I64; omega)) ?_
          refine WX.run ttOk rfl ?_
          exact WX.iter (i + 1) ⟨(by omega), (by rw [v2, drop_get e1h]; simp only [spec_ValidTable_L1, h2, h3, e2h, h4, cond_true, cond_false])⟩ (by dsimp only; omega) (.cons rfl (.cons rfl (.nil))) .nil .nil [0] rfl
      · skip
        have h3d := B.df h3
        refine DX.takes (fuel := 0) ttOk [(11, true), (12, true), (13, true), (14, true), (15, true), (16, true), (17, true), (18, true), (19, true), (20, true), (21, true), (22, true), (23, true), (24, true), (25, true)] (by kernel_rfl) rfl ?_
        refine DX.tail2 [] rfl rfl (by kernel_rfl) ?_
        refine WX.run ttOk rfl ?_
        refine WX.see rfl rfl rfl (fun _ hΓ => looks_arith rfl rfl rfl rfl (by unfold I64; omega)) ?_
        refine WX.run ttOk rfl ?_
        exact WX.iter (i + 1) ⟨(by omega), (by rw [v2, drop_get e1h]; simp only [spec_ValidTable_L1, h2, h3, cond_true, cond_false])⟩ (by dsimp only; omega) (.cons rfl (.cons rfl (.nil))) .nil .nil [0] rfl
  · skip
    have h1d := B.df h1
    refine WX.run ttOk rfl ?_
    have hX1 : spec_ValidTable_L1 l l 0 = none := by rw [v2, List.drop_eq_nil_of_le (show (l).length ≤ i by omega)]; simp only [spec_ValidTable_L1, cond_true, cond_false]
    have hP5 : spec_ValidTable l = (decide ((((l).length : Nat) : Int) ≤ 20)) := by simp only [spec_ValidTable, hX1, cond_true, cond_false]
    refine WX.ret ttOk rfl ?_
    intro w1 G bs hI hΓ
    rw [hP5]
    exact ⟨rfl, trivial⟩
theorem f102 (w : World) (n : Nat) (hn : n + 0 ≤ 9) (s : (List TableEntry)) (ps : Option Addr) (cs : Nat) (hps : RdSl (hp w) ps cs s) (fg : FuncId) (fc : List Value) (fq : TableEntry → Bool) (ff : ∀ w1, Kp emp w w1 → ∀ (e0 : TableEntry) (x0 : GoT.X TableEntry), GoT.ok n e0 → All (hp w1) (GoT.fa .der e0 x0) → Does Try.prog fg ([Value.agg ⟨GoT.sh e0 x0⟩] ++ fc).toArray w1 emp (fun rv _ => rv = .bool (fq e0) ∧ True)) (hoks : GoT.ok n s) :
    Does Try.prog 102 #[.slice ps ((s).length) cs, .func (.func fg) #[] fc.toArray] w emp (fun (rv : Value) (_ : World) => rv = .int .i64 ((slices_IndexFunc_TableEntry s fq)) ∧ GoT.ok n ((slices_IndexFunc_TableEntry s fq) : Int)) := by
  have hbP := bd_pos n
  have hbB := bd_big (n := n) (by omega)
  refine WX.enter (tt := tt) (Γ := [(0, MF.rs .stb ps cs s)]) Try.func102 rfl (by kernel_rfl) rfl (allS_cons rfl hps allS_nil) ?_
  refine WX.run ttOk rfl ?_
  have r1 : (s).length ≤ bd n := (okl hoks).1
  refine WX.loop (ι := Nat) ⟨fun i => (i ≤ (s).length) ∧ (slices_IndexFunc_TableEntry_L1 fq s 0 = slices_IndexFunc_TableEntry_L1 fq ((s).drop i) i), fun i => (s).length - i, fun i => [(8, .v (.int .i64 (((i : Nat) : Int)))), (7, .v (.int .i64 ((((s).length : Nat) : Int)))), (0, .v (.slice ps ((s).length) cs)), (1, .v (.func (.func fg) #[] fc.toArray))], fun i => [], fun i => [], fun i => [(0, MF.rs .stb ps cs s)]⟩ 0 ⟨(Nat.zero_le _), rfl⟩
    (.cons rfl (.cons rfl (.cons rfl (.cons rfl (.nil))))) .nil .nil [0] rfl ?_
  rintro i hpre
  have hpre_ : (i ≤ (s).length) ∧ (slices_IndexFunc_TableEntry_L1 fq s 0 = slices_IndexFunc_TableEntry_L1 fq ((s).drop i) i) := hpre
  clear hpre
  obtain ⟨v1, v2⟩ := hpre_
  refine WX.run ttOk rfl ?_
  refine WX.cases 9 rfl (fun h1 => ?_) (fun h1 => ?_)
  · skip
    have h1d := B.dt h1
    have e1i : i < (s).length := (by omega)
    obtain ⟨e1, e1h⟩ : ∃ e1, (s)[i]? = some e1 := ⟨_, List.getElem?_eq_getElem e1i⟩
    have ok1 : GoT.ok n e1 := (okl hoks).2 _ (List.mem_of_getElem? e1h)
    refine WX.run ttOk rfl ?_
    refine WX.idx 0 i ttOk rfl rfl rfl rfl rfl rfl rfl rfl rfl rfl e1i ?_
    rintro ad1 rfl
    refine WX.ldE 0 1 e1 ttOk rfl rfl rfl rfl rfl rfl rfl rfl e1h (fun _ => rfl) (fun _ => rfl) ?_
    rintro ⟨⟨p1, c1⟩, ⟨⟩⟩
    refine WX.callV rfl rfl rfl rfl rfl (fun _ => rfl) rfl (fun w G bs hI hΓ => ff w hI.keep e1 ((p1, c1), ()) ok1 (All.cons (hΓ.get 1 rfl : RdSl _ _ _ _) All.nil)) ?_
    intro hq1
    refine WX.run ttOk rfl ?_
    refine WX.cases 16 rfl (fun h2 => ?_) (fun h2 => ?_)
    · skip
      refine WX.run ttOk rfl ?_
      have hP1 : slices_IndexFunc_TableEntry_L1 fq s 0 = (some ((i : Nat) : Int)) := by rw [v2, drop_get e1h]; simp only [slices_IndexFunc_TableEntry_L1, h2, cond_true, cond_false]
      have hP2 : slices_IndexFunc_TableEntry s fq = ((i : Nat) : Int) := by simp only [slices_IndexFunc_TableEntry, hP1, cond_true, cond_false]
      refine WX.ret ttOk rfl ?_
      intro w1 G bs hI hΓ
      rw [hP2]
      exact ⟨rfl, (show I64 ((i : Nat) : Int) from (by unfold I64; omega))⟩
    · skip
      refine WX.run ttOk rfl ?_
      refine WX.see rfl rfl rfl (fun _ hΓ => looks_arith rfl rfl rfl rfl (by unfold I64; omega)) ?_
      refine WX.run ttOk rfl ?_
      exact WX.iter (i + 1) ⟨(by omega), (by rw [v2, drop_get e1h]; simp only [slices_IndexFunc_TableEntry_L1, h2, cond_true, cond_false])⟩ (by dsimp only; omega) (.cons rfl (.cons rfl (.cons rfl (.cons rfl (.nil))))) .nil .nil [0] rfl
  · skip
    have h1d := B.df h1
    refine WX.run ttOk rfl ?_
    have hX1 : slices_IndexFunc_TableEntry_L1 fq s 0 = none := by rw [v2, List.drop_eq_nil_of_le (show (s).length ≤ i by omega)]; simp only [slices_IndexFunc_TableEntry_L1, cond_true, cond_false]
    have hP3 : slices_IndexFunc_TableEntry s fq = (-1) := by simp only [slices_IndexFunc_TableEntry, hX1, cond_true, cond_false]
    refine WX.ret ttOk rfl ?_
    intro w1 G bs hI hΓ
    rw [hP3]
    exact ⟨rfl, (show I64 (-1) from (by unfold I64; omega))⟩
theorem ltL_slices_IndexFunc_TableEntry : ∀ (f : TableEntry → Bool) (l : List TableEntry) (i : Nat) (j : Int), slices_IndexFunc_TableEntry_L1 f l i = some j → j < ((i + l.length : Nat) : Int)
  | f, [], i, j, h => by cases h
  | f, x :: l, i, j, h => by
    simp only [slices_IndexFunc_TableEntry_L1] at h
    cases hx : f x
    · rw [hx, cond_false] at h
      have := ltL_slices_IndexFunc_TableEntry f l (i + 1) j h
      simp only [List.length_cons]; omega
    · rw [hx, cond_true] at h
      cases h
      simp only [List.length_cons]; omega
theorem ltI_slices_IndexFunc_TableEntry (l : List TableEntry) (f : TableEntry → Bool) : slices_IndexFunc_TableEntry l f < ((l.length : Nat) : Int) := by
  unfold slices_IndexFunc_TableEntry
  cases h : slices_IndexFunc_TableEntry_L1 f l 0 with
  | none => show (-1 : Int) < _; omega
  | some j => have := ltL_slices_IndexFunc_TableEntry f l 0 j h; show j < _; omega
theorem f84 (w : World) (n : Nat) (hn : n + 0 ≤ 9) (s : (List TableEntry)) (ps : Option Addr) (cs : Nat) (hps : RdSl (hp w) ps cs s) (fg : FuncId) (fc : List Value) (fq : TableEntry → Bool) (ff : ∀ w1, Kp emp w w1 → ∀ (e0 : TableEntry) (x0 : GoT.X TableEntry), GoT.ok n e0 → All (hp w1) (GoT.fa .der e0 x0) → Does Try.prog fg ([Value.agg ⟨GoT.sh e0 x0⟩] ++ fc).toArray w1 emp (fun rv _ => rv = .bool (fq e0) ∧ True)) (hoks : GoT.ok n s) :
    Does Try.prog 84 #[.slice ps ((s).length) cs, .func (.func fg) #[] fc.toArray] w emp (fun (rv : Value) (_ : World) => rv = .bool (slices_ContainsFunc_TableEntry s fq) ∧ True) := by
  have hbP := bd_pos n
  have hbB := bd_big (n := n) (by omega)
  refine WX.enter (tt := tt) (Γ := [(0, MF.rs .stb ps cs s)]) Try.func84 rfl (by kernel_rfl) rfl (allS_cons rfl hps allS_nil) ?_
  refine WX.run ttOk rfl ?_
  refine WX.callV rfl rfl rfl rfl rfl (fun _ => rfl) rfl (fun w G bs hI hΓ => f102 w n (by omega) s ps cs (hΓ.get 0 rfl) fg fc fq (fun w1_ hb_ => ff w1_ (hI.keep.trans hb_)) hoks) ?_
  intro hq1
  have q1 := ltI_slices_IndexFunc_TableEntry s fq
  refine WX.run ttOk rfl ?_
  have hP1 : slices_ContainsFunc_TableEntry s fq = (decide ((slices_IndexFunc_TableEntry s fq) ≥ 0)) := by simp only [slices_ContainsFunc_TableEntry, cond_true, cond_false]
  refine WX.ret ttOk rfl ?_
  intro w1 G bs hI hΓ
  rw [hP1]
  exact ⟨rfl, trivial⟩
theorem f85 (w : World) (n : Nat) (hn : n + 0 ≤ 9) (e_ : TableEntry) (pe_Name : Option Addr) (ce_Name : Nat) (hpe_Name : RdSl (hp w) pe_Name ce_Name e_.name.parts) (hoke_ : GoT.ok n e_) :
    Does Try.prog 85 #[.agg #[.slice pe_Name ((e_.name.parts).length) ce_Name, .int .i64 (e_.value)]] w emp (fun (rv : Value) (_ : World) => rv = .bool (impl_ValidVector_c1 e_) ∧ True) := by
  have hbP := bd_pos n
  have hbB := bd_big (n := n) (by omega)
  refine WX.enter (tt := tt) (Γ := [(0, MF.rs .stb pe_Name ce_Name e_.name.parts)]) Try.func85 rfl (by kernel_rfl) rfl (allS_cons rfl hpe_Name allS_nil) ?_
  refine WX.run ttOk rfl ?_
  refine WX.callV rfl rfl rfl rfl rfl (fun _ => rfl) rfl (fun w G bs hI hΓ => f86 w n (by omega) e_.value 1 1000 ((ok_TableEntry hoke_).2) (show I64 1 from (by unfold I64; omega)) (show I64 1000 from (by unfold I64; omega))) ?_
  intro hq1
  refine WX.run ttOk rfl ?_
  have hP1 : impl_ValidVector_c1 e_ = (!(impl_InRange e_.value 1 1000)) := by simp only [impl_ValidVector_c1, cond_true, cond_false]
  refine WX.ret ttOk rfl ?_
  intro w1 G bs hI hΓ
  rw [hP1]
  exact ⟨rfl, trivial⟩
theorem f45 (w : World) (n : Nat) (hn : n + 0 ≤ 9) (v : StateVector) (pv : Option Addr) (cv : Nat) (hpv : RdSl (hp w) pv cv v.entries) (hokv : GoT.ok n v) :
    Does Try.prog 45 #[.agg #[.slice pv ((v.entries).length) cv]] w emp (fun (rv : Value) (_ : World) => rv = .bool (impl_ValidVector v) ∧ True) := by
  have hbP := bd_pos n
  have hbB := bd_big (n := n) (by omega)
  refine WX.enter (tt := tt) (Γ := [(0, MF.rs .stb pv cv v.entries)]) Try.func45 rfl (by kernel_rfl) rfl (allS_cons rfl hpv allS_nil) ?_
  refine WX.run ttOk rfl ?_
  refine WX.callV rfl rfl rfl rfl rfl (fun _ => rfl) rfl (fun w G bs hI hΓ => f83 w n (by omega) v.entries pv cv (hΓ.get 0 rfl) (ok_StateVector hokv)) ?_
  intro hq1
  refine WX.run ttOk rfl ?_
  refine WX.cases 6 rfl (fun h1 => ?_) (fun h1 => ?_)
  · skip
    refine WX.run ttOk rfl ?_
    refine WX.callV rfl rfl rfl rfl rfl (fun _ => rfl) rfl (fun w G bs hI hΓ => f84 w n (by omega) v.entries pv cv (hΓ.get 0 rfl) 85 [] (fun e0_ => (impl_ValidVector_c1 e0_)) (fun w1_ hb_ e0_ x0_ hk0_ hx0_ => f85 w1_ n (by omega) e0_ x0_.1.1 x0_.1.2 (hx0_ _ List.mem_cons_self) hk0_) (ok_StateVector hokv)) ?_
    intro hq2
    refine WX.run ttOk rfl ?_
    have hP1 : impl_ValidVector v = (!(slices_ContainsFunc_TableEntry v.entries (fun e0_ => (impl_ValidVector_c1 e0_)))) := by simp only [impl_ValidVector, h1, cond_true, cond_false]
    refine WX.ret ttOk rfl ?_
    intro w1 G bs hI hΓ
    rw [hP1]
    exact ⟨rfl, trivial⟩
  · skip
    refine WX.run ttOk rfl ?_
    have hP2 : impl_ValidVector v = false := by simp only [impl_ValidVector, h1, cond_true, cond_false]
    refine WX.ret ttOk rfl ?_
    intro w1 G bs hI hΓ
    rw [hP2]
    exact ⟨rfl, trivial⟩
theorem f41 (w : World) (n : Nat) (hn : n + 0 ≤ 9) (v : StateVector) (pv : Option Addr) (cv : Nat) (hpv : RdSl (hp w) pv cv v.entries) (hokv : GoT.ok n v) :
    Does Try.prog 41 #[.agg #[.slice pv ((v.entries).length) cv]] w emp (fun (rv : Value) (_ : World) => rv = .bool (spec_ValidVector v) ∧ True) := by
  have hbP := bd_pos n
  have hbB := bd_big (n := n) (by omega)
  refine WX.enter (tt := tt) (Γ := [(0, MF.rs .stb pv cv v.entries)]) Try.func41 rfl (by kernel_rfl) rfl (allS_cons rfl hpv allS_nil) ?_
  refine WX.run ttOk rfl ?_
  have r1 : (v.entries).length ≤ bd n := (okl (ok_StateVector hokv)).1
  refine WX.loop (ι := Nat) ⟨fun i => (i ≤ (v.entries).length) ∧ (spec_ValidVector_L1 v.entries = spec_ValidVector_L1 ((v.entries).drop i)), fun i => (v.entries).length - i, fun i => [(3, .v (.int .i64 (((i : Nat) : Int)))), (1, .p 1 0)], fun i => [(1, ⟨35, [.slice pv ((v.entries).length) cv]⟩)], fun i => [], fun i => [(0, MF.rs .stb pv cv v.entries)]⟩ 0 ⟨(Nat.zero_le _), rfl⟩
    (.cons rfl (.cons rfl (.nil))) (.cons rfl (.nil)) .nil [0] rfl ?_
  rintro i hpre
  have hpre_ : (i ≤ (v.entries).length) ∧ (spec_ValidVector_L1 v.entries = spec_ValidVector_L1 ((v.entries).drop i)) := hpre
  clear hpre
  obtain ⟨v1, v2⟩ := hpre_
  refine WX.run ttOk rfl ?_
  refine WX.cases 8 rfl (fun h1 => ?_) (fun h1 => ?_)
  · skip
    have h1d := B.dt h1
    have e1i : i < (v.entries).length := (by omega)
    obtain ⟨e1, e1h⟩ : ∃ e1, (v.entries)[i]? = some e1 := ⟨_, List.getElem?_eq_getElem e1i⟩
    have ok1 : GoT.ok n e1 := (okl (ok_StateVector hokv)).2 _ (List.mem_of_getElem? e1h)
    refine WX.run ttOk rfl ?_
    refine WX.idx 0 i ttOk rfl rfl rfl rfl rfl rfl rfl rfl rfl rfl e1i ?_
    rintro ad1 rfl
    refine WX.run ttOk rfl ?_
    refine WX.ldE 0 1 e1 ttOk rfl rfl rfl rfl rfl rfl rfl rfl e1h (fun _ => rfl) (fun _ => rfl) ?_
    rintro ⟨⟨p1, c1⟩, ⟨⟩⟩
    refine WX.callV rfl rfl rfl rfl rfl (fun _ => rfl) rfl (fun w G bs hI hΓ => f78 w n (by omega) e1.value 1 1000 ((ok_TableEntry ok1).2) (show I64 1 from (by unfold I64; omega)) (show I64 1000 from (by unfold I64; omega))) ?_
    intro hq1
    refine WX.run ttOk rfl ?_
    refine WX.cases 18 rfl (fun h2 => ?_) (fun h2 => ?_)
    · skip
      have h2d := (B.nt h2)
      refine WX.run ttOk rfl ?_
      have hP1 : spec_ValidVector_L1 v.entries = (some false) := by rw [v2, drop_get e1h]; simp only [spec_ValidVector_L1, h2, cond_true, cond_false]
      have hP2 : spec_ValidVector v = false := by simp only [spec_ValidVector, hP1, cond_true, cond_false]
      refine WX.ret ttOk rfl ?_
      intro w1 G bs hI hΓ
      rw [hP2]
      exact ⟨rfl, trivial⟩
    · skip
      have h2d := (B.nf h2)
      have h2r := inR_spec (B.nf h2)
      refine WX.run ttOk rfl ?_
      refine WX.see rfl rfl rfl (fun _ hΓ => looks_arith rfl rfl rfl rfl (by unfold I64; omega)) ?_
      refine WX.run ttOk rfl ?_
      exact WX.iter (i + 1) ⟨(by omega), (by rw [v2, drop_get e1h]; simp only [spec_ValidVector_L1, h2, cond_true, cond_false])⟩ (by dsimp only; omega) (.cons rfl (.cons rfl (.nil))) (.cons rfl (.nil)) .nil [0] rfl
  · skip
    have h1d := B.df h1
    refine WX.run ttOk rfl ?_
    have hX1 : spec_ValidVector_L1 v.entries = none := by rw [v2, List.drop_eq_nil_of_le (show (v.entries).length ≤ i by omega)]; simp only [spec_ValidVector_L1, cond_true, cond_false]
    refine WX.callV rfl rfl rfl rfl rfl (fun _ => rfl) rfl (fun w G bs hI hΓ => f79 w n (by omega) v.entries pv cv (hΓ.get 0 rfl) (ok_StateVector hokv)) ?_
    intro hq2
    refine WX.run ttOk rfl ?_
    have hP3 : spec_ValidVector v = (spec_ValidTable v.entries) := by simp only [spec_ValidVector, hX1, cond_true, cond_false]
    refine WX.ret ttOk rfl ?_
    intro w1 G bs hI hΓ
    rw [hP3]
    exact ⟨rfl, trivial⟩
end Go.Proofs.Ytdkhklhnipiheaa
