/-
  What the proof of one law needs: rules of the program logic, functions as Lean functions, contracts. No condition but what each says. Written by a program (pack.py) out of my own texts.
-/
import Derived.Test.YtfffongneoegbaaGreatKEqualNetworks2
namespace Go.Proofs.YtfffongneoegbaaGreat
open Go.Stp
set_option linter.unusedVariables false
set_option linter.unusedSimpArgs false
theorem f173 (w : World) (n : Nat) (a : (List Str)) (pa : Option Addr) (ca : Nat) (hpa : RdSl (hp w) pa ca a) (left : Int) (hoka : GoT.ok n a) (hokleft : GoT.ok n left) :
    Does Tryz.prog 173 #[.slice pa ((a).length) ca, .int .i64 (left)] w emp (fun (rv : Value) (_ : World) => rv = .int .i64 ((laws_szStringS a left)) ∧ GoT.ok n ((laws_szStringS a left) : Int)) := by
  refine WX.enter (tt := tt) (Γ := [(0, MF.rs .stb pa ca a)]) Tryz.func173 rfl (by kernel_rfl) rfl (allS_cons rfl hpa allS_nil) ?_
  refine WX.run ttOk rfl ?_
  refine WX.see rfl rfl rfl (fun _ hΓ => looks_wrap rfl rfl rfl rfl) ?_
  refine WX.run ttOk rfl ?_
  refine WX.cases 11 rfl (fun h1 => ?_) (fun h1 => ?_)
  · skip
    have h1d := B.dt h1
    refine WX.run ttOk rfl ?_
    have hP1 : laws_szStringS a left = (-1) := by simp only [laws_szStringS, h1, cond_true, cond_false]
    refine WX.ret ttOk rfl ?_
    intro w1 G bs hI hΓ
    rw [hP1]
    exact ⟨rfl, (show I64 (-1) from (by unfold I64; omega))⟩
  · skip
    have h1d := B.df h1
    refine WX.run ttOk rfl ?_
    have r1 : (a).length ≤ bd n := (okl hoka).1
    have r2 : (a).length ≤ 9223372036854775807 := hpa.2.1
    refine WX.loop (ι := Int × Nat) ⟨fun | (left2, i) => (i ≤ (a).length) ∧ (-9223372036854775808 ≤ left2 ∧ left2 ≤ 9223372036854775807) ∧ (laws_szStringS_L1 a (IntKind.i64.wrap (left - (((a).length : Nat) : Int))) = laws_szStringS_L1 ((a).drop i) left2), fun | (left2, i) => (a).length - i, fun | (left2, i) => [(1, .v (.int .i64 (left2))), (5, .v (.int .i64 (((i : Nat) : Int)))), (0, .v (.slice pa ((a).length) ca))], fun | (left2, i) => [], fun | (left2, i) => [], fun | (left2, i) => [(0, MF.rs .stb pa ca a)]⟩ (IntKind.i64.wrap (left - (((a).length : Nat) : Int)), 0) ⟨(Nat.zero_le _), (i64_wrap _), rfl⟩
      (.cons rfl (.cons rfl (.cons rfl (.nil)))) .nil .nil [0] rfl ?_
    rintro ⟨left2, i⟩ hpre
    have hpre_ : (i ≤ (a).length) ∧ (-9223372036854775808 ≤ left2 ∧ left2 ≤ 9223372036854775807) ∧ (laws_szStringS_L1 a (IntKind.i64.wrap (left - (((a).length : Nat) : Int))) = laws_szStringS_L1 ((a).drop i) left2) := hpre
    clear hpre
    obtain ⟨v1, v2, v3⟩ := hpre_
    refine WX.run ttOk rfl ?_
    refine WX.cases 15 rfl (fun h2 => ?_) (fun h2 => ?_)
    · skip
      have h2d := B.dt h2
      have e1i : i < (a).length := (by omega)
      obtain ⟨e1, e1h⟩ : ∃ e1, (a)[i]? = some e1 := ⟨_, List.getElem?_eq_getElem e1i⟩
      have ok1 : GoT.ok n e1 := (okl hoka).2 _ (List.mem_of_getElem? e1h)
      refine WX.run ttOk rfl ?_
      refine WX.idx 0 i ttOk rfl rfl rfl rfl rfl rfl rfl rfl rfl rfl e1i ?_
      rintro ad1 rfl
      refine WX.ldE 0 1 e1 ttOk rfl rfl rfl rfl rfl rfl rfl rfl e1h (fun _ => rfl) (fun _ => rfl) ?_
      rintro ⟨⟩
      refine WX.run ttOk rfl ?_
      refine WX.see rfl rfl rfl (fun _ hΓ => looks_wrap rfl rfl rfl rfl) ?_
      refine WX.run ttOk rfl ?_
      refine WX.cases 26 rfl (fun h3 => ?_) (fun h3 => ?_)
      · skip
        have h3d := B.dt h3
        refine WX.run ttOk rfl ?_
        have hP2 : laws_szStringS_L1 a (IntKind.i64.wrap (left - (((a).length : Nat) : Int))) = (Ctl.ret (-1)) := by rw [v3, drop_get e1h]; simp only [laws_szStringS_L1, h3, cond_true, cond_false]
        have hP3 : laws_szStringS a left = (-1) := by simp only [laws_szStringS, h1, hP2, cond_true, cond_false]
        refine WX.ret ttOk rfl ?_
        intro w1 G bs hI hΓ
        rw [hP3]
        exact ⟨rfl, (show I64 (-1) from (by unfold I64; omega))⟩
      · skip
        have h3d := B.df h3
        refine WX.run ttOk rfl ?_
        refine WX.see rfl rfl rfl (fun _ hΓ => looks_arith rfl rfl rfl rfl (by unfold I64; first | omega | (dsimp only; omega))) ?_
        refine WX.run ttOk rfl ?_
        exact WX.iter (IntKind.i64.wrap (left2 - (((e1).size : Nat) : Int)), i + 1) ⟨(by omega), (i64_wrap _), (by rw [v3, drop_get e1h]; simp only [laws_szStringS_L1, h3, cond_true, cond_false])⟩ (by dsimp only; omega) (.cons rfl (.cons rfl (.cons rfl (.nil)))) .nil .nil [0] rfl
    · skip
      have h2d := B.df h2
      refine WX.run ttOk rfl ?_
      have hX1 : laws_szStringS_L1 a (IntKind.i64.wrap (left - (((a).length : Nat) : Int))) = (Ctl.nxt left2) := by rw [v3, List.drop_eq_nil_of_le (show (a).length ≤ i by omega)]; simp only [laws_szStringS_L1, cond_true, cond_false]
      have hP4 : laws_szStringS a left = left2 := by simp only [laws_szStringS, h1, hX1, cond_true, cond_false]
      refine WX.ret ttOk rfl ?_
      intro w1 G bs hI hΓ
      rw [hP4]
      exact ⟨rfl, v2⟩
theorem f56 (w : World) (n : Nat) (a : Name) (pa : Option Addr) (ca : Nat) (hpa : RdSl (hp w) pa ca a.parts) (left : Int) (hoka : GoT.ok n a) (hokleft : GoT.ok n left) :
    Does Tryz.prog 56 #[.agg #[.slice pa ((a.parts).length) ca], .int .i64 (left)] w emp (fun (rv : Value) (_ : World) => rv = .int .i64 ((laws_szName a left)) ∧ GoT.ok n ((laws_szName a left) : Int)) := by
  refine WX.enter (tt := tt) (Γ := [(0, MF.rs .stb pa ca a.parts)]) Tryz.func56 rfl (by kernel_rfl) rfl (allS_cons rfl hpa allS_nil) ?_
  refine WX.run ttOk rfl ?_
  refine WX.callV rfl rfl rfl rfl rfl (fun _ => rfl) rfl (fun w G bs hI hΓ => f173 w n a.parts pa ca (hΓ.get 0 rfl) left (ok_Name hoka) hokleft) ?_
  intro hq1
  refine WX.run ttOk rfl ?_
  refine WX.cases 10 rfl (fun h1 => ?_) (fun h1 => ?_)
  · skip
    have h1d := B.dt h1
    refine WX.run ttOk rfl ?_
    have hP1 : laws_szName a left = (-1) := by simp only [laws_szName, h1, cond_true, cond_false]
    refine WX.ret ttOk rfl ?_
    intro w1 G bs hI hΓ
    rw [hP1]
    exact ⟨rfl, (show I64 (-1) from (by unfold I64; omega))⟩
  · skip
    have h1d := B.df h1
    refine WX.run ttOk rfl ?_
    have hP2 : laws_szName a left = (laws_szStringS a.parts left) := by simp only [laws_szName, h1, cond_true, cond_false]
    refine WX.ret ttOk rfl ?_
    intro w1 G bs hI hΓ
    rw [hP2]
    exact ⟨rfl, hq1⟩
theorem f216 (w : World) (n : Nat) (a : TableEntry) (paName : Option Addr) (caName : Nat) (hpaName : RdSl (hp w) paName caName a.name.parts) (left : Int) (hoka : GoT.ok n a) (hokleft : GoT.ok n left) :
    Does Tryz.prog 216 #[.agg #[.slice paName ((a.name.parts).length) caName, .int .i64 (a.value)], .int .i64 (left)] w emp (fun (rv : Value) (_ : World) => rv = .int .i64 ((laws_szTableEntry a left)) ∧ GoT.ok n ((laws_szTableEntry a left) : Int)) := by
  refine WX.enter (tt := tt) (Γ := [(0, MF.rs .stb paName caName a.name.parts)]) Tryz.func216 rfl (by kernel_rfl) rfl (allS_cons rfl hpaName allS_nil) ?_
  refine WX.run ttOk rfl ?_
  refine WX.callV rfl rfl rfl rfl rfl (fun _ => rfl) rfl (fun w G bs hI hΓ => f56 w n a.name paName caName (hΓ.get 0 rfl) left ((ok_TableEntry hoka).1) hokleft) ?_
  intro hq1
  refine WX.run ttOk rfl ?_
  refine WX.cases 10 rfl (fun h1 => ?_) (fun h1 => ?_)
  · skip
    have h1d := B.dt h1
    refine WX.run ttOk rfl ?_
    have hP1 : laws_szTableEntry a left = (-1) := by simp only [laws_szTableEntry, h1, cond_true, cond_false]
    refine WX.ret ttOk rfl ?_
    intro w1 G bs hI hΓ
    rw [hP1]
    exact ⟨rfl, (show I64 (-1) from (by unfold I64; omega))⟩
  · skip
    have h1d := B.df h1
    refine WX.run ttOk rfl ?_
    have hP2 : laws_szTableEntry a left = (laws_szName a.name left) := by simp only [laws_szTableEntry, h1, cond_true, cond_false]
    refine WX.ret ttOk rfl ?_
    intro w1 G bs hI hΓ
    rw [hP2]
    exact ⟨rfl, hq1⟩
theorem f113 (w : World) (n : Nat) (a : (List TableEntry)) (pa : Option Addr) (ca : Nat) (hpa : RdSl (hp w) pa ca a) (left : Int) (hoka : GoT.ok n a) (hokleft : GoT.ok n left) :
    Does Tryz.prog 113 #[.slice pa ((a).length) ca, .int .i64 (left)] w emp (fun (rv : Value) (_ : World) => rv = .int .i64 ((laws_szTableEntryS a left)) ∧ GoT.ok n ((laws_szTableEntryS a left) : Int)) := by
  refine WX.enter (tt := tt) (Γ := [(0, MF.rs .stb pa ca a)]) Tryz.func113 rfl (by kernel_rfl) rfl (allS_cons rfl hpa allS_nil) ?_
  refine WX.run ttOk rfl ?_
  refine WX.see rfl rfl rfl (fun _ hΓ => looks_wrap rfl rfl rfl rfl) ?_
  refine WX.run ttOk rfl ?_
  refine WX.cases 11 rfl (fun h1 => ?_) (fun h1 => ?_)
  · skip
    have h1d := B.dt h1
    refine WX.run ttOk rfl ?_
    have hP1 : laws_szTableEntryS a left = (-1) := by simp only [laws_szTableEntryS, h1, cond_true, cond_false]
    refine WX.ret ttOk rfl ?_
    intro w1 G bs hI hΓ
    rw [hP1]
    exact ⟨rfl, (show I64 (-1) from (by unfold I64; omega))⟩
  · skip
    have h1d := B.df h1
    refine WX.run ttOk rfl ?_
    have r1 : (a).length ≤ bd n := (okl hoka).1
    have r2 : (a).length ≤ 9223372036854775807 := hpa.2.1
    refine WX.loop (ι := Int × Nat) ⟨fun | (left2, i) => (i ≤ (a).length) ∧ (-9223372036854775808 ≤ left2 ∧ left2 ≤ 9223372036854775807) ∧ (laws_szTableEntryS_L1 a (IntKind.i64.wrap (left - (((a).length : Nat) : Int))) = laws_szTableEntryS_L1 ((a).drop i) left2), fun | (left2, i) => (a).length - i, fun | (left2, i) => [(1, .v (.int .i64 (left2))), (5, .v (.int .i64 (((i : Nat) : Int)))), (0, .v (.slice pa ((a).length) ca))], fun | (left2, i) => [], fun | (left2, i) => [], fun | (left2, i) => [(0, MF.rs .stb pa ca a)]⟩ (IntKind.i64.wrap (left - (((a).length : Nat) : Int)), 0) ⟨(Nat.zero_le _), (i64_wrap _), rfl⟩
      (.cons rfl (.cons rfl (.cons rfl (.nil)))) .nil .nil [0] rfl ?_
    rintro ⟨left2, i⟩ hpre
    have hpre_ : (i ≤ (a).length) ∧ (-9223372036854775808 ≤ left2 ∧ left2 ≤ 9223372036854775807) ∧ (laws_szTableEntryS_L1 a (IntKind.i64.wrap (left - (((a).length : Nat) : Int))) = laws_szTableEntryS_L1 ((a).drop i) left2) := hpre
    clear hpre
    obtain ⟨v1, v2, v3⟩ := hpre_
    refine WX.run ttOk rfl ?_
    refine WX.cases 15 rfl (fun h2 => ?_) (fun h2 => ?_)
    · skip
      have h2d := B.dt h2
      have e1i : i < (a).length := (by omega)
      obtain ⟨e1, e1h⟩ : ∃ e1, (a)[i]? = some e1 := ⟨_, List.getElem?_eq_getElem e1i⟩
      have ok1 : GoT.ok n e1 := (okl hoka).2 _ (List.mem_of_getElem? e1h)
      refine WX.run ttOk rfl ?_
      refine WX.idx 0 i ttOk rfl rfl rfl rfl rfl rfl rfl rfl rfl rfl e1i ?_
      rintro ad1 rfl
      refine WX.ldE 0 1 e1 ttOk rfl rfl rfl rfl rfl rfl rfl rfl e1h (fun _ => rfl) (fun _ => rfl) ?_
      rintro ⟨⟨p1, c1⟩, ⟨⟩⟩
      refine WX.run ttOk rfl ?_
      refine WX.callV rfl rfl rfl rfl rfl (fun _ => rfl) rfl (fun w G bs hI hΓ => f216 w n e1 p1 c1 (hΓ.get 1 rfl) left2 ok1 v2) ?_
      intro hq1
      refine WX.run ttOk rfl ?_
      refine WX.cases 25 rfl (fun h3 => ?_) (fun h3 => ?_)
      · skip
        have h3d := B.dt h3
        refine WX.run ttOk rfl ?_
        have hP2 : laws_szTableEntryS_L1 a (IntKind.i64.wrap (left - (((a).length : Nat) : Int))) = (Ctl.ret (-1)) := by rw [v3, drop_get e1h]; simp only [laws_szTableEntryS_L1, h3, cond_true, cond_false]
        have hP3 : laws_szTableEntryS a left = (-1) := by simp only [laws_szTableEntryS, h1, hP2, cond_true, cond_false]
        refine WX.ret ttOk rfl ?_
        intro w1 G bs hI hΓ
        rw [hP3]
        exact ⟨rfl, (show I64 (-1) from (by unfold I64; omega))⟩
      · skip
        have h3d := B.df h3
        refine WX.run ttOk rfl ?_
        refine WX.see rfl rfl rfl (fun _ hΓ => looks_arith rfl rfl rfl rfl (by unfold I64; first | omega | (dsimp only; omega))) ?_
        refine WX.run ttOk rfl ?_
        exact WX.iter ((laws_szTableEntry e1 left2), i + 1) ⟨(by omega), hq1, (by rw [v3, drop_get e1h]; simp only [laws_szTableEntryS_L1, h3, cond_true, cond_false])⟩ (by dsimp only; omega) (.cons rfl (.cons rfl (.cons rfl (.nil)))) .nil .nil [0] rfl
    · skip
      have h2d := B.df h2
      refine WX.run ttOk rfl ?_
      have hX1 : laws_szTableEntryS_L1 a (IntKind.i64.wrap (left - (((a).length : Nat) : Int))) = (Ctl.nxt left2) := by rw [v3, List.drop_eq_nil_of_le (show (a).length ≤ i by omega)]; simp only [laws_szTableEntryS_L1, cond_true, cond_false]
      have hP4 : laws_szTableEntryS a left = left2 := by simp only [laws_szTableEntryS, h1, hX1, cond_true, cond_false]
      refine WX.ret ttOk rfl ?_
      intro w1 G bs hI hΓ
      rw [hP4]
      exact ⟨rfl, v2⟩
theorem f59 (w : World) (n : Nat) (a : (List UInt8)) (pa : Option Addr) (ca : Nat) (hpa : RdSl (hp w) pa ca a) (left : Int) (hoka : GoT.ok n a) (hokleft : GoT.ok n left) :
    Does Tryz.prog 59 #[.slice pa ((a).length) ca, .int .i64 (left)] w emp (fun (rv : Value) (_ : World) => rv = .int .i64 ((laws_szByteS a left)) ∧ GoT.ok n ((laws_szByteS a left) : Int)) := by
  refine WX.enter (tt := tt) (Γ := [(0, MF.rs .stb pa ca a)]) Tryz.func59 rfl (by kernel_rfl) rfl (allS_cons rfl hpa allS_nil) ?_
  refine WX.run ttOk rfl ?_
  refine WX.see rfl rfl rfl (fun _ hΓ => looks_wrap rfl rfl rfl rfl) ?_
  refine WX.run ttOk rfl ?_
  refine WX.cases 10 rfl (fun h1 => ?_) (fun h1 => ?_)
  · skip
    have h1d := B.dt h1
    refine WX.run ttOk rfl ?_
    have hP1 : laws_szByteS a left = (-1) := by simp only [laws_szByteS, h1, cond_true, cond_false]
    refine WX.ret ttOk rfl ?_
    intro w1 G bs hI hΓ
    rw [hP1]
    exact ⟨rfl, (show I64 (-1) from (by unfold I64; omega))⟩
  · skip
    have h1d := B.df h1
    refine WX.run ttOk rfl ?_
    have hP2 : laws_szByteS a left = (IntKind.i64.wrap (left - (((a).length : Nat) : Int))) := by simp only [laws_szByteS, h1, cond_true, cond_false]
    refine WX.ret ttOk rfl ?_
    intro w1 G bs hI hΓ
    rw [hP2]
    exact ⟨rfl, (i64_wrap _)⟩
theorem f30 (w : World) (n : Nat) (a : DataP) (paName : Option Addr) (caName : Nat) (hpaName : RdSl (hp w) paName caName a.name.parts) (paContent : Option Addr) (caContent : Nat) (hpaContent : RdSl (hp w) paContent caContent a.content) (paKeyName : Option Addr) (caKeyName : Nat) (hpaKeyName : RdSl (hp w) paKeyName caKeyName a.keyName.parts) (left : Int) (hoka : GoT.ok n a) (hokleft : GoT.ok n left) :
    Does Tryz.prog 30 #[.agg #[.slice paName ((a.name.parts).length) caName, .slice paContent ((a.content).length) caContent, .slice paKeyName ((a.keyName.parts).length) caKeyName, .int .i64 (a.freshUntil), .int .i64 (a.signature)], .int .i64 (left)] w emp (fun (rv : Value) (_ : World) => rv = .int .i64 ((laws_szData a left)) ∧ GoT.ok n ((laws_szData a left) : Int)) := by
  refine WX.enter (tt := tt) (Γ := [(0, MF.rs .stb paName caName a.name.parts), (1, MF.rs .stb paContent caContent a.content), (2, MF.rs .stb paKeyName caKeyName a.keyName.parts)]) Tryz.func30 rfl (by kernel_rfl) rfl (allS_cons rfl hpaName (allS_cons rfl hpaContent (allS_cons rfl hpaKeyName allS_nil))) ?_
  refine WX.run ttOk rfl ?_
  refine WX.callV rfl rfl rfl rfl rfl (fun _ => rfl) rfl (fun w G bs hI hΓ => f56 w n a.name paName caName (hΓ.get 0 rfl) left ((ok_DataP hoka).1) hokleft) ?_
  intro hq1
  refine WX.run ttOk rfl ?_
  refine WX.cases 10 rfl (fun h1 => ?_) (fun h1 => ?_)
  · skip
    have h1d := B.dt h1
    refine WX.run ttOk rfl ?_
    have hP1 : laws_szData a left = (-1) := by simp only [laws_szData, h1, cond_true, cond_false]
    refine WX.ret ttOk rfl ?_
    intro w1 G bs hI hΓ
    rw [hP1]
    exact ⟨rfl, (show I64 (-1) from (by unfold I64; omega))⟩
  · skip
    have h1d := B.df h1
    refine WX.run ttOk rfl ?_
    refine WX.callV rfl rfl rfl rfl rfl (fun _ => rfl) rfl (fun w G bs hI hΓ => f59 w n a.content paContent caContent (hΓ.get 1 rfl) (laws_szName a.name left) ((ok_DataP hoka).2.1) hq1) ?_
    intro hq2
    refine WX.run ttOk rfl ?_
    refine WX.cases 16 rfl (fun h2 => ?_) (fun h2 => ?_)
    · skip
      have h2d := B.dt h2
      refine WX.run ttOk rfl ?_
      have hP2 : laws_szData a left = (-1) := by simp only [laws_szData, h1, h2, cond_true, cond_false]
      refine WX.ret ttOk rfl ?_
      intro w1 G bs hI hΓ
      rw [hP2]
      exact ⟨rfl, (show I64 (-1) from (by unfold I64; omega))⟩
    · skip
      have h2d := B.df h2
      refine WX.run ttOk rfl ?_
      refine WX.callV rfl rfl rfl rfl rfl (fun _ => rfl) rfl (fun w G bs hI hΓ => f56 w n a.keyName paKeyName caKeyName (hΓ.get 2 rfl) (laws_szByteS a.content (laws_szName a.name left)) ((ok_DataP hoka).2.2.1) hq2) ?_
      intro hq3
      refine WX.run ttOk rfl ?_
      refine WX.cases 22 rfl (fun h3 => ?_) (fun h3 => ?_)
      · skip
        have h3d := B.dt h3
        refine WX.run ttOk rfl ?_
        have hP3 : laws_szData a left = (-1) := by simp only [laws_szData, h1, h2, h3, cond_true, cond_false]
        refine WX.ret ttOk rfl ?_
        intro w1 G bs hI hΓ
        rw [hP3]
        exact ⟨rfl, (show I64 (-1) from (by unfold I64; omega))⟩
      · skip
        have h3d := B.df h3
        refine WX.run ttOk rfl ?_
        have hP4 : laws_szData a left = (laws_szName a.keyName (laws_szByteS a.content (laws_szName a.name left))) := by simp only [laws_szData, h1, h2, h3, cond_true, cond_false]
        refine WX.ret ttOk rfl ?_
        intro w1 G bs hI hΓ
        rw [hP4]
        exact ⟨rfl, hq3⟩
theorem f28 (w : World) (n : Nat) (a : Consumer) (paName : Option Addr) (caName : Nat) (hpaName : RdSl (hp w) paName caName a.name.parts) (paDataName : Option Addr) (caDataName : Nat) (hpaDataName : RdSl (hp w) paDataName caDataName a.data.name.parts) (paDataContent : Option Addr) (caDataContent : Nat) (hpaDataContent : RdSl (hp w) paDataContent caDataContent a.data.content) (paDataKeyName : Option Addr) (caDataKeyName : Nat) (hpaDataKeyName : RdSl (hp w) paDataKeyName caDataKeyName a.data.keyName.parts) (left : Int) (hoka : GoT.ok n a) (hokleft : GoT.ok n left) :
    Does Tryz.prog 28 #[.agg #[.int .i64 (a.node), .int .i64 (a.index), .slice paName ((a.name.parts).length) caName, .int .i64 (a.attempts), .int .i64 (a.wait), .bool a.satisfied, .slice paDataName ((a.data.name.parts).length) caDataName, .slice paDataContent ((a.data.content).length) caDataContent, .slice paDataKeyName ((a.data.keyName.parts).length) caDataKeyName, .int .i64 (a.data.freshUntil), .int .i64 (a.data.signature)], .int .i64 (left)] w emp (fun (rv : Value) (_ : World) => rv = .int .i64 ((laws_szConsumer a left)) ∧ GoT.ok n ((laws_szConsumer a left) : Int)) := by
  refine WX.enter (tt := tt) (Γ := [(0, MF.rs .stb paName caName a.name.parts), (1, MF.rs .stb paDataName caDataName a.data.name.parts), (2, MF.rs .stb paDataContent caDataContent a.data.content), (3, MF.rs .stb paDataKeyName caDataKeyName a.data.keyName.parts)]) Tryz.func28 rfl (by kernel_rfl) rfl (allS_cons rfl hpaName (allS_cons rfl hpaDataName (allS_cons rfl hpaDataContent (allS_cons rfl hpaDataKeyName allS_nil)))) ?_
  refine WX.run ttOk rfl ?_
  refine WX.callV rfl rfl rfl rfl rfl (fun _ => rfl) rfl (fun w G bs hI hΓ => f56 w n a.name paName caName (hΓ.get 0 rfl) left ((ok_Consumer hoka).2.2.1) hokleft) ?_
  intro hq1
  refine WX.run ttOk rfl ?_
  refine WX.cases 10 rfl (fun h1 => ?_) (fun h1 => ?_)
  · skip
    have h1d := B.dt h1
    refine WX.run ttOk rfl ?_
    have hP1 : laws_szConsumer a left = (-1) := by simp only [laws_szConsumer, h1, cond_true, cond_false]
    refine WX.ret ttOk rfl ?_
    intro w1 G bs hI hΓ
    rw [hP1]
    exact ⟨rfl, (show I64 (-1) from (by unfold I64; omega))⟩
  · skip
    have h1d := B.df h1
    refine WX.run ttOk rfl ?_
    refine WX.callV rfl rfl rfl rfl rfl (fun _ => rfl) rfl (fun w G bs hI hΓ => f30 w n a.data paDataName caDataName (hΓ.get 1 rfl) paDataContent caDataContent (hΓ.get 2 rfl) paDataKeyName caDataKeyName (hΓ.get 3 rfl) (laws_szName a.name left) ((ok_Consumer hoka).2.2.2.2.2.2) hq1) ?_
    intro hq2
    refine WX.run ttOk rfl ?_
    refine WX.cases 16 rfl (fun h2 => ?_) (fun h2 => ?_)
    · skip
      have h2d := B.dt h2
      refine WX.run ttOk rfl ?_
      have hP2 : laws_szConsumer a left = (-1) := by simp only [laws_szConsumer, h1, h2, cond_true, cond_false]
      refine WX.ret ttOk rfl ?_
      intro w1 G bs hI hΓ
      rw [hP2]
      exact ⟨rfl, (show I64 (-1) from (by unfold I64; omega))⟩
    · skip
      have h2d := B.df h2
      refine WX.run ttOk rfl ?_
      have hP3 : laws_szConsumer a left = (laws_szData a.data (laws_szName a.name left)) := by simp only [laws_szConsumer, h1, h2, cond_true, cond_false]
      refine WX.ret ttOk rfl ?_
      intro w1 G bs hI hΓ
      rw [hP3]
      exact ⟨rfl, hq2⟩
theorem f204 (w : World) (n : Nat) (a : Key) (paName : Option Addr) (caName : Nat) (hpaName : RdSl (hp w) paName caName a.name.parts) (left : Int) (hoka : GoT.ok n a) (hokleft : GoT.ok n left) :
    Does Tryz.prog 204 #[.agg #[.slice paName ((a.name.parts).length) caName, .int .i64 (a.secret)], .int .i64 (left)] w emp (fun (rv : Value) (_ : World) => rv = .int .i64 ((laws_szKey a left)) ∧ GoT.ok n ((laws_szKey a left) : Int)) := by
  refine WX.enter (tt := tt) (Γ := [(0, MF.rs .stb paName caName a.name.parts)]) Tryz.func204 rfl (by kernel_rfl) rfl (allS_cons rfl hpaName allS_nil) ?_
  refine WX.run ttOk rfl ?_
  refine WX.callV rfl rfl rfl rfl rfl (fun _ => rfl) rfl (fun w G bs hI hΓ => f56 w n a.name paName caName (hΓ.get 0 rfl) left ((ok_Key hoka).1) hokleft) ?_
  intro hq1
  refine WX.run ttOk rfl ?_
  refine WX.cases 10 rfl (fun h1 => ?_) (fun h1 => ?_)
  · skip
    have h1d := B.dt h1
    refine WX.run ttOk rfl ?_
    have hP1 : laws_szKey a left = (-1) := by simp only [laws_szKey, h1, cond_true, cond_false]
    refine WX.ret ttOk rfl ?_
    intro w1 G bs hI hΓ
    rw [hP1]
    exact ⟨rfl, (show I64 (-1) from (by unfold I64; omega))⟩
  · skip
    have h1d := B.df h1
    refine WX.run ttOk rfl ?_
    have hP2 : laws_szKey a left = (laws_szName a.name left) := by simp only [laws_szKey, h1, cond_true, cond_false]
    refine WX.ret ttOk rfl ?_
    intro w1 G bs hI hΓ
    rw [hP2]
    exact ⟨rfl, hq1⟩
theorem f87 (w : World) (n : Nat) (a : (List Key)) (pa : Option Addr) (ca : Nat) (hpa : RdSl (hp w) pa ca a) (left : Int) (hoka : GoT.ok n a) (hokleft : GoT.ok n left) :
    Does Tryz.prog 87 #[.slice pa ((a).length) ca, .int .i64 (left)] w emp (fun (rv : Value) (_ : World) => rv = .int .i64 ((laws_szKeyS a left)) ∧ GoT.ok n ((laws_szKeyS a left) : Int)) := by
  refine WX.enter (tt := tt) (Γ := [(0, MF.rs .stb pa ca a)]) Tryz.func87 rfl (by kernel_rfl) rfl (allS_cons rfl hpa allS_nil) ?_
  refine WX.run ttOk rfl ?_
  refine WX.see rfl rfl rfl (fun _ hΓ => looks_wrap rfl rfl rfl rfl) ?_
  refine WX.run ttOk rfl ?_
  refine WX.cases 11 rfl (fun h1 => ?_) (fun h1 => ?_)
  · skip
    have h1d := B.dt h1
    refine WX.run ttOk rfl ?_
    have hP1 : laws_szKeyS a left = (-1) := by simp only [laws_szKeyS, h1, cond_true, cond_false]
    refine WX.ret ttOk rfl ?_
    intro w1 G bs hI hΓ
    rw [hP1]
    exact ⟨rfl, (show I64 (-1) from (by unfold I64; omega))⟩
  · skip
    have h1d := B.df h1
    refine WX.run ttOk rfl ?_
    have r1 : (a).length ≤ bd n := (okl hoka).1
    have r2 : (a).length ≤ 9223372036854775807 := hpa.2.1
    refine WX.loop (ι := Int × Nat) ⟨fun | (left2, i) => (i ≤ (a).length) ∧ (-9223372036854775808 ≤ left2 ∧ left2 ≤ 9223372036854775807) ∧ (laws_szKeyS_L1 a (IntKind.i64.wrap (left - (((a).length : Nat) : Int))) = laws_szKeyS_L1 ((a).drop i) left2), fun | (left2, i) => (a).length - i, fun | (left2, i) => [(1, .v (.int .i64 (left2))), (5, .v (.int .i64 (((i : Nat) : Int)))), (0, .v (.slice pa ((a).length) ca))], fun | (left2, i) => [], fun | (left2, i) => [], fun | (left2, i) => [(0, MF.rs .stb pa ca a)]⟩ (IntKind.i64.wrap (left - (((a).length : Nat) : Int)), 0) ⟨(Nat.zero_le _), (i64_wrap _), rfl⟩
      (.cons rfl (.cons rfl (.cons rfl (.nil)))) .nil .nil [0] rfl ?_
    rintro ⟨left2, i⟩ hpre
    have hpre_ : (i ≤ (a).length) ∧ (-9223372036854775808 ≤ left2 ∧ left2 ≤ 9223372036854775807) ∧ (laws_szKeyS_L1 a (IntKind.i64.wrap (left - (((a).length : Nat) : Int))) = laws_szKeyS_L1 ((a).drop i) left2) := hpre
    clear hpre
    obtain ⟨v1, v2, v3⟩ := hpre_
    refine WX.run ttOk rfl ?_
    refine WX.cases 15 rfl (fun h2 => ?_) (fun h2 => ?_)
    · skip
      have h2d := B.dt h2
      have e1i : i < (a).length := (by omega)
      obtain ⟨e1, e1h⟩ : ∃ e1, (a)[i]? = some e1 := ⟨_, List.getElem?_eq_getElem e1i⟩
      have ok1 : GoT.ok n e1 := (okl hoka).2 _ (List.mem_of_getElem? e1h)
      refine WX.run ttOk rfl ?_
      refine WX.idx 0 i ttOk rfl rfl rfl rfl rfl rfl rfl rfl rfl rfl e1i ?_
      rintro ad1 rfl
      refine WX.ldE 0 1 e1 ttOk rfl rfl rfl rfl rfl rfl rfl rfl e1h (fun _ => rfl) (fun _ => rfl) ?_
      rintro ⟨⟨p1, c1⟩, ⟨⟩⟩
      refine WX.run ttOk rfl ?_
      refine WX.callV rfl rfl rfl rfl rfl (fun _ => rfl) rfl (fun w G bs hI hΓ => f204 w n e1 p1 c1 (hΓ.get 1 rfl) left2 ok1 v2) ?_
      intro hq1
      refine WX.run ttOk rfl ?_
      refine WX.cases 25 rfl (fun h3 => ?_) (fun h3 => ?_)
      · skip
        have h3d := B.dt h3
        refine WX.run ttOk rfl ?_
        have hP2 : laws_szKeyS_L1 a (IntKind.i64.wrap (left - (((a).length : Nat) : Int))) = (Ctl.ret (-1)) := by rw [v3, drop_get e1h]; simp only [laws_szKeyS_L1, h3, cond_true, cond_false]
        have hP3 : laws_szKeyS a left = (-1) := by simp only [laws_szKeyS, h1, hP2, cond_true, cond_false]
        refine WX.ret ttOk rfl ?_
        intro w1 G bs hI hΓ
        rw [hP3]
        exact ⟨rfl, (show I64 (-1) from (by unfold I64; omega))⟩
      · skip
        have h3d := B.df h3
        refine WX.run ttOk rfl ?_
        refine WX.see rfl rfl rfl (fun _ hΓ => looks_arith rfl rfl rfl rfl (by unfold I64; first | omega | (dsimp only; omega))) ?_
        refine WX.run ttOk rfl ?_
        exact WX.iter ((laws_szKey e1 left2), i + 1) ⟨(by omega), hq1, (by rw [v3, drop_get e1h]; simp only [laws_szKeyS_L1, h3, cond_true, cond_false])⟩ (by dsimp only; omega) (.cons rfl (.cons rfl (.cons rfl (.nil)))) .nil .nil [0] rfl
    · skip
      have h2d := B.df h2
      refine WX.run ttOk rfl ?_
      have hX1 : laws_szKeyS_L1 a (IntKind.i64.wrap (left - (((a).length : Nat) : Int))) = (Ctl.nxt left2) := by rw [v3, List.drop_eq_nil_of_le (show (a).length ≤ i by omega)]; simp only [laws_szKeyS_L1, cond_true, cond_false]
      have hP4 : laws_szKeyS a left = left2 := by simp only [laws_szKeyS, h1, hX1, cond_true, cond_false]
      refine WX.ret ttOk rfl ?_
      intro w1 G bs hI hΓ
      rw [hP4]
      exact ⟨rfl, v2⟩
theorem f302 (w : World) (n : Nat) (a : Pattern) (pa : Option Addr) (ca : Nat) (hpa : RdSl (hp w) pa ca a.parts) (left : Int) (hoka : GoT.ok n a) (hokleft : GoT.ok n left) :
    Does Tryz.prog 302 #[.agg #[.slice pa ((a.parts).length) ca], .int .i64 (left)] w emp (fun (rv : Value) (_ : World) => rv = .int .i64 ((laws_szPattern a left)) ∧ GoT.ok n ((laws_szPattern a left) : Int)) := by
  refine WX.enter (tt := tt) (Γ := [(0, MF.rs .stb pa ca a.parts)]) Tryz.func302 rfl (by kernel_rfl) rfl (allS_cons rfl hpa allS_nil) ?_
  refine WX.run ttOk rfl ?_
  refine WX.callV rfl rfl rfl rfl rfl (fun _ => rfl) rfl (fun w G bs hI hΓ => f173 w n a.parts pa ca (hΓ.get 0 rfl) left (ok_Pattern hoka) hokleft) ?_
  intro hq1
  refine WX.run ttOk rfl ?_
  refine WX.cases 10 rfl (fun h1 => ?_) (fun h1 => ?_)
  · skip
    have h1d := B.dt h1
    refine WX.run ttOk rfl ?_
    have hP1 : laws_szPattern a left = (-1) := by simp only [laws_szPattern, h1, cond_true, cond_false]
    refine WX.ret ttOk rfl ?_
    intro w1 G bs hI hΓ
    rw [hP1]
    exact ⟨rfl, (show I64 (-1) from (by unfold I64; omega))⟩
  · skip
    have h1d := B.df h1
    refine WX.run ttOk rfl ?_
    have hP2 : laws_szPattern a left = (laws_szStringS a.parts left) := by simp only [laws_szPattern, h1, cond_true, cond_false]
    refine WX.ret ttOk rfl ?_
    intro w1 G bs hI hΓ
    rw [hP2]
    exact ⟨rfl, hq1⟩
theorem f205 (w : World) (n : Nat) (a : Rule) (paDataPattern : Option Addr) (caDataPattern : Nat) (hpaDataPattern : RdSl (hp w) paDataPattern caDataPattern a.dataPattern.parts) (paKeyPattern : Option Addr) (caKeyPattern : Nat) (hpaKeyPattern : RdSl (hp w) paKeyPattern caKeyPattern a.keyPattern.parts) (left : Int) (hoka : GoT.ok n a) (hokleft : GoT.ok n left) :
    Does Tryz.prog 205 #[.agg #[.slice paDataPattern ((a.dataPattern.parts).length) caDataPattern, .slice paKeyPattern ((a.keyPattern.parts).length) caKeyPattern], .int .i64 (left)] w emp (fun (rv : Value) (_ : World) => rv = .int .i64 ((laws_szRule a left)) ∧ GoT.ok n ((laws_szRule a left) : Int)) := by
  refine WX.enter (tt := tt) (Γ := [(0, MF.rs .stb paDataPattern caDataPattern a.dataPattern.parts), (1, MF.rs .stb paKeyPattern caKeyPattern a.keyPattern.parts)]) Tryz.func205 rfl (by kernel_rfl) rfl (allS_cons rfl hpaDataPattern (allS_cons rfl hpaKeyPattern allS_nil)) ?_
  refine WX.run ttOk rfl ?_
  refine WX.callV rfl rfl rfl rfl rfl (fun _ => rfl) rfl (fun w G bs hI hΓ => f302 w n a.dataPattern paDataPattern caDataPattern (hΓ.get 0 rfl) left ((ok_Rule hoka).1) hokleft) ?_
  intro hq1
  refine WX.run ttOk rfl ?_
  refine WX.cases 10 rfl (fun h1 => ?_) (fun h1 => ?_)
  · skip
    have h1d := B.dt h1
    refine WX.run ttOk rfl ?_
    have hP1 : laws_szRule a left = (-1) := by simp only [laws_szRule, h1, cond_true, cond_false]
    refine WX.ret ttOk rfl ?_
    intro w1 G bs hI hΓ
    rw [hP1]
    exact ⟨rfl, (show I64 (-1) from (by unfold I64; omega))⟩
  · skip
    have h1d := B.df h1
    refine WX.run ttOk rfl ?_
    refine WX.callV rfl rfl rfl rfl rfl (fun _ => rfl) rfl (fun w G bs hI hΓ => f302 w n a.keyPattern paKeyPattern caKeyPattern (hΓ.get 1 rfl) (laws_szPattern a.dataPattern left) ((ok_Rule hoka).2) hq1) ?_
    intro hq2
    refine WX.run ttOk rfl ?_
    refine WX.cases 16 rfl (fun h2 => ?_) (fun h2 => ?_)
    · skip
      have h2d := B.dt h2
      refine WX.run ttOk rfl ?_
      have hP2 : laws_szRule a left = (-1) := by simp only [laws_szRule, h1, h2, cond_true, cond_false]
      refine WX.ret ttOk rfl ?_
      intro w1 G bs hI hΓ
      rw [hP2]
      exact ⟨rfl, (show I64 (-1) from (by unfold I64; omega))⟩
    · skip
      have h2d := B.df h2
      refine WX.run ttOk rfl ?_
      have hP3 : laws_szRule a left = (laws_szPattern a.keyPattern (laws_szPattern a.dataPattern left)) := by simp only [laws_szRule, h1, h2, cond_true, cond_false]
      refine WX.ret ttOk rfl ?_
      intro w1 G bs hI hΓ
      rw [hP3]
      exact ⟨rfl, hq2⟩
theorem f88 (w : World) (n : Nat) (a : (List Rule)) (pa : Option Addr) (ca : Nat) (hpa : RdSl (hp w) pa ca a) (left : Int) (hoka : GoT.ok n a) (hokleft : GoT.ok n left) :
    Does Tryz.prog 88 #[.slice pa ((a).length) ca, .int .i64 (left)] w emp (fun (rv : Value) (_ : World) => rv = .int .i64 ((laws_szRuleS a left)) ∧ GoT.ok n ((laws_szRuleS a left) : Int)) := by
  refine WX.enter (tt := tt) (Γ := [(0, MF.rs .stb pa ca a)]) Tryz.func88 rfl (by kernel_rfl) rfl (allS_cons rfl hpa allS_nil) ?_
  refine WX.run ttOk rfl ?_
  refine WX.see rfl rfl rfl (fun _ hΓ => looks_wrap rfl rfl rfl rfl) ?_
  refine WX.run ttOk rfl ?_
  refine WX.cases 11 rfl (fun h1 => ?_) (fun h1 => ?_)
  · skip
    have h1d := B.dt h1
    refine WX.run ttOk rfl ?_
    have hP1 : laws_szRuleS a left = (-1) := by simp only [laws_szRuleS, h1, cond_true, cond_false]
    refine WX.ret ttOk rfl ?_
    intro w1 G bs hI hΓ
    rw [hP1]
    exact ⟨rfl, (show I64 (-1) from (by unfold I64; omega))⟩
  · skip
    have h1d := B.df h1
    refine WX.run ttOk rfl ?_
    have r1 : (a).length ≤ bd n := (okl hoka).1
    have r2 : (a).length ≤ 9223372036854775807 := hpa.2.1
    refine WX.loop (ι := Int × Nat) ⟨fun | (left2, i) => (i ≤ (a).length) ∧ (-9223372036854775808 ≤ left2 ∧ left2 ≤ 9223372036854775807) ∧ (laws_szRuleS_L1 a (IntKind.i64.wrap (left - (((a).length : Nat) : Int))) = laws_szRuleS_L1 ((a).drop i) left2), fun | (left2, i) => (a).length - i, fun | (left2, i) => [(1, .v (.int .i64 (left2))), (5, .v (.int .i64 (((i : Nat) : Int)))), (0, .v (.slice pa ((a).length) ca))], fun | (left2, i) => [], fun | (left2, i) => [], fun | (left2, i) => [(0, MF.rs .stb pa ca a)]⟩ (IntKind.i64.wrap (left - (((a).length : Nat) : Int)), 0) ⟨(Nat.zero_le _), (i64_wrap _), rfl⟩
      (.cons rfl (.cons rfl (.cons rfl (.nil)))) .nil .nil [0] rfl ?_
    rintro ⟨left2, i⟩ hpre
    have hpre_ : (i ≤ (a).length) ∧ (-9223372036854775808 ≤ left2 ∧ left2 ≤ 9223372036854775807) ∧ (laws_szRuleS_L1 a (IntKind.i64.wrap (left - (((a).length : Nat) : Int))) = laws_szRuleS_L1 ((a).drop i) left2) := hpre
    clear hpre
    obtain ⟨v1, v2, v3⟩ := hpre_
    refine WX.run ttOk rfl ?_
    refine WX.cases 15 rfl (fun h2 => ?_) (fun h2 => ?_)
    · skip
      have h2d := B.dt h2
      have e1i : i < (a).length := (by omega)
      obtain ⟨e1, e1h⟩ : ∃ e1, (a)[i]? = some e1 := ⟨_, List.getElem?_eq_getElem e1i⟩
      have ok1 : GoT.ok n e1 := (okl hoka).2 _ (List.mem_of_getElem? e1h)
      refine WX.run ttOk rfl ?_
      refine WX.idx 0 i ttOk rfl rfl rfl rfl rfl rfl rfl rfl rfl rfl e1i ?_
      rintro ad1 rfl
      refine WX.ldE 0 1 e1 ttOk rfl rfl rfl rfl rfl rfl rfl rfl e1h (fun _ => rfl) (fun _ => rfl) ?_
      rintro ⟨⟨p1, c1⟩, ⟨p2, c2⟩⟩
      refine WX.run ttOk rfl ?_
      refine WX.callV rfl rfl rfl rfl rfl (fun _ => rfl) rfl (fun w G bs hI hΓ => f205 w n e1 p1 c1 (hΓ.get 1 rfl) p2 c2 (hΓ.get 2 rfl) left2 ok1 v2) ?_
      intro hq1
      refine WX.run ttOk rfl ?_
      refine WX.cases 25 rfl (fun h3 => ?_) (fun h3 => ?_)
      · skip
        have h3d := B.dt h3
        refine WX.run ttOk rfl ?_
        have hP2 : laws_szRuleS_L1 a (IntKind.i64.wrap (left - (((a).length : Nat) : Int))) = (Ctl.ret (-1)) := by rw [v3, drop_get e1h]; simp only [laws_szRuleS_L1, h3, cond_true, cond_false]
        have hP3 : laws_szRuleS a left = (-1) := by simp only [laws_szRuleS, h1, hP2, cond_true, cond_false]
        refine WX.ret ttOk rfl ?_
        intro w1 G bs hI hΓ
        rw [hP3]
        exact ⟨rfl, (show I64 (-1) from (by unfold I64; omega))⟩
      · skip
        have h3d := B.df h3
        refine WX.run ttOk rfl ?_
        refine WX.see rfl rfl rfl (fun _ hΓ => looks_arith rfl rfl rfl rfl (by unfold I64; first | omega | (dsimp only; omega))) ?_
        refine WX.run ttOk rfl ?_
        exact WX.iter ((laws_szRule e1 left2), i + 1) ⟨(by omega), hq1, (by rw [v3, drop_get e1h]; simp only [laws_szRuleS_L1, h3, cond_true, cond_false])⟩ (by dsimp only; omega) (.cons rfl (.cons rfl (.cons rfl (.nil)))) .nil .nil [0] rfl
    · skip
      have h2d := B.df h2
      refine WX.run ttOk rfl ?_
      have hX1 : laws_szRuleS_L1 a (IntKind.i64.wrap (left - (((a).length : Nat) : Int))) = (Ctl.nxt left2) := by rw [v3, List.drop_eq_nil_of_le (show (a).length ≤ i by omega)]; simp only [laws_szRuleS_L1, cond_true, cond_false]
      have hP4 : laws_szRuleS a left = left2 := by simp only [laws_szRuleS, h1, hX1, cond_true, cond_false]
      refine WX.ret ttOk rfl ?_
      intro w1 G bs hI hΓ
      rw [hP4]
      exact ⟨rfl, v2⟩
theorem f89 (w : World) (n : Nat) (a : (List Name)) (pa : Option Addr) (ca : Nat) (hpa : RdSl (hp w) pa ca a) (left : Int) (hoka : GoT.ok n a) (hokleft : GoT.ok n left) :
    Does Tryz.prog 89 #[.slice pa ((a).length) ca, .int .i64 (left)] w emp (fun (rv : Value) (_ : World) => rv = .int .i64 ((laws_szNameS a left)) ∧ GoT.ok n ((laws_szNameS a left) : Int)) := by
  refine WX.enter (tt := tt) (Γ := [(0, MF.rs .stb pa ca a)]) Tryz.func89 rfl (by kernel_rfl) rfl (allS_cons rfl hpa allS_nil) ?_
  refine WX.run ttOk rfl ?_
  refine WX.see rfl rfl rfl (fun _ hΓ => looks_wrap rfl rfl rfl rfl) ?_
  refine WX.run ttOk rfl ?_
  refine WX.cases 11 rfl (fun h1 => ?_) (fun h1 => ?_)
  · skip
    have h1d := B.dt h1
    refine WX.run ttOk rfl ?_
    have hP1 : laws_szNameS a left = (-1) := by simp only [laws_szNameS, h1, cond_true, cond_false]
    refine WX.ret ttOk rfl ?_
    intro w1 G bs hI hΓ
    rw [hP1]
    exact ⟨rfl, (show I64 (-1) from (by unfold I64; omega))⟩
  · skip
    have h1d := B.df h1
    refine WX.run ttOk rfl ?_
    have r1 : (a).length ≤ bd n := (okl hoka).1
    have r2 : (a).length ≤ 9223372036854775807 := hpa.2.1
    refine WX.loop (ι := Int × Nat) ⟨fun | (left2, i) => (i ≤ (a).length) ∧ (-9223372036854775808 ≤ left2 ∧ left2 ≤ 9223372036854775807) ∧ (laws_szNameS_L1 a (IntKind.i64.wrap (left - (((a).length : Nat) : Int))) = laws_szNameS_L1 ((a).drop i) left2), fun | (left2, i) => (a).length - i, fun | (left2, i) => [(1, .v (.int .i64 (left2))), (5, .v (.int .i64 (((i : Nat) : Int)))), (0, .v (.slice pa ((a).length) ca))], fun | (left2, i) => [], fun | (left2, i) => [], fun | (left2, i) => [(0, MF.rs .stb pa ca a)]⟩ (IntKind.i64.wrap (left - (((a).length : Nat) : Int)), 0) ⟨(Nat.zero_le _), (i64_wrap _), rfl⟩
      (.cons rfl (.cons rfl (.cons rfl (.nil)))) .nil .nil [0] rfl ?_
    rintro ⟨left2, i⟩ hpre
    have hpre_ : (i ≤ (a).length) ∧ (-9223372036854775808 ≤ left2 ∧ left2 ≤ 9223372036854775807) ∧ (laws_szNameS_L1 a (IntKind.i64.wrap (left - (((a).length : Nat) : Int))) = laws_szNameS_L1 ((a).drop i) left2) := hpre
    clear hpre
    obtain ⟨v1, v2, v3⟩ := hpre_
    refine WX.run ttOk rfl ?_
    refine WX.cases 15 rfl (fun h2 => ?_) (fun h2 => ?_)
    · skip
      have h2d := B.dt h2
      have e1i : i < (a).length := (by omega)
      obtain ⟨e1, e1h⟩ : ∃ e1, (a)[i]? = some e1 := ⟨_, List.getElem?_eq_getElem e1i⟩
      have ok1 : GoT.ok n e1 := (okl hoka).2 _ (List.mem_of_getElem? e1h)
      refine WX.run ttOk rfl ?_
      refine WX.idx 0 i ttOk rfl rfl rfl rfl rfl rfl rfl rfl rfl rfl e1i ?_
      rintro ad1 rfl
      refine WX.ldE 0 1 e1 ttOk rfl rfl rfl rfl rfl rfl rfl rfl e1h (fun _ => rfl) (fun _ => rfl) ?_
      rintro ⟨p1, c1⟩
      refine WX.run ttOk rfl ?_
      refine WX.callV rfl rfl rfl rfl rfl (fun _ => rfl) rfl (fun w G bs hI hΓ => f56 w n e1 p1 c1 (hΓ.get 1 rfl) left2 ok1 v2) ?_
      intro hq1
      refine WX.run ttOk rfl ?_
      refine WX.cases 25 rfl (fun h3 => ?_) (fun h3 => ?_)
      · skip
        have h3d := B.dt h3
        refine WX.run ttOk rfl ?_
        have hP2 : laws_szNameS_L1 a (IntKind.i64.wrap (left - (((a).length : Nat) : Int))) = (Ctl.ret (-1)) := by rw [v3, drop_get e1h]; simp only [laws_szNameS_L1, h3, cond_true, cond_false]
        have hP3 : laws_szNameS a left = (-1) := by simp only [laws_szNameS, h1, hP2, cond_true, cond_false]
        refine WX.ret ttOk rfl ?_
        intro w1 G bs hI hΓ
        rw [hP3]
        exact ⟨rfl, (show I64 (-1) from (by unfold I64; omega))⟩
      · skip
        have h3d := B.df h3
        refine WX.run ttOk rfl ?_
        refine WX.see rfl rfl rfl (fun _ hΓ => looks_arith rfl rfl rfl rfl (by unfold I64; first | omega | (dsimp only; omega))) ?_
        refine WX.run ttOk rfl ?_
        exact WX.iter ((laws_szName e1 left2), i + 1) ⟨(by omega), hq1, (by rw [v3, drop_get e1h]; simp only [laws_szNameS_L1, h3, cond_true, cond_false])⟩ (by dsimp only; omega) (.cons rfl (.cons rfl (.cons rfl (.nil)))) .nil .nil [0] rfl
    · skip
      have h2d := B.df h2
      refine WX.run ttOk rfl ?_
      have hX1 : laws_szNameS_L1 a (IntKind.i64.wrap (left - (((a).length : Nat) : Int))) = (Ctl.nxt left2) := by rw [v3, List.drop_eq_nil_of_le (show (a).length ≤ i by omega)]; simp only [laws_szNameS_L1, cond_true, cond_false]
      have hP4 : laws_szNameS a left = left2 := by simp only [laws_szNameS, h1, hX1, cond_true, cond_false]
      refine WX.ret ttOk rfl ?_
      intro w1 G bs hI hΓ
      rw [hP4]
      exact ⟨rfl, v2⟩
theorem f90 (w : World) (n : Nat) (a : (List DataP)) (pa : Option Addr) (ca : Nat) (hpa : RdSl (hp w) pa ca a) (left : Int) (hoka : GoT.ok n a) (hokleft : GoT.ok n left) :
    Does Tryz.prog 90 #[.slice pa ((a).length) ca, .int .i64 (left)] w emp (fun (rv : Value) (_ : World) => rv = .int .i64 ((laws_szDataS a left)) ∧ GoT.ok n ((laws_szDataS a left) : Int)) := by
  refine WX.enter (tt := tt) (Γ := [(0, MF.rs .stb pa ca a)]) Tryz.func90 rfl (by kernel_rfl) rfl (allS_cons rfl hpa allS_nil) ?_
  refine WX.run ttOk rfl ?_
  refine WX.see rfl rfl rfl (fun _ hΓ => looks_wrap rfl rfl rfl rfl) ?_
  refine WX.run ttOk rfl ?_
  refine WX.cases 11 rfl (fun h1 => ?_) (fun h1 => ?_)
  · skip
    have h1d := B.dt h1
    refine WX.run ttOk rfl ?_
    have hP1 : laws_szDataS a left = (-1) := by simp only [laws_szDataS, h1, cond_true, cond_false]
    refine WX.ret ttOk rfl ?_
    intro w1 G bs hI hΓ
    rw [hP1]
    exact ⟨rfl, (show I64 (-1) from (by unfold I64; omega))⟩
  · skip
    have h1d := B.df h1
    refine WX.run ttOk rfl ?_
    have r1 : (a).length ≤ bd n := (okl hoka).1
    have r2 : (a).length ≤ 9223372036854775807 := hpa.2.1
    refine WX.loop (ι := Int × Nat) ⟨fun | (left2, i) => (i ≤ (a).length) ∧ (-9223372036854775808 ≤ left2 ∧ left2 ≤ 9223372036854775807) ∧ (laws_szDataS_L1 a (IntKind.i64.wrap (left - (((a).length : Nat) : Int))) = laws_szDataS_L1 ((a).drop i) left2), fun | (left2, i) => (a).length - i, fun | (left2, i) => [(1, .v (.int .i64 (left2))), (5, .v (.int .i64 (((i : Nat) : Int)))), (0, .v (.slice pa ((a).length) ca))], fun | (left2, i) => [], fun | (left2, i) => [], fun | (left2, i) => [(0, MF.rs .stb pa ca a)]⟩ (IntKind.i64.wrap (left - (((a).length : Nat) : Int)), 0) ⟨(Nat.zero_le _), (i64_wrap _), rfl⟩
      (.cons rfl (.cons rfl (.cons rfl (.nil)))) .nil .nil [0] rfl ?_
    rintro ⟨left2, i⟩ hpre
    have hpre_ : (i ≤ (a).length) ∧ (-9223372036854775808 ≤ left2 ∧ left2 ≤ 9223372036854775807) ∧ (laws_szDataS_L1 a (IntKind.i64.wrap (left - (((a).length : Nat) : Int))) = laws_szDataS_L1 ((a).drop i) left2) := hpre
    clear hpre
    obtain ⟨v1, v2, v3⟩ := hpre_
    refine WX.run ttOk rfl ?_
    refine WX.cases 15 rfl (fun h2 => ?_) (fun h2 => ?_)
    · skip
      have h2d := B.dt h2
      have e1i : i < (a).length := (by omega)
      obtain ⟨e1, e1h⟩ : ∃ e1, (a)[i]? = some e1 := ⟨_, List.getElem?_eq_getElem e1i⟩
      have ok1 : GoT.ok n e1 := (okl hoka).2 _ (List.mem_of_getElem? e1h)
      refine WX.run ttOk rfl ?_
      refine WX.idx 0 i ttOk rfl rfl rfl rfl rfl rfl rfl rfl rfl rfl e1i ?_
      rintro ad1 rfl
      refine WX.ldE 0 1 e1 ttOk rfl rfl rfl rfl rfl rfl rfl rfl e1h (fun _ => rfl) (fun _ => rfl) ?_
      rintro ⟨⟨p1, c1⟩, ⟨p2, c2⟩, ⟨p3, c3⟩, ⟨⟩, ⟨⟩⟩
      refine WX.run ttOk rfl ?_
      refine WX.callV rfl rfl rfl rfl rfl (fun _ => rfl) rfl (fun w G bs hI hΓ => f30 w n e1 p1 c1 (hΓ.get 1 rfl) p2 c2 (hΓ.get 2 rfl) p3 c3 (hΓ.get 3 rfl) left2 ok1 v2) ?_
      intro hq1
      refine WX.run ttOk rfl ?_
      refine WX.cases 25 rfl (fun h3 => ?_) (fun h3 => ?_)
      · skip
        have h3d := B.dt h3
        refine WX.run ttOk rfl ?_
        have hP2 : laws_szDataS_L1 a (IntKind.i64.wrap (left - (((a).length : Nat) : Int))) = (Ctl.ret (-1)) := by rw [v3, drop_get e1h]; simp only [laws_szDataS_L1, h3, cond_true, cond_false]
        have hP3 : laws_szDataS a left = (-1) := by simp only [laws_szDataS, h1, hP2, cond_true, cond_false]
        refine WX.ret ttOk rfl ?_
        intro w1 G bs hI hΓ
        rw [hP3]
        exact ⟨rfl, (show I64 (-1) from (by unfold I64; omega))⟩
      · skip
        have h3d := B.df h3
        refine WX.run ttOk rfl ?_
        refine WX.see rfl rfl rfl (fun _ hΓ => looks_arith rfl rfl rfl rfl (by unfold I64; first | omega | (dsimp only; omega))) ?_
        refine WX.run ttOk rfl ?_
        exact WX.iter ((laws_szData e1 left2), i + 1) ⟨(by omega), hq1, (by rw [v3, drop_get e1h]; simp only [laws_szDataS_L1, h3, cond_true, cond_false])⟩ (by dsimp only; omega) (.cons rfl (.cons rfl (.cons rfl (.nil)))) .nil .nil [0] rfl
    · skip
      have h2d := B.df h2
      refine WX.run ttOk rfl ?_
      have hX1 : laws_szDataS_L1 a (IntKind.i64.wrap (left - (((a).length : Nat) : Int))) = (Ctl.nxt left2) := by rw [v3, List.drop_eq_nil_of_le (show (a).length ≤ i by omega)]; simp only [laws_szDataS_L1, cond_true, cond_false]
      have hP4 : laws_szDataS a left = left2 := by simp only [laws_szDataS, h1, hX1, cond_true, cond_false]
      refine WX.ret ttOk rfl ?_
      intro w1 G bs hI hΓ
      rw [hP4]
      exact ⟨rfl, v2⟩
theorem f29 (w : World) (n : Nat) (a : TrustPolicy) (paKeys : Option Addr) (caKeys : Nat) (hpaKeys : RdSl (hp w) paKeys caKeys a.keys) (paRules : Option Addr) (caRules : Nat) (hpaRules : RdSl (hp w) paRules caRules a.rules) (paAnchors : Option Addr) (caAnchors : Nat) (hpaAnchors : RdSl (hp w) paAnchors caAnchors a.anchors) (paCertificates : Option Addr) (caCertificates : Nat) (hpaCertificates : RdSl (hp w) paCertificates caCertificates a.certificates) (left : Int) (hoka : GoT.ok n a) (hokleft : GoT.ok n left) :
    Does Tryz.prog 29 #[.agg #[.slice paKeys ((a.keys).length) caKeys, .slice paRules ((a.rules).length) caRules, .slice paAnchors ((a.anchors).length) caAnchors, .slice paCertificates ((a.certificates).length) caCertificates], .int .i64 (left)] w emp (fun (rv : Value) (_ : World) => rv = .int .i64 ((laws_szTrustPolicy a left)) ∧ GoT.ok n ((laws_szTrustPolicy a left) : Int)) := by
  refine WX.enter (tt := tt) (Γ := [(0, MF.rs .stb paKeys caKeys a.keys), (1, MF.rs .stb paRules caRules a.rules), (2, MF.rs .stb paAnchors caAnchors a.anchors), (3, MF.rs .stb paCertificates caCertificates a.certificates)]) Tryz.func29 rfl (by kernel_rfl) rfl (allS_cons rfl hpaKeys (allS_cons rfl hpaRules (allS_cons rfl hpaAnchors (allS_cons rfl hpaCertificates allS_nil)))) ?_
  refine WX.run ttOk rfl ?_
  refine WX.callV rfl rfl rfl rfl rfl (fun _ => rfl) rfl (fun w G bs hI hΓ => f87 w n a.keys paKeys caKeys (hΓ.get 0 rfl) left ((ok_TrustPolicy hoka).1) hokleft) ?_
  intro hq1
  refine WX.run ttOk rfl ?_
  refine WX.cases 10 rfl (fun h1 => ?_) (fun h1 => ?_)
  · skip
    have h1d := B.dt h1
    refine WX.run ttOk rfl ?_
    have hP1 : laws_szTrustPolicy a left = (-1) := by simp only [laws_szTrustPolicy, h1, cond_true, cond_false]
    refine WX.ret ttOk rfl ?_
    intro w1 G bs hI hΓ
    rw [hP1]
    exact ⟨rfl, (show I64 (-1) from (by unfold I64; omega))⟩
  · skip
    have h1d := B.df h1
    refine WX.run ttOk rfl ?_
    refine WX.callV rfl rfl rfl rfl rfl (fun _ => rfl) rfl (fun w G bs hI hΓ => f88 w n a.rules paRules caRules (hΓ.get 1 rfl) (laws_szKeyS a.keys left) ((ok_TrustPolicy hoka).2.1) hq1) ?_
    intro hq2
    refine WX.run ttOk rfl ?_
    refine WX.cases 16 rfl (fun h2 => ?_) (fun h2 => ?_)
    · skip
      have h2d := B.dt h2
      refine WX.run ttOk rfl ?_
      have hP2 : laws_szTrustPolicy a left = (-1) := by simp only [laws_szTrustPolicy, h1, h2, cond_true, cond_false]
      refine WX.ret ttOk rfl ?_
      intro w1 G bs hI hΓ
      rw [hP2]
      exact ⟨rfl, (show I64 (-1) from (by unfold I64; omega))⟩
    · skip
      have h2d := B.df h2
      refine WX.run ttOk rfl ?_
      refine WX.callV rfl rfl rfl rfl rfl (fun _ => rfl) rfl (fun w G bs hI hΓ => f89 w n a.anchors paAnchors caAnchors (hΓ.get 2 rfl) (laws_szRuleS a.rules (laws_szKeyS a.keys left)) ((ok_TrustPolicy hoka).2.2.1) hq2) ?_
      intro hq3
      refine WX.run ttOk rfl ?_
      refine WX.cases 22 rfl (fun h3 => ?_) (fun h3 => ?_)
      · skip
        have h3d := B.dt h3
        refine WX.run ttOk rfl ?_
        have hP3 : laws_szTrustPolicy a left = (-1) := by simp only [laws_szTrustPolicy, h1, h2, h3, cond_true, cond_false]
        refine WX.ret ttOk rfl ?_
        intro w1 G bs hI hΓ
        rw [hP3]
        exact ⟨rfl, (show I64 (-1) from (by unfold I64; omega))⟩
      · skip
        have h3d := B.df h3
        refine WX.run ttOk rfl ?_
        refine WX.callV rfl rfl rfl rfl rfl (fun _ => rfl) rfl (fun w G bs hI hΓ => f90 w n a.certificates paCertificates caCertificates (hΓ.get 3 rfl) (laws_szNameS a.anchors (laws_szRuleS a.rules (laws_szKeyS a.keys left))) ((ok_TrustPolicy hoka).2.2.2) hq3) ?_
        intro hq4
        refine WX.run ttOk rfl ?_
        refine WX.cases 28 rfl (fun h4 => ?_) (fun h4 => ?_)
        · skip
          have h4d := B.dt h4
          refine WX.run ttOk rfl ?_
          have hP4 : laws_szTrustPolicy a left = (-1) := by simp only [laws_szTrustPolicy, h1, h2, h3, h4, cond_true, cond_false]
          refine WX.ret ttOk rfl ?_
          intro w1 G bs hI hΓ
          rw [hP4]
          exact ⟨rfl, (show I64 (-1) from (by unfold I64; omega))⟩
        · skip
          have h4d := B.df h4
          refine WX.run ttOk rfl ?_
          have hP5 : laws_szTrustPolicy a left = (laws_szDataS a.certificates (laws_szNameS a.anchors (laws_szRuleS a.rules (laws_szKeyS a.keys left)))) := by simp only [laws_szTrustPolicy, h1, h2, h3, h4, cond_true, cond_false]
          refine WX.ret ttOk rfl ?_
          intro w1 G bs hI hΓ
          rw [hP5]
          exact ⟨rfl, hq4⟩
theorem f215 (w : World) (n : Nat) (a : (List Link)) (pa : Option Addr) (ca : Nat) (hpa : RdSl (hp w) pa ca a) (left : Int) (hoka : GoT.ok n a) (hokleft : GoT.ok n left) :
    Does Tryz.prog 215 #[.slice pa ((a).length) ca, .int .i64 (left)] w emp (fun (rv : Value) (_ : World) => rv = .int .i64 ((laws_szLinkS a left)) ∧ GoT.ok n ((laws_szLinkS a left) : Int)) := by
  refine WX.enter (tt := tt) (Γ := [(0, MF.rs .stb pa ca a)]) Tryz.func215 rfl (by kernel_rfl) rfl (allS_cons rfl hpa allS_nil) ?_
  refine WX.run ttOk rfl ?_
  refine WX.see rfl rfl rfl (fun _ hΓ => looks_wrap rfl rfl rfl rfl) ?_
  refine WX.run ttOk rfl ?_
  refine WX.cases 10 rfl (fun h1 => ?_) (fun h1 => ?_)
  · skip
    have h1d := B.dt h1
    refine WX.run ttOk rfl ?_
    have hP1 : laws_szLinkS a left = (-1) := by simp only [laws_szLinkS, h1, cond_true, cond_false]
    refine WX.ret ttOk rfl ?_
    intro w1 G bs hI hΓ
    rw [hP1]
    exact ⟨rfl, (show I64 (-1) from (by unfold I64; omega))⟩
  · skip
    have h1d := B.df h1
    refine WX.run ttOk rfl ?_
    have hP2 : laws_szLinkS a left = (IntKind.i64.wrap (left - (((a).length : Nat) : Int))) := by simp only [laws_szLinkS, h1, cond_true, cond_false]
    refine WX.ret ttOk rfl ?_
    intro w1 G bs hI hΓ
    rw [hP2]
    exact ⟨rfl, (i64_wrap _)⟩
theorem f112 (w : World) (n : Nat) (a : Topology) (paLinks : Option Addr) (caLinks : Nat) (hpaLinks : RdSl (hp w) paLinks caLinks a.links) (left : Int) (hoka : GoT.ok n a) (hokleft : GoT.ok n left) :
    Does Tryz.prog 112 #[.agg #[.int .i64 (a.size), .slice paLinks ((a.links).length) caLinks], .int .i64 (left)] w emp (fun (rv : Value) (_ : World) => rv = .int .i64 ((laws_szTopology a left)) ∧ GoT.ok n ((laws_szTopology a left) : Int)) := by
  refine WX.enter (tt := tt) (Γ := [(0, MF.rs .stb paLinks caLinks a.links)]) Tryz.func112 rfl (by kernel_rfl) rfl (allS_cons rfl hpaLinks allS_nil) ?_
  refine WX.run ttOk rfl ?_
  refine WX.callV rfl rfl rfl rfl rfl (fun _ => rfl) rfl (fun w G bs hI hΓ => f215 w n a.links paLinks caLinks (hΓ.get 0 rfl) left ((ok_Topology hoka).2) hokleft) ?_
  intro hq1
  refine WX.run ttOk rfl ?_
  refine WX.cases 10 rfl (fun h1 => ?_) (fun h1 => ?_)
  · skip
    have h1d := B.dt h1
    refine WX.run ttOk rfl ?_
    have hP1 : laws_szTopology a left = (-1) := by simp only [laws_szTopology, h1, cond_true, cond_false]
    refine WX.ret ttOk rfl ?_
    intro w1 G bs hI hΓ
    rw [hP1]
    exact ⟨rfl, (show I64 (-1) from (by unfold I64; omega))⟩
  · skip
    have h1d := B.df h1
    refine WX.run ttOk rfl ?_
    have hP2 : laws_szTopology a left = (laws_szLinkS a.links left) := by simp only [laws_szTopology, h1, cond_true, cond_false]
    refine WX.ret ttOk rfl ?_
    intro w1 G bs hI hΓ
    rw [hP2]
    exact ⟨rfl, hq1⟩
theorem f429 (w : World) (n : Nat) (a : CacheEntry) (paDataName : Option Addr) (caDataName : Nat) (hpaDataName : RdSl (hp w) paDataName caDataName a.data.name.parts) (paDataContent : Option Addr) (caDataContent : Nat) (hpaDataContent : RdSl (hp w) paDataContent caDataContent a.data.content) (paDataKeyName : Option Addr) (caDataKeyName : Nat) (hpaDataKeyName : RdSl (hp w) paDataKeyName caDataKeyName a.data.keyName.parts) (left : Int) (hoka : GoT.ok n a) (hokleft : GoT.ok n left) :
    Does Tryz.prog 429 #[.agg #[.slice paDataName ((a.data.name.parts).length) caDataName, .slice paDataContent ((a.data.content).length) caDataContent, .slice paDataKeyName ((a.data.keyName.parts).length) caDataKeyName, .int .i64 (a.data.freshUntil), .int .i64 (a.data.signature), .int .i64 (a.lastUsed)], .int .i64 (left)] w emp (fun (rv : Value) (_ : World) => rv = .int .i64 ((laws_szCacheEntry a left)) ∧ GoT.ok n ((laws_szCacheEntry a left) : Int)) := by
  refine WX.enter (tt := tt) (Γ := [(0, MF.rs .stb paDataName caDataName a.data.name.parts), (1, MF.rs .stb paDataContent caDataContent a.data.content), (2, MF.rs .stb paDataKeyName caDataKeyName a.data.keyName.parts)]) Tryz.func429 rfl (by kernel_rfl) rfl (allS_cons rfl hpaDataName (allS_cons rfl hpaDataContent (allS_cons rfl hpaDataKeyName allS_nil))) ?_
  refine WX.run ttOk rfl ?_
  refine WX.callV rfl rfl rfl rfl rfl (fun _ => rfl) rfl (fun w G bs hI hΓ => f30 w n a.data paDataName caDataName (hΓ.get 0 rfl) paDataContent caDataContent (hΓ.get 1 rfl) paDataKeyName caDataKeyName (hΓ.get 2 rfl) left ((ok_CacheEntry hoka).1) hokleft) ?_
  intro hq1
  refine WX.run ttOk rfl ?_
  refine WX.cases 10 rfl (fun h1 => ?_) (fun h1 => ?_)
  · skip
    have h1d := B.dt h1
    refine WX.run ttOk rfl ?_
    have hP1 : laws_szCacheEntry a left = (-1) := by simp only [laws_szCacheEntry, h1, cond_true, cond_false]
    refine WX.ret ttOk rfl ?_
    intro w1 G bs hI hΓ
    rw [hP1]
    exact ⟨rfl, (show I64 (-1) from (by unfold I64; omega))⟩
  · skip
    have h1d := B.df h1
    refine WX.run ttOk rfl ?_
    have hP2 : laws_szCacheEntry a left = (laws_szData a.data left) := by simp only [laws_szCacheEntry, h1, cond_true, cond_false]
    refine WX.ret ttOk rfl ?_
    intro w1 G bs hI hΓ
    rw [hP2]
    exact ⟨rfl, hq1⟩
theorem f385 (w : World) (n : Nat) (a : (List CacheEntry)) (pa : Option Addr) (ca : Nat) (hpa : RdSl (hp w) pa ca a) (left : Int) (hoka : GoT.ok n a) (hokleft : GoT.ok n left) :
    Does Tryz.prog 385 #[.slice pa ((a).length) ca, .int .i64 (left)] w emp (fun (rv : Value) (_ : World) => rv = .int .i64 ((laws_szCacheEntryS a left)) ∧ GoT.ok n ((laws_szCacheEntryS a left) : Int)) := by
  refine WX.enter (tt := tt) (Γ := [(0, MF.rs .stb pa ca a)]) Tryz.func385 rfl (by kernel_rfl) rfl (allS_cons rfl hpa allS_nil) ?_
  refine WX.run ttOk rfl ?_
  refine WX.see rfl rfl rfl (fun _ hΓ => looks_wrap rfl rfl rfl rfl) ?_
  refine WX.run ttOk rfl ?_
  refine WX.cases 11 rfl (fun h1 => ?_) (fun h1 => ?_)
  · skip
    have h1d := B.dt h1
    refine WX.run ttOk rfl ?_
    have hP1 : laws_szCacheEntryS a left = (-1) := by simp only [laws_szCacheEntryS, h1, cond_true, cond_false]
    refine WX.ret ttOk rfl ?_
    intro w1 G bs hI hΓ
    rw [hP1]
    exact ⟨rfl, (show I64 (-1) from (by unfold I64; omega))⟩
  · skip
    have h1d := B.df h1
    refine WX.run ttOk rfl ?_
    have r1 : (a).length ≤ bd n := (okl hoka).1
    have r2 : (a).length ≤ 9223372036854775807 := hpa.2.1
    refine WX.loop (ι := Int × Nat) ⟨fun | (left2, i) => (i ≤ (a).length) ∧ (-9223372036854775808 ≤ left2 ∧ left2 ≤ 9223372036854775807) ∧ (laws_szCacheEntryS_L1 a (IntKind.i64.wrap (left - (((a).length : Nat) : Int))) = laws_szCacheEntryS_L1 ((a).drop i) left2), fun | (left2, i) => (a).length - i, fun | (left2, i) => [(1, .v (.int .i64 (left2))), (5, .v (.int .i64 (((i : Nat) : Int)))), (0, .v (.slice pa ((a).length) ca))], fun | (left2, i) => [], fun | (left2, i) => [], fun | (left2, i) => [(0, MF.rs .stb pa ca a)]⟩ (IntKind.i64.wrap (left - (((a).length : Nat) : Int)), 0) ⟨(Nat.zero_le _), (i64_wrap _), rfl⟩
      (.cons rfl (.cons rfl (.cons rfl (.nil)))) .nil .nil [0] rfl ?_
    rintro ⟨left2, i⟩ hpre
    have hpre_ : (i ≤ (a).length) ∧ (-9223372036854775808 ≤ left2 ∧ left2 ≤ 9223372036854775807) ∧ (laws_szCacheEntryS_L1 a (IntKind.i64.wrap (left - (((a).length : Nat) : Int))) = laws_szCacheEntryS_L1 ((a).drop i) left2) := hpre
    clear hpre
    obtain ⟨v1, v2, v3⟩ := hpre_
    refine WX.run ttOk rfl ?_
    refine WX.cases 15 rfl (fun h2 => ?_) (fun h2 => ?_)
    · skip
      have h2d := B.dt h2
      have e1i : i < (a).length := (by omega)
      obtain ⟨e1, e1h⟩ : ∃ e1, (a)[i]? = some e1 := ⟨_, List.getElem?_eq_getElem e1i⟩
      have ok1 : GoT.ok n e1 := (okl hoka).2 _ (List.mem_of_getElem? e1h)
      refine WX.run ttOk rfl ?_
      refine WX.idx 0 i ttOk rfl rfl rfl rfl rfl rfl rfl rfl rfl rfl e1i ?_
      rintro ad1 rfl
      refine WX.ldE 0 1 e1 ttOk rfl rfl rfl rfl rfl rfl rfl rfl e1h (fun _ => rfl) (fun _ => rfl) ?_
      rintro ⟨⟨⟨p1, c1⟩, ⟨p2, c2⟩, ⟨p3, c3⟩, ⟨⟩, ⟨⟩⟩, ⟨⟩⟩
      refine WX.run ttOk rfl ?_
      refine WX.callV rfl rfl rfl rfl rfl (fun _ => rfl) rfl (fun w G bs hI hΓ => f429 w n e1 p1 c1 (hΓ.get 1 rfl) p2 c2 (hΓ.get 2 rfl) p3 c3 (hΓ.get 3 rfl) left2 ok1 v2) ?_
      intro hq1
      refine WX.run ttOk rfl ?_
      refine WX.cases 25 rfl (fun h3 => ?_) (fun h3 => ?_)
      · skip
        have h3d := B.dt h3
        refine WX.run ttOk rfl ?_
        have hP2 : laws_szCacheEntryS_L1 a (IntKind.i64.wrap (left - (((a).length : Nat) : Int))) = (Ctl.ret (-1)) := by rw [v3, drop_get e1h]; simp only [laws_szCacheEntryS_L1, h3, cond_true, cond_false]
        have hP3 : laws_szCacheEntryS a left = (-1) := by simp only [laws_szCacheEntryS, h1, hP2, cond_true, cond_false]
        refine WX.ret ttOk rfl ?_
        intro w1 G bs hI hΓ
        rw [hP3]
        exact ⟨rfl, (show I64 (-1) from (by unfold I64; omega))⟩
      · skip
        have h3d := B.df h3
        refine WX.run ttOk rfl ?_
        refine WX.see rfl rfl rfl (fun _ hΓ => looks_arith rfl rfl rfl rfl (by unfold I64; first | omega | (dsimp only; omega))) ?_
        refine WX.run ttOk rfl ?_
        exact WX.iter ((laws_szCacheEntry e1 left2), i + 1) ⟨(by omega), hq1, (by rw [v3, drop_get e1h]; simp only [laws_szCacheEntryS_L1, h3, cond_true, cond_false])⟩ (by dsimp only; omega) (.cons rfl (.cons rfl (.cons rfl (.nil)))) .nil .nil [0] rfl
    · skip
      have h2d := B.df h2
      refine WX.run ttOk rfl ?_
      have hX1 : laws_szCacheEntryS_L1 a (IntKind.i64.wrap (left - (((a).length : Nat) : Int))) = (Ctl.nxt left2) := by rw [v3, List.drop_eq_nil_of_le (show (a).length ≤ i by omega)]; simp only [laws_szCacheEntryS_L1, cond_true, cond_false]
      have hP4 : laws_szCacheEntryS a left = left2 := by simp only [laws_szCacheEntryS, h1, hX1, cond_true, cond_false]
      refine WX.ret ttOk rfl ?_
      intro w1 G bs hI hΓ
      rw [hP4]
      exact ⟨rfl, v2⟩
theorem f313 (w : World) (n : Nat) (a : ContentStore) (paEntries : Option Addr) (caEntries : Nat) (hpaEntries : RdSl (hp w) paEntries caEntries a.entries) (left : Int) (hoka : GoT.ok n a) (hokleft : GoT.ok n left) :
    Does Tryz.prog 313 #[.agg #[.int .i64 (a.capacity), .slice paEntries ((a.entries).length) caEntries], .int .i64 (left)] w emp (fun (rv : Value) (_ : World) => rv = .int .i64 ((laws_szContentStore a left)) ∧ GoT.ok n ((laws_szContentStore a left) : Int)) := by
  refine WX.enter (tt := tt) (Γ := [(0, MF.rs .stb paEntries caEntries a.entries)]) Tryz.func313 rfl (by kernel_rfl) rfl (allS_cons rfl hpaEntries allS_nil) ?_
  refine WX.run ttOk rfl ?_
  refine WX.callV rfl rfl rfl rfl rfl (fun _ => rfl) rfl (fun w G bs hI hΓ => f385 w n a.entries paEntries caEntries (hΓ.get 0 rfl) left ((ok_ContentStore hoka).2) hokleft) ?_
  intro hq1
  refine WX.run ttOk rfl ?_
  refine WX.cases 10 rfl (fun h1 => ?_) (fun h1 => ?_)
  · skip
    have h1d := B.dt h1
    refine WX.run ttOk rfl ?_
    have hP1 : laws_szContentStore a left = (-1) := by simp only [laws_szContentStore, h1, cond_true, cond_false]
    refine WX.ret ttOk rfl ?_
    intro w1 G bs hI hΓ
    rw [hP1]
    exact ⟨rfl, (show I64 (-1) from (by unfold I64; omega))⟩
  · skip
    have h1d := B.df h1
    refine WX.run ttOk rfl ?_
    have hP2 : laws_szContentStore a left = (laws_szCacheEntryS a.entries left) := by simp only [laws_szContentStore, h1, cond_true, cond_false]
    refine WX.ret ttOk rfl ?_
    intro w1 G bs hI hΓ
    rw [hP2]
    exact ⟨rfl, hq1⟩
theorem f430 (w : World) (n : Nat) (a : (List Requester)) (pa : Option Addr) (ca : Nat) (hpa : RdSl (hp w) pa ca a) (left : Int) (hoka : GoT.ok n a) (hokleft : GoT.ok n left) :
    Does Tryz.prog 430 #[.slice pa ((a).length) ca, .int .i64 (left)] w emp (fun (rv : Value) (_ : World) => rv = .int .i64 ((laws_szRequesterS a left)) ∧ GoT.ok n ((laws_szRequesterS a left) : Int)) := by
  refine WX.enter (tt := tt) (Γ := [(0, MF.rs .stb pa ca a)]) Tryz.func430 rfl (by kernel_rfl) rfl (allS_cons rfl hpa allS_nil) ?_
  refine WX.run ttOk rfl ?_
  refine WX.see rfl rfl rfl (fun _ hΓ => looks_wrap rfl rfl rfl rfl) ?_
  refine WX.run ttOk rfl ?_
  refine WX.cases 10 rfl (fun h1 => ?_) (fun h1 => ?_)
  · skip
    have h1d := B.dt h1
    refine WX.run ttOk rfl ?_
    have hP1 : laws_szRequesterS a left = (-1) := by simp only [laws_szRequesterS, h1, cond_true, cond_false]
    refine WX.ret ttOk rfl ?_
    intro w1 G bs hI hΓ
    rw [hP1]
    exact ⟨rfl, (show I64 (-1) from (by unfold I64; omega))⟩
  · skip
    have h1d := B.df h1
    refine WX.run ttOk rfl ?_
    have hP2 : laws_szRequesterS a left = (IntKind.i64.wrap (left - (((a).length : Nat) : Int))) := by simp only [laws_szRequesterS, h1, cond_true, cond_false]
    refine WX.ret ttOk rfl ?_
    intro w1 G bs hI hΓ
    rw [hP2]
    exact ⟨rfl, (i64_wrap _)⟩
theorem f386 (w : World) (n : Nat) (a : PendingInterest) (paName : Option Addr) (caName : Nat) (hpaName : RdSl (hp w) paName caName a.name.parts) (paRequesters : Option Addr) (caRequesters : Nat) (hpaRequesters : RdSl (hp w) paRequesters caRequesters a.requesters) (left : Int) (hoka : GoT.ok n a) (hokleft : GoT.ok n left) :
    Does Tryz.prog 386 #[.agg #[.slice paName ((a.name.parts).length) caName, .slice paRequesters ((a.requesters).length) caRequesters, .int .i64 (a.lastSent)], .int .i64 (left)] w emp (fun (rv : Value) (_ : World) => rv = .int .i64 ((laws_szPendingInterest a left)) ∧ GoT.ok n ((laws_szPendingInterest a left) : Int)) := by
  refine WX.enter (tt := tt) (Γ := [(0, MF.rs .stb paName caName a.name.parts), (1, MF.rs .stb paRequesters caRequesters a.requesters)]) Tryz.func386 rfl (by kernel_rfl) rfl (allS_cons rfl hpaName (allS_cons rfl hpaRequesters allS_nil)) ?_
  refine WX.run ttOk rfl ?_
  refine WX.callV rfl rfl rfl rfl rfl (fun _ => rfl) rfl (fun w G bs hI hΓ => f56 w n a.name paName caName (hΓ.get 0 rfl) left ((ok_PendingInterest hoka).1) hokleft) ?_
  intro hq1
  refine WX.run ttOk rfl ?_
  refine WX.cases 10 rfl (fun h1 => ?_) (fun h1 => ?_)
  · skip
    have h1d := B.dt h1
    refine WX.run ttOk rfl ?_
    have hP1 : laws_szPendingInterest a left = (-1) := by simp only [laws_szPendingInterest, h1, cond_true, cond_false]
    refine WX.ret ttOk rfl ?_
    intro w1 G bs hI hΓ
    rw [hP1]
    exact ⟨rfl, (show I64 (-1) from (by unfold I64; omega))⟩
  · skip
    have h1d := B.df h1
    refine WX.run ttOk rfl ?_
    refine WX.callV rfl rfl rfl rfl rfl (fun _ => rfl) rfl (fun w G bs hI hΓ => f430 w n a.requesters paRequesters caRequesters (hΓ.get 1 rfl) (laws_szName a.name left) ((ok_PendingInterest hoka).2.1) hq1) ?_
    intro hq2
    refine WX.run ttOk rfl ?_
    refine WX.cases 16 rfl (fun h2 => ?_) (fun h2 => ?_)
    · skip
      have h2d := B.dt h2
      refine WX.run ttOk rfl ?_
      have hP2 : laws_szPendingInterest a left = (-1) := by simp only [laws_szPendingInterest, h1, h2, cond_true, cond_false]
      refine WX.ret ttOk rfl ?_
      intro w1 G bs hI hΓ
      rw [hP2]
      exact ⟨rfl, (show I64 (-1) from (by unfold I64; omega))⟩
    · skip
      have h2d := B.df h2
      refine WX.run ttOk rfl ?_
      have hP3 : laws_szPendingInterest a left = (laws_szRequesterS a.requesters (laws_szName a.name left)) := by simp only [laws_szPendingInterest, h1, h2, cond_true, cond_false]
      refine WX.ret ttOk rfl ?_
      intro w1 G bs hI hΓ
      rw [hP3]
      exact ⟨rfl, hq2⟩
theorem f314 (w : World) (n : Nat) (a : (List PendingInterest)) (pa : Option Addr) (ca : Nat) (hpa : RdSl (hp w) pa ca a) (left : Int) (hoka : GoT.ok n a) (hokleft : GoT.ok n left) :
    Does Tryz.prog 314 #[.slice pa ((a).length) ca, .int .i64 (left)] w emp (fun (rv : Value) (_ : World) => rv = .int .i64 ((laws_szPendingInterestS a left)) ∧ GoT.ok n ((laws_szPendingInterestS a left) : Int)) := by
  refine WX.enter (tt := tt) (Γ := [(0, MF.rs .stb pa ca a)]) Tryz.func314 rfl (by kernel_rfl) rfl (allS_cons rfl hpa allS_nil) ?_
  refine WX.run ttOk rfl ?_
  refine WX.see rfl rfl rfl (fun _ hΓ => looks_wrap rfl rfl rfl rfl) ?_
  refine WX.run ttOk rfl ?_
  refine WX.cases 11 rfl (fun h1 => ?_) (fun h1 => ?_)
  · skip
    have h1d := B.dt h1
    refine WX.run ttOk rfl ?_
    have hP1 : laws_szPendingInterestS a left = (-1) := by simp only [laws_szPendingInterestS, h1, cond_true, cond_false]
    refine WX.ret ttOk rfl ?_
    intro w1 G bs hI hΓ
    rw [hP1]
    exact ⟨rfl, (show I64 (-1) from (by unfold I64; omega))⟩
  · skip
    have h1d := B.df h1
    refine WX.run ttOk rfl ?_
    have r1 : (a).length ≤ bd n := (okl hoka).1
    have r2 : (a).length ≤ 9223372036854775807 := hpa.2.1
    refine WX.loop (ι := Int × Nat) ⟨fun | (left2, i) => (i ≤ (a).length) ∧ (-9223372036854775808 ≤ left2 ∧ left2 ≤ 9223372036854775807) ∧ (laws_szPendingInterestS_L1 a (IntKind.i64.wrap (left - (((a).length : Nat) : Int))) = laws_szPendingInterestS_L1 ((a).drop i) left2), fun | (left2, i) => (a).length - i, fun | (left2, i) => [(1, .v (.int .i64 (left2))), (5, .v (.int .i64 (((i : Nat) : Int)))), (0, .v (.slice pa ((a).length) ca))], fun | (left2, i) => [], fun | (left2, i) => [], fun | (left2, i) => [(0, MF.rs .stb pa ca a)]⟩ (IntKind.i64.wrap (left - (((a).length : Nat) : Int)), 0) ⟨(Nat.zero_le _), (i64_wrap _), rfl⟩
      (.cons rfl (.cons rfl (.cons rfl (.nil)))) .nil .nil [0] rfl ?_
    rintro ⟨left2, i⟩ hpre
    have hpre_ : (i ≤ (a).length) ∧ (-9223372036854775808 ≤ left2 ∧ left2 ≤ 9223372036854775807) ∧ (laws_szPendingInterestS_L1 a (IntKind.i64.wrap (left - (((a).length : Nat) : Int))) = laws_szPendingInterestS_L1 ((a).drop i) left2) := hpre
    clear hpre
    obtain ⟨v1, v2, v3⟩ := hpre_
    refine WX.run ttOk rfl ?_
    refine WX.cases 15 rfl (fun h2 => ?_) (fun h2 => ?_)
    · skip
      have h2d := B.dt h2
      have e1i : i < (a).length := (by omega)
      obtain ⟨e1, e1h⟩ : ∃ e1, (a)[i]? = some e1 := ⟨_, List.getElem?_eq_getElem e1i⟩
      have ok1 : GoT.ok n e1 := (okl hoka).2 _ (List.mem_of_getElem? e1h)
      refine WX.run ttOk rfl ?_
      refine WX.idx 0 i ttOk rfl rfl rfl rfl rfl rfl rfl rfl rfl rfl e1i ?_
      rintro ad1 rfl
      refine WX.ldE 0 1 e1 ttOk rfl rfl rfl rfl rfl rfl rfl rfl e1h (fun _ => rfl) (fun _ => rfl) ?_
      rintro ⟨⟨p1, c1⟩, ⟨p2, c2⟩, ⟨⟩⟩
      refine WX.run ttOk rfl ?_
      refine WX.callV rfl rfl rfl rfl rfl (fun _ => rfl) rfl (fun w G bs hI hΓ => f386 w n e1 p1 c1 (hΓ.get 1 rfl) p2 c2 (hΓ.get 2 rfl) left2 ok1 v2) ?_
      intro hq1
      refine WX.run ttOk rfl ?_
      refine WX.cases 25 rfl (fun h3 => ?_) (fun h3 => ?_)
      · skip
        have h3d := B.dt h3
        refine WX.run ttOk rfl ?_
        have hP2 : laws_szPendingInterestS_L1 a (IntKind.i64.wrap (left - (((a).length : Nat) : Int))) = (Ctl.ret (-1)) := by rw [v3, drop_get e1h]; simp only [laws_szPendingInterestS_L1, h3, cond_true, cond_false]
        have hP3 : laws_szPendingInterestS a left = (-1) := by simp only [laws_szPendingInterestS, h1, hP2, cond_true, cond_false]
        refine WX.ret ttOk rfl ?_
        intro w1 G bs hI hΓ
        rw [hP3]
        exact ⟨rfl, (show I64 (-1) from (by unfold I64; omega))⟩
      · skip
        have h3d := B.df h3
        refine WX.run ttOk rfl ?_
        refine WX.see rfl rfl rfl (fun _ hΓ => looks_arith rfl rfl rfl rfl (by unfold I64; first | omega | (dsimp only; omega))) ?_
        refine WX.run ttOk rfl ?_
        exact WX.iter ((laws_szPendingInterest e1 left2), i + 1) ⟨(by omega), hq1, (by rw [v3, drop_get e1h]; simp only [laws_szPendingInterestS_L1, h3, cond_true, cond_false])⟩ (by dsimp only; omega) (.cons rfl (.cons rfl (.cons rfl (.nil)))) .nil .nil [0] rfl
    · skip
      have h2d := B.df h2
      refine WX.run ttOk rfl ?_
      have hX1 : laws_szPendingInterestS_L1 a (IntKind.i64.wrap (left - (((a).length : Nat) : Int))) = (Ctl.nxt left2) := by rw [v3, List.drop_eq_nil_of_le (show (a).length ≤ i by omega)]; simp only [laws_szPendingInterestS_L1, cond_true, cond_false]
      have hP4 : laws_szPendingInterestS a left = left2 := by simp only [laws_szPendingInterestS, h1, hX1, cond_true, cond_false]
      refine WX.ret ttOk rfl ?_
      intro w1 G bs hI hΓ
      rw [hP4]
      exact ⟨rfl, v2⟩
theorem f387 (w : World) (n : Nat) (a : SeenNonce) (paName : Option Addr) (caName : Nat) (hpaName : RdSl (hp w) paName caName a.name.parts) (left : Int) (hoka : GoT.ok n a) (hokleft : GoT.ok n left) :
    Does Tryz.prog 387 #[.agg #[.slice paName ((a.name.parts).length) caName, .int .i64 (a.nonce)], .int .i64 (left)] w emp (fun (rv : Value) (_ : World) => rv = .int .i64 ((laws_szSeenNonce a left)) ∧ GoT.ok n ((laws_szSeenNonce a left) : Int)) := by
  refine WX.enter (tt := tt) (Γ := [(0, MF.rs .stb paName caName a.name.parts)]) Tryz.func387 rfl (by kernel_rfl) rfl (allS_cons rfl hpaName allS_nil) ?_
  refine WX.run ttOk rfl ?_
  refine WX.callV rfl rfl rfl rfl rfl (fun _ => rfl) rfl (fun w G bs hI hΓ => f56 w n a.name paName caName (hΓ.get 0 rfl) left ((ok_SeenNonce hoka).1) hokleft) ?_
  intro hq1
  refine WX.run ttOk rfl ?_
  refine WX.cases 10 rfl (fun h1 => ?_) (fun h1 => ?_)
  · skip
    have h1d := B.dt h1
    refine WX.run ttOk rfl ?_
    have hP1 : laws_szSeenNonce a left = (-1) := by simp only [laws_szSeenNonce, h1, cond_true, cond_false]
    refine WX.ret ttOk rfl ?_
    intro w1 G bs hI hΓ
    rw [hP1]
    exact ⟨rfl, (show I64 (-1) from (by unfold I64; omega))⟩
  · skip
    have h1d := B.df h1
    refine WX.run ttOk rfl ?_
    have hP2 : laws_szSeenNonce a left = (laws_szName a.name left) := by simp only [laws_szSeenNonce, h1, cond_true, cond_false]
    refine WX.ret ttOk rfl ?_
    intro w1 G bs hI hΓ
    rw [hP2]
    exact ⟨rfl, hq1⟩
theorem f315 (w : World) (n : Nat) (a : (List SeenNonce)) (pa : Option Addr) (ca : Nat) (hpa : RdSl (hp w) pa ca a) (left : Int) (hoka : GoT.ok n a) (hokleft : GoT.ok n left) :
    Does Tryz.prog 315 #[.slice pa ((a).length) ca, .int .i64 (left)] w emp (fun (rv : Value) (_ : World) => rv = .int .i64 ((laws_szSeenNonceS a left)) ∧ GoT.ok n ((laws_szSeenNonceS a left) : Int)) := by
  refine WX.enter (tt := tt) (Γ := [(0, MF.rs .stb pa ca a)]) Tryz.func315 rfl (by kernel_rfl) rfl (allS_cons rfl hpa allS_nil) ?_
  refine WX.run ttOk rfl ?_
  refine WX.see rfl rfl rfl (fun _ hΓ => looks_wrap rfl rfl rfl rfl) ?_
  refine WX.run ttOk rfl ?_
  refine WX.cases 11 rfl (fun h1 => ?_) (fun h1 => ?_)
  · skip
    have h1d := B.dt h1
    refine WX.run ttOk rfl ?_
    have hP1 : laws_szSeenNonceS a left = (-1) := by simp only [laws_szSeenNonceS, h1, cond_true, cond_false]
    refine WX.ret ttOk rfl ?_
    intro w1 G bs hI hΓ
    rw [hP1]
    exact ⟨rfl, (show I64 (-1) from (by unfold I64; omega))⟩
  · skip
    have h1d := B.df h1
    refine WX.run ttOk rfl ?_
    have r1 : (a).length ≤ bd n := (okl hoka).1
    have r2 : (a).length ≤ 9223372036854775807 := hpa.2.1
    refine WX.loop (ι := Int × Nat) ⟨fun | (left2, i) => (i ≤ (a).length) ∧ (-9223372036854775808 ≤ left2 ∧ left2 ≤ 9223372036854775807) ∧ (laws_szSeenNonceS_L1 a (IntKind.i64.wrap (left - (((a).length : Nat) : Int))) = laws_szSeenNonceS_L1 ((a).drop i) left2), fun | (left2, i) => (a).length - i, fun | (left2, i) => [(1, .v (.int .i64 (left2))), (5, .v (.int .i64 (((i : Nat) : Int)))), (0, .v (.slice pa ((a).length) ca))], fun | (left2, i) => [], fun | (left2, i) => [], fun | (left2, i) => [(0, MF.rs .stb pa ca a)]⟩ (IntKind.i64.wrap (left - (((a).length : Nat) : Int)), 0) ⟨(Nat.zero_le _), (i64_wrap _), rfl⟩
      (.cons rfl (.cons rfl (.cons rfl (.nil)))) .nil .nil [0] rfl ?_
    rintro ⟨left2, i⟩ hpre
    have hpre_ : (i ≤ (a).length) ∧ (-9223372036854775808 ≤ left2 ∧ left2 ≤ 9223372036854775807) ∧ (laws_szSeenNonceS_L1 a (IntKind.i64.wrap (left - (((a).length : Nat) : Int))) = laws_szSeenNonceS_L1 ((a).drop i) left2) := hpre
    clear hpre
    obtain ⟨v1, v2, v3⟩ := hpre_
    refine WX.run ttOk rfl ?_
    refine WX.cases 15 rfl (fun h2 => ?_) (fun h2 => ?_)
    · skip
      have h2d := B.dt h2
      have e1i : i < (a).length := (by omega)
      obtain ⟨e1, e1h⟩ : ∃ e1, (a)[i]? = some e1 := ⟨_, List.getElem?_eq_getElem e1i⟩
      have ok1 : GoT.ok n e1 := (okl hoka).2 _ (List.mem_of_getElem? e1h)
      refine WX.run ttOk rfl ?_
      refine WX.idx 0 i ttOk rfl rfl rfl rfl rfl rfl rfl rfl rfl rfl e1i ?_
      rintro ad1 rfl
      refine WX.ldE 0 1 e1 ttOk rfl rfl rfl rfl rfl rfl rfl rfl e1h (fun _ => rfl) (fun _ => rfl) ?_
      rintro ⟨⟨p1, c1⟩, ⟨⟩⟩
      refine WX.run ttOk rfl ?_
      refine WX.callV rfl rfl rfl rfl rfl (fun _ => rfl) rfl (fun w G bs hI hΓ => f387 w n e1 p1 c1 (hΓ.get 1 rfl) left2 ok1 v2) ?_
      intro hq1
      refine WX.run ttOk rfl ?_
      refine WX.cases 25 rfl (fun h3 => ?_) (fun h3 => ?_)
      · skip
        have h3d := B.dt h3
        refine WX.run ttOk rfl ?_
        have hP2 : laws_szSeenNonceS_L1 a (IntKind.i64.wrap (left - (((a).length : Nat) : Int))) = (Ctl.ret (-1)) := by rw [v3, drop_get e1h]; simp only [laws_szSeenNonceS_L1, h3, cond_true, cond_false]
        have hP3 : laws_szSeenNonceS a left = (-1) := by simp only [laws_szSeenNonceS, h1, hP2, cond_true, cond_false]
        refine WX.ret ttOk rfl ?_
        intro w1 G bs hI hΓ
        rw [hP3]
        exact ⟨rfl, (show I64 (-1) from (by unfold I64; omega))⟩
      · skip
        have h3d := B.df h3
        refine WX.run ttOk rfl ?_
        refine WX.see rfl rfl rfl (fun _ hΓ => looks_arith rfl rfl rfl rfl (by unfold I64; first | omega | (dsimp only; omega))) ?_
        refine WX.run ttOk rfl ?_
        exact WX.iter ((laws_szSeenNonce e1 left2), i + 1) ⟨(by omega), hq1, (by rw [v3, drop_get e1h]; simp only [laws_szSeenNonceS_L1, h3, cond_true, cond_false])⟩ (by dsimp only; omega) (.cons rfl (.cons rfl (.cons rfl (.nil)))) .nil .nil [0] rfl
    · skip
      have h2d := B.df h2
      refine WX.run ttOk rfl ?_
      have hX1 : laws_szSeenNonceS_L1 a (IntKind.i64.wrap (left - (((a).length : Nat) : Int))) = (Ctl.nxt left2) := by rw [v3, List.drop_eq_nil_of_le (show (a).length ≤ i by omega)]; simp only [laws_szSeenNonceS_L1, cond_true, cond_false]
      have hP4 : laws_szSeenNonceS a left = left2 := by simp only [laws_szSeenNonceS, h1, hX1, cond_true, cond_false]
      refine WX.ret ttOk rfl ?_
      intro w1 G bs hI hΓ
      rw [hP4]
      exact ⟨rfl, v2⟩
theorem f388 (w : World) (n : Nat) (a : Route) (paPrefix : Option Addr) (caPrefix : Nat) (hpaPrefix : RdSl (hp w) paPrefix caPrefix a.pfx.parts) (left : Int) (hoka : GoT.ok n a) (hokleft : GoT.ok n left) :
    Does Tryz.prog 388 #[.agg #[.slice paPrefix ((a.pfx.parts).length) caPrefix, .int .i64 (a.face), .int .i64 (a.cost)], .int .i64 (left)] w emp (fun (rv : Value) (_ : World) => rv = .int .i64 ((laws_szRoute a left)) ∧ GoT.ok n ((laws_szRoute a left) : Int)) := by
  refine WX.enter (tt := tt) (Γ := [(0, MF.rs .stb paPrefix caPrefix a.pfx.parts)]) Tryz.func388 rfl (by kernel_rfl) rfl (allS_cons rfl hpaPrefix allS_nil) ?_
  refine WX.run ttOk rfl ?_
  refine WX.callV rfl rfl rfl rfl rfl (fun _ => rfl) rfl (fun w G bs hI hΓ => f56 w n a.pfx paPrefix caPrefix (hΓ.get 0 rfl) left ((ok_Route hoka).1) hokleft) ?_
  intro hq1
  refine WX.run ttOk rfl ?_
  refine WX.cases 10 rfl (fun h1 => ?_) (fun h1 => ?_)
  · skip
    have h1d := B.dt h1
    refine WX.run ttOk rfl ?_
    have hP1 : laws_szRoute a left = (-1) := by simp only [laws_szRoute, h1, cond_true, cond_false]
    refine WX.ret ttOk rfl ?_
    intro w1 G bs hI hΓ
    rw [hP1]
    exact ⟨rfl, (show I64 (-1) from (by unfold I64; omega))⟩
  · skip
    have h1d := B.df h1
    refine WX.run ttOk rfl ?_
    have hP2 : laws_szRoute a left = (laws_szName a.pfx left) := by simp only [laws_szRoute, h1, cond_true, cond_false]
    refine WX.ret ttOk rfl ?_
    intro w1 G bs hI hΓ
    rw [hP2]
    exact ⟨rfl, hq1⟩
theorem f316 (w : World) (n : Nat) (a : (List Route)) (pa : Option Addr) (ca : Nat) (hpa : RdSl (hp w) pa ca a) (left : Int) (hoka : GoT.ok n a) (hokleft : GoT.ok n left) :
    Does Tryz.prog 316 #[.slice pa ((a).length) ca, .int .i64 (left)] w emp (fun (rv : Value) (_ : World) => rv = .int .i64 ((laws_szRouteS a left)) ∧ GoT.ok n ((laws_szRouteS a left) : Int)) := by
  refine WX.enter (tt := tt) (Γ := [(0, MF.rs .stb pa ca a)]) Tryz.func316 rfl (by kernel_rfl) rfl (allS_cons rfl hpa allS_nil) ?_
  refine WX.run ttOk rfl ?_
  refine WX.see rfl rfl rfl (fun _ hΓ => looks_wrap rfl rfl rfl rfl) ?_
  refine WX.run ttOk rfl ?_
  refine WX.cases 11 rfl (fun h1 => ?_) (fun h1 => ?_)
  · skip
    have h1d := B.dt h1
    refine WX.run ttOk rfl ?_
    have hP1 : laws_szRouteS a left = (-1) := by simp only [laws_szRouteS, h1, cond_true, cond_false]
    refine WX.ret ttOk rfl ?_
    intro w1 G bs hI hΓ
    rw [hP1]
    exact ⟨rfl, (show I64 (-1) from (by unfold I64; omega))⟩
  · skip
    have h1d := B.df h1
    refine WX.run ttOk rfl ?_
    have r1 : (a).length ≤ bd n := (okl hoka).1
    have r2 : (a).length ≤ 9223372036854775807 := hpa.2.1
    refine WX.loop (ι := Int × Nat) ⟨fun | (left2, i) => (i ≤ (a).length) ∧ (-9223372036854775808 ≤ left2 ∧ left2 ≤ 9223372036854775807) ∧ (laws_szRouteS_L1 a (IntKind.i64.wrap (left - (((a).length : Nat) : Int))) = laws_szRouteS_L1 ((a).drop i) left2), fun | (left2, i) => (a).length - i, fun | (left2, i) => [(1, .v (.int .i64 (left2))), (5, .v (.int .i64 (((i : Nat) : Int)))), (0, .v (.slice pa ((a).length) ca))], fun | (left2, i) => [], fun | (left2, i) => [], fun | (left2, i) => [(0, MF.rs .stb pa ca a)]⟩ (IntKind.i64.wrap (left - (((a).length : Nat) : Int)), 0) ⟨(Nat.zero_le _), (i64_wrap _), rfl⟩
      (.cons rfl (.cons rfl (.cons rfl (.nil)))) .nil .nil [0] rfl ?_
    rintro ⟨left2, i⟩ hpre
    have hpre_ : (i ≤ (a).length) ∧ (-9223372036854775808 ≤ left2 ∧ left2 ≤ 9223372036854775807) ∧ (laws_szRouteS_L1 a (IntKind.i64.wrap (left - (((a).length : Nat) : Int))) = laws_szRouteS_L1 ((a).drop i) left2) := hpre
    clear hpre
    obtain ⟨v1, v2, v3⟩ := hpre_
    refine WX.run ttOk rfl ?_
    refine WX.cases 15 rfl (fun h2 => ?_) (fun h2 => ?_)
    · skip
      have h2d := B.dt h2
      have e1i : i < (a).length := (by omega)
      obtain ⟨e1, e1h⟩ : ∃ e1, (a)[i]? = some e1 := ⟨_, List.getElem?_eq_getElem e1i⟩
      have ok1 : GoT.ok n e1 := (okl hoka).2 _ (List.mem_of_getElem? e1h)
      refine WX.run ttOk rfl ?_
      refine WX.idx 0 i ttOk rfl rfl rfl rfl rfl rfl rfl rfl rfl rfl e1i ?_
      rintro ad1 rfl
      refine WX.ldE 0 1 e1 ttOk rfl rfl rfl rfl rfl rfl rfl rfl e1h (fun _ => rfl) (fun _ => rfl) ?_
      rintro ⟨⟨p1, c1⟩, ⟨⟩, ⟨⟩⟩
      refine WX.run ttOk rfl ?_
      refine WX.callV rfl rfl rfl rfl rfl (fun _ => rfl) rfl (fun w G bs hI hΓ => f388 w n e1 p1 c1 (hΓ.get 1 rfl) left2 ok1 v2) ?_
      intro hq1
      refine WX.run ttOk rfl ?_
      refine WX.cases 25 rfl (fun h3 => ?_) (fun h3 => ?_)
      · skip
        have h3d := B.dt h3
        refine WX.run ttOk rfl ?_
        have hP2 : laws_szRouteS_L1 a (IntKind.i64.wrap (left - (((a).length : Nat) : Int))) = (Ctl.ret (-1)) := by rw [v3, drop_get e1h]; simp only [laws_szRouteS_L1, h3, cond_true, cond_false]
        have hP3 : laws_szRouteS a left = (-1) := by simp only [laws_szRouteS, h1, hP2, cond_true, cond_false]
        refine WX.ret ttOk rfl ?_
        intro w1 G bs hI hΓ
        rw [hP3]
        exact ⟨rfl, (show I64 (-1) from (by unfold I64; omega))⟩
      · skip
        have h3d := B.df h3
        refine WX.run ttOk rfl ?_
        refine WX.see rfl rfl rfl (fun _ hΓ => looks_arith rfl rfl rfl rfl (by unfold I64; first | omega | (dsimp only; omega))) ?_
        refine WX.run ttOk rfl ?_
        exact WX.iter ((laws_szRoute e1 left2), i + 1) ⟨(by omega), hq1, (by rw [v3, drop_get e1h]; simp only [laws_szRouteS_L1, h3, cond_true, cond_false])⟩ (by dsimp only; omega) (.cons rfl (.cons rfl (.cons rfl (.nil)))) .nil .nil [0] rfl
    · skip
      have h2d := B.df h2
      refine WX.run ttOk rfl ?_
      have hX1 : laws_szRouteS_L1 a (IntKind.i64.wrap (left - (((a).length : Nat) : Int))) = (Ctl.nxt left2) := by rw [v3, List.drop_eq_nil_of_le (show (a).length ≤ i by omega)]; simp only [laws_szRouteS_L1, cond_true, cond_false]
      have hP4 : laws_szRouteS a left = left2 := by simp only [laws_szRouteS, h1, hX1, cond_true, cond_false]
      refine WX.ret ttOk rfl ?_
      intro w1 G bs hI hΓ
      rw [hP4]
      exact ⟨rfl, v2⟩
theorem f389 (w : World) (n : Nat) (a : Measurement) (paPrefix : Option Addr) (caPrefix : Nat) (hpaPrefix : RdSl (hp w) paPrefix caPrefix a.pfx.parts) (left : Int) (hoka : GoT.ok n a) (hokleft : GoT.ok n left) :
    Does Tryz.prog 389 #[.agg #[.slice paPrefix ((a.pfx.parts).length) caPrefix, .int .i64 (a.face), .int .i64 (a.failures)], .int .i64 (left)] w emp (fun (rv : Value) (_ : World) => rv = .int .i64 ((laws_szMeasurement a left)) ∧ GoT.ok n ((laws_szMeasurement a left) : Int)) := by
  refine WX.enter (tt := tt) (Γ := [(0, MF.rs .stb paPrefix caPrefix a.pfx.parts)]) Tryz.func389 rfl (by kernel_rfl) rfl (allS_cons rfl hpaPrefix allS_nil) ?_
  refine WX.run ttOk rfl ?_
  refine WX.callV rfl rfl rfl rfl rfl (fun _ => rfl) rfl (fun w G bs hI hΓ => f56 w n a.pfx paPrefix caPrefix (hΓ.get 0 rfl) left ((ok_Measurement hoka).1) hokleft) ?_
  intro hq1
  refine WX.run ttOk rfl ?_
  refine WX.cases 10 rfl (fun h1 => ?_) (fun h1 => ?_)
  · skip
    have h1d := B.dt h1
    refine WX.run ttOk rfl ?_
    have hP1 : laws_szMeasurement a left = (-1) := by simp only [laws_szMeasurement, h1, cond_true, cond_false]
    refine WX.ret ttOk rfl ?_
    intro w1 G bs hI hΓ
    rw [hP1]
    exact ⟨rfl, (show I64 (-1) from (by unfold I64; omega))⟩
  · skip
    have h1d := B.df h1
    refine WX.run ttOk rfl ?_
    have hP2 : laws_szMeasurement a left = (laws_szName a.pfx left) := by simp only [laws_szMeasurement, h1, cond_true, cond_false]
    refine WX.ret ttOk rfl ?_
    intro w1 G bs hI hΓ
    rw [hP2]
    exact ⟨rfl, hq1⟩
theorem f317 (w : World) (n : Nat) (a : (List Measurement)) (pa : Option Addr) (ca : Nat) (hpa : RdSl (hp w) pa ca a) (left : Int) (hoka : GoT.ok n a) (hokleft : GoT.ok n left) :
    Does Tryz.prog 317 #[.slice pa ((a).length) ca, .int .i64 (left)] w emp (fun (rv : Value) (_ : World) => rv = .int .i64 ((laws_szMeasurementS a left)) ∧ GoT.ok n ((laws_szMeasurementS a left) : Int)) := by
  refine WX.enter (tt := tt) (Γ := [(0, MF.rs .stb pa ca a)]) Tryz.func317 rfl (by kernel_rfl) rfl (allS_cons rfl hpa allS_nil) ?_
  refine WX.run ttOk rfl ?_
  refine WX.see rfl rfl rfl (fun _ hΓ => looks_wrap rfl rfl rfl rfl) ?_
  refine WX.run ttOk rfl ?_
  refine WX.cases 11 rfl (fun h1 => ?_) (fun h1 => ?_)
  · skip
    have h1d := B.dt h1
    refine WX.run ttOk rfl ?_
    have hP1 : laws_szMeasurementS a left = (-1) := by simp only [laws_szMeasurementS, h1, cond_true, cond_false]
    refine WX.ret ttOk rfl ?_
    intro w1 G bs hI hΓ
    rw [hP1]
    exact ⟨rfl, (show I64 (-1) from (by unfold I64; omega))⟩
  · skip
    have h1d := B.df h1
    refine WX.run ttOk rfl ?_
    have r1 : (a).length ≤ bd n := (okl hoka).1
    have r2 : (a).length ≤ 9223372036854775807 := hpa.2.1
    refine WX.loop (ι := Int × Nat) ⟨fun | (left2, i) => (i ≤ (a).length) ∧ (-9223372036854775808 ≤ left2 ∧ left2 ≤ 9223372036854775807) ∧ (laws_szMeasurementS_L1 a (IntKind.i64.wrap (left - (((a).length : Nat) : Int))) = laws_szMeasurementS_L1 ((a).drop i) left2), fun | (left2, i) => (a).length - i, fun | (left2, i) => [(1, .v (.int .i64 (left2))), (5, .v (.int .i64 (((i : Nat) : Int)))), (0, .v (.slice pa ((a).length) ca))], fun | (left2, i) => [], fun | (left2, i) => [], fun | (left2, i) => [(0, MF.rs .stb pa ca a)]⟩ (IntKind.i64.wrap (left - (((a).length : Nat) : Int)), 0) ⟨(Nat.zero_le _), (i64_wrap _), rfl⟩
      (.cons rfl (.cons rfl (.cons rfl (.nil)))) .nil .nil [0] rfl ?_
    rintro ⟨left2, i⟩ hpre
    have hpre_ : (i ≤ (a).length) ∧ (-9223372036854775808 ≤ left2 ∧ left2 ≤ 9223372036854775807) ∧ (laws_szMeasurementS_L1 a (IntKind.i64.wrap (left - (((a).length : Nat) : Int))) = laws_szMeasurementS_L1 ((a).drop i) left2) := hpre
    clear hpre
    obtain ⟨v1, v2, v3⟩ := hpre_
    refine WX.run ttOk rfl ?_
    refine WX.cases 15 rfl (fun h2 => ?_) (fun h2 => ?_)
    · skip
      have h2d := B.dt h2
      have e1i : i < (a).length := (by omega)
      obtain ⟨e1, e1h⟩ : ∃ e1, (a)[i]? = some e1 := ⟨_, List.getElem?_eq_getElem e1i⟩
      have ok1 : GoT.ok n e1 := (okl hoka).2 _ (List.mem_of_getElem? e1h)
      refine WX.run ttOk rfl ?_
      refine WX.idx 0 i ttOk rfl rfl rfl rfl rfl rfl rfl rfl rfl rfl e1i ?_
      rintro ad1 rfl
      refine WX.ldE 0 1 e1 ttOk rfl rfl rfl rfl rfl rfl rfl rfl e1h (fun _ => rfl) (fun _ => rfl) ?_
      rintro ⟨⟨p1, c1⟩, ⟨⟩, ⟨⟩⟩
      refine WX.run ttOk rfl ?_
      refine WX.callV rfl rfl rfl rfl rfl (fun _ => rfl) rfl (fun w G bs hI hΓ => f389 w n e1 p1 c1 (hΓ.get 1 rfl) left2 ok1 v2) ?_
      intro hq1
      refine WX.run ttOk rfl ?_
      refine WX.cases 25 rfl (fun h3 => ?_) (fun h3 => ?_)
      · skip
        have h3d := B.dt h3
        refine WX.run ttOk rfl ?_
        have hP2 : laws_szMeasurementS_L1 a (IntKind.i64.wrap (left - (((a).length : Nat) : Int))) = (Ctl.ret (-1)) := by rw [v3, drop_get e1h]; simp only [laws_szMeasurementS_L1, h3, cond_true, cond_false]
        have hP3 : laws_szMeasurementS a left = (-1) := by simp only [laws_szMeasurementS, h1, hP2, cond_true, cond_false]
        refine WX.ret ttOk rfl ?_
        intro w1 G bs hI hΓ
        rw [hP3]
        exact ⟨rfl, (show I64 (-1) from (by unfold I64; omega))⟩
      · skip
        have h3d := B.df h3
        refine WX.run ttOk rfl ?_
        refine WX.see rfl rfl rfl (fun _ hΓ => looks_arith rfl rfl rfl rfl (by unfold I64; first | omega | (dsimp only; omega))) ?_
        refine WX.run ttOk rfl ?_
        exact WX.iter ((laws_szMeasurement e1 left2), i + 1) ⟨(by omega), hq1, (by rw [v3, drop_get e1h]; simp only [laws_szMeasurementS_L1, h3, cond_true, cond_false])⟩ (by dsimp only; omega) (.cons rfl (.cons rfl (.cons rfl (.nil)))) .nil .nil [0] rfl
    · skip
      have h2d := B.df h2
      refine WX.run ttOk rfl ?_
      have hX1 : laws_szMeasurementS_L1 a (IntKind.i64.wrap (left - (((a).length : Nat) : Int))) = (Ctl.nxt left2) := by rw [v3, List.drop_eq_nil_of_le (show (a).length ≤ i by omega)]; simp only [laws_szMeasurementS_L1, cond_true, cond_false]
      have hP4 : laws_szMeasurementS a left = left2 := by simp only [laws_szMeasurementS, h1, hX1, cond_true, cond_false]
      refine WX.ret ttOk rfl ?_
      intro w1 G bs hI hΓ
      rw [hP4]
      exact ⟨rfl, v2⟩
theorem f217 (w : World) (n : Nat) (a : NodeP) (paLocal : Option Addr) (caLocal : Nat) (hpaLocal : RdSl (hp w) paLocal caLocal a.locl) (paCacheEntries : Option Addr) (caCacheEntries : Nat) (hpaCacheEntries : RdSl (hp w) paCacheEntries caCacheEntries a.cache.entries) (paPending : Option Addr) (caPending : Nat) (hpaPending : RdSl (hp w) paPending caPending a.pending) (paSeen : Option Addr) (caSeen : Nat) (hpaSeen : RdSl (hp w) paSeen caSeen a.seen) (paRoutes : Option Addr) (caRoutes : Nat) (hpaRoutes : RdSl (hp w) paRoutes caRoutes a.routes) (paMeasurements : Option Addr) (caMeasurements : Nat) (hpaMeasurements : RdSl (hp w) paMeasurements caMeasurements a.measurements) (left : Int) (hoka : GoT.ok n a) (hokleft : GoT.ok n left) :
    Does Tryz.prog 217 #[.agg #[.slice paLocal ((a.locl).length) caLocal, .int .i64 (a.cache.capacity), .slice paCacheEntries ((a.cache.entries).length) caCacheEntries, .slice paPending ((a.pending).length) caPending, .slice paSeen ((a.seen).length) caSeen, .slice paRoutes ((a.routes).length) caRoutes, .slice paMeasurements ((a.measurements).length) caMeasurements, .int .i64 (a.dropped)], .int .i64 (left)] w emp (fun (rv : Value) (_ : World) => rv = .int .i64 ((laws_szNode a left)) ∧ GoT.ok n ((laws_szNode a left) : Int)) := by
  refine WX.enter (tt := tt) (Γ := [(0, MF.rs .stb paLocal caLocal a.locl), (1, MF.rs .stb paCacheEntries caCacheEntries a.cache.entries), (2, MF.rs .stb paPending caPending a.pending), (3, MF.rs .stb paSeen caSeen a.seen), (4, MF.rs .stb paRoutes caRoutes a.routes), (5, MF.rs .stb paMeasurements caMeasurements a.measurements)]) Tryz.func217 rfl (by kernel_rfl) rfl (allS_cons rfl hpaLocal (allS_cons rfl hpaCacheEntries (allS_cons rfl hpaPending (allS_cons rfl hpaSeen (allS_cons rfl hpaRoutes (allS_cons rfl hpaMeasurements allS_nil)))))) ?_
  refine WX.run ttOk rfl ?_
  refine WX.callV rfl rfl rfl rfl rfl (fun _ => rfl) rfl (fun w G bs hI hΓ => f90 w n a.locl paLocal caLocal (hΓ.get 0 rfl) left ((ok_NodeP hoka).1) hokleft) ?_
  intro hq1
  refine WX.run ttOk rfl ?_
  refine WX.cases 10 rfl (fun h1 => ?_) (fun h1 => ?_)
  · skip
    have h1d := B.dt h1
    refine WX.run ttOk rfl ?_
    have hP1 : laws_szNode a left = (-1) := by simp only [laws_szNode, h1, cond_true, cond_false]
    refine WX.ret ttOk rfl ?_
    intro w1 G bs hI hΓ
    rw [hP1]
    exact ⟨rfl, (show I64 (-1) from (by unfold I64; omega))⟩
  · skip
    have h1d := B.df h1
    refine WX.run ttOk rfl ?_
    refine WX.callV rfl rfl rfl rfl rfl (fun _ => rfl) rfl (fun w G bs hI hΓ => f313 w n a.cache paCacheEntries caCacheEntries (hΓ.get 1 rfl) (laws_szDataS a.locl left) ((ok_NodeP hoka).2.1) hq1) ?_
    intro hq2
    refine WX.run ttOk rfl ?_
    refine WX.cases 16 rfl (fun h2 => ?_) (fun h2 => ?_)
    · skip
      have h2d := B.dt h2
      refine WX.run ttOk rfl ?_
      have hP2 : laws_szNode a left = (-1) := by simp only [laws_szNode, h1, h2, cond_true, cond_false]
      refine WX.ret ttOk rfl ?_
      intro w1 G bs hI hΓ
      rw [hP2]
      exact ⟨rfl, (show I64 (-1) from (by unfold I64; omega))⟩
    · skip
      have h2d := B.df h2
      refine WX.run ttOk rfl ?_
      refine WX.callV rfl rfl rfl rfl rfl (fun _ => rfl) rfl (fun w G bs hI hΓ => f314 w n a.pending paPending caPending (hΓ.get 2 rfl) (laws_szContentStore a.cache (laws_szDataS a.locl left)) ((ok_NodeP hoka).2.2.1) hq2) ?_
      intro hq3
      refine WX.run ttOk rfl ?_
      refine WX.cases 22 rfl (fun h3 => ?_) (fun h3 => ?_)
      · skip
        have h3d := B.dt h3
        refine WX.run ttOk rfl ?_
        have hP3 : laws_szNode a left = (-1) := by simp only [laws_szNode, h1, h2, h3, cond_true, cond_false]
        refine WX.ret ttOk rfl ?_
        intro w1 G bs hI hΓ
        rw [hP3]
        exact ⟨rfl, (show I64 (-1) from (by unfold I64; omega))⟩
      · skip
        have h3d := B.df h3
        refine WX.run ttOk rfl ?_
        refine WX.callV rfl rfl rfl rfl rfl (fun _ => rfl) rfl (fun w G bs hI hΓ => f315 w n a.seen paSeen caSeen (hΓ.get 3 rfl) (laws_szPendingInterestS a.pending (laws_szContentStore a.cache (laws_szDataS a.locl left))) ((ok_NodeP hoka).2.2.2.1) hq3) ?_
        intro hq4
        refine WX.run ttOk rfl ?_
        refine WX.cases 28 rfl (fun h4 => ?_) (fun h4 => ?_)
        · skip
          have h4d := B.dt h4
          refine WX.run ttOk rfl ?_
          have hP4 : laws_szNode a left = (-1) := by simp only [laws_szNode, h1, h2, h3, h4, cond_true, cond_false]
          refine WX.ret ttOk rfl ?_
          intro w1 G bs hI hΓ
          rw [hP4]
          exact ⟨rfl, (show I64 (-1) from (by unfold I64; omega))⟩
        · skip
          have h4d := B.df h4
          refine WX.run ttOk rfl ?_
          refine WX.callV rfl rfl rfl rfl rfl (fun _ => rfl) rfl (fun w G bs hI hΓ => f316 w n a.routes paRoutes caRoutes (hΓ.get 4 rfl) (laws_szSeenNonceS a.seen (laws_szPendingInterestS a.pending (laws_szContentStore a.cache (laws_szDataS a.locl left)))) ((ok_NodeP hoka).2.2.2.2.1) hq4) ?_
          intro hq5
          refine WX.run ttOk rfl ?_
          refine WX.cases 34 rfl (fun h5 => ?_) (fun h5 => ?_)
          · skip
            have h5d := B.dt h5
            refine WX.run ttOk rfl ?_
            have hP5 : laws_szNode a left = (-1) := by simp only [laws_szNode, h1, h2, h3, h4, h5, cond_true, cond_false]
            refine WX.ret ttOk rfl ?_
            intro w1 G bs hI hΓ
            rw [hP5]
            exact ⟨rfl, (show I64 (-1) from (by unfold I64; omega))⟩
          · skip
            have h5d := B.df h5
            refine WX.run ttOk rfl ?_
            refine WX.callV rfl rfl rfl rfl rfl (fun _ => rfl) rfl (fun w G bs hI hΓ => f317 w n a.measurements paMeasurements caMeasurements (hΓ.get 5 rfl) (laws_szRouteS a.routes (laws_szSeenNonceS a.seen (laws_szPendingInterestS a.pending (laws_szContentStore a.cache (laws_szDataS a.locl left))))) ((ok_NodeP hoka).2.2.2.2.2.1) hq5) ?_
            intro hq6
            refine WX.run ttOk rfl ?_
            refine WX.cases 40 rfl (fun h6 => ?_) (fun h6 => ?_)
            · skip
              have h6d := B.dt h6
              refine WX.run ttOk rfl ?_
              have hP6 : laws_szNode a left = (-1) := by simp only [laws_szNode, h1, h2, h3, h4, h5, h6, cond_true, cond_false]
              refine WX.ret ttOk rfl ?_
              intro w1 G bs hI hΓ
              rw [hP6]
              exact ⟨rfl, (show I64 (-1) from (by unfold I64; omega))⟩
            · skip
              have h6d := B.df h6
              refine WX.run ttOk rfl ?_
              have hP7 : laws_szNode a left = (laws_szMeasurementS a.measurements (laws_szRouteS a.routes (laws_szSeenNonceS a.seen (laws_szPendingInterestS a.pending (laws_szContentStore a.cache (laws_szDataS a.locl left)))))) := by simp only [laws_szNode, h1, h2, h3, h4, h5, h6, cond_true, cond_false]
              refine WX.ret ttOk rfl ?_
              intro w1 G bs hI hΓ
              rw [hP7]
              exact ⟨rfl, hq6⟩
theorem f114 (w : World) (n : Nat) (a : (List NodeP)) (pa : Option Addr) (ca : Nat) (hpa : RdSl (hp w) pa ca a) (left : Int) (hoka : GoT.ok n a) (hokleft : GoT.ok n left) :
    Does Tryz.prog 114 #[.slice pa ((a).length) ca, .int .i64 (left)] w emp (fun (rv : Value) (_ : World) => rv = .int .i64 ((laws_szNodeS a left)) ∧ GoT.ok n ((laws_szNodeS a left) : Int)) := by
  refine WX.enter (tt := tt) (Γ := [(0, MF.rs .stb pa ca a)]) Tryz.func114 rfl (by kernel_rfl) rfl (allS_cons rfl hpa allS_nil) ?_
  refine WX.run ttOk rfl ?_
  refine WX.see rfl rfl rfl (fun _ hΓ => looks_wrap rfl rfl rfl rfl) ?_
  refine WX.run ttOk rfl ?_
  refine WX.cases 11 rfl (fun h1 => ?_) (fun h1 => ?_)
  · skip
    have h1d := B.dt h1
    refine WX.run ttOk rfl ?_
    have hP1 : laws_szNodeS a left = (-1) := by simp only [laws_szNodeS, h1, cond_true, cond_false]
    refine WX.ret ttOk rfl ?_
    intro w1 G bs hI hΓ
    rw [hP1]
    exact ⟨rfl, (show I64 (-1) from (by unfold I64; omega))⟩
  · skip
    have h1d := B.df h1
    refine WX.run ttOk rfl ?_
    have r1 : (a).length ≤ bd n := (okl hoka).1
    have r2 : (a).length ≤ 9223372036854775807 := hpa.2.1
    refine WX.loop (ι := Int × Nat) ⟨fun | (left2, i) => (i ≤ (a).length) ∧ (-9223372036854775808 ≤ left2 ∧ left2 ≤ 9223372036854775807) ∧ (laws_szNodeS_L1 a (IntKind.i64.wrap (left - (((a).length : Nat) : Int))) = laws_szNodeS_L1 ((a).drop i) left2), fun | (left2, i) => (a).length - i, fun | (left2, i) => [(1, .v (.int .i64 (left2))), (5, .v (.int .i64 (((i : Nat) : Int)))), (0, .v (.slice pa ((a).length) ca))], fun | (left2, i) => [], fun | (left2, i) => [], fun | (left2, i) => [(0, MF.rs .stb pa ca a)]⟩ (IntKind.i64.wrap (left - (((a).length : Nat) : Int)), 0) ⟨(Nat.zero_le _), (i64_wrap _), rfl⟩
      (.cons rfl (.cons rfl (.cons rfl (.nil)))) .nil .nil [0] rfl ?_
    rintro ⟨left2, i⟩ hpre
    have hpre_ : (i ≤ (a).length) ∧ (-9223372036854775808 ≤ left2 ∧ left2 ≤ 9223372036854775807) ∧ (laws_szNodeS_L1 a (IntKind.i64.wrap (left - (((a).length : Nat) : Int))) = laws_szNodeS_L1 ((a).drop i) left2) := hpre
    clear hpre
    obtain ⟨v1, v2, v3⟩ := hpre_
    refine WX.run ttOk rfl ?_
    refine WX.cases 15 rfl (fun h2 => ?_) (fun h2 => ?_)
    · skip
      have h2d := B.dt h2
      have e1i : i < (a).length := (by omega)
      obtain ⟨e1, e1h⟩ : ∃ e1, (a)[i]? = some e1 := ⟨_, List.getElem?_eq_getElem e1i⟩
      have ok1 : GoT.ok n e1 := (okl hoka).2 _ (List.mem_of_getElem? e1h)
      refine WX.run ttOk rfl ?_
      refine WX.idx 0 i ttOk rfl rfl rfl rfl rfl rfl rfl rfl rfl rfl e1i ?_
      rintro ad1 rfl
      refine WX.ldE 0 1 e1 ttOk rfl rfl rfl rfl rfl rfl rfl rfl e1h (fun _ => rfl) (fun _ => rfl) ?_
      rintro ⟨⟨p1, c1⟩, ⟨⟨⟩, ⟨p2, c2⟩⟩, ⟨p3, c3⟩, ⟨p4, c4⟩, ⟨p5, c5⟩, ⟨p6, c6⟩, ⟨⟩⟩
      refine WX.run ttOk rfl ?_
      refine WX.callV rfl rfl rfl rfl rfl (fun _ => rfl) rfl (fun w G bs hI hΓ => f217 w n e1 p1 c1 (hΓ.get 1 rfl) p2 c2 (hΓ.get 2 rfl) p3 c3 (hΓ.get 3 rfl) p4 c4 (hΓ.get 4 rfl) p5 c5 (hΓ.get 5 rfl) p6 c6 (hΓ.get 6 rfl) left2 ok1 v2) ?_
      intro hq1
      refine WX.run ttOk rfl ?_
      refine WX.cases 25 rfl (fun h3 => ?_) (fun h3 => ?_)
      · skip
        have h3d := B.dt h3
        refine WX.run ttOk rfl ?_
        have hP2 : laws_szNodeS_L1 a (IntKind.i64.wrap (left - (((a).length : Nat) : Int))) = (Ctl.ret (-1)) := by rw [v3, drop_get e1h]; simp only [laws_szNodeS_L1, h3, cond_true, cond_false]
        have hP3 : laws_szNodeS a left = (-1) := by simp only [laws_szNodeS, h1, hP2, cond_true, cond_false]
        refine WX.ret ttOk rfl ?_
        intro w1 G bs hI hΓ
        rw [hP3]
        exact ⟨rfl, (show I64 (-1) from (by unfold I64; omega))⟩
      · skip
        have h3d := B.df h3
        refine WX.run ttOk rfl ?_
        refine WX.see rfl rfl rfl (fun _ hΓ => looks_arith rfl rfl rfl rfl (by unfold I64; first | omega | (dsimp only; omega))) ?_
        refine WX.run ttOk rfl ?_
        exact WX.iter ((laws_szNode e1 left2), i + 1) ⟨(by omega), hq1, (by rw [v3, drop_get e1h]; simp only [laws_szNodeS_L1, h3, cond_true, cond_false])⟩ (by dsimp only; omega) (.cons rfl (.cons rfl (.cons rfl (.nil)))) .nil .nil [0] rfl
    · skip
      have h2d := B.df h2
      refine WX.run ttOk rfl ?_
      have hX1 : laws_szNodeS_L1 a (IntKind.i64.wrap (left - (((a).length : Nat) : Int))) = (Ctl.nxt left2) := by rw [v3, List.drop_eq_nil_of_le (show (a).length ≤ i by omega)]; simp only [laws_szNodeS_L1, cond_true, cond_false]
      have hP4 : laws_szNodeS a left = left2 := by simp only [laws_szNodeS, h1, hX1, cond_true, cond_false]
      refine WX.ret ttOk rfl ?_
      intro w1 G bs hI hΓ
      rw [hP4]
      exact ⟨rfl, v2⟩
theorem f115 (w : World) (n : Nat) (a : (List Int)) (pa : Option Addr) (ca : Nat) (hpa : RdSl (hp w) pa ca a) (left : Int) (hoka : GoT.ok n a) (hokleft : GoT.ok n left) :
    Does Tryz.prog 115 #[.slice pa ((a).length) ca, .int .i64 (left)] w emp (fun (rv : Value) (_ : World) => rv = .int .i64 ((laws_szIntS a left)) ∧ GoT.ok n ((laws_szIntS a left) : Int)) := by
  refine WX.enter (tt := tt) (Γ := [(0, MF.rs .stb pa ca a)]) Tryz.func115 rfl (by kernel_rfl) rfl (allS_cons rfl hpa allS_nil) ?_
  refine WX.run ttOk rfl ?_
  refine WX.see rfl rfl rfl (fun _ hΓ => looks_wrap rfl rfl rfl rfl) ?_
  refine WX.run ttOk rfl ?_
  refine WX.cases 10 rfl (fun h1 => ?_) (fun h1 => ?_)
  · skip
    have h1d := B.dt h1
    refine WX.run ttOk rfl ?_
    have hP1 : laws_szIntS a left = (-1) := by simp only [laws_szIntS, h1, cond_true, cond_false]
    refine WX.ret ttOk rfl ?_
    intro w1 G bs hI hΓ
    rw [hP1]
    exact ⟨rfl, (show I64 (-1) from (by unfold I64; omega))⟩
  · skip
    have h1d := B.df h1
    refine WX.run ttOk rfl ?_
    have hP2 : laws_szIntS a left = (IntKind.i64.wrap (left - (((a).length : Nat) : Int))) := by simp only [laws_szIntS, h1, cond_true, cond_false]
    refine WX.ret ttOk rfl ?_
    intro w1 G bs hI hΓ
    rw [hP2]
    exact ⟨rfl, (i64_wrap _)⟩
theorem f318 (w : World) (n : Nat) (a : Interest) (paName : Option Addr) (caName : Nat) (hpaName : RdSl (hp w) paName caName a.name.parts) (left : Int) (hoka : GoT.ok n a) (hokleft : GoT.ok n left) :
    Does Tryz.prog 318 #[.agg #[.slice paName ((a.name.parts).length) caName, .int .i64 (a.nonce), .int .i64 (a.hopLimit), .int .i64 (a.lifetime)], .int .i64 (left)] w emp (fun (rv : Value) (_ : World) => rv = .int .i64 ((laws_szInterest a left)) ∧ GoT.ok n ((laws_szInterest a left) : Int)) := by
  refine WX.enter (tt := tt) (Γ := [(0, MF.rs .stb paName caName a.name.parts)]) Tryz.func318 rfl (by kernel_rfl) rfl (allS_cons rfl hpaName allS_nil) ?_
  refine WX.run ttOk rfl ?_
  refine WX.callV rfl rfl rfl rfl rfl (fun _ => rfl) rfl (fun w G bs hI hΓ => f56 w n a.name paName caName (hΓ.get 0 rfl) left ((ok_Interest hoka).1) hokleft) ?_
  intro hq1
  refine WX.run ttOk rfl ?_
  refine WX.cases 10 rfl (fun h1 => ?_) (fun h1 => ?_)
  · skip
    have h1d := B.dt h1
    refine WX.run ttOk rfl ?_
    have hP1 : laws_szInterest a left = (-1) := by simp only [laws_szInterest, h1, cond_true, cond_false]
    refine WX.ret ttOk rfl ?_
    intro w1 G bs hI hΓ
    rw [hP1]
    exact ⟨rfl, (show I64 (-1) from (by unfold I64; omega))⟩
  · skip
    have h1d := B.df h1
    refine WX.run ttOk rfl ?_
    have hP2 : laws_szInterest a left = (laws_szName a.name left) := by simp only [laws_szInterest, h1, cond_true, cond_false]
    refine WX.ret ttOk rfl ?_
    intro w1 G bs hI hΓ
    rw [hP2]
    exact ⟨rfl, hq1⟩
theorem f218 (w : World) (n : Nat) (a : PacketInFlight) (paInterestName : Option Addr) (caInterestName : Nat) (hpaInterestName : RdSl (hp w) paInterestName caInterestName a.interest.name.parts) (paDataName : Option Addr) (caDataName : Nat) (hpaDataName : RdSl (hp w) paDataName caDataName a.data.name.parts) (paDataContent : Option Addr) (caDataContent : Nat) (hpaDataContent : RdSl (hp w) paDataContent caDataContent a.data.content) (paDataKeyName : Option Addr) (caDataKeyName : Nat) (hpaDataKeyName : RdSl (hp w) paDataKeyName caDataKeyName a.data.keyName.parts) (left : Int) (hoka : GoT.ok n a) (hokleft : GoT.ok n left) :
    Does Tryz.prog 218 #[.agg #[.int .i64 (a.to), .int .i64 (a.face), .bool a.isInterest, .slice paInterestName ((a.interest.name.parts).length) caInterestName, .int .i64 (a.interest.nonce), .int .i64 (a.interest.hopLimit), .int .i64 (a.interest.lifetime), .slice paDataName ((a.data.name.parts).length) caDataName, .slice paDataContent ((a.data.content).length) caDataContent, .slice paDataKeyName ((a.data.keyName.parts).length) caDataKeyName, .int .i64 (a.data.freshUntil), .int .i64 (a.data.signature)], .int .i64 (left)] w emp (fun (rv : Value) (_ : World) => rv = .int .i64 ((laws_szPacketInFlight a left)) ∧ GoT.ok n ((laws_szPacketInFlight a left) : Int)) := by
  refine WX.enter (tt := tt) (Γ := [(0, MF.rs .stb paInterestName caInterestName a.interest.name.parts), (1, MF.rs .stb paDataName caDataName a.data.name.parts), (2, MF.rs .stb paDataContent caDataContent a.data.content), (3, MF.rs .stb paDataKeyName caDataKeyName a.data.keyName.parts)]) Tryz.func218 rfl (by kernel_rfl) rfl (allS_cons rfl hpaInterestName (allS_cons rfl hpaDataName (allS_cons rfl hpaDataContent (allS_cons rfl hpaDataKeyName allS_nil)))) ?_
  refine WX.run ttOk rfl ?_
  refine WX.callV rfl rfl rfl rfl rfl (fun _ => rfl) rfl (fun w G bs hI hΓ => f318 w n a.interest paInterestName caInterestName (hΓ.get 0 rfl) left ((ok_PacketInFlight hoka).2.2.2.1) hokleft) ?_
  intro hq1
  refine WX.run ttOk rfl ?_
  refine WX.cases 10 rfl (fun h1 => ?_) (fun h1 => ?_)
  · skip
    have h1d := B.dt h1
    refine WX.run ttOk rfl ?_
    have hP1 : laws_szPacketInFlight a left = (-1) := by simp only [laws_szPacketInFlight, h1, cond_true, cond_false]
    refine WX.ret ttOk rfl ?_
    intro w1 G bs hI hΓ
    rw [hP1]
    exact ⟨rfl, (show I64 (-1) from (by unfold I64; omega))⟩
  · skip
    have h1d := B.df h1
    refine WX.run ttOk rfl ?_
    refine WX.callV rfl rfl rfl rfl rfl (fun _ => rfl) rfl (fun w G bs hI hΓ => f30 w n a.data paDataName caDataName (hΓ.get 1 rfl) paDataContent caDataContent (hΓ.get 2 rfl) paDataKeyName caDataKeyName (hΓ.get 3 rfl) (laws_szInterest a.interest left) ((ok_PacketInFlight hoka).2.2.2.2) hq1) ?_
    intro hq2
    refine WX.run ttOk rfl ?_
    refine WX.cases 16 rfl (fun h2 => ?_) (fun h2 => ?_)
    · skip
      have h2d := B.dt h2
      refine WX.run ttOk rfl ?_
      have hP2 : laws_szPacketInFlight a left = (-1) := by simp only [laws_szPacketInFlight, h1, h2, cond_true, cond_false]
      refine WX.ret ttOk rfl ?_
      intro w1 G bs hI hΓ
      rw [hP2]
      exact ⟨rfl, (show I64 (-1) from (by unfold I64; omega))⟩
    · skip
      have h2d := B.df h2
      refine WX.run ttOk rfl ?_
      have hP3 : laws_szPacketInFlight a left = (laws_szData a.data (laws_szInterest a.interest left)) := by simp only [laws_szPacketInFlight, h1, h2, cond_true, cond_false]
      refine WX.ret ttOk rfl ?_
      intro w1 G bs hI hΓ
      rw [hP3]
      exact ⟨rfl, hq2⟩
theorem f116 (w : World) (n : Nat) (a : (List PacketInFlight)) (pa : Option Addr) (ca : Nat) (hpa : RdSl (hp w) pa ca a) (left : Int) (hoka : GoT.ok n a) (hokleft : GoT.ok n left) :
    Does Tryz.prog 116 #[.slice pa ((a).length) ca, .int .i64 (left)] w emp (fun (rv : Value) (_ : World) => rv = .int .i64 ((laws_szPacketInFlightS a left)) ∧ GoT.ok n ((laws_szPacketInFlightS a left) : Int)) := by
  refine WX.enter (tt := tt) (Γ := [(0, MF.rs .stb pa ca a)]) Tryz.func116 rfl (by kernel_rfl) rfl (allS_cons rfl hpa allS_nil) ?_
  refine WX.run ttOk rfl ?_
  refine WX.see rfl rfl rfl (fun _ hΓ => looks_wrap rfl rfl rfl rfl) ?_
  refine WX.run ttOk rfl ?_
  refine WX.cases 11 rfl (fun h1 => ?_) (fun h1 => ?_)
  · skip
    have h1d := B.dt h1
    refine WX.run ttOk rfl ?_
    have hP1 : laws_szPacketInFlightS a left = (-1) := by simp only [laws_szPacketInFlightS, h1, cond_true, cond_false]
    refine WX.ret ttOk rfl ?_
    intro w1 G bs hI hΓ
    rw [hP1]
    exact ⟨rfl, (show I64 (-1) from (by unfold I64; omega))⟩
  · skip
    have h1d := B.df h1
    refine WX.run ttOk rfl ?_
    have r1 : (a).length ≤ bd n := (okl hoka).1
    have r2 : (a).length ≤ 9223372036854775807 := hpa.2.1
    refine WX.loop (ι := Int × Nat) ⟨fun | (left2, i) => (i ≤ (a).length) ∧ (-9223372036854775808 ≤ left2 ∧ left2 ≤ 9223372036854775807) ∧ (laws_szPacketInFlightS_L1 a (IntKind.i64.wrap (left - (((a).length : Nat) : Int))) = laws_szPacketInFlightS_L1 ((a).drop i) left2), fun | (left2, i) => (a).length - i, fun | (left2, i) => [(1, .v (.int .i64 (left2))), (5, .v (.int .i64 (((i : Nat) : Int)))), (0, .v (.slice pa ((a).length) ca))], fun | (left2, i) => [], fun | (left2, i) => [], fun | (left2, i) => [(0, MF.rs .stb pa ca a)]⟩ (IntKind.i64.wrap (left - (((a).length : Nat) : Int)), 0) ⟨(Nat.zero_le _), (i64_wrap _), rfl⟩
      (.cons rfl (.cons rfl (.cons rfl (.nil)))) .nil .nil [0] rfl ?_
    rintro ⟨left2, i⟩ hpre
    have hpre_ : (i ≤ (a).length) ∧ (-9223372036854775808 ≤ left2 ∧ left2 ≤ 9223372036854775807) ∧ (laws_szPacketInFlightS_L1 a (IntKind.i64.wrap (left - (((a).length : Nat) : Int))) = laws_szPacketInFlightS_L1 ((a).drop i) left2) := hpre
    clear hpre
    obtain ⟨v1, v2, v3⟩ := hpre_
    refine WX.run ttOk rfl ?_
    refine WX.cases 15 rfl (fun h2 => ?_) (fun h2 => ?_)
    · skip
      have h2d := B.dt h2
      have e1i : i < (a).length := (by omega)
      obtain ⟨e1, e1h⟩ : ∃ e1, (a)[i]? = some e1 := ⟨_, List.getElem?_eq_getElem e1i⟩
      have ok1 : GoT.ok n e1 := (okl hoka).2 _ (List.mem_of_getElem? e1h)
      refine WX.run ttOk rfl ?_
      refine WX.idx 0 i ttOk rfl rfl rfl rfl rfl rfl rfl rfl rfl rfl e1i ?_
      rintro ad1 rfl
      refine WX.ldE 0 1 e1 ttOk rfl rfl rfl rfl rfl rfl rfl rfl e1h (fun _ => rfl) (fun _ => rfl) ?_
      rintro ⟨⟨⟩, ⟨⟩, ⟨⟩, ⟨⟨p1, c1⟩, ⟨⟩, ⟨⟩, ⟨⟩⟩, ⟨⟨p2, c2⟩, ⟨p3, c3⟩, ⟨p4, c4⟩, ⟨⟩, ⟨⟩⟩⟩
      refine WX.run ttOk rfl ?_
      refine WX.callV rfl rfl rfl rfl rfl (fun _ => rfl) rfl (fun w G bs hI hΓ => f218 w n e1 p1 c1 (hΓ.get 1 rfl) p2 c2 (hΓ.get 2 rfl) p3 c3 (hΓ.get 3 rfl) p4 c4 (hΓ.get 4 rfl) left2 ok1 v2) ?_
      intro hq1
      refine WX.run ttOk rfl ?_
      refine WX.cases 25 rfl (fun h3 => ?_) (fun h3 => ?_)
      · skip
        have h3d := B.dt h3
        refine WX.run ttOk rfl ?_
        have hP2 : laws_szPacketInFlightS_L1 a (IntKind.i64.wrap (left - (((a).length : Nat) : Int))) = (Ctl.ret (-1)) := by rw [v3, drop_get e1h]; simp only [laws_szPacketInFlightS_L1, h3, cond_true, cond_false]
        have hP3 : laws_szPacketInFlightS a left = (-1) := by simp only [laws_szPacketInFlightS, h1, hP2, cond_true, cond_false]
        refine WX.ret ttOk rfl ?_
        intro w1 G bs hI hΓ
        rw [hP3]
        exact ⟨rfl, (show I64 (-1) from (by unfold I64; omega))⟩
      · skip
        have h3d := B.df h3
        refine WX.run ttOk rfl ?_
        refine WX.see rfl rfl rfl (fun _ hΓ => looks_arith rfl rfl rfl rfl (by unfold I64; first | omega | (dsimp only; omega))) ?_
        refine WX.run ttOk rfl ?_
        exact WX.iter ((laws_szPacketInFlight e1 left2), i + 1) ⟨(by omega), hq1, (by rw [v3, drop_get e1h]; simp only [laws_szPacketInFlightS_L1, h3, cond_true, cond_false])⟩ (by dsimp only; omega) (.cons rfl (.cons rfl (.cons rfl (.nil)))) .nil .nil [0] rfl
    · skip
      have h2d := B.df h2
      refine WX.run ttOk rfl ?_
      have hX1 : laws_szPacketInFlightS_L1 a (IntKind.i64.wrap (left - (((a).length : Nat) : Int))) = (Ctl.nxt left2) := by rw [v3, List.drop_eq_nil_of_le (show (a).length ≤ i by omega)]; simp only [laws_szPacketInFlightS_L1, cond_true, cond_false]
      have hP4 : laws_szPacketInFlightS a left = left2 := by simp only [laws_szPacketInFlightS, h1, hX1, cond_true, cond_false]
      refine WX.ret ttOk rfl ?_
      intro w1 G bs hI hΓ
      rw [hP4]
      exact ⟨rfl, v2⟩
theorem f117 (w : World) (n : Nat) (a : (List Consumer)) (pa : Option Addr) (ca : Nat) (hpa : RdSl (hp w) pa ca a) (left : Int) (hoka : GoT.ok n a) (hokleft : GoT.ok n left) :
    Does Tryz.prog 117 #[.slice pa ((a).length) ca, .int .i64 (left)] w emp (fun (rv : Value) (_ : World) => rv = .int .i64 ((laws_szConsumerS a left)) ∧ GoT.ok n ((laws_szConsumerS a left) : Int)) := by
  refine WX.enter (tt := tt) (Γ := [(0, MF.rs .stb pa ca a)]) Tryz.func117 rfl (by kernel_rfl) rfl (allS_cons rfl hpa allS_nil) ?_
  refine WX.run ttOk rfl ?_
  refine WX.see rfl rfl rfl (fun _ hΓ => looks_wrap rfl rfl rfl rfl) ?_
  refine WX.run ttOk rfl ?_
  refine WX.cases 11 rfl (fun h1 => ?_) (fun h1 => ?_)
  · skip
    have h1d := B.dt h1
    refine WX.run ttOk rfl ?_
    have hP1 : laws_szConsumerS a left = (-1) := by simp only [laws_szConsumerS, h1, cond_true, cond_false]
    refine WX.ret ttOk rfl ?_
    intro w1 G bs hI hΓ
    rw [hP1]
    exact ⟨rfl, (show I64 (-1) from (by unfold I64; omega))⟩
  · skip
    have h1d := B.df h1
    refine WX.run ttOk rfl ?_
    have r1 : (a).length ≤ bd n := (okl hoka).1
    have r2 : (a).length ≤ 9223372036854775807 := hpa.2.1
    refine WX.loop (ι := Int × Nat) ⟨fun | (left2, i) => (i ≤ (a).length) ∧ (-9223372036854775808 ≤ left2 ∧ left2 ≤ 9223372036854775807) ∧ (laws_szConsumerS_L1 a (IntKind.i64.wrap (left - (((a).length : Nat) : Int))) = laws_szConsumerS_L1 ((a).drop i) left2), fun | (left2, i) => (a).length - i, fun | (left2, i) => [(1, .v (.int .i64 (left2))), (5, .v (.int .i64 (((i : Nat) : Int)))), (0, .v (.slice pa ((a).length) ca))], fun | (left2, i) => [], fun | (left2, i) => [], fun | (left2, i) => [(0, MF.rs .stb pa ca a)]⟩ (IntKind.i64.wrap (left - (((a).length : Nat) : Int)), 0) ⟨(Nat.zero_le _), (i64_wrap _), rfl⟩
      (.cons rfl (.cons rfl (.cons rfl (.nil)))) .nil .nil [0] rfl ?_
    rintro ⟨left2, i⟩ hpre
    have hpre_ : (i ≤ (a).length) ∧ (-9223372036854775808 ≤ left2 ∧ left2 ≤ 9223372036854775807) ∧ (laws_szConsumerS_L1 a (IntKind.i64.wrap (left - (((a).length : Nat) : Int))) = laws_szConsumerS_L1 ((a).drop i) left2) := hpre
    clear hpre
    obtain ⟨v1, v2, v3⟩ := hpre_
    refine WX.run ttOk rfl ?_
    refine WX.cases 15 rfl (fun h2 => ?_) (fun h2 => ?_)
    · skip
      have h2d := B.dt h2
      have e1i : i < (a).length := (by omega)
      obtain ⟨e1, e1h⟩ : ∃ e1, (a)[i]? = some e1 := ⟨_, List.getElem?_eq_getElem e1i⟩
      have ok1 : GoT.ok n e1 := (okl hoka).2 _ (List.mem_of_getElem? e1h)
      refine WX.run ttOk rfl ?_
      refine WX.idx 0 i ttOk rfl rfl rfl rfl rfl rfl rfl rfl rfl rfl e1i ?_
      rintro ad1 rfl
      refine WX.ldE 0 1 e1 ttOk rfl rfl rfl rfl rfl rfl rfl rfl e1h (fun _ => rfl) (fun _ => rfl) ?_
      rintro ⟨⟨⟩, ⟨⟩, ⟨p1, c1⟩, ⟨⟩, ⟨⟩, ⟨⟩, ⟨⟨p2, c2⟩, ⟨p3, c3⟩, ⟨p4, c4⟩, ⟨⟩, ⟨⟩⟩⟩
      refine WX.run ttOk rfl ?_
      refine WX.callV rfl rfl rfl rfl rfl (fun _ => rfl) rfl (fun w G bs hI hΓ => f28 w n e1 p1 c1 (hΓ.get 1 rfl) p2 c2 (hΓ.get 2 rfl) p3 c3 (hΓ.get 3 rfl) p4 c4 (hΓ.get 4 rfl) left2 ok1 v2) ?_
      intro hq1
      refine WX.run ttOk rfl ?_
      refine WX.cases 25 rfl (fun h3 => ?_) (fun h3 => ?_)
      · skip
        have h3d := B.dt h3
        refine WX.run ttOk rfl ?_
        have hP2 : laws_szConsumerS_L1 a (IntKind.i64.wrap (left - (((a).length : Nat) : Int))) = (Ctl.ret (-1)) := by rw [v3, drop_get e1h]; simp only [laws_szConsumerS_L1, h3, cond_true, cond_false]
        have hP3 : laws_szConsumerS a left = (-1) := by simp only [laws_szConsumerS, h1, hP2, cond_true, cond_false]
        refine WX.ret ttOk rfl ?_
        intro w1 G bs hI hΓ
        rw [hP3]
        exact ⟨rfl, (show I64 (-1) from (by unfold I64; omega))⟩
      · skip
        have h3d := B.df h3
        refine WX.run ttOk rfl ?_
        refine WX.see rfl rfl rfl (fun _ hΓ => looks_arith rfl rfl rfl rfl (by unfold I64; first | omega | (dsimp only; omega))) ?_
        refine WX.run ttOk rfl ?_
        exact WX.iter ((laws_szConsumer e1 left2), i + 1) ⟨(by omega), hq1, (by rw [v3, drop_get e1h]; simp only [laws_szConsumerS_L1, h3, cond_true, cond_false])⟩ (by dsimp only; omega) (.cons rfl (.cons rfl (.cons rfl (.nil)))) .nil .nil [0] rfl
    · skip
      have h2d := B.df h2
      refine WX.run ttOk rfl ?_
      have hX1 : laws_szConsumerS_L1 a (IntKind.i64.wrap (left - (((a).length : Nat) : Int))) = (Ctl.nxt left2) := by rw [v3, List.drop_eq_nil_of_le (show (a).length ≤ i by omega)]; simp only [laws_szConsumerS_L1, cond_true, cond_false]
      have hP4 : laws_szConsumerS a left = left2 := by simp only [laws_szConsumerS, h1, hX1, cond_true, cond_false]
      refine WX.ret ttOk rfl ?_
      intro w1 G bs hI hΓ
      rw [hP4]
      exact ⟨rfl, v2⟩
theorem f43 (w : World) (n : Nat) (a : Network) (paTopologyLinks : Option Addr) (caTopologyLinks : Nat) (hpaTopologyLinks : RdSl (hp w) paTopologyLinks caTopologyLinks a.topology.links) (paTrustKeys : Option Addr) (caTrustKeys : Nat) (hpaTrustKeys : RdSl (hp w) paTrustKeys caTrustKeys a.trust.keys) (paTrustRules : Option Addr) (caTrustRules : Nat) (hpaTrustRules : RdSl (hp w) paTrustRules caTrustRules a.trust.rules) (paTrustAnchors : Option Addr) (caTrustAnchors : Nat) (hpaTrustAnchors : RdSl (hp w) paTrustAnchors caTrustAnchors a.trust.anchors) (paTrustCertificates : Option Addr) (caTrustCertificates : Nat) (hpaTrustCertificates : RdSl (hp w) paTrustCertificates caTrustCertificates a.trust.certificates) (paProducers : Option Addr) (caProducers : Nat) (hpaProducers : RdSl (hp w) paProducers caProducers a.producers) (paNodes : Option Addr) (caNodes : Nat) (hpaNodes : RdSl (hp w) paNodes caNodes a.nodes) (paFailedLinks : Option Addr) (caFailedLinks : Nat) (hpaFailedLinks : RdSl (hp w) paFailedLinks caFailedLinks a.failedLinks) (paInFlight : Option Addr) (caInFlight : Nat) (hpaInFlight : RdSl (hp w) paInFlight caInFlight a.inFlight) (paConsumers : Option Addr) (caConsumers : Nat) (hpaConsumers : RdSl (hp w) paConsumers caConsumers a.consumers) (left : Int) (hoka : GoT.ok n a) (hokleft : GoT.ok n left) :
    Does Tryz.prog 43 #[.agg #[.int .i64 (a.topology.size), .slice paTopologyLinks ((a.topology.links).length) caTopologyLinks, .slice paTrustKeys ((a.trust.keys).length) caTrustKeys, .slice paTrustRules ((a.trust.rules).length) caTrustRules, .slice paTrustAnchors ((a.trust.anchors).length) caTrustAnchors, .slice paTrustCertificates ((a.trust.certificates).length) caTrustCertificates, .slice paProducers ((a.producers).length) caProducers, .slice paNodes ((a.nodes).length) caNodes, .int .i64 (a.downNodes), .slice paFailedLinks ((a.failedLinks).length) caFailedLinks, .slice paInFlight ((a.inFlight).length) caInFlight, .slice paConsumers ((a.consumers).length) caConsumers, .int .i64 (a.now), .int .i64 (a.dropped)], .int .i64 (left)] w emp (fun (rv : Value) (_ : World) => rv = .int .i64 ((laws_szNetwork a left)) ∧ GoT.ok n ((laws_szNetwork a left) : Int)) := by
  refine WX.enter (tt := tt) (Γ := [(0, MF.rs .stb paTopologyLinks caTopologyLinks a.topology.links), (1, MF.rs .stb paTrustKeys caTrustKeys a.trust.keys), (2, MF.rs .stb paTrustRules caTrustRules a.trust.rules), (3, MF.rs .stb paTrustAnchors caTrustAnchors a.trust.anchors), (4, MF.rs .stb paTrustCertificates caTrustCertificates a.trust.certificates), (5, MF.rs .stb paProducers caProducers a.producers), (6, MF.rs .stb paNodes caNodes a.nodes), (7, MF.rs .stb paFailedLinks caFailedLinks a.failedLinks), (8, MF.rs .stb paInFlight caInFlight a.inFlight), (9, MF.rs .stb paConsumers caConsumers a.consumers)]) Tryz.func43 rfl (by kernel_rfl) rfl (allS_cons rfl hpaTopologyLinks (allS_cons rfl hpaTrustKeys (allS_cons rfl hpaTrustRules (allS_cons rfl hpaTrustAnchors (allS_cons rfl hpaTrustCertificates (allS_cons rfl hpaProducers (allS_cons rfl hpaNodes (allS_cons rfl hpaFailedLinks (allS_cons rfl hpaInFlight (allS_cons rfl hpaConsumers allS_nil)))))))))) ?_
  refine WX.run ttOk rfl ?_
  refine WX.callV rfl rfl rfl rfl rfl (fun _ => rfl) rfl (fun w G bs hI hΓ => f112 w n a.topology paTopologyLinks caTopologyLinks (hΓ.get 0 rfl) left ((ok_Network hoka).1) hokleft) ?_
  intro hq1
  refine WX.run ttOk rfl ?_
  refine WX.cases 10 rfl (fun h1 => ?_) (fun h1 => ?_)
  · skip
    have h1d := B.dt h1
    refine WX.run ttOk rfl ?_
    have hP1 : laws_szNetwork a left = (-1) := by simp only [laws_szNetwork, h1, cond_true, cond_false]
    refine WX.ret ttOk rfl ?_
    intro w1 G bs hI hΓ
    rw [hP1]
    exact ⟨rfl, (show I64 (-1) from (by unfold I64; omega))⟩
  · skip
    have h1d := B.df h1
    refine WX.run ttOk rfl ?_
    refine WX.callV rfl rfl rfl rfl rfl (fun _ => rfl) rfl (fun w G bs hI hΓ => f29 w n a.trust paTrustKeys caTrustKeys (hΓ.get 1 rfl) paTrustRules caTrustRules (hΓ.get 2 rfl) paTrustAnchors caTrustAnchors (hΓ.get 3 rfl) paTrustCertificates caTrustCertificates (hΓ.get 4 rfl) (laws_szTopology a.topology left) ((ok_Network hoka).2.1) hq1) ?_
    intro hq2
    refine WX.run ttOk rfl ?_
    refine WX.cases 16 rfl (fun h2 => ?_) (fun h2 => ?_)
    · skip
      have h2d := B.dt h2
      refine WX.run ttOk rfl ?_
      have hP2 : laws_szNetwork a left = (-1) := by simp only [laws_szNetwork, h1, h2, cond_true, cond_false]
      refine WX.ret ttOk rfl ?_
      intro w1 G bs hI hΓ
      rw [hP2]
      exact ⟨rfl, (show I64 (-1) from (by unfold I64; omega))⟩
    · skip
      have h2d := B.df h2
      refine WX.run ttOk rfl ?_
      refine WX.callV rfl rfl rfl rfl rfl (fun _ => rfl) rfl (fun w G bs hI hΓ => f113 w n a.producers paProducers caProducers (hΓ.get 5 rfl) (laws_szTrustPolicy a.trust (laws_szTopology a.topology left)) ((ok_Network hoka).2.2.1) hq2) ?_
      intro hq3
      refine WX.run ttOk rfl ?_
      refine WX.cases 22 rfl (fun h3 => ?_) (fun h3 => ?_)
      · skip
        have h3d := B.dt h3
        refine WX.run ttOk rfl ?_
        have hP3 : laws_szNetwork a left = (-1) := by simp only [laws_szNetwork, h1, h2, h3, cond_true, cond_false]
        refine WX.ret ttOk rfl ?_
        intro w1 G bs hI hΓ
        rw [hP3]
        exact ⟨rfl, (show I64 (-1) from (by unfold I64; omega))⟩
      · skip
        have h3d := B.df h3
        refine WX.run ttOk rfl ?_
        refine WX.callV rfl rfl rfl rfl rfl (fun _ => rfl) rfl (fun w G bs hI hΓ => f114 w n a.nodes paNodes caNodes (hΓ.get 6 rfl) (laws_szTableEntryS a.producers (laws_szTrustPolicy a.trust (laws_szTopology a.topology left))) ((ok_Network hoka).2.2.2.1) hq3) ?_
        intro hq4
        refine WX.run ttOk rfl ?_
        refine WX.cases 28 rfl (fun h4 => ?_) (fun h4 => ?_)
        · skip
          have h4d := B.dt h4
          refine WX.run ttOk rfl ?_
          have hP4 : laws_szNetwork a left = (-1) := by simp only [laws_szNetwork, h1, h2, h3, h4, cond_true, cond_false]
          refine WX.ret ttOk rfl ?_
          intro w1 G bs hI hΓ
          rw [hP4]
          exact ⟨rfl, (show I64 (-1) from (by unfold I64; omega))⟩
        · skip
          have h4d := B.df h4
          refine WX.run ttOk rfl ?_
          refine WX.callV rfl rfl rfl rfl rfl (fun _ => rfl) rfl (fun w G bs hI hΓ => f115 w n a.failedLinks paFailedLinks caFailedLinks (hΓ.get 7 rfl) (laws_szNodeS a.nodes (laws_szTableEntryS a.producers (laws_szTrustPolicy a.trust (laws_szTopology a.topology left)))) ((ok_Network hoka).2.2.2.2.2.1) hq4) ?_
          intro hq5
          refine WX.run ttOk rfl ?_
          refine WX.cases 34 rfl (fun h5 => ?_) (fun h5 => ?_)
          · skip
            have h5d := B.dt h5
            refine WX.run ttOk rfl ?_
            have hP5 : laws_szNetwork a left = (-1) := by simp only [laws_szNetwork, h1, h2, h3, h4, h5, cond_true, cond_false]
            refine WX.ret ttOk rfl ?_
            intro w1 G bs hI hΓ
            rw [hP5]
            exact ⟨rfl, (show I64 (-1) from (by unfold I64; omega))⟩
          · skip
            have h5d := B.df h5
            refine WX.run ttOk rfl ?_
            refine WX.callV rfl rfl rfl rfl rfl (fun _ => rfl) rfl (fun w G bs hI hΓ => f116 w n a.inFlight paInFlight caInFlight (hΓ.get 8 rfl) (laws_szIntS a.failedLinks (laws_szNodeS a.nodes (laws_szTableEntryS a.producers (laws_szTrustPolicy a.trust (laws_szTopology a.topology left))))) ((ok_Network hoka).2.2.2.2.2.2.1) hq5) ?_
            intro hq6
            refine WX.run ttOk rfl ?_
            refine WX.cases 40 rfl (fun h6 => ?_) (fun h6 => ?_)
            · skip
              have h6d := B.dt h6
              refine WX.run ttOk rfl ?_
              have hP6 : laws_szNetwork a left = (-1) := by simp only [laws_szNetwork, h1, h2, h3, h4, h5, h6, cond_true, cond_false]
              refine WX.ret ttOk rfl ?_
              intro w1 G bs hI hΓ
              rw [hP6]
              exact ⟨rfl, (show I64 (-1) from (by unfold I64; omega))⟩
            · skip
              have h6d := B.df h6
              refine WX.run ttOk rfl ?_
              refine WX.callV rfl rfl rfl rfl rfl (fun _ => rfl) rfl (fun w G bs hI hΓ => f117 w n a.consumers paConsumers caConsumers (hΓ.get 9 rfl) (laws_szPacketInFlightS a.inFlight (laws_szIntS a.failedLinks (laws_szNodeS a.nodes (laws_szTableEntryS a.producers (laws_szTrustPolicy a.trust (laws_szTopology a.topology left)))))) ((ok_Network hoka).2.2.2.2.2.2.2.1) hq6) ?_
              intro hq7
              refine WX.run ttOk rfl ?_
              refine WX.cases 46 rfl (fun h7 => ?_) (fun h7 => ?_)
              · skip
                have h7d := B.dt h7
                refine WX.run ttOk rfl ?_
                have hP7 : laws_szNetwork a left = (-1) := by simp only [laws_szNetwork, h1, h2, h3, h4, h5, h6, h7, cond_true, cond_false]
                refine WX.ret ttOk rfl ?_
                intro w1 G bs hI hΓ
                rw [hP7]
                exact ⟨rfl, (show I64 (-1) from (by unfold I64; omega))⟩
              · skip
                have h7d := B.df h7
                refine WX.run ttOk rfl ?_
                have hP8 : laws_szNetwork a left = (laws_szConsumerS a.consumers (laws_szPacketInFlightS a.inFlight (laws_szIntS a.failedLinks (laws_szNodeS a.nodes (laws_szTableEntryS a.producers (laws_szTrustPolicy a.trust (laws_szTopology a.topology left))))))) := by simp only [laws_szNetwork, h1, h2, h3, h4, h5, h6, h7, cond_true, cond_false]
                refine WX.ret ttOk rfl ?_
                intro w1 G bs hI hΓ
                rw [hP8]
                exact ⟨rfl, hq7⟩
end Go.Proofs.YtfffongneoegbaaGreat

namespace Go.Stp
set_option linter.unusedVariables false
set_option linter.unusedSimpArgs false
def laws_eqStringS_L1 (b : (List Str)) : List Str → Nat → Option (Bool)
  | [], i => none
  | e1 :: rest_, i =>
    match (b)[i]? with
      | none => default
      | some e2 =>
        bif (!((e1).toList == (e2).toList)) then
          (some false)
        else
          laws_eqStringS_L1 b rest_ (i + 1)
def laws_eqStringS (a : (List Str)) (b : (List Str)) : Bool :=
  bif ((((a).length : Nat) : Int) != (((b).length : Nat) : Int)) then
    false
  else
    match laws_eqStringS_L1 b a 0 with
      | some r_ => r_
      | none =>
        true
def laws_eqName (a : Name) (b : Name) : Bool :=
  bif (!(laws_eqStringS a.parts b.parts)) then
    false
  else
    true
def laws_eqTableEntry (a : TableEntry) (b : TableEntry) : Bool :=
  bif (!(laws_eqName a.name b.name)) then
    false
  else
    bif (a.value != b.value) then
      false
    else
      true
def laws_eqTableEntryS_L1 (b : (List TableEntry)) : List TableEntry → Nat → Option (Bool)
  | [], i => none
  | e1 :: rest_, i =>
    match (b)[i]? with
      | none => default
      | some e2 =>
        bif (!(laws_eqTableEntry e1 e2)) then
          (some false)
        else
          laws_eqTableEntryS_L1 b rest_ (i + 1)
def laws_eqTableEntryS (a : (List TableEntry)) (b : (List TableEntry)) : Bool :=
  bif ((((a).length : Nat) : Int) != (((b).length : Nat) : Int)) then
    false
  else
    match laws_eqTableEntryS_L1 b a 0 with
      | some r_ => r_
      | none =>
        true
def laws_eqByteS_L1 (b : (List UInt8)) : List UInt8 → Nat → Option (Bool)
  | [], i => none
  | e1 :: rest_, i =>
    match (b)[i]? with
      | none => default
      | some e2 =>
        bif (((e1).toNat : Int) != ((e2).toNat : Int)) then
          (some false)
        else
          laws_eqByteS_L1 b rest_ (i + 1)
def laws_eqByteS (a : (List UInt8)) (b : (List UInt8)) : Bool :=
  bif ((((a).length : Nat) : Int) != (((b).length : Nat) : Int)) then
    false
  else
    match laws_eqByteS_L1 b a 0 with
      | some r_ => r_
      | none =>
        true
def laws_eqData (a : DataP) (b : DataP) : Bool :=
  bif (!(laws_eqName a.name b.name)) then
    false
  else
    bif (!(laws_eqByteS a.content b.content)) then
      false
    else
      bif (!(laws_eqName a.keyName b.keyName)) then
        false
      else
        bif (a.freshUntil != b.freshUntil) then
          false
        else
          bif (a.signature != b.signature) then
            false
          else
            true
def laws_eqConsumer (a : Consumer) (b : Consumer) : Bool :=
  bif (a.node != b.node) then
    false
  else
    bif (a.index != b.index) then
      false
    else
      bif (!(laws_eqName a.name b.name)) then
        false
      else
        bif (a.attempts != b.attempts) then
          false
        else
          bif (a.wait != b.wait) then
            false
          else
            bif (!(a.satisfied == b.satisfied)) then
              false
            else
              bif (!(laws_eqData a.data b.data)) then
                false
              else
                true
def laws_eqKey (a : Key) (b : Key) : Bool :=
  bif (!(laws_eqName a.name b.name)) then
    false
  else
    bif (a.secret != b.secret) then
      false
    else
      true
def laws_eqKeyS_L1 (b : (List Key)) : List Key → Nat → Option (Bool)
  | [], i => none
  | e1 :: rest_, i =>
    match (b)[i]? with
      | none => default
      | some e2 =>
        bif (!(laws_eqKey e1 e2)) then
          (some false)
        else
          laws_eqKeyS_L1 b rest_ (i + 1)
def laws_eqKeyS (a : (List Key)) (b : (List Key)) : Bool :=
  bif ((((a).length : Nat) : Int) != (((b).length : Nat) : Int)) then
    false
  else
    match laws_eqKeyS_L1 b a 0 with
      | some r_ => r_
      | none =>
        true
def laws_eqPattern (a : Pattern) (b : Pattern) : Bool :=
  bif (!(laws_eqStringS a.parts b.parts)) then
    false
  else
    true
def laws_eqRule (a : Rule) (b : Rule) : Bool :=
  bif (!(laws_eqPattern a.dataPattern b.dataPattern)) then
    false
  else
    bif (!(laws_eqPattern a.keyPattern b.keyPattern)) then
      false
    else
      true
def laws_eqRuleS_L1 (b : (List Rule)) : List Rule → Nat → Option (Bool)
  | [], i => none
  | e1 :: rest_, i =>
    match (b)[i]? with
      | none => default
      | some e2 =>
        bif (!(laws_eqRule e1 e2)) then
          (some false)
        else
          laws_eqRuleS_L1 b rest_ (i + 1)
def laws_eqRuleS (a : (List Rule)) (b : (List Rule)) : Bool :=
  bif ((((a).length : Nat) : Int) != (((b).length : Nat) : Int)) then
    false
  else
    match laws_eqRuleS_L1 b a 0 with
      | some r_ => r_
      | none =>
        true
def laws_eqNameS_L1 (b : (List Name)) : List Name → Nat → Option (Bool)
  | [], i => none
  | e1 :: rest_, i =>
    match (b)[i]? with
      | none => default
      | some e2 =>
        bif (!(laws_eqName e1 e2)) then
          (some false)
        else
          laws_eqNameS_L1 b rest_ (i + 1)
def laws_eqNameS (a : (List Name)) (b : (List Name)) : Bool :=
  bif ((((a).length : Nat) : Int) != (((b).length : Nat) : Int)) then
    false
  else
    match laws_eqNameS_L1 b a 0 with
      | some r_ => r_
      | none =>
        true
def laws_eqDataS_L1 (b : (List DataP)) : List DataP → Nat → Option (Bool)
  | [], i => none
  | e1 :: rest_, i =>
    match (b)[i]? with
      | none => default
      | some e2 =>
        bif (!(laws_eqData e1 e2)) then
          (some false)
        else
          laws_eqDataS_L1 b rest_ (i + 1)
def laws_eqDataS (a : (List DataP)) (b : (List DataP)) : Bool :=
  bif ((((a).length : Nat) : Int) != (((b).length : Nat) : Int)) then
    false
  else
    match laws_eqDataS_L1 b a 0 with
      | some r_ => r_
      | none =>
        true
def laws_eqTrustPolicy (a : TrustPolicy) (b : TrustPolicy) : Bool :=
  bif (!(laws_eqKeyS a.keys b.keys)) then
    false
  else
    bif (!(laws_eqRuleS a.rules b.rules)) then
      false
    else
      bif (!(laws_eqNameS a.anchors b.anchors)) then
        false
      else
        bif (!(laws_eqDataS a.certificates b.certificates)) then
          false
        else
          true
def laws_eqLink (a : Link) (b : Link) : Bool :=
  bif (a.a != b.a) then
    false
  else
    bif (a.b != b.b) then
      false
    else
      true
def laws_eqLinkS_L1 (b : (List Link)) : List Link → Nat → Option (Bool)
  | [], i => none
  | e1 :: rest_, i =>
    match (b)[i]? with
      | none => default
      | some e2 =>
        bif (!(laws_eqLink e1 e2)) then
          (some false)
        else
          laws_eqLinkS_L1 b rest_ (i + 1)
def laws_eqLinkS (a : (List Link)) (b : (List Link)) : Bool :=
  bif ((((a).length : Nat) : Int) != (((b).length : Nat) : Int)) then
    false
  else
    match laws_eqLinkS_L1 b a 0 with
      | some r_ => r_
      | none =>
        true
def laws_eqTopology (a : Topology) (b : Topology) : Bool :=
  bif (a.size != b.size) then
    false
  else
    bif (!(laws_eqLinkS a.links b.links)) then
      false
    else
      true
def laws_eqCacheEntry (a : CacheEntry) (b : CacheEntry) : Bool :=
  bif (!(laws_eqData a.data b.data)) then
    false
  else
    bif (a.lastUsed != b.lastUsed) then
      false
    else
      true
def laws_eqCacheEntryS_L1 (b : (List CacheEntry)) : List CacheEntry → Nat → Option (Bool)
  | [], i => none
  | e1 :: rest_, i =>
    match (b)[i]? with
      | none => default
      | some e2 =>
        bif (!(laws_eqCacheEntry e1 e2)) then
          (some false)
        else
          laws_eqCacheEntryS_L1 b rest_ (i + 1)
def laws_eqCacheEntryS (a : (List CacheEntry)) (b : (List CacheEntry)) : Bool :=
  bif ((((a).length : Nat) : Int) != (((b).length : Nat) : Int)) then
    false
  else
    match laws_eqCacheEntryS_L1 b a 0 with
      | some r_ => r_
      | none =>
        true
def laws_eqContentStore (a : ContentStore) (b : ContentStore) : Bool :=
  bif (a.capacity != b.capacity) then
    false
  else
    bif (!(laws_eqCacheEntryS a.entries b.entries)) then
      false
    else
      true
def laws_eqRequester (a : Requester) (b : Requester) : Bool :=
  bif (a.face != b.face) then
    false
  else
    bif (a.nonce != b.nonce) then
      false
    else
      bif (a.expiry != b.expiry) then
        false
      else
        true
def laws_eqRequesterS_L1 (b : (List Requester)) : List Requester → Nat → Option (Bool)
  | [], i => none
  | e1 :: rest_, i =>
    match (b)[i]? with
      | none => default
      | some e2 =>
        bif (!(laws_eqRequester e1 e2)) then
          (some false)
        else
          laws_eqRequesterS_L1 b rest_ (i + 1)
def laws_eqRequesterS (a : (List Requester)) (b : (List Requester)) : Bool :=
  bif ((((a).length : Nat) : Int) != (((b).length : Nat) : Int)) then
    false
  else
    match laws_eqRequesterS_L1 b a 0 with
      | some r_ => r_
      | none =>
        true
def laws_eqPendingInterest (a : PendingInterest) (b : PendingInterest) : Bool :=
  bif (!(laws_eqName a.name b.name)) then
    false
  else
    bif (!(laws_eqRequesterS a.requesters b.requesters)) then
      false
    else
      bif (a.lastSent != b.lastSent) then
        false
      else
        true
def laws_eqPendingInterestS_L1 (b : (List PendingInterest)) : List PendingInterest → Nat → Option (Bool)
  | [], i => none
  | e1 :: rest_, i =>
    match (b)[i]? with
      | none => default
      | some e2 =>
        bif (!(laws_eqPendingInterest e1 e2)) then
          (some false)
        else
          laws_eqPendingInterestS_L1 b rest_ (i + 1)
def laws_eqPendingInterestS (a : (List PendingInterest)) (b : (List PendingInterest)) : Bool :=
  bif ((((a).length : Nat) : Int) != (((b).length : Nat) : Int)) then
    false
  else
    match laws_eqPendingInterestS_L1 b a 0 with
      | some r_ => r_
      | none =>
        true
def laws_eqSeenNonce (a : SeenNonce) (b : SeenNonce) : Bool :=
  bif (!(laws_eqName a.name b.name)) then
    false
  else
    bif (a.nonce != b.nonce) then
      false
    else
      true
def laws_eqSeenNonceS_L1 (b : (List SeenNonce)) : List SeenNonce → Nat → Option (Bool)
  | [], i => none
  | e1 :: rest_, i =>
    match (b)[i]? with
      | none => default
      | some e2 =>
        bif (!(laws_eqSeenNonce e1 e2)) then
          (some false)
        else
          laws_eqSeenNonceS_L1 b rest_ (i + 1)
def laws_eqSeenNonceS (a : (List SeenNonce)) (b : (List SeenNonce)) : Bool :=
  bif ((((a).length : Nat) : Int) != (((b).length : Nat) : Int)) then
    false
  else
    match laws_eqSeenNonceS_L1 b a 0 with
      | some r_ => r_
      | none =>
        true
def laws_eqRoute (a : Route) (b : Route) : Bool :=
  bif (!(laws_eqName a.pfx b.pfx)) then
    false
  else
    bif (a.face != b.face) then
      false
    else
      bif (a.cost != b.cost) then
        false
      else
        true
def laws_eqRouteS_L1 (b : (List Route)) : List Route → Nat → Option (Bool)
  | [], i => none
  | e1 :: rest_, i =>
    match (b)[i]? with
      | none => default
      | some e2 =>
        bif (!(laws_eqRoute e1 e2)) then
          (some false)
        else
          laws_eqRouteS_L1 b rest_ (i + 1)
def laws_eqRouteS (a : (List Route)) (b : (List Route)) : Bool :=
  bif ((((a).length : Nat) : Int) != (((b).length : Nat) : Int)) then
    false
  else
    match laws_eqRouteS_L1 b a 0 with
      | some r_ => r_
      | none =>
        true
def laws_eqMeasurement (a : Measurement) (b : Measurement) : Bool :=
  bif (!(laws_eqName a.pfx b.pfx)) then
    false
  else
    bif (a.face != b.face) then
      false
    else
      bif (a.failures != b.failures) then
        false
      else
        true
def laws_eqMeasurementS_L1 (b : (List Measurement)) : List Measurement → Nat → Option (Bool)
  | [], i => none
  | e1 :: rest_, i =>
    match (b)[i]? with
      | none => default
      | some e2 =>
        bif (!(laws_eqMeasurement e1 e2)) then
          (some false)
        else
          laws_eqMeasurementS_L1 b rest_ (i + 1)
def laws_eqMeasurementS (a : (List Measurement)) (b : (List Measurement)) : Bool :=
  bif ((((a).length : Nat) : Int) != (((b).length : Nat) : Int)) then
    false
  else
    match laws_eqMeasurementS_L1 b a 0 with
      | some r_ => r_
      | none =>
        true
def laws_eqNode (a : NodeP) (b : NodeP) : Bool :=
  bif (!(laws_eqDataS a.locl b.locl)) then
    false
  else
    bif (!(laws_eqContentStore a.cache b.cache)) then
      false
    else
      bif (!(laws_eqPendingInterestS a.pending b.pending)) then
        false
      else
        bif (!(laws_eqSeenNonceS a.seen b.seen)) then
          false
        else
          bif (!(laws_eqRouteS a.routes b.routes)) then
            false
          else
            bif (!(laws_eqMeasurementS a.measurements b.measurements)) then
              false
            else
              bif (a.dropped != b.dropped) then
                false
              else
                true
def laws_eqNodeS_L1 (b : (List NodeP)) : List NodeP → Nat → Option (Bool)
  | [], i => none
  | e1 :: rest_, i =>
    match (b)[i]? with
      | none => default
      | some e2 =>
        bif (!(laws_eqNode e1 e2)) then
          (some false)
        else
          laws_eqNodeS_L1 b rest_ (i + 1)
def laws_eqNodeS (a : (List NodeP)) (b : (List NodeP)) : Bool :=
  bif ((((a).length : Nat) : Int) != (((b).length : Nat) : Int)) then
    false
  else
    match laws_eqNodeS_L1 b a 0 with
      | some r_ => r_
      | none =>
        true
def laws_eqIntS_L1 (b : (List Int)) : List Int → Nat → Option (Bool)
  | [], i => none
  | e1 :: rest_, i =>
    match (b)[i]? with
      | none => default
      | some e2 =>
        bif (e1 != e2) then
          (some false)
        else
          laws_eqIntS_L1 b rest_ (i + 1)
def laws_eqIntS (a : (List Int)) (b : (List Int)) : Bool :=
  bif ((((a).length : Nat) : Int) != (((b).length : Nat) : Int)) then
    false
  else
    match laws_eqIntS_L1 b a 0 with
      | some r_ => r_
      | none =>
        true
def laws_eqInterest (a : Interest) (b : Interest) : Bool :=
  bif (!(laws_eqName a.name b.name)) then
    false
  else
    bif (a.nonce != b.nonce) then
      false
    else
      bif (a.hopLimit != b.hopLimit) then
        false
      else
        bif (a.lifetime != b.lifetime) then
          false
        else
          true
def laws_eqPacketInFlight (a : PacketInFlight) (b : PacketInFlight) : Bool :=
  bif (a.to != b.to) then
    false
  else
    bif (a.face != b.face) then
      false
    else
      bif (!(a.isInterest == b.isInterest)) then
        false
      else
        bif (!(laws_eqInterest a.interest b.interest)) then
          false
        else
          bif (!(laws_eqData a.data b.data)) then
            false
          else
            true
def laws_eqPacketInFlightS_L1 (b : (List PacketInFlight)) : List PacketInFlight → Nat → Option (Bool)
  | [], i => none
  | e1 :: rest_, i =>
    match (b)[i]? with
      | none => default
      | some e2 =>
        bif (!(laws_eqPacketInFlight e1 e2)) then
          (some false)
        else
          laws_eqPacketInFlightS_L1 b rest_ (i + 1)
def laws_eqPacketInFlightS (a : (List PacketInFlight)) (b : (List PacketInFlight)) : Bool :=
  bif ((((a).length : Nat) : Int) != (((b).length : Nat) : Int)) then
    false
  else
    match laws_eqPacketInFlightS_L1 b a 0 with
      | some r_ => r_
      | none =>
        true
def laws_eqConsumerS_L1 (b : (List Consumer)) : List Consumer → Nat → Option (Bool)
  | [], i => none
  | e1 :: rest_, i =>
    match (b)[i]? with
      | none => default
      | some e2 =>
        bif (!(laws_eqConsumer e1 e2)) then
          (some false)
        else
          laws_eqConsumerS_L1 b rest_ (i + 1)
def laws_eqConsumerS (a : (List Consumer)) (b : (List Consumer)) : Bool :=
  bif ((((a).length : Nat) : Int) != (((b).length : Nat) : Int)) then
    false
  else
    match laws_eqConsumerS_L1 b a 0 with
      | some r_ => r_
      | none =>
        true
def laws_eqNetwork (a : Network) (b : Network) : Bool :=
  bif (!(laws_eqTopology a.topology b.topology)) then
    false
  else
    bif (!(laws_eqTrustPolicy a.trust b.trust)) then
      false
    else
      bif (!(laws_eqTableEntryS a.producers b.producers)) then
        false
      else
        bif (!(laws_eqNodeS a.nodes b.nodes)) then
          false
        else
          bif (a.downNodes != b.downNodes) then
            false
          else
            bif (!(laws_eqIntS a.failedLinks b.failedLinks)) then
              false
            else
              bif (!(laws_eqPacketInFlightS a.inFlight b.inFlight)) then
                false
              else
                bif (!(laws_eqConsumerS a.consumers b.consumers)) then
                  false
                else
                  bif (a.now != b.now) then
                    false
                  else
                    bif (a.dropped != b.dropped) then
                      false
                    else
                      true
end Go.Stp

