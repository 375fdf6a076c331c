/-
  That functions of the program compute what the Lean functions do. No condition but what each says. Written by a program (gen2.py).
-/
import Derived.Test.YtdkhklhnipiheaaC2
import Derived.Test.YtdkhklhnipiheaaP3
namespace Go.Proofs.Ytdkhklhnipiheaa
open Go.Stp
set_option linter.unusedVariables false
set_option linter.unusedSimpArgs false
theorem f62 (w : World) (n : Nat) (a : (List Str)) (pa : Option Addr) (ca : Nat) (hpa : RdSl (hp w) pa ca a) (left : Int) (hoka : GoT.ok n a) (hokleft : GoT.ok n left) :
    Does Try.prog 62 #[.slice pa ((a).length) ca, .int .i64 (left)] w emp (fun (rv : Value) (_ : World) => rv = .int .i64 ((laws_szStringS a left)) ∧ GoT.ok n ((laws_szStringS a left) : Int)) := by
  refine WX.enter (tt := tt) (Γ := [(0, MF.rs .stb pa ca a)]) Try.func62 rfl (by kernel_rfl) rfl (allS_cons rfl hpa allS_nil) ?_
  refine WX.run ttOk rfl ?_
  refine WX.see rfl rfl rfl (fun _ hΓ => looks_wrap rfl rfl rfl rfl) ?_
  refine WX.run ttOk rfl ?_
  refine WX.cases 11 rfl (fun h1 => ?_) (fun h1 => ?_)
  · skip
    have h1d := B.dt h1
    refine WX.run ttOk rfl ?_
    have hP1 : laws_szStringS a left = (-1) := by simp only [laws_szStringS, h1, cond_true, cond_false]
    refine WX.ret ttOk rfl ?_
    intro w1 G bs hI hΓ
    rw [hP1]
    exact ⟨rfl, (show I64 (-1) from (by unfold I64; omega))⟩
  · skip
    have h1d := B.df h1
    refine WX.run ttOk rfl ?_
    have r1 : (a).length ≤ bd n := (okl hoka).1
    have r2 : (a).length ≤ 9223372036854775807 := hpa.2.1
    refine WX.loop (ι := Int × Nat) ⟨fun | (left2, i) => (i ≤ (a).length) ∧ (-9223372036854775808 ≤ left2 ∧ left2 ≤ 9223372036854775807) ∧ (laws_szStringS_L1 a (IntKind.i64.wrap (left - (((a).length : Nat) : Int))) = laws_szStringS_L1 ((a).drop i) left2), fun | (left2, i) => (a).length - i, fun | (left2, i) => [(1, .v (.int .i64 (left2))), (5, .v (.int .i64 (((i : Nat) : Int)))), (0, .v (.slice pa ((a).length) ca))], fun | (left2, i) => [], fun | (left2, i) => [], fun | (left2, i) => [(0, MF.rs .stb pa ca a)]⟩ (IntKind.i64.wrap (left - (((a).length : Nat) : Int)), 0) ⟨(Nat.zero_le _), (i64_wrap _), rfl⟩
      (.cons rfl (.cons rfl (.cons rfl (.nil)))) .nil .nil [0] rfl ?_
    rintro ⟨left2, i⟩ hpre
    have hpre_ : (i ≤ (a).length) ∧ (-9223372036854775808 ≤ left2 ∧ left2 ≤ 9223372036854775807) ∧ (laws_szStringS_L1 a (IntKind.i64.wrap (left - (((a).length : Nat) : Int))) = laws_szStringS_L1 ((a).drop i) left2) := hpre
    clear hpre
    obtain ⟨v1, v2, v3⟩ := hpre_
    refine WX.run ttOk rfl ?_
    refine WX.cases 15 rfl (fun h2 => ?_) (fun h2 => ?_)
    · skip
      have h2d := B.dt h2
      have e1i : i < (a).length := (by omega)
      obtain ⟨e1, e1h⟩ : ∃ e1, (a)[i]? = some e1 := ⟨_, List.getElem?_eq_getElem e1i⟩
      have ok1 : GoT.ok n e1 := (okl hoka).2 _ (List.mem_of_getElem? e1h)
      refine WX.run ttOk rfl ?_
      refine WX.idx 0 i ttOk rfl rfl rfl rfl rfl rfl rfl rfl rfl rfl e1i ?_
      rintro ad1 rfl
      refine WX.ldE 0 1 e1 ttOk rfl rfl rfl rfl rfl rfl rfl rfl e1h (fun _ => rfl) (fun _ => rfl) ?_
      rintro ⟨⟩
      refine WX.run ttOk rfl ?_
      refine WX.see rfl rfl rfl (fun _ hΓ => looks_wrap rfl rfl rfl rfl) ?_
      refine WX.run ttOk rfl ?_
      refine WX.cases 26 rfl (fun h3 => ?_) (fun h3 => ?_)
      · skip
        have h3d := B.dt h3
        refine WX.run ttOk rfl ?_
        have hP2 : laws_szStringS_L1 a (IntKind.i64.wrap (left - (((a).length : Nat) : Int))) = (Ctl.ret (-1)) := by rw [v3, drop_get e1h]; simp only [laws_szStringS_L1, h3, cond_true, cond_false]
        have hP3 : laws_szStringS a left = (-1) := by simp only [laws_szStringS, h1, hP2, cond_true, cond_false]
        refine WX.ret ttOk rfl ?_
        intro w1 G bs hI hΓ
        rw [hP3]
        exact ⟨rfl, (show I64 (-1) from (by unfold I64; omega))⟩
      · skip
        have h3d := B.df h3
        refine WX.run ttOk rfl ?_
        refine WX.see rfl rfl rfl (fun _ hΓ => looks_arith rfl rfl rfl rfl (by unfold I64; omega)) ?_
        refine WX.run ttOk rfl ?_
        exact WX.iter (IntKind.i64.wrap (left2 - (((e1).size : Nat) : Int)), i + 1) ⟨(by omega), (i64_wrap _), (by rw [v3, drop_get e1h]; simp only [laws_szStringS_L1, h3, cond_true, cond_false])⟩ (by dsimp only; omega) (.cons rfl (.cons rfl (.cons rfl (.nil)))) .nil .nil [0] rfl
    · skip
      have h2d := B.df h2
      refine WX.run ttOk rfl ?_
      have hX1 : laws_szStringS_L1 a (IntKind.i64.wrap (left - (((a).length : Nat) : Int))) = (Ctl.nxt left2) := by rw [v3, List.drop_eq_nil_of_le (show (a).length ≤ i by omega)]; simp only [laws_szStringS_L1, cond_true, cond_false]
      have hP4 : laws_szStringS a left = left2 := by simp only [laws_szStringS, h1, hX1, cond_true, cond_false]
      refine WX.ret ttOk rfl ?_
      intro w1 G bs hI hΓ
      rw [hP4]
      exact ⟨rfl, v2⟩
theorem f28 (w : World) (n : Nat) (a : Name) (pa : Option Addr) (ca : Nat) (hpa : RdSl (hp w) pa ca a.parts) (left : Int) (hoka : GoT.ok n a) (hokleft : GoT.ok n left) :
    Does Try.prog 28 #[.agg #[.slice pa ((a.parts).length) ca], .int .i64 (left)] w emp (fun (rv : Value) (_ : World) => rv = .int .i64 ((laws_szName a left)) ∧ GoT.ok n ((laws_szName a left) : Int)) := by
  refine WX.enter (tt := tt) (Γ := [(0, MF.rs .stb pa ca a.parts)]) Try.func28 rfl (by kernel_rfl) rfl (allS_cons rfl hpa allS_nil) ?_
  refine WX.run ttOk rfl ?_
  refine WX.callV rfl rfl rfl rfl rfl (fun _ => rfl) rfl (fun w G bs hI hΓ => f62 w n a.parts pa ca (hΓ.get 0 rfl) left (ok_Name hoka) hokleft) ?_
  intro hq1
  refine WX.run ttOk rfl ?_
  refine WX.cases 10 rfl (fun h1 => ?_) (fun h1 => ?_)
  · skip
    have h1d := B.dt h1
    refine WX.run ttOk rfl ?_
    have hP1 : laws_szName a left = (-1) := by simp only [laws_szName, h1, cond_true, cond_false]
    refine WX.ret ttOk rfl ?_
    intro w1 G bs hI hΓ
    rw [hP1]
    exact ⟨rfl, (show I64 (-1) from (by unfold I64; omega))⟩
  · skip
    have h1d := B.df h1
    refine WX.run ttOk rfl ?_
    have hP2 : laws_szName a left = (laws_szStringS a.parts left) := by simp only [laws_szName, h1, cond_true, cond_false]
    refine WX.ret ttOk rfl ?_
    intro w1 G bs hI hΓ
    rw [hP2]
    exact ⟨rfl, hq1⟩
theorem f77 (w : World) (n : Nat) (a : TableEntry) (paName : Option Addr) (caName : Nat) (hpaName : RdSl (hp w) paName caName a.name.parts) (left : Int) (hoka : GoT.ok n a) (hokleft : GoT.ok n left) :
    Does Try.prog 77 #[.agg #[.slice paName ((a.name.parts).length) caName, .int .i64 (a.value)], .int .i64 (left)] w emp (fun (rv : Value) (_ : World) => rv = .int .i64 ((laws_szTableEntry a left)) ∧ GoT.ok n ((laws_szTableEntry a left) : Int)) := by
  refine WX.enter (tt := tt) (Γ := [(0, MF.rs .stb paName caName a.name.parts)]) Try.func77 rfl (by kernel_rfl) rfl (allS_cons rfl hpaName allS_nil) ?_
  refine WX.run ttOk rfl ?_
  refine WX.callV rfl rfl rfl rfl rfl (fun _ => rfl) rfl (fun w G bs hI hΓ => f28 w n a.name paName caName (hΓ.get 0 rfl) left ((ok_TableEntry hoka).1) hokleft) ?_
  intro hq1
  refine WX.run ttOk rfl ?_
  refine WX.cases 10 rfl (fun h1 => ?_) (fun h1 => ?_)
  · skip
    have h1d := B.dt h1
    refine WX.run ttOk rfl ?_
    have hP1 : laws_szTableEntry a left = (-1) := by simp only [laws_szTableEntry, h1, cond_true, cond_false]
    refine WX.ret ttOk rfl ?_
    intro w1 G bs hI hΓ
    rw [hP1]
    exact ⟨rfl, (show I64 (-1) from (by unfold I64; omega))⟩
  · skip
    have h1d := B.df h1
    refine WX.run ttOk rfl ?_
    have hP2 : laws_szTableEntry a left = (laws_szName a.name left) := by simp only [laws_szTableEntry, h1, cond_true, cond_false]
    refine WX.ret ttOk rfl ?_
    intro w1 G bs hI hΓ
    rw [hP2]
    exact ⟨rfl, hq1⟩
theorem f40 (w : World) (n : Nat) (a : (List TableEntry)) (pa : Option Addr) (ca : Nat) (hpa : RdSl (hp w) pa ca a) (left : Int) (hoka : GoT.ok n a) (hokleft : GoT.ok n left) :
    Does Try.prog 40 #[.slice pa ((a).length) ca, .int .i64 (left)] w emp (fun (rv : Value) (_ : World) => rv = .int .i64 ((laws_szTableEntryS a left)) ∧ GoT.ok n ((laws_szTableEntryS a left) : Int)) := by
  refine WX.enter (tt := tt) (Γ := [(0, MF.rs .stb pa ca a)]) Try.func40 rfl (by kernel_rfl) rfl (allS_cons rfl hpa allS_nil) ?_
  refine WX.run ttOk rfl ?_
  refine WX.see rfl rfl rfl (fun _ hΓ => looks_wrap rfl rfl rfl rfl) ?_
  refine WX.run ttOk rfl ?_
  refine WX.cases 11 rfl (fun h1 => ?_) (fun h1 => ?_)
  · skip
    have h1d := B.dt h1
    refine WX.run ttOk rfl ?_
    have hP1 : laws_szTableEntryS a left = (-1) := by simp only [laws_szTableEntryS, h1, cond_true, cond_false]
    refine WX.ret ttOk rfl ?_
    intro w1 G bs hI hΓ
    rw [hP1]
    exact ⟨rfl, (show I64 (-1) from (by unfold I64; omega))⟩
  · skip
    have h1d := B.df h1
    refine WX.run ttOk rfl ?_
    have r1 : (a).length ≤ bd n := (okl hoka).1
    have r2 : (a).length ≤ 9223372036854775807 := hpa.2.1
    refine WX.loop (ι := Int × Nat) ⟨fun | (left2, i) => (i ≤ (a).length) ∧ (-9223372036854775808 ≤ left2 ∧ left2 ≤ 9223372036854775807) ∧ (laws_szTableEntryS_L1 a (IntKind.i64.wrap (left - (((a).length : Nat) : Int))) = laws_szTableEntryS_L1 ((a).drop i) left2), fun | (left2, i) => (a).length - i, fun | (left2, i) => [(1, .v (.int .i64 (left2))), (5, .v (.int .i64 (((i : Nat) : Int)))), (0, .v (.slice pa ((a).length) ca))], fun | (left2, i) => [], fun | (left2, i) => [], fun | (left2, i) => [(0, MF.rs .stb pa ca a)]⟩ (IntKind.i64.wrap (left - (((a).length : Nat) : Int)), 0) ⟨(Nat.zero_le _), (i64_wrap _), rfl⟩
      (.cons rfl (.cons rfl (.cons rfl (.nil)))) .nil .nil [0] rfl ?_
    rintro ⟨left2, i⟩ hpre
    have hpre_ : (i ≤ (a).length) ∧ (-9223372036854775808 ≤ left2 ∧ left2 ≤ 9223372036854775807) ∧ (laws_szTableEntryS_L1 a (IntKind.i64.wrap (left - (((a).length : Nat) : Int))) = laws_szTableEntryS_L1 ((a).drop i) left2) := hpre
    clear hpre
    obtain ⟨v1, v2, v3⟩ := hpre_
    refine WX.run ttOk rfl ?_
    refine WX.cases 15 rfl (fun h2 => ?_) (fun h2 => ?_)
    · skip
      have h2d := B.dt h2
      have e1i : i < (a).length := (by omega)
      obtain ⟨e1, e1h⟩ : ∃ e1, (a)[i]? = some e1 := ⟨_, List.getElem?_eq_getElem e1i⟩
      have ok1 : GoT.ok n e1 := (okl hoka).2 _ (List.mem_of_getElem? e1h)
      refine WX.run ttOk rfl ?_
      refine WX.idx 0 i ttOk rfl rfl rfl rfl rfl rfl rfl rfl rfl rfl e1i ?_
      rintro ad1 rfl
      refine WX.ldE 0 1 e1 ttOk rfl rfl rfl rfl rfl rfl rfl rfl e1h (fun _ => rfl) (fun _ => rfl) ?_
      rintro ⟨⟨p1, c1⟩, ⟨⟩⟩
      refine WX.run ttOk rfl ?_
      refine WX.callV rfl rfl rfl rfl rfl (fun _ => rfl) rfl (fun w G bs hI hΓ => f77 w n e1 p1 c1 (hΓ.get 1 rfl) left2 ok1 v2) ?_
      intro hq1
      refine WX.run ttOk rfl ?_
      refine WX.cases 25 rfl (fun h3 => ?_) (fun h3 => ?_)
      · skip
        have h3d := B.dt h3
        refine WX.run ttOk rfl ?_
        have hP2 : laws_szTableEntryS_L1 a (IntKind.i64.wrap (left - (((a).length : Nat) : Int))) = (Ctl.ret (-1)) := by rw [v3, drop_get e1h]; simp only [laws_szTableEntryS_L1, h3, cond_true, cond_false]
        have hP3 : laws_szTableEntryS a left = (-1) := by simp only [laws_szTableEntryS, h1, hP2, cond_true, cond_false]
        refine WX.ret ttOk rfl ?_
        intro w1 G bs hI hΓ
        rw [hP3]
        exact ⟨rfl, (show I64 (-1) from (by unfold I64; omega))⟩
      · skip
        have h3d := B.df h3
        refine WX.run ttOk rfl ?_
        refine WX.see rfl rfl rfl (fun _ hΓ => looks_arith rfl rfl rfl rfl (by unfold I64; omega)) ?_
        refine WX.run ttOk rfl ?_
        exact WX.iter ((laws_szTableEntry e1 left2), i + 1) ⟨(by omega), hq1, (by rw [v3, drop_get e1h]; simp only [laws_szTableEntryS_L1, h3, cond_true, cond_false])⟩ (by dsimp only; omega) (.cons rfl (.cons rfl (.cons rfl (.nil)))) .nil .nil [0] rfl
    · skip
      have h2d := B.df h2
      refine WX.run ttOk rfl ?_
      have hX1 : laws_szTableEntryS_L1 a (IntKind.i64.wrap (left - (((a).length : Nat) : Int))) = (Ctl.nxt left2) := by rw [v3, List.drop_eq_nil_of_le (show (a).length ≤ i by omega)]; simp only [laws_szTableEntryS_L1, cond_true, cond_false]
      have hP4 : laws_szTableEntryS a left = left2 := by simp only [laws_szTableEntryS, h1, hX1, cond_true, cond_false]
      refine WX.ret ttOk rfl ?_
      intro w1 G bs hI hΓ
      rw [hP4]
      exact ⟨rfl, v2⟩
theorem f12 (w : World) (n : Nat) (a : StateVector) (pa : Option Addr) (ca : Nat) (hpa : RdSl (hp w) pa ca a.entries) (left : Int) (hoka : GoT.ok n a) (hokleft : GoT.ok n left) :
    Does Try.prog 12 #[.agg #[.slice pa ((a.entries).length) ca], .int .i64 (left)] w emp (fun (rv : Value) (_ : World) => rv = .int .i64 ((laws_szStateVector a left)) ∧ GoT.ok n ((laws_szStateVector a left) : Int)) := by
  refine WX.enter (tt := tt) (Γ := [(0, MF.rs .stb pa ca a.entries)]) Try.func12 rfl (by kernel_rfl) rfl (allS_cons rfl hpa allS_nil) ?_
  refine WX.run ttOk rfl ?_
  refine WX.callV rfl rfl rfl rfl rfl (fun _ => rfl) rfl (fun w G bs hI hΓ => f40 w n a.entries pa ca (hΓ.get 0 rfl) left (ok_StateVector hoka) hokleft) ?_
  intro hq1
  refine WX.run ttOk rfl ?_
  refine WX.cases 10 rfl (fun h1 => ?_) (fun h1 => ?_)
  · skip
    have h1d := B.dt h1
    refine WX.run ttOk rfl ?_
    have hP1 : laws_szStateVector a left = (-1) := by simp only [laws_szStateVector, h1, cond_true, cond_false]
    refine WX.ret ttOk rfl ?_
    intro w1 G bs hI hΓ
    rw [hP1]
    exact ⟨rfl, (show I64 (-1) from (by unfold I64; omega))⟩
  · skip
    have h1d := B.df h1
    refine WX.run ttOk rfl ?_
    have hP2 : laws_szStateVector a left = (laws_szTableEntryS a.entries left) := by simp only [laws_szStateVector, h1, cond_true, cond_false]
    refine WX.ret ttOk rfl ?_
    intro w1 G bs hI hΓ
    rw [hP2]
    exact ⟨rfl, hq1⟩
theorem f162 (w : World) (n : Nat) (a : (List UInt8)) (pa : Option Addr) (ca : Nat) (hpa : RdSl (hp w) pa ca a) (left : Int) (hoka : GoT.ok n a) (hokleft : GoT.ok n left) :
    Does Try.prog 162 #[.slice pa ((a).length) ca, .int .i64 (left)] w emp (fun (rv : Value) (_ : World) => rv = .int .i64 ((laws_szByteS a left)) ∧ GoT.ok n ((laws_szByteS a left) : Int)) := by
  refine WX.enter (tt := tt) (Γ := [(0, MF.rs .stb pa ca a)]) Try.func162 rfl (by kernel_rfl) rfl (allS_cons rfl hpa allS_nil) ?_
  refine WX.run ttOk rfl ?_
  refine WX.see rfl rfl rfl (fun _ hΓ => looks_wrap rfl rfl rfl rfl) ?_
  refine WX.run ttOk rfl ?_
  refine WX.cases 10 rfl (fun h1 => ?_) (fun h1 => ?_)
  · skip
    have h1d := B.dt h1
    refine WX.run ttOk rfl ?_
    have hP1 : laws_szByteS a left = (-1) := by simp only [laws_szByteS, h1, cond_true, cond_false]
    refine WX.ret ttOk rfl ?_
    intro w1 G bs hI hΓ
    rw [hP1]
    exact ⟨rfl, (show I64 (-1) from (by unfold I64; omega))⟩
  · skip
    have h1d := B.df h1
    refine WX.run ttOk rfl ?_
    have hP2 : laws_szByteS a left = (IntKind.i64.wrap (left - (((a).length : Nat) : Int))) := by simp only [laws_szByteS, h1, cond_true, cond_false]
    refine WX.ret ttOk rfl ?_
    intro w1 G bs hI hΓ
    rw [hP2]
    exact ⟨rfl, (i64_wrap _)⟩
theorem f151 (w : World) (n : Nat) (a : DataP) (paName : Option Addr) (caName : Nat) (hpaName : RdSl (hp w) paName caName a.name.parts) (paContent : Option Addr) (caContent : Nat) (hpaContent : RdSl (hp w) paContent caContent a.content) (paKeyName : Option Addr) (caKeyName : Nat) (hpaKeyName : RdSl (hp w) paKeyName caKeyName a.keyName.parts) (left : Int) (hoka : GoT.ok n a) (hokleft : GoT.ok n left) :
    Does Try.prog 151 #[.agg #[.slice paName ((a.name.parts).length) caName, .slice paContent ((a.content).length) caContent, .slice paKeyName ((a.keyName.parts).length) caKeyName, .int .i64 (a.freshUntil), .int .i64 (a.signature)], .int .i64 (left)] w emp (fun (rv : Value) (_ : World) => rv = .int .i64 ((laws_szData a left)) ∧ GoT.ok n ((laws_szData a left) : Int)) := by
  refine WX.enter (tt := tt) (Γ := [(0, MF.rs .stb paName caName a.name.parts), (1, MF.rs .stb paContent caContent a.content), (2, MF.rs .stb paKeyName caKeyName a.keyName.parts)]) Try.func151 rfl (by kernel_rfl) rfl (allS_cons rfl hpaName (allS_cons rfl hpaContent (allS_cons rfl hpaKeyName allS_nil))) ?_
  refine WX.run ttOk rfl ?_
  refine WX.callV rfl rfl rfl rfl rfl (fun _ => rfl) rfl (fun w G bs hI hΓ => f28 w n a.name paName caName (hΓ.get 0 rfl) left ((ok_DataP hoka).1) hokleft) ?_
  intro hq1
  refine WX.run ttOk rfl ?_
  refine WX.cases 10 rfl (fun h1 => ?_) (fun h1 => ?_)
  · skip
    have h1d := B.dt h1
    refine WX.run ttOk rfl ?_
    have hP1 : laws_szData a left = (-1) := by simp only [laws_szData, h1, cond_true, cond_false]
    refine WX.ret ttOk rfl ?_
    intro w1 G bs hI hΓ
    rw [hP1]
    exact ⟨rfl, (show I64 (-1) from (by unfold I64; omega))⟩
  · skip
    have h1d := B.df h1
    refine WX.run ttOk rfl ?_
    refine WX.callV rfl rfl rfl rfl rfl (fun _ => rfl) rfl (fun w G bs hI hΓ => f162 w n a.content paContent caContent (hΓ.get 1 rfl) (laws_szName a.name left) ((ok_DataP hoka).2.1) hq1) ?_
    intro hq2
    refine WX.run ttOk rfl ?_
    refine WX.cases 16 rfl (fun h2 => ?_) (fun h2 => ?_)
    · skip
      have h2d := B.dt h2
      refine WX.run ttOk rfl ?_
      have hP2 : laws_szData a left = (-1) := by simp only [laws_szData, h1, h2, cond_true, cond_false]
      refine WX.ret ttOk rfl ?_
      intro w1 G bs hI hΓ
      rw [hP2]
      exact ⟨rfl, (show I64 (-1) from (by unfold I64; omega))⟩
    · skip
      have h2d := B.df h2
      refine WX.run ttOk rfl ?_
      refine WX.callV rfl rfl rfl rfl rfl (fun _ => rfl) rfl (fun w G bs hI hΓ => f28 w n a.keyName paKeyName caKeyName (hΓ.get 2 rfl) (laws_szByteS a.content (laws_szName a.name left)) ((ok_DataP hoka).2.2.1) hq2) ?_
      intro hq3
      refine WX.run ttOk rfl ?_
      refine WX.cases 22 rfl (fun h3 => ?_) (fun h3 => ?_)
      · skip
        have h3d := B.dt h3
        refine WX.run ttOk rfl ?_
        have hP3 : laws_szData a left = (-1) := by simp only [laws_szData, h1, h2, h3, cond_true, cond_false]
        refine WX.ret ttOk rfl ?_
        intro w1 G bs hI hΓ
        rw [hP3]
        exact ⟨rfl, (show I64 (-1) from (by unfold I64; omega))⟩
      · skip
        have h3d := B.df h3
        refine WX.run ttOk rfl ?_
        have hP4 : laws_szData a left = (laws_szName a.keyName (laws_szByteS a.content (laws_szName a.name left))) := by simp only [laws_szData, h1, h2, h3, cond_true, cond_false]
        refine WX.ret ttOk rfl ?_
        intro w1 G bs hI hΓ
        rw [hP4]
        exact ⟨rfl, hq3⟩
theorem f136 (w : World) (n : Nat) (a : Record) (paDataName : Option Addr) (caDataName : Nat) (hpaDataName : RdSl (hp w) paDataName caDataName a.data.name.parts) (paDataContent : Option Addr) (caDataContent : Nat) (hpaDataContent : RdSl (hp w) paDataContent caDataContent a.data.content) (paDataKeyName : Option Addr) (caDataKeyName : Nat) (hpaDataKeyName : RdSl (hp w) paDataKeyName caDataKeyName a.data.keyName.parts) (left : Int) (hoka : GoT.ok n a) (hokleft : GoT.ok n left) :
    Does Try.prog 136 #[.agg #[.int .i64 (a.kind), .slice paDataName ((a.data.name.parts).length) caDataName, .slice paDataContent ((a.data.content).length) caDataContent, .slice paDataKeyName ((a.data.keyName.parts).length) caDataKeyName, .int .i64 (a.data.freshUntil), .int .i64 (a.data.signature)], .int .i64 (left)] w emp (fun (rv : Value) (_ : World) => rv = .int .i64 ((laws_szRecord a left)) ∧ GoT.ok n ((laws_szRecord a left) : Int)) := by
  refine WX.enter (tt := tt) (Γ := [(0, MF.rs .stb paDataName caDataName a.data.name.parts), (1, MF.rs .stb paDataContent caDataContent a.data.content), (2, MF.rs .stb paDataKeyName caDataKeyName a.data.keyName.parts)]) Try.func136 rfl (by kernel_rfl) rfl (allS_cons rfl hpaDataName (allS_cons rfl hpaDataContent (allS_cons rfl hpaDataKeyName allS_nil))) ?_
  refine WX.run ttOk rfl ?_
  refine WX.callV rfl rfl rfl rfl rfl (fun _ => rfl) rfl (fun w G bs hI hΓ => f151 w n a.data paDataName caDataName (hΓ.get 0 rfl) paDataContent caDataContent (hΓ.get 1 rfl) paDataKeyName caDataKeyName (hΓ.get 2 rfl) left ((ok_Record hoka).2) hokleft) ?_
  intro hq1
  refine WX.run ttOk rfl ?_
  refine WX.cases 10 rfl (fun h1 => ?_) (fun h1 => ?_)
  · skip
    have h1d := B.dt h1
    refine WX.run ttOk rfl ?_
    have hP1 : laws_szRecord a left = (-1) := by simp only [laws_szRecord, h1, cond_true, cond_false]
    refine WX.ret ttOk rfl ?_
    intro w1 G bs hI hΓ
    rw [hP1]
    exact ⟨rfl, (show I64 (-1) from (by unfold I64; omega))⟩
  · skip
    have h1d := B.df h1
    refine WX.run ttOk rfl ?_
    have hP2 : laws_szRecord a left = (laws_szData a.data left) := by simp only [laws_szRecord, h1, cond_true, cond_false]
    refine WX.ret ttOk rfl ?_
    intro w1 G bs hI hΓ
    rw [hP2]
    exact ⟨rfl, hq1⟩
theorem f107 (w : World) (n : Nat) (a : (List Record)) (pa : Option Addr) (ca : Nat) (hpa : RdSl (hp w) pa ca a) (left : Int) (hoka : GoT.ok n a) (hokleft : GoT.ok n left) :
    Does Try.prog 107 #[.slice pa ((a).length) ca, .int .i64 (left)] w emp (fun (rv : Value) (_ : World) => rv = .int .i64 ((laws_szRecordS a left)) ∧ GoT.ok n ((laws_szRecordS a left) : Int)) := by
  refine WX.enter (tt := tt) (Γ := [(0, MF.rs .stb pa ca a)]) Try.func107 rfl (by kernel_rfl) rfl (allS_cons rfl hpa allS_nil) ?_
  refine WX.run ttOk rfl ?_
  refine WX.see rfl rfl rfl (fun _ hΓ => looks_wrap rfl rfl rfl rfl) ?_
  refine WX.run ttOk rfl ?_
  refine WX.cases 11 rfl (fun h1 => ?_) (fun h1 => ?_)
  · skip
    have h1d := B.dt h1
    refine WX.run ttOk rfl ?_
    have hP1 : laws_szRecordS a left = (-1) := by simp only [laws_szRecordS, h1, cond_true, cond_false]
    refine WX.ret ttOk rfl ?_
    intro w1 G bs hI hΓ
    rw [hP1]
    exact ⟨rfl, (show I64 (-1) from (by unfold I64; omega))⟩
  · skip
    have h1d := B.df h1
    refine WX.run ttOk rfl ?_
    have r1 : (a).length ≤ bd n := (okl hoka).1
    have r2 : (a).length ≤ 9223372036854775807 := hpa.2.1
    refine WX.loop (ι := Int × Nat) ⟨fun | (left2, i) => (i ≤ (a).length) ∧ (-9223372036854775808 ≤ left2 ∧ left2 ≤ 9223372036854775807) ∧ (laws_szRecordS_L1 a (IntKind.i64.wrap (left - (((a).length : Nat) : Int))) = laws_szRecordS_L1 ((a).drop i) left2), fun | (left2, i) => (a).length - i, fun | (left2, i) => [(1, .v (.int .i64 (left2))), (5, .v (.int .i64 (((i : Nat) : Int)))), (0, .v (.slice pa ((a).length) ca))], fun | (left2, i) => [], fun | (left2, i) => [], fun | (left2, i) => [(0, MF.rs .stb pa ca a)]⟩ (IntKind.i64.wrap (left - (((a).length : Nat) : Int)), 0) ⟨(Nat.zero_le _), (i64_wrap _), rfl⟩
      (.cons rfl (.cons rfl (.cons rfl (.nil)))) .nil .nil [0] rfl ?_
    rintro ⟨left2, i⟩ hpre
    have hpre_ : (i ≤ (a).length) ∧ (-9223372036854775808 ≤ left2 ∧ left2 ≤ 9223372036854775807) ∧ (laws_szRecordS_L1 a (IntKind.i64.wrap (left - (((a).length : Nat) : Int))) = laws_szRecordS_L1 ((a).drop i) left2) := hpre
    clear hpre
    obtain ⟨v1, v2, v3⟩ := hpre_
    refine WX.run ttOk rfl ?_
    refine WX.cases 15 rfl (fun h2 => ?_) (fun h2 => ?_)
    · skip
      have h2d := B.dt h2
      have e1i : i < (a).length := (by omega)
      obtain ⟨e1, e1h⟩ : ∃ e1, (a)[i]? = some e1 := ⟨_, List.getElem?_eq_getElem e1i⟩
      have ok1 : GoT.ok n e1 := (okl hoka).2 _ (List.mem_of_getElem? e1h)
      refine WX.run ttOk rfl ?_
      refine WX.idx 0 i ttOk rfl rfl rfl rfl rfl rfl rfl rfl rfl rfl e1i ?_
      rintro ad1 rfl
      refine WX.ldE 0 1 e1 ttOk rfl rfl rfl rfl rfl rfl rfl rfl e1h (fun _ => rfl) (fun _ => rfl) ?_
      rintro ⟨⟨⟩, ⟨⟨p1, c1⟩, ⟨p2, c2⟩, ⟨p3, c3⟩, ⟨⟩, ⟨⟩⟩⟩
      refine WX.run ttOk rfl ?_
      refine WX.callV rfl rfl rfl rfl rfl (fun _ => rfl) rfl (fun w G bs hI hΓ => f136 w n e1 p1 c1 (hΓ.get 1 rfl) p2 c2 (hΓ.get 2 rfl) p3 c3 (hΓ.get 3 rfl) left2 ok1 v2) ?_
      intro hq1
      refine WX.run ttOk rfl ?_
      refine WX.cases 25 rfl (fun h3 => ?_) (fun h3 => ?_)
      · skip
        have h3d := B.dt h3
        refine WX.run ttOk rfl ?_
        have hP2 : laws_szRecordS_L1 a (IntKind.i64.wrap (left - (((a).length : Nat) : Int))) = (Ctl.ret (-1)) := by rw [v3, drop_get e1h]; simp only [laws_szRecordS_L1, h3, cond_true, cond_false]
        have hP3 : laws_szRecordS a left = (-1) := by simp only [laws_szRecordS, h1, hP2, cond_true, cond_false]
        refine WX.ret ttOk rfl ?_
        intro w1 G bs hI hΓ
        rw [hP3]
        exact ⟨rfl, (show I64 (-1) from (by unfold I64; omega))⟩
      · skip
        have h3d := B.df h3
        refine WX.run ttOk rfl ?_
        refine WX.see rfl rfl rfl (fun _ hΓ => looks_arith rfl rfl rfl rfl (by unfold I64; omega)) ?_
        refine WX.run ttOk rfl ?_
        exact WX.iter ((laws_szRecord e1 left2), i + 1) ⟨(by omega), hq1, (by rw [v3, drop_get e1h]; simp only [laws_szRecordS_L1, h3, cond_true, cond_false])⟩ (by dsimp only; omega) (.cons rfl (.cons rfl (.cons rfl (.nil)))) .nil .nil [0] rfl
    · skip
      have h2d := B.df h2
      refine WX.run ttOk rfl ?_
      have hX1 : laws_szRecordS_L1 a (IntKind.i64.wrap (left - (((a).length : Nat) : Int))) = (Ctl.nxt left2) := by rw [v3, List.drop_eq_nil_of_le (show (a).length ≤ i by omega)]; simp only [laws_szRecordS_L1, cond_true, cond_false]
      have hP4 : laws_szRecordS a left = left2 := by simp only [laws_szRecordS, h1, hX1, cond_true, cond_false]
      refine WX.ret ttOk rfl ?_
      intro w1 G bs hI hΓ
      rw [hP4]
      exact ⟨rfl, v2⟩
theorem f61 (w : World) (n : Nat) (a : Log) (paDurable : Option Addr) (caDurable : Nat) (hpaDurable : RdSl (hp w) paDurable caDurable a.durable) (paVolatile : Option Addr) (caVolatile : Nat) (hpaVolatile : RdSl (hp w) paVolatile caVolatile a.volatile) (left : Int) (hoka : GoT.ok n a) (hokleft : GoT.ok n left) :
    Does Try.prog 61 #[.agg #[.slice paDurable ((a.durable).length) caDurable, .slice paVolatile ((a.volatile).length) caVolatile], .int .i64 (left)] w emp (fun (rv : Value) (_ : World) => rv = .int .i64 ((laws_szLog a left)) ∧ GoT.ok n ((laws_szLog a left) : Int)) := by
  refine WX.enter (tt := tt) (Γ := [(0, MF.rs .stb paDurable caDurable a.durable), (1, MF.rs .stb paVolatile caVolatile a.volatile)]) Try.func61 rfl (by kernel_rfl) rfl (allS_cons rfl hpaDurable (allS_cons rfl hpaVolatile allS_nil)) ?_
  refine WX.run ttOk rfl ?_
  refine WX.callV rfl rfl rfl rfl rfl (fun _ => rfl) rfl (fun w G bs hI hΓ => f107 w n a.durable paDurable caDurable (hΓ.get 0 rfl) left ((ok_Log hoka).1) hokleft) ?_
  intro hq1
  refine WX.run ttOk rfl ?_
  refine WX.cases 10 rfl (fun h1 => ?_) (fun h1 => ?_)
  · skip
    have h1d := B.dt h1
    refine WX.run ttOk rfl ?_
    have hP1 : laws_szLog a left = (-1) := by simp only [laws_szLog, h1, cond_true, cond_false]
    refine WX.ret ttOk rfl ?_
    intro w1 G bs hI hΓ
    rw [hP1]
    exact ⟨rfl, (show I64 (-1) from (by unfold I64; omega))⟩
  · skip
    have h1d := B.df h1
    refine WX.run ttOk rfl ?_
    refine WX.callV rfl rfl rfl rfl rfl (fun _ => rfl) rfl (fun w G bs hI hΓ => f107 w n a.volatile paVolatile caVolatile (hΓ.get 1 rfl) (laws_szRecordS a.durable left) ((ok_Log hoka).2) hq1) ?_
    intro hq2
    refine WX.run ttOk rfl ?_
    refine WX.cases 16 rfl (fun h2 => ?_) (fun h2 => ?_)
    · skip
      have h2d := B.dt h2
      refine WX.run ttOk rfl ?_
      have hP2 : laws_szLog a left = (-1) := by simp only [laws_szLog, h1, h2, cond_true, cond_false]
      refine WX.ret ttOk rfl ?_
      intro w1 G bs hI hΓ
      rw [hP2]
      exact ⟨rfl, (show I64 (-1) from (by unfold I64; omega))⟩
    · skip
      have h2d := B.df h2
      refine WX.run ttOk rfl ?_
      have hP3 : laws_szLog a left = (laws_szRecordS a.volatile (laws_szRecordS a.durable left)) := by simp only [laws_szLog, h1, h2, cond_true, cond_false]
      refine WX.ret ttOk rfl ?_
      intro w1 G bs hI hΓ
      rw [hP3]
      exact ⟨rfl, hq2⟩
theorem f27 (w : World) (n : Nat) (a : Repository) (paLogDurable : Option Addr) (caLogDurable : Nat) (hpaLogDurable : RdSl (hp w) paLogDurable caLogDurable a.log.durable) (paLogVolatile : Option Addr) (caLogVolatile : Nat) (hpaLogVolatile : RdSl (hp w) paLogVolatile caLogVolatile a.log.volatile) (left : Int) (hoka : GoT.ok n a) (hokleft : GoT.ok n left) :
    Does Try.prog 27 #[.agg #[.slice paLogDurable ((a.log.durable).length) caLogDurable, .slice paLogVolatile ((a.log.volatile).length) caLogVolatile, .int .i64 (a.quota)], .int .i64 (left)] w emp (fun (rv : Value) (_ : World) => rv = .int .i64 ((laws_szRepository a left)) ∧ GoT.ok n ((laws_szRepository a left) : Int)) := by
  refine WX.enter (tt := tt) (Γ := [(0, MF.rs .stb paLogDurable caLogDurable a.log.durable), (1, MF.rs .stb paLogVolatile caLogVolatile a.log.volatile)]) Try.func27 rfl (by kernel_rfl) rfl (allS_cons rfl hpaLogDurable (allS_cons rfl hpaLogVolatile allS_nil)) ?_
  refine WX.run ttOk rfl ?_
  refine WX.callV rfl rfl rfl rfl rfl (fun _ => rfl) rfl (fun w G bs hI hΓ => f61 w n a.log paLogDurable caLogDurable (hΓ.get 0 rfl) paLogVolatile caLogVolatile (hΓ.get 1 rfl) left ((ok_Repository hoka).1) hokleft) ?_
  intro hq1
  refine WX.run ttOk rfl ?_
  refine WX.cases 10 rfl (fun h1 => ?_) (fun h1 => ?_)
  · skip
    have h1d := B.dt h1
    refine WX.run ttOk rfl ?_
    have hP1 : laws_szRepository a left = (-1) := by simp only [laws_szRepository, h1, cond_true, cond_false]
    refine WX.ret ttOk rfl ?_
    intro w1 G bs hI hΓ
    rw [hP1]
    exact ⟨rfl, (show I64 (-1) from (by unfold I64; omega))⟩
  · skip
    have h1d := B.df h1
    refine WX.run ttOk rfl ?_
    have hP2 : laws_szRepository a left = (laws_szLog a.log left) := by simp only [laws_szRepository, h1, cond_true, cond_false]
    refine WX.ret ttOk rfl ?_
    intro w1 G bs hI hΓ
    rw [hP2]
    exact ⟨rfl, hq1⟩
end Go.Proofs.Ytdkhklhnipiheaa
