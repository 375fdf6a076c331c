/-
  What the proof of one law needs: rules of the program logic, functions as Lean functions, contracts. No condition but what each says. Written by a program (pack.py) out of my own texts.
-/
import Derived.Test.YtdimfabadjfkiaaGreatKValidNetwork2
namespace Go.Proofs.YtdimfabadjfkiaaGreat
open Go.Stp
set_option linter.unusedVariables false
set_option linter.unusedSimpArgs false
theorem f247 (w : World) (n : Nat) (a : (List Str)) (pa : Option Addr) (ca : Nat) (N0 : RdSl (hp w) pa ca a) (left : Int) (hoka : GoT.ok n a) (hokleft : GoT.ok n left) :
  Does Tryz.prog 247 #[.slice pa ((a).length) ca, .int .i64 (left)] w emp (fun (rv : Value) (_ : World) => rv = .int .i64 ((laws_szStringS a left)) ∧ GoT.ok n ((laws_szStringS a left) : Int)) := by
 refine WX.enter (tt := tt) (Γ := [(0, MF.rs .stb pa ca a)]) Tryz.func247 rfl (by kernel_rfl) rfl (allS_cons rfl N0 allS_nil) ?_
 refine R0 ?_
 refine WX.see rfl rfl rfl (fun _ hΓ => looks_wrap rfl rfl rfl rfl) ?_
 refine R0 ?_
 refine WX.cases 11 rfl (fun h1 => ?_) (fun h1 => ?_)
 ·skip
  have h1d := B.dt h1
  refine R0 ?_
  have hP1 : laws_szStringS a left = (-1) := by simp only [laws_szStringS, h1, ct, cf]
  refine R1 ?_
  intro w1 G bs hI hΓ
  rw [hP1]
  exact ⟨rfl, (show I64 (-1) from (by unfold I64; omega))⟩
 ·skip
  have h1d := B.df h1
  refine R0 ?_
  have r1 : (a).length ≤ bd n := (okl hoka).1
  have r2 : (a).length ≤ 9223372036854775807 := N0.2.1
  refine WX.loop (ι := Int × Nat) ⟨fun | (left2, i) => (i ≤ (a).length) ∧ (-9223372036854775808 ≤ left2 ∧ left2 ≤ 9223372036854775807) ∧ (laws_szStringS_L1 a (IntKind.i64.wrap (left - (((a).length : Nat) : Int))) = laws_szStringS_L1 ((a).drop i) left2), fun | (left2, i) => (a).length - i, fun | (left2, i) => [(1, .v (.int .i64 (left2))), (5, .v (.int .i64 (((i : Nat) : Int)))), (0, .v (.slice pa ((a).length) ca))], fun | (left2, i) => [], fun | (left2, i) => [], fun | (left2, i) => [(0, MF.rs .stb pa ca a)]⟩ (IntKind.i64.wrap (left - (((a).length : Nat) : Int)), 0) ⟨(Nat.zero_le _), (i64_wrap _), rfl⟩
   (.cons rfl (.cons rfl (.cons rfl (.nil)))) .nil .nil [0] rfl ?_
  rintro ⟨left2, i⟩ hpre
  have hpre_ : (i ≤ (a).length) ∧ (-9223372036854775808 ≤ left2 ∧ left2 ≤ 9223372036854775807) ∧ (laws_szStringS_L1 a (IntKind.i64.wrap (left - (((a).length : Nat) : Int))) = laws_szStringS_L1 ((a).drop i) left2) := hpre
  clear hpre
  obtain ⟨v1, v2, v3⟩ := hpre_
  refine R0 ?_
  refine WX.cases 15 rfl (fun h2 => ?_) (fun h2 => ?_)
  ·skip
   have h2d := B.dt h2
   have e1i : i < (a).length := (by omega)
   obtain ⟨e1, e1h⟩ : ∃ e1, (a)[i]? = some e1 := ⟨_, List.getElem?_eq_getElem e1i⟩
   have ok1 : GoT.ok n e1 := (okl hoka).2 _ (List.mem_of_getElem? e1h)
   refine R0 ?_
   refine WX.idx 0 i ttOk rfl rfl rfl rfl rfl rfl rfl rfl rfl rfl e1i ?_
   rintro ad1 rfl
   refine WX.ldE 0 1 e1 ttOk rfl rfl rfl rfl rfl rfl rfl rfl e1h (fun _ => rfl) (fun _ => rfl) ?_
   rintro ⟨⟩
   refine R0 ?_
   refine WX.see rfl rfl rfl (fun _ hΓ => looks_wrap rfl rfl rfl rfl) ?_
   refine R0 ?_
   refine WX.cases 26 rfl (fun h3 => ?_) (fun h3 => ?_)
   ·skip
    have h3d := B.dt h3
    refine R0 ?_
    have hP2 : laws_szStringS_L1 a (IntKind.i64.wrap (left - (((a).length : Nat) : Int))) = (Ctl.ret (-1)) := by rw [v3, drop_get e1h]; simp only [laws_szStringS_L1, h3, ct, cf]
    have hP3 : laws_szStringS a left = (-1) := by simp only [laws_szStringS, h1, hP2, ct, cf]
    refine R1 ?_
    intro w1 G bs hI hΓ
    rw [hP3]
    exact ⟨rfl, (show I64 (-1) from (by unfold I64; omega))⟩
   ·skip
    have h3d := B.df h3
    refine R0 ?_
    refine WX.see rfl rfl rfl (fun _ hΓ => looks_arith rfl rfl rfl rfl (by unfold I64; first | omega | (simp only [List.length_take] at *; omega))) ?_
    refine R0 ?_
    exact WX.iter (IntKind.i64.wrap (left2 - (((e1).size : Nat) : Int)), i + 1) ⟨(by omega), (i64_wrap _), (by rw [v3, drop_get e1h]; simp only [laws_szStringS_L1, h3, ct, cf])⟩ (by first | (dsimp only; omega) | omega) (.cons rfl (.cons rfl (.cons rfl (.nil)))) .nil .nil [0] rfl
  ·skip
   have h2d := B.df h2
   refine R0 ?_
   have hX1 : laws_szStringS_L1 a (IntKind.i64.wrap (left - (((a).length : Nat) : Int))) = (Ctl.nxt left2) := by rw [v3, List.drop_eq_nil_of_le (show (a).length ≤ i by omega)]; simp only [laws_szStringS_L1, ct, cf]
   have hP4 : laws_szStringS a left = left2 := by simp only [laws_szStringS, h1, hX1, ct, cf]
   refine R1 ?_
   intro w1 G bs hI hΓ
   rw [hP4]
   exact ⟨rfl, v2⟩
theorem f145 (w : World) (n : Nat) (a : Name) (pa : Option Addr) (ca : Nat) (N0 : RdSl (hp w) pa ca a.parts) (left : Int) (hoka : GoT.ok n a) (hokleft : GoT.ok n left) :
  Does Tryz.prog 145 #[.agg #[.slice pa ((a.parts).length) ca], .int .i64 (left)] w emp (fun (rv : Value) (_ : World) => rv = .int .i64 ((laws_szName a left)) ∧ GoT.ok n ((laws_szName a left) : Int)) := by
 refine WX.enter (tt := tt) (Γ := [(0, MF.rs .stb pa ca a.parts)]) Tryz.func145 rfl (by kernel_rfl) rfl (allS_cons rfl N0 allS_nil) ?_
 refine R0 ?_
 refine WX.callV rfl rfl rfl rfl rfl (fun _ => rfl) rfl (fun w G bs hI hΓ => f247 w n a.parts pa ca (hΓ.get 0 rfl) left (ok_Name hoka) hokleft) ?_
 intro hq1
 refine R0 ?_
 refine WX.cases 10 rfl (fun h1 => ?_) (fun h1 => ?_)
 ·skip
  have h1d := B.dt h1
  refine R0 ?_
  have hP1 : laws_szName a left = (-1) := by simp only [laws_szName, h1, ct, cf]
  refine R1 ?_
  intro w1 G bs hI hΓ
  rw [hP1]
  exact ⟨rfl, (show I64 (-1) from (by unfold I64; omega))⟩
 ·skip
  have h1d := B.df h1
  refine R0 ?_
  have hP2 : laws_szName a left = (laws_szStringS a.parts left) := by simp only [laws_szName, h1, ct, cf]
  refine R1 ?_
  intro w1 G bs hI hΓ
  rw [hP2]
  exact ⟨rfl, hq1⟩
theorem f150 (w : World) (n : Nat) (a : (List UInt8)) (pa : Option Addr) (ca : Nat) (N0 : RdSl (hp w) pa ca a) (left : Int) (hoka : GoT.ok n a) (hokleft : GoT.ok n left) :
  Does Tryz.prog 150 #[.slice pa ((a).length) ca, .int .i64 (left)] w emp (fun (rv : Value) (_ : World) => rv = .int .i64 ((laws_szByteS a left)) ∧ GoT.ok n ((laws_szByteS a left) : Int)) := by
 refine WX.enter (tt := tt) (Γ := [(0, MF.rs .stb pa ca a)]) Tryz.func150 rfl (by kernel_rfl) rfl (allS_cons rfl N0 allS_nil) ?_
 refine R0 ?_
 refine WX.see rfl rfl rfl (fun _ hΓ => looks_wrap rfl rfl rfl rfl) ?_
 refine R0 ?_
 refine WX.cases 10 rfl (fun h1 => ?_) (fun h1 => ?_)
 ·skip
  have h1d := B.dt h1
  refine R0 ?_
  have hP1 : laws_szByteS a left = (-1) := by simp only [laws_szByteS, h1, ct, cf]
  refine R1 ?_
  intro w1 G bs hI hΓ
  rw [hP1]
  exact ⟨rfl, (show I64 (-1) from (by unfold I64; omega))⟩
 ·skip
  have h1d := B.df h1
  refine R0 ?_
  have hP2 : laws_szByteS a left = (IntKind.i64.wrap (left - (((a).length : Nat) : Int))) := by simp only [laws_szByteS, h1, ct, cf]
  refine R1 ?_
  intro w1 G bs hI hΓ
  rw [hP2]
  exact ⟨rfl, (i64_wrap _)⟩
theorem f64 (w : World) (n : Nat) (a : DataP) (K0 : Option Addr) (M0 : Nat) (N0 : RdSl (hp w) K0 M0 a.name.parts) (K1 : Option Addr) (M1 : Nat) (N1 : RdSl (hp w) K1 M1 a.content) (K2 : Option Addr) (M2 : Nat) (N2 : RdSl (hp w) K2 M2 a.keyName.parts) (left : Int) (hoka : GoT.ok n a) (hokleft : GoT.ok n left) :
  Does Tryz.prog 64 #[.agg #[.slice K0 ((a.name.parts).length) M0, .slice K1 ((a.content).length) M1, .slice K2 ((a.keyName.parts).length) M2, .int .i64 (a.freshUntil), .int .i64 (a.signature)], .int .i64 (left)] w emp (fun (rv : Value) (_ : World) => rv = .int .i64 ((laws_szData a left)) ∧ GoT.ok n ((laws_szData a left) : Int)) := by
 refine WX.enter (tt := tt) (Γ := [(0, MF.rs .stb K0 M0 a.name.parts), (1, MF.rs .stb K1 M1 a.content), (2, MF.rs .stb K2 M2 a.keyName.parts)]) Tryz.func64 rfl (by kernel_rfl) rfl (allS_cons rfl N0 (allS_cons rfl N1 (allS_cons rfl N2 allS_nil))) ?_
 refine R0 ?_
 refine WX.callV rfl rfl rfl rfl rfl (fun _ => rfl) rfl (fun w G bs hI hΓ => f145 w n a.name K0 M0 (hΓ.get 0 rfl) left ((ok_DataP hoka).1) hokleft) ?_
 intro hq1
 refine R0 ?_
 refine WX.cases 10 rfl (fun h1 => ?_) (fun h1 => ?_)
 ·skip
  have h1d := B.dt h1
  refine R0 ?_
  have hP1 : laws_szData a left = (-1) := by simp only [laws_szData, h1, ct, cf]
  refine R1 ?_
  intro w1 G bs hI hΓ
  rw [hP1]
  exact ⟨rfl, (show I64 (-1) from (by unfold I64; omega))⟩
 ·skip
  have h1d := B.df h1
  refine R0 ?_
  refine WX.callV rfl rfl rfl rfl rfl (fun _ => rfl) rfl (fun w G bs hI hΓ => f150 w n a.content K1 M1 (hΓ.get 1 rfl) (laws_szName a.name left) ((ok_DataP hoka).2.1) hq1) ?_
  intro hq2
  refine R0 ?_
  refine WX.cases 16 rfl (fun h2 => ?_) (fun h2 => ?_)
  ·skip
   have h2d := B.dt h2
   refine R0 ?_
   have hP2 : laws_szData a left = (-1) := by simp only [laws_szData, h1, h2, ct, cf]
   refine R1 ?_
   intro w1 G bs hI hΓ
   rw [hP2]
   exact ⟨rfl, (show I64 (-1) from (by unfold I64; omega))⟩
  ·skip
   have h2d := B.df h2
   refine R0 ?_
   refine WX.callV rfl rfl rfl rfl rfl (fun _ => rfl) rfl (fun w G bs hI hΓ => f145 w n a.keyName K2 M2 (hΓ.get 2 rfl) (laws_szByteS a.content (laws_szName a.name left)) ((ok_DataP hoka).2.2.1) hq2) ?_
   intro hq3
   refine R0 ?_
   refine WX.cases 22 rfl (fun h3 => ?_) (fun h3 => ?_)
   ·skip
    have h3d := B.dt h3
    refine R0 ?_
    have hP3 : laws_szData a left = (-1) := by simp only [laws_szData, h1, h2, h3, ct, cf]
    refine R1 ?_
    intro w1 G bs hI hΓ
    rw [hP3]
    exact ⟨rfl, (show I64 (-1) from (by unfold I64; omega))⟩
   ·skip
    have h3d := B.df h3
    refine R0 ?_
    have hP4 : laws_szData a left = (laws_szName a.keyName (laws_szByteS a.content (laws_szName a.name left))) := by simp only [laws_szData, h1, h2, h3, ct, cf]
    refine R1 ?_
    intro w1 G bs hI hΓ
    rw [hP4]
    exact ⟨rfl, hq3⟩
theorem f62 (w : World) (n : Nat) (a : Consumer) (K0 : Option Addr) (M0 : Nat) (N0 : RdSl (hp w) K0 M0 a.name.parts) (K1 : Option Addr) (M1 : Nat) (N1 : RdSl (hp w) K1 M1 a.data.name.parts) (K2 : Option Addr) (M2 : Nat) (N2 : RdSl (hp w) K2 M2 a.data.content) (K3 : Option Addr) (M3 : Nat) (N3 : RdSl (hp w) K3 M3 a.data.keyName.parts) (left : Int) (hoka : GoT.ok n a) (hokleft : GoT.ok n left) :
  Does Tryz.prog 62 #[.agg #[.int .i64 (a.node), .int .i64 (a.index), .slice K0 ((a.name.parts).length) M0, .int .i64 (a.attempts), .int .i64 (a.wait), .bool a.satisfied, .slice K1 ((a.data.name.parts).length) M1, .slice K2 ((a.data.content).length) M2, .slice K3 ((a.data.keyName.parts).length) M3, .int .i64 (a.data.freshUntil), .int .i64 (a.data.signature)], .int .i64 (left)] w emp (fun (rv : Value) (_ : World) => rv = .int .i64 ((laws_szConsumer a left)) ∧ GoT.ok n ((laws_szConsumer a left) : Int)) := by
 refine WX.enter (tt := tt) (Γ := [(0, MF.rs .stb K0 M0 a.name.parts), (1, MF.rs .stb K1 M1 a.data.name.parts), (2, MF.rs .stb K2 M2 a.data.content), (3, MF.rs .stb K3 M3 a.data.keyName.parts)]) Tryz.func62 rfl (by kernel_rfl) rfl (allS_cons rfl N0 (allS_cons rfl N1 (allS_cons rfl N2 (allS_cons rfl N3 allS_nil)))) ?_
 refine R0 ?_
 refine WX.callV rfl rfl rfl rfl rfl (fun _ => rfl) rfl (fun w G bs hI hΓ => f145 w n a.name K0 M0 (hΓ.get 0 rfl) left ((ok_Consumer hoka).2.2.1) hokleft) ?_
 intro hq1
 refine R0 ?_
 refine WX.cases 10 rfl (fun h1 => ?_) (fun h1 => ?_)
 ·skip
  have h1d := B.dt h1
  refine R0 ?_
  have hP1 : laws_szConsumer a left = (-1) := by simp only [laws_szConsumer, h1, ct, cf]
  refine R1 ?_
  intro w1 G bs hI hΓ
  rw [hP1]
  exact ⟨rfl, (show I64 (-1) from (by unfold I64; omega))⟩
 ·skip
  have h1d := B.df h1
  refine R0 ?_
  refine WX.callV rfl rfl rfl rfl rfl (fun _ => rfl) rfl (fun w G bs hI hΓ => f64 w n a.data K1 M1 (hΓ.get 1 rfl) K2 M2 (hΓ.get 2 rfl) K3 M3 (hΓ.get 3 rfl) (laws_szName a.name left) ((ok_Consumer hoka).2.2.2.2.2.2) hq1) ?_
  intro hq2
  refine R0 ?_
  refine WX.cases 16 rfl (fun h2 => ?_) (fun h2 => ?_)
  ·skip
   have h2d := B.dt h2
   refine R0 ?_
   have hP2 : laws_szConsumer a left = (-1) := by simp only [laws_szConsumer, h1, h2, ct, cf]
   refine R1 ?_
   intro w1 G bs hI hΓ
   rw [hP2]
   exact ⟨rfl, (show I64 (-1) from (by unfold I64; omega))⟩
  ·skip
   have h2d := B.df h2
   refine R0 ?_
   have hP3 : laws_szConsumer a left = (laws_szData a.data (laws_szName a.name left)) := by simp only [laws_szConsumer, h1, h2, ct, cf]
   refine R1 ?_
   intro w1 G bs hI hΓ
   rw [hP3]
   exact ⟨rfl, hq2⟩
theorem f248 (w : World) (n : Nat) (a : Key) (K0 : Option Addr) (M0 : Nat) (N0 : RdSl (hp w) K0 M0 a.name.parts) (left : Int) (hoka : GoT.ok n a) (hokleft : GoT.ok n left) :
  Does Tryz.prog 248 #[.agg #[.slice K0 ((a.name.parts).length) M0, .int .i64 (a.secret)], .int .i64 (left)] w emp (fun (rv : Value) (_ : World) => rv = .int .i64 ((laws_szKey a left)) ∧ GoT.ok n ((laws_szKey a left) : Int)) := by
 refine WX.enter (tt := tt) (Γ := [(0, MF.rs .stb K0 M0 a.name.parts)]) Tryz.func248 rfl (by kernel_rfl) rfl (allS_cons rfl N0 allS_nil) ?_
 refine R0 ?_
 refine WX.callV rfl rfl rfl rfl rfl (fun _ => rfl) rfl (fun w G bs hI hΓ => f145 w n a.name K0 M0 (hΓ.get 0 rfl) left ((ok_Key hoka).1) hokleft) ?_
 intro hq1
 refine R0 ?_
 refine WX.cases 10 rfl (fun h1 => ?_) (fun h1 => ?_)
 ·skip
  have h1d := B.dt h1
  refine R0 ?_
  have hP1 : laws_szKey a left = (-1) := by simp only [laws_szKey, h1, ct, cf]
  refine R1 ?_
  intro w1 G bs hI hΓ
  rw [hP1]
  exact ⟨rfl, (show I64 (-1) from (by unfold I64; omega))⟩
 ·skip
  have h1d := B.df h1
  refine R0 ?_
  have hP2 : laws_szKey a left = (laws_szName a.name left) := by simp only [laws_szKey, h1, ct, cf]
  refine R1 ?_
  intro w1 G bs hI hΓ
  rw [hP2]
  exact ⟨rfl, hq1⟩
theorem f146 (w : World) (n : Nat) (a : (List Key)) (pa : Option Addr) (ca : Nat) (N0 : RdSl (hp w) pa ca a) (left : Int) (hoka : GoT.ok n a) (hokleft : GoT.ok n left) :
  Does Tryz.prog 146 #[.slice pa ((a).length) ca, .int .i64 (left)] w emp (fun (rv : Value) (_ : World) => rv = .int .i64 ((laws_szKeyS a left)) ∧ GoT.ok n ((laws_szKeyS a left) : Int)) := by
 refine WX.enter (tt := tt) (Γ := [(0, MF.rs .stb pa ca a)]) Tryz.func146 rfl (by kernel_rfl) rfl (allS_cons rfl N0 allS_nil) ?_
 refine R0 ?_
 refine WX.see rfl rfl rfl (fun _ hΓ => looks_wrap rfl rfl rfl rfl) ?_
 refine R0 ?_
 refine WX.cases 11 rfl (fun h1 => ?_) (fun h1 => ?_)
 ·skip
  have h1d := B.dt h1
  refine R0 ?_
  have hP1 : laws_szKeyS a left = (-1) := by simp only [laws_szKeyS, h1, ct, cf]
  refine R1 ?_
  intro w1 G bs hI hΓ
  rw [hP1]
  exact ⟨rfl, (show I64 (-1) from (by unfold I64; omega))⟩
 ·skip
  have h1d := B.df h1
  refine R0 ?_
  have r1 : (a).length ≤ bd n := (okl hoka).1
  have r2 : (a).length ≤ 9223372036854775807 := N0.2.1
  refine WX.loop (ι := Int × Nat) ⟨fun | (left2, i) => (i ≤ (a).length) ∧ (-9223372036854775808 ≤ left2 ∧ left2 ≤ 9223372036854775807) ∧ (laws_szKeyS_L1 a (IntKind.i64.wrap (left - (((a).length : Nat) : Int))) = laws_szKeyS_L1 ((a).drop i) left2), fun | (left2, i) => (a).length - i, fun | (left2, i) => [(1, .v (.int .i64 (left2))), (5, .v (.int .i64 (((i : Nat) : Int)))), (0, .v (.slice pa ((a).length) ca))], fun | (left2, i) => [], fun | (left2, i) => [], fun | (left2, i) => [(0, MF.rs .stb pa ca a)]⟩ (IntKind.i64.wrap (left - (((a).length : Nat) : Int)), 0) ⟨(Nat.zero_le _), (i64_wrap _), rfl⟩
   (.cons rfl (.cons rfl (.cons rfl (.nil)))) .nil .nil [0] rfl ?_
  rintro ⟨left2, i⟩ hpre
  have hpre_ : (i ≤ (a).length) ∧ (-9223372036854775808 ≤ left2 ∧ left2 ≤ 9223372036854775807) ∧ (laws_szKeyS_L1 a (IntKind.i64.wrap (left - (((a).length : Nat) : Int))) = laws_szKeyS_L1 ((a).drop i) left2) := hpre
  clear hpre
  obtain ⟨v1, v2, v3⟩ := hpre_
  refine R0 ?_
  refine WX.cases 15 rfl (fun h2 => ?_) (fun h2 => ?_)
  ·skip
   have h2d := B.dt h2
   have e1i : i < (a).length := (by omega)
   obtain ⟨e1, e1h⟩ : ∃ e1, (a)[i]? = some e1 := ⟨_, List.getElem?_eq_getElem e1i⟩
   have ok1 : GoT.ok n e1 := (okl hoka).2 _ (List.mem_of_getElem? e1h)
   refine R0 ?_
   refine WX.idx 0 i ttOk rfl rfl rfl rfl rfl rfl rfl rfl rfl rfl e1i ?_
   rintro ad1 rfl
   refine WX.ldE 0 1 e1 ttOk rfl rfl rfl rfl rfl rfl rfl rfl e1h (fun _ => rfl) (fun _ => rfl) ?_
   rintro ⟨⟨p1, c1⟩, ⟨⟩⟩
   refine R0 ?_
   refine WX.callV rfl rfl rfl rfl rfl (fun _ => rfl) rfl (fun w G bs hI hΓ => f248 w n e1 p1 c1 (hΓ.get 1 rfl) left2 ok1 v2) ?_
   intro hq1
   refine R0 ?_
   refine WX.cases 25 rfl (fun h3 => ?_) (fun h3 => ?_)
   ·skip
    have h3d := B.dt h3
    refine R0 ?_
    have hP2 : laws_szKeyS_L1 a (IntKind.i64.wrap (left - (((a).length : Nat) : Int))) = (Ctl.ret (-1)) := by rw [v3, drop_get e1h]; simp only [laws_szKeyS_L1, h3, ct, cf]
    have hP3 : laws_szKeyS a left = (-1) := by simp only [laws_szKeyS, h1, hP2, ct, cf]
    refine R1 ?_
    intro w1 G bs hI hΓ
    rw [hP3]
    exact ⟨rfl, (show I64 (-1) from (by unfold I64; omega))⟩
   ·skip
    have h3d := B.df h3
    refine R0 ?_
    refine WX.see rfl rfl rfl (fun _ hΓ => looks_arith rfl rfl rfl rfl (by unfold I64; first | omega | (simp only [List.length_take] at *; omega))) ?_
    refine R0 ?_
    exact WX.iter ((laws_szKey e1 left2), i + 1) ⟨(by omega), hq1, (by rw [v3, drop_get e1h]; simp only [laws_szKeyS_L1, h3, ct, cf])⟩ (by first | (dsimp only; omega) | omega) (.cons rfl (.cons rfl (.cons rfl (.nil)))) .nil .nil [0] rfl
  ·skip
   have h2d := B.df h2
   refine R0 ?_
   have hX1 : laws_szKeyS_L1 a (IntKind.i64.wrap (left - (((a).length : Nat) : Int))) = (Ctl.nxt left2) := by rw [v3, List.drop_eq_nil_of_le (show (a).length ≤ i by omega)]; simp only [laws_szKeyS_L1, ct, cf]
   have hP4 : laws_szKeyS a left = left2 := by simp only [laws_szKeyS, h1, hX1, ct, cf]
   refine R1 ?_
   intro w1 G bs hI hΓ
   rw [hP4]
   exact ⟨rfl, v2⟩
theorem f307 (w : World) (n : Nat) (a : Pattern) (pa : Option Addr) (ca : Nat) (N0 : RdSl (hp w) pa ca a.parts) (left : Int) (hoka : GoT.ok n a) (hokleft : GoT.ok n left) :
  Does Tryz.prog 307 #[.agg #[.slice pa ((a.parts).length) ca], .int .i64 (left)] w emp (fun (rv : Value) (_ : World) => rv = .int .i64 ((laws_szPattern a left)) ∧ GoT.ok n ((laws_szPattern a left) : Int)) := by
 refine WX.enter (tt := tt) (Γ := [(0, MF.rs .stb pa ca a.parts)]) Tryz.func307 rfl (by kernel_rfl) rfl (allS_cons rfl N0 allS_nil) ?_
 refine R0 ?_
 refine WX.callV rfl rfl rfl rfl rfl (fun _ => rfl) rfl (fun w G bs hI hΓ => f247 w n a.parts pa ca (hΓ.get 0 rfl) left (ok_Pattern hoka) hokleft) ?_
 intro hq1
 refine R0 ?_
 refine WX.cases 10 rfl (fun h1 => ?_) (fun h1 => ?_)
 ·skip
  have h1d := B.dt h1
  refine R0 ?_
  have hP1 : laws_szPattern a left = (-1) := by simp only [laws_szPattern, h1, ct, cf]
  refine R1 ?_
  intro w1 G bs hI hΓ
  rw [hP1]
  exact ⟨rfl, (show I64 (-1) from (by unfold I64; omega))⟩
 ·skip
  have h1d := B.df h1
  refine R0 ?_
  have hP2 : laws_szPattern a left = (laws_szStringS a.parts left) := by simp only [laws_szPattern, h1, ct, cf]
  refine R1 ?_
  intro w1 G bs hI hΓ
  rw [hP2]
  exact ⟨rfl, hq1⟩
theorem f249 (w : World) (n : Nat) (a : Rule) (K0 : Option Addr) (M0 : Nat) (N0 : RdSl (hp w) K0 M0 a.dataPattern.parts) (K1 : Option Addr) (M1 : Nat) (N1 : RdSl (hp w) K1 M1 a.keyPattern.parts) (left : Int) (hoka : GoT.ok n a) (hokleft : GoT.ok n left) :
  Does Tryz.prog 249 #[.agg #[.slice K0 ((a.dataPattern.parts).length) M0, .slice K1 ((a.keyPattern.parts).length) M1], .int .i64 (left)] w emp (fun (rv : Value) (_ : World) => rv = .int .i64 ((laws_szRule a left)) ∧ GoT.ok n ((laws_szRule a left) : Int)) := by
 refine WX.enter (tt := tt) (Γ := [(0, MF.rs .stb K0 M0 a.dataPattern.parts), (1, MF.rs .stb K1 M1 a.keyPattern.parts)]) Tryz.func249 rfl (by kernel_rfl) rfl (allS_cons rfl N0 (allS_cons rfl N1 allS_nil)) ?_
 refine R0 ?_
 refine WX.callV rfl rfl rfl rfl rfl (fun _ => rfl) rfl (fun w G bs hI hΓ => f307 w n a.dataPattern K0 M0 (hΓ.get 0 rfl) left ((ok_Rule hoka).1) hokleft) ?_
 intro hq1
 refine R0 ?_
 refine WX.cases 10 rfl (fun h1 => ?_) (fun h1 => ?_)
 ·skip
  have h1d := B.dt h1
  refine R0 ?_
  have hP1 : laws_szRule a left = (-1) := by simp only [laws_szRule, h1, ct, cf]
  refine R1 ?_
  intro w1 G bs hI hΓ
  rw [hP1]
  exact ⟨rfl, (show I64 (-1) from (by unfold I64; omega))⟩
 ·skip
  have h1d := B.df h1
  refine R0 ?_
  refine WX.callV rfl rfl rfl rfl rfl (fun _ => rfl) rfl (fun w G bs hI hΓ => f307 w n a.keyPattern K1 M1 (hΓ.get 1 rfl) (laws_szPattern a.dataPattern left) ((ok_Rule hoka).2) hq1) ?_
  intro hq2
  refine R0 ?_
  refine WX.cases 16 rfl (fun h2 => ?_) (fun h2 => ?_)
  ·skip
   have h2d := B.dt h2
   refine R0 ?_
   have hP2 : laws_szRule a left = (-1) := by simp only [laws_szRule, h1, h2, ct, cf]
   refine R1 ?_
   intro w1 G bs hI hΓ
   rw [hP2]
   exact ⟨rfl, (show I64 (-1) from (by unfold I64; omega))⟩
  ·skip
   have h2d := B.df h2
   refine R0 ?_
   have hP3 : laws_szRule a left = (laws_szPattern a.keyPattern (laws_szPattern a.dataPattern left)) := by simp only [laws_szRule, h1, h2, ct, cf]
   refine R1 ?_
   intro w1 G bs hI hΓ
   rw [hP3]
   exact ⟨rfl, hq2⟩
theorem f147 (w : World) (n : Nat) (a : (List Rule)) (pa : Option Addr) (ca : Nat) (N0 : RdSl (hp w) pa ca a) (left : Int) (hoka : GoT.ok n a) (hokleft : GoT.ok n left) :
  Does Tryz.prog 147 #[.slice pa ((a).length) ca, .int .i64 (left)] w emp (fun (rv : Value) (_ : World) => rv = .int .i64 ((laws_szRuleS a left)) ∧ GoT.ok n ((laws_szRuleS a left) : Int)) := by
 refine WX.enter (tt := tt) (Γ := [(0, MF.rs .stb pa ca a)]) Tryz.func147 rfl (by kernel_rfl) rfl (allS_cons rfl N0 allS_nil) ?_
 refine R0 ?_
 refine WX.see rfl rfl rfl (fun _ hΓ => looks_wrap rfl rfl rfl rfl) ?_
 refine R0 ?_
 refine WX.cases 11 rfl (fun h1 => ?_) (fun h1 => ?_)
 ·skip
  have h1d := B.dt h1
  refine R0 ?_
  have hP1 : laws_szRuleS a left = (-1) := by simp only [laws_szRuleS, h1, ct, cf]
  refine R1 ?_
  intro w1 G bs hI hΓ
  rw [hP1]
  exact ⟨rfl, (show I64 (-1) from (by unfold I64; omega))⟩
 ·skip
  have h1d := B.df h1
  refine R0 ?_
  have r1 : (a).length ≤ bd n := (okl hoka).1
  have r2 : (a).length ≤ 9223372036854775807 := N0.2.1
  refine WX.loop (ι := Int × Nat) ⟨fun | (left2, i) => (i ≤ (a).length) ∧ (-9223372036854775808 ≤ left2 ∧ left2 ≤ 9223372036854775807) ∧ (laws_szRuleS_L1 a (IntKind.i64.wrap (left - (((a).length : Nat) : Int))) = laws_szRuleS_L1 ((a).drop i) left2), fun | (left2, i) => (a).length - i, fun | (left2, i) => [(1, .v (.int .i64 (left2))), (5, .v (.int .i64 (((i : Nat) : Int)))), (0, .v (.slice pa ((a).length) ca))], fun | (left2, i) => [], fun | (left2, i) => [], fun | (left2, i) => [(0, MF.rs .stb pa ca a)]⟩ (IntKind.i64.wrap (left - (((a).length : Nat) : Int)), 0) ⟨(Nat.zero_le _), (i64_wrap _), rfl⟩
   (.cons rfl (.cons rfl (.cons rfl (.nil)))) .nil .nil [0] rfl ?_
  rintro ⟨left2, i⟩ hpre
  have hpre_ : (i ≤ (a).length) ∧ (-9223372036854775808 ≤ left2 ∧ left2 ≤ 9223372036854775807) ∧ (laws_szRuleS_L1 a (IntKind.i64.wrap (left - (((a).length : Nat) : Int))) = laws_szRuleS_L1 ((a).drop i) left2) := hpre
  clear hpre
  obtain ⟨v1, v2, v3⟩ := hpre_
  refine R0 ?_
  refine WX.cases 15 rfl (fun h2 => ?_) (fun h2 => ?_)
  ·skip
   have h2d := B.dt h2
   have e1i : i < (a).length := (by omega)
   obtain ⟨e1, e1h⟩ : ∃ e1, (a)[i]? = some e1 := ⟨_, List.getElem?_eq_getElem e1i⟩
   have ok1 : GoT.ok n e1 := (okl hoka).2 _ (List.mem_of_getElem? e1h)
   refine R0 ?_
   refine WX.idx 0 i ttOk rfl rfl rfl rfl rfl rfl rfl rfl rfl rfl e1i ?_
   rintro ad1 rfl
   refine WX.ldE 0 1 e1 ttOk rfl rfl rfl rfl rfl rfl rfl rfl e1h (fun _ => rfl) (fun _ => rfl) ?_
   rintro ⟨⟨p1, c1⟩, ⟨p2, c2⟩⟩
   refine R0 ?_
   refine WX.callV rfl rfl rfl rfl rfl (fun _ => rfl) rfl (fun w G bs hI hΓ => f249 w n e1 p1 c1 (hΓ.get 1 rfl) p2 c2 (hΓ.get 2 rfl) left2 ok1 v2) ?_
   intro hq1
   refine R0 ?_
   refine WX.cases 25 rfl (fun h3 => ?_) (fun h3 => ?_)
   ·skip
    have h3d := B.dt h3
    refine R0 ?_
    have hP2 : laws_szRuleS_L1 a (IntKind.i64.wrap (left - (((a).length : Nat) : Int))) = (Ctl.ret (-1)) := by rw [v3, drop_get e1h]; simp only [laws_szRuleS_L1, h3, ct, cf]
    have hP3 : laws_szRuleS a left = (-1) := by simp only [laws_szRuleS, h1, hP2, ct, cf]
    refine R1 ?_
    intro w1 G bs hI hΓ
    rw [hP3]
    exact ⟨rfl, (show I64 (-1) from (by unfold I64; omega))⟩
   ·skip
    have h3d := B.df h3
    refine R0 ?_
    refine WX.see rfl rfl rfl (fun _ hΓ => looks_arith rfl rfl rfl rfl (by unfold I64; first | omega | (simp only [List.length_take] at *; omega))) ?_
    refine R0 ?_
    exact WX.iter ((laws_szRule e1 left2), i + 1) ⟨(by omega), hq1, (by rw [v3, drop_get e1h]; simp only [laws_szRuleS_L1, h3, ct, cf])⟩ (by first | (dsimp only; omega) | omega) (.cons rfl (.cons rfl (.cons rfl (.nil)))) .nil .nil [0] rfl
  ·skip
   have h2d := B.df h2
   refine R0 ?_
   have hX1 : laws_szRuleS_L1 a (IntKind.i64.wrap (left - (((a).length : Nat) : Int))) = (Ctl.nxt left2) := by rw [v3, List.drop_eq_nil_of_le (show (a).length ≤ i by omega)]; simp only [laws_szRuleS_L1, ct, cf]
   have hP4 : laws_szRuleS a left = left2 := by simp only [laws_szRuleS, h1, hX1, ct, cf]
   refine R1 ?_
   intro w1 G bs hI hΓ
   rw [hP4]
   exact ⟨rfl, v2⟩
theorem f148 (w : World) (n : Nat) (a : (List Name)) (pa : Option Addr) (ca : Nat) (N0 : RdSl (hp w) pa ca a) (left : Int) (hoka : GoT.ok n a) (hokleft : GoT.ok n left) :
  Does Tryz.prog 148 #[.slice pa ((a).length) ca, .int .i64 (left)] w emp (fun (rv : Value) (_ : World) => rv = .int .i64 ((laws_szNameS a left)) ∧ GoT.ok n ((laws_szNameS a left) : Int)) := by
 refine WX.enter (tt := tt) (Γ := [(0, MF.rs .stb pa ca a)]) Tryz.func148 rfl (by kernel_rfl) rfl (allS_cons rfl N0 allS_nil) ?_
 refine R0 ?_
 refine WX.see rfl rfl rfl (fun _ hΓ => looks_wrap rfl rfl rfl rfl) ?_
 refine R0 ?_
 refine WX.cases 11 rfl (fun h1 => ?_) (fun h1 => ?_)
 ·skip
  have h1d := B.dt h1
  refine R0 ?_
  have hP1 : laws_szNameS a left = (-1) := by simp only [laws_szNameS, h1, ct, cf]
  refine R1 ?_
  intro w1 G bs hI hΓ
  rw [hP1]
  exact ⟨rfl, (show I64 (-1) from (by unfold I64; omega))⟩
 ·skip
  have h1d := B.df h1
  refine R0 ?_
  have r1 : (a).length ≤ bd n := (okl hoka).1
  have r2 : (a).length ≤ 9223372036854775807 := N0.2.1
  refine WX.loop (ι := Int × Nat) ⟨fun | (left2, i) => (i ≤ (a).length) ∧ (-9223372036854775808 ≤ left2 ∧ left2 ≤ 9223372036854775807) ∧ (laws_szNameS_L1 a (IntKind.i64.wrap (left - (((a).length : Nat) : Int))) = laws_szNameS_L1 ((a).drop i) left2), fun | (left2, i) => (a).length - i, fun | (left2, i) => [(1, .v (.int .i64 (left2))), (5, .v (.int .i64 (((i : Nat) : Int)))), (0, .v (.slice pa ((a).length) ca))], fun | (left2, i) => [], fun | (left2, i) => [], fun | (left2, i) => [(0, MF.rs .stb pa ca a)]⟩ (IntKind.i64.wrap (left - (((a).length : Nat) : Int)), 0) ⟨(Nat.zero_le _), (i64_wrap _), rfl⟩
   (.cons rfl (.cons rfl (.cons rfl (.nil)))) .nil .nil [0] rfl ?_
  rintro ⟨left2, i⟩ hpre
  have hpre_ : (i ≤ (a).length) ∧ (-9223372036854775808 ≤ left2 ∧ left2 ≤ 9223372036854775807) ∧ (laws_szNameS_L1 a (IntKind.i64.wrap (left - (((a).length : Nat) : Int))) = laws_szNameS_L1 ((a).drop i) left2) := hpre
  clear hpre
  obtain ⟨v1, v2, v3⟩ := hpre_
  refine R0 ?_
  refine WX.cases 15 rfl (fun h2 => ?_) (fun h2 => ?_)
  ·skip
   have h2d := B.dt h2
   have e1i : i < (a).length := (by omega)
   obtain ⟨e1, e1h⟩ : ∃ e1, (a)[i]? = some e1 := ⟨_, List.getElem?_eq_getElem e1i⟩
   have ok1 : GoT.ok n e1 := (okl hoka).2 _ (List.mem_of_getElem? e1h)
   refine R0 ?_
   refine WX.idx 0 i ttOk rfl rfl rfl rfl rfl rfl rfl rfl rfl rfl e1i ?_
   rintro ad1 rfl
   refine WX.ldE 0 1 e1 ttOk rfl rfl rfl rfl rfl rfl rfl rfl e1h (fun _ => rfl) (fun _ => rfl) ?_
   rintro ⟨p1, c1⟩
   refine R0 ?_
   refine WX.callV rfl rfl rfl rfl rfl (fun _ => rfl) rfl (fun w G bs hI hΓ => f145 w n e1 p1 c1 (hΓ.get 1 rfl) left2 ok1 v2) ?_
   intro hq1
   refine R0 ?_
   refine WX.cases 25 rfl (fun h3 => ?_) (fun h3 => ?_)
   ·skip
    have h3d := B.dt h3
    refine R0 ?_
    have hP2 : laws_szNameS_L1 a (IntKind.i64.wrap (left - (((a).length : Nat) : Int))) = (Ctl.ret (-1)) := by rw [v3, drop_get e1h]; simp only [laws_szNameS_L1, h3, ct, cf]
    have hP3 : laws_szNameS a left = (-1) := by simp only [laws_szNameS, h1, hP2, ct, cf]
    refine R1 ?_
    intro w1 G bs hI hΓ
    rw [hP3]
    exact ⟨rfl, (show I64 (-1) from (by unfold I64; omega))⟩
   ·skip
    have h3d := B.df h3
    refine R0 ?_
    refine WX.see rfl rfl rfl (fun _ hΓ => looks_arith rfl rfl rfl rfl (by unfold I64; first | omega | (simp only [List.length_take] at *; omega))) ?_
    refine R0 ?_
    exact WX.iter ((laws_szName e1 left2), i + 1) ⟨(by omega), hq1, (by rw [v3, drop_get e1h]; simp only [laws_szNameS_L1, h3, ct, cf])⟩ (by first | (dsimp only; omega) | omega) (.cons rfl (.cons rfl (.cons rfl (.nil)))) .nil .nil [0] rfl
  ·skip
   have h2d := B.df h2
   refine R0 ?_
   have hX1 : laws_szNameS_L1 a (IntKind.i64.wrap (left - (((a).length : Nat) : Int))) = (Ctl.nxt left2) := by rw [v3, List.drop_eq_nil_of_le (show (a).length ≤ i by omega)]; simp only [laws_szNameS_L1, ct, cf]
   have hP4 : laws_szNameS a left = left2 := by simp only [laws_szNameS, h1, hX1, ct, cf]
   refine R1 ?_
   intro w1 G bs hI hΓ
   rw [hP4]
   exact ⟨rfl, v2⟩
theorem f149 (w : World) (n : Nat) (a : (List DataP)) (pa : Option Addr) (ca : Nat) (N0 : RdSl (hp w) pa ca a) (left : Int) (hoka : GoT.ok n a) (hokleft : GoT.ok n left) :
  Does Tryz.prog 149 #[.slice pa ((a).length) ca, .int .i64 (left)] w emp (fun (rv : Value) (_ : World) => rv = .int .i64 ((laws_szDataS a left)) ∧ GoT.ok n ((laws_szDataS a left) : Int)) := by
 refine WX.enter (tt := tt) (Γ := [(0, MF.rs .stb pa ca a)]) Tryz.func149 rfl (by kernel_rfl) rfl (allS_cons rfl N0 allS_nil) ?_
 refine R0 ?_
 refine WX.see rfl rfl rfl (fun _ hΓ => looks_wrap rfl rfl rfl rfl) ?_
 refine R0 ?_
 refine WX.cases 11 rfl (fun h1 => ?_) (fun h1 => ?_)
 ·skip
  have h1d := B.dt h1
  refine R0 ?_
  have hP1 : laws_szDataS a left = (-1) := by simp only [laws_szDataS, h1, ct, cf]
  refine R1 ?_
  intro w1 G bs hI hΓ
  rw [hP1]
  exact ⟨rfl, (show I64 (-1) from (by unfold I64; omega))⟩
 ·skip
  have h1d := B.df h1
  refine R0 ?_
  have r1 : (a).length ≤ bd n := (okl hoka).1
  have r2 : (a).length ≤ 9223372036854775807 := N0.2.1
  refine WX.loop (ι := Int × Nat) ⟨fun | (left2, i) => (i ≤ (a).length) ∧ (-9223372036854775808 ≤ left2 ∧ left2 ≤ 9223372036854775807) ∧ (laws_szDataS_L1 a (IntKind.i64.wrap (left - (((a).length : Nat) : Int))) = laws_szDataS_L1 ((a).drop i) left2), fun | (left2, i) => (a).length - i, fun | (left2, i) => [(1, .v (.int .i64 (left2))), (5, .v (.int .i64 (((i : Nat) : Int)))), (0, .v (.slice pa ((a).length) ca))], fun | (left2, i) => [], fun | (left2, i) => [], fun | (left2, i) => [(0, MF.rs .stb pa ca a)]⟩ (IntKind.i64.wrap (left - (((a).length : Nat) : Int)), 0) ⟨(Nat.zero_le _), (i64_wrap _), rfl⟩
   (.cons rfl (.cons rfl (.cons rfl (.nil)))) .nil .nil [0] rfl ?_
  rintro ⟨left2, i⟩ hpre
  have hpre_ : (i ≤ (a).length) ∧ (-9223372036854775808 ≤ left2 ∧ left2 ≤ 9223372036854775807) ∧ (laws_szDataS_L1 a (IntKind.i64.wrap (left - (((a).length : Nat) : Int))) = laws_szDataS_L1 ((a).drop i) left2) := hpre
  clear hpre
  obtain ⟨v1, v2, v3⟩ := hpre_
  refine R0 ?_
  refine WX.cases 15 rfl (fun h2 => ?_) (fun h2 => ?_)
  ·skip
   have h2d := B.dt h2
   have e1i : i < (a).length := (by omega)
   obtain ⟨e1, e1h⟩ : ∃ e1, (a)[i]? = some e1 := ⟨_, List.getElem?_eq_getElem e1i⟩
   have ok1 : GoT.ok n e1 := (okl hoka).2 _ (List.mem_of_getElem? e1h)
   refine R0 ?_
   refine WX.idx 0 i ttOk rfl rfl rfl rfl rfl rfl rfl rfl rfl rfl e1i ?_
   rintro ad1 rfl
   refine WX.ldE 0 1 e1 ttOk rfl rfl rfl rfl rfl rfl rfl rfl e1h (fun _ => rfl) (fun _ => rfl) ?_
   rintro ⟨⟨p1, c1⟩, ⟨p2, c2⟩, ⟨p3, c3⟩, ⟨⟩, ⟨⟩⟩
   refine R0 ?_
   refine WX.callV rfl rfl rfl rfl rfl (fun _ => rfl) rfl (fun w G bs hI hΓ => f64 w n e1 p1 c1 (hΓ.get 1 rfl) p2 c2 (hΓ.get 2 rfl) p3 c3 (hΓ.get 3 rfl) left2 ok1 v2) ?_
   intro hq1
   refine R0 ?_
   refine WX.cases 25 rfl (fun h3 => ?_) (fun h3 => ?_)
   ·skip
    have h3d := B.dt h3
    refine R0 ?_
    have hP2 : laws_szDataS_L1 a (IntKind.i64.wrap (left - (((a).length : Nat) : Int))) = (Ctl.ret (-1)) := by rw [v3, drop_get e1h]; simp only [laws_szDataS_L1, h3, ct, cf]
    have hP3 : laws_szDataS a left = (-1) := by simp only [laws_szDataS, h1, hP2, ct, cf]
    refine R1 ?_
    intro w1 G bs hI hΓ
    rw [hP3]
    exact ⟨rfl, (show I64 (-1) from (by unfold I64; omega))⟩
   ·skip
    have h3d := B.df h3
    refine R0 ?_
    refine WX.see rfl rfl rfl (fun _ hΓ => looks_arith rfl rfl rfl rfl (by unfold I64; first | omega | (simp only [List.length_take] at *; omega))) ?_
    refine R0 ?_
    exact WX.iter ((laws_szData e1 left2), i + 1) ⟨(by omega), hq1, (by rw [v3, drop_get e1h]; simp only [laws_szDataS_L1, h3, ct, cf])⟩ (by first | (dsimp only; omega) | omega) (.cons rfl (.cons rfl (.cons rfl (.nil)))) .nil .nil [0] rfl
  ·skip
   have h2d := B.df h2
   refine R0 ?_
   have hX1 : laws_szDataS_L1 a (IntKind.i64.wrap (left - (((a).length : Nat) : Int))) = (Ctl.nxt left2) := by rw [v3, List.drop_eq_nil_of_le (show (a).length ≤ i by omega)]; simp only [laws_szDataS_L1, ct, cf]
   have hP4 : laws_szDataS a left = left2 := by simp only [laws_szDataS, h1, hX1, ct, cf]
   refine R1 ?_
   intro w1 G bs hI hΓ
   rw [hP4]
   exact ⟨rfl, v2⟩
theorem f63 (w : World) (n : Nat) (a : TrustPolicy) (K0 : Option Addr) (M0 : Nat) (N0 : RdSl (hp w) K0 M0 a.keys) (K1 : Option Addr) (M1 : Nat) (N1 : RdSl (hp w) K1 M1 a.rules) (K2 : Option Addr) (M2 : Nat) (N2 : RdSl (hp w) K2 M2 a.anchors) (K3 : Option Addr) (M3 : Nat) (N3 : RdSl (hp w) K3 M3 a.certificates) (left : Int) (hoka : GoT.ok n a) (hokleft : GoT.ok n left) :
  Does Tryz.prog 63 #[.agg #[.slice K0 ((a.keys).length) M0, .slice K1 ((a.rules).length) M1, .slice K2 ((a.anchors).length) M2, .slice K3 ((a.certificates).length) M3], .int .i64 (left)] w emp (fun (rv : Value) (_ : World) => rv = .int .i64 ((laws_szTrustPolicy a left)) ∧ GoT.ok n ((laws_szTrustPolicy a left) : Int)) := by
 refine WX.enter (tt := tt) (Γ := [(0, MF.rs .stb K0 M0 a.keys), (1, MF.rs .stb K1 M1 a.rules), (2, MF.rs .stb K2 M2 a.anchors), (3, MF.rs .stb K3 M3 a.certificates)]) Tryz.func63 rfl (by kernel_rfl) rfl (allS_cons rfl N0 (allS_cons rfl N1 (allS_cons rfl N2 (allS_cons rfl N3 allS_nil)))) ?_
 refine R0 ?_
 refine WX.callV rfl rfl rfl rfl rfl (fun _ => rfl) rfl (fun w G bs hI hΓ => f146 w n a.keys K0 M0 (hΓ.get 0 rfl) left ((ok_TrustPolicy hoka).1) hokleft) ?_
 intro hq1
 refine R0 ?_
 refine WX.cases 10 rfl (fun h1 => ?_) (fun h1 => ?_)
 ·skip
  have h1d := B.dt h1
  refine R0 ?_
  have hP1 : laws_szTrustPolicy a left = (-1) := by simp only [laws_szTrustPolicy, h1, ct, cf]
  refine R1 ?_
  intro w1 G bs hI hΓ
  rw [hP1]
  exact ⟨rfl, (show I64 (-1) from (by unfold I64; omega))⟩
 ·skip
  have h1d := B.df h1
  refine R0 ?_
  refine WX.callV rfl rfl rfl rfl rfl (fun _ => rfl) rfl (fun w G bs hI hΓ => f147 w n a.rules K1 M1 (hΓ.get 1 rfl) (laws_szKeyS a.keys left) ((ok_TrustPolicy hoka).2.1) hq1) ?_
  intro hq2
  refine R0 ?_
  refine WX.cases 16 rfl (fun h2 => ?_) (fun h2 => ?_)
  ·skip
   have h2d := B.dt h2
   refine R0 ?_
   have hP2 : laws_szTrustPolicy a left = (-1) := by simp only [laws_szTrustPolicy, h1, h2, ct, cf]
   refine R1 ?_
   intro w1 G bs hI hΓ
   rw [hP2]
   exact ⟨rfl, (show I64 (-1) from (by unfold I64; omega))⟩
  ·skip
   have h2d := B.df h2
   refine R0 ?_
   refine WX.callV rfl rfl rfl rfl rfl (fun _ => rfl) rfl (fun w G bs hI hΓ => f148 w n a.anchors K2 M2 (hΓ.get 2 rfl) (laws_szRuleS a.rules (laws_szKeyS a.keys left)) ((ok_TrustPolicy hoka).2.2.1) hq2) ?_
   intro hq3
   refine R0 ?_
   refine WX.cases 22 rfl (fun h3 => ?_) (fun h3 => ?_)
   ·skip
    have h3d := B.dt h3
    refine R0 ?_
    have hP3 : laws_szTrustPolicy a left = (-1) := by simp only [laws_szTrustPolicy, h1, h2, h3, ct, cf]
    refine R1 ?_
    intro w1 G bs hI hΓ
    rw [hP3]
    exact ⟨rfl, (show I64 (-1) from (by unfold I64; omega))⟩
   ·skip
    have h3d := B.df h3
    refine R0 ?_
    refine WX.callV rfl rfl rfl rfl rfl (fun _ => rfl) rfl (fun w G bs hI hΓ => f149 w n a.certificates K3 M3 (hΓ.get 3 rfl) (laws_szNameS a.anchors (laws_szRuleS a.rules (laws_szKeyS a.keys left))) ((ok_TrustPolicy hoka).2.2.2) hq3) ?_
    intro hq4
    refine R0 ?_
    refine WX.cases 28 rfl (fun h4 => ?_) (fun h4 => ?_)
    ·skip
     have h4d := B.dt h4
     refine R0 ?_
     have hP4 : laws_szTrustPolicy a left = (-1) := by simp only [laws_szTrustPolicy, h1, h2, h3, h4, ct, cf]
     refine R1 ?_
     intro w1 G bs hI hΓ
     rw [hP4]
     exact ⟨rfl, (show I64 (-1) from (by unfold I64; omega))⟩
    ·skip
     have h4d := B.df h4
     refine R0 ?_
     have hP5 : laws_szTrustPolicy a left = (laws_szDataS a.certificates (laws_szNameS a.anchors (laws_szRuleS a.rules (laws_szKeyS a.keys left)))) := by simp only [laws_szTrustPolicy, h1, h2, h3, h4, ct, cf]
     refine R1 ?_
     intro w1 G bs hI hΓ
     rw [hP5]
     exact ⟨rfl, hq4⟩
theorem f261 (w : World) (n : Nat) (a : (List Link)) (pa : Option Addr) (ca : Nat) (N0 : RdSl (hp w) pa ca a) (left : Int) (hoka : GoT.ok n a) (hokleft : GoT.ok n left) :
  Does Tryz.prog 261 #[.slice pa ((a).length) ca, .int .i64 (left)] w emp (fun (rv : Value) (_ : World) => rv = .int .i64 ((laws_szLinkS a left)) ∧ GoT.ok n ((laws_szLinkS a left) : Int)) := by
 refine WX.enter (tt := tt) (Γ := [(0, MF.rs .stb pa ca a)]) Tryz.func261 rfl (by kernel_rfl) rfl (allS_cons rfl N0 allS_nil) ?_
 refine R0 ?_
 refine WX.see rfl rfl rfl (fun _ hΓ => looks_wrap rfl rfl rfl rfl) ?_
 refine R0 ?_
 refine WX.cases 10 rfl (fun h1 => ?_) (fun h1 => ?_)
 ·skip
  have h1d := B.dt h1
  refine R0 ?_
  have hP1 : laws_szLinkS a left = (-1) := by simp only [laws_szLinkS, h1, ct, cf]
  refine R1 ?_
  intro w1 G bs hI hΓ
  rw [hP1]
  exact ⟨rfl, (show I64 (-1) from (by unfold I64; omega))⟩
 ·skip
  have h1d := B.df h1
  refine R0 ?_
  have hP2 : laws_szLinkS a left = (IntKind.i64.wrap (left - (((a).length : Nat) : Int))) := by simp only [laws_szLinkS, h1, ct, cf]
  refine R1 ?_
  intro w1 G bs hI hΓ
  rw [hP2]
  exact ⟨rfl, (i64_wrap _)⟩
theorem f176 (w : World) (n : Nat) (a : Topology) (K0 : Option Addr) (M0 : Nat) (N0 : RdSl (hp w) K0 M0 a.links) (left : Int) (hoka : GoT.ok n a) (hokleft : GoT.ok n left) :
  Does Tryz.prog 176 #[.agg #[.int .i64 (a.size), .slice K0 ((a.links).length) M0], .int .i64 (left)] w emp (fun (rv : Value) (_ : World) => rv = .int .i64 ((laws_szTopology a left)) ∧ GoT.ok n ((laws_szTopology a left) : Int)) := by
 refine WX.enter (tt := tt) (Γ := [(0, MF.rs .stb K0 M0 a.links)]) Tryz.func176 rfl (by kernel_rfl) rfl (allS_cons rfl N0 allS_nil) ?_
 refine R0 ?_
 refine WX.callV rfl rfl rfl rfl rfl (fun _ => rfl) rfl (fun w G bs hI hΓ => f261 w n a.links K0 M0 (hΓ.get 0 rfl) left ((ok_Topology hoka).2) hokleft) ?_
 intro hq1
 refine R0 ?_
 refine WX.cases 10 rfl (fun h1 => ?_) (fun h1 => ?_)
 ·skip
  have h1d := B.dt h1
  refine R0 ?_
  have hP1 : laws_szTopology a left = (-1) := by simp only [laws_szTopology, h1, ct, cf]
  refine R1 ?_
  intro w1 G bs hI hΓ
  rw [hP1]
  exact ⟨rfl, (show I64 (-1) from (by unfold I64; omega))⟩
 ·skip
  have h1d := B.df h1
  refine R0 ?_
  have hP2 : laws_szTopology a left = (laws_szLinkS a.links left) := by simp only [laws_szTopology, h1, ct, cf]
  refine R1 ?_
  intro w1 G bs hI hΓ
  rw [hP2]
  exact ⟨rfl, hq1⟩
theorem f262 (w : World) (n : Nat) (a : TableEntry) (K0 : Option Addr) (M0 : Nat) (N0 : RdSl (hp w) K0 M0 a.name.parts) (left : Int) (hoka : GoT.ok n a) (hokleft : GoT.ok n left) :
  Does Tryz.prog 262 #[.agg #[.slice K0 ((a.name.parts).length) M0, .int .i64 (a.value)], .int .i64 (left)] w emp (fun (rv : Value) (_ : World) => rv = .int .i64 ((laws_szTableEntry a left)) ∧ GoT.ok n ((laws_szTableEntry a left) : Int)) := by
 refine WX.enter (tt := tt) (Γ := [(0, MF.rs .stb K0 M0 a.name.parts)]) Tryz.func262 rfl (by kernel_rfl) rfl (allS_cons rfl N0 allS_nil) ?_
 refine R0 ?_
 refine WX.callV rfl rfl rfl rfl rfl (fun _ => rfl) rfl (fun w G bs hI hΓ => f145 w n a.name K0 M0 (hΓ.get 0 rfl) left ((ok_TableEntry hoka).1) hokleft) ?_
 intro hq1
 refine R0 ?_
 refine WX.cases 10 rfl (fun h1 => ?_) (fun h1 => ?_)
 ·skip
  have h1d := B.dt h1
  refine R0 ?_
  have hP1 : laws_szTableEntry a left = (-1) := by simp only [laws_szTableEntry, h1, ct, cf]
  refine R1 ?_
  intro w1 G bs hI hΓ
  rw [hP1]
  exact ⟨rfl, (show I64 (-1) from (by unfold I64; omega))⟩
 ·skip
  have h1d := B.df h1
  refine R0 ?_
  have hP2 : laws_szTableEntry a left = (laws_szName a.name left) := by simp only [laws_szTableEntry, h1, ct, cf]
  refine R1 ?_
  intro w1 G bs hI hΓ
  rw [hP2]
  exact ⟨rfl, hq1⟩
theorem f177 (w : World) (n : Nat) (a : (List TableEntry)) (pa : Option Addr) (ca : Nat) (N0 : RdSl (hp w) pa ca a) (left : Int) (hoka : GoT.ok n a) (hokleft : GoT.ok n left) :
  Does Tryz.prog 177 #[.slice pa ((a).length) ca, .int .i64 (left)] w emp (fun (rv : Value) (_ : World) => rv = .int .i64 ((laws_szTableEntryS a left)) ∧ GoT.ok n ((laws_szTableEntryS a left) : Int)) := by
 refine WX.enter (tt := tt) (Γ := [(0, MF.rs .stb pa ca a)]) Tryz.func177 rfl (by kernel_rfl) rfl (allS_cons rfl N0 allS_nil) ?_
 refine R0 ?_
 refine WX.see rfl rfl rfl (fun _ hΓ => looks_wrap rfl rfl rfl rfl) ?_
 refine R0 ?_
 refine WX.cases 11 rfl (fun h1 => ?_) (fun h1 => ?_)
 ·skip
  have h1d := B.dt h1
  refine R0 ?_
  have hP1 : laws_szTableEntryS a left = (-1) := by simp only [laws_szTableEntryS, h1, ct, cf]
  refine R1 ?_
  intro w1 G bs hI hΓ
  rw [hP1]
  exact ⟨rfl, (show I64 (-1) from (by unfold I64; omega))⟩
 ·skip
  have h1d := B.df h1
  refine R0 ?_
  have r1 : (a).length ≤ bd n := (okl hoka).1
  have r2 : (a).length ≤ 9223372036854775807 := N0.2.1
  refine WX.loop (ι := Int × Nat) ⟨fun | (left2, i) => (i ≤ (a).length) ∧ (-9223372036854775808 ≤ left2 ∧ left2 ≤ 9223372036854775807) ∧ (laws_szTableEntryS_L1 a (IntKind.i64.wrap (left - (((a).length : Nat) : Int))) = laws_szTableEntryS_L1 ((a).drop i) left2), fun | (left2, i) => (a).length - i, fun | (left2, i) => [(1, .v (.int .i64 (left2))), (5, .v (.int .i64 (((i : Nat) : Int)))), (0, .v (.slice pa ((a).length) ca))], fun | (left2, i) => [], fun | (left2, i) => [], fun | (left2, i) => [(0, MF.rs .stb pa ca a)]⟩ (IntKind.i64.wrap (left - (((a).length : Nat) : Int)), 0) ⟨(Nat.zero_le _), (i64_wrap _), rfl⟩
   (.cons rfl (.cons rfl (.cons rfl (.nil)))) .nil .nil [0] rfl ?_
  rintro ⟨left2, i⟩ hpre
  have hpre_ : (i ≤ (a).length) ∧ (-9223372036854775808 ≤ left2 ∧ left2 ≤ 9223372036854775807) ∧ (laws_szTableEntryS_L1 a (IntKind.i64.wrap (left - (((a).length : Nat) : Int))) = laws_szTableEntryS_L1 ((a).drop i) left2) := hpre
  clear hpre
  obtain ⟨v1, v2, v3⟩ := hpre_
  refine R0 ?_
  refine WX.cases 15 rfl (fun h2 => ?_) (fun h2 => ?_)
  ·skip
   have h2d := B.dt h2
   have e1i : i < (a).length := (by omega)
   obtain ⟨e1, e1h⟩ : ∃ e1, (a)[i]? = some e1 := ⟨_, List.getElem?_eq_getElem e1i⟩
   have ok1 : GoT.ok n e1 := (okl hoka).2 _ (List.mem_of_getElem? e1h)
   refine R0 ?_
   refine WX.idx 0 i ttOk rfl rfl rfl rfl rfl rfl rfl rfl rfl rfl e1i ?_
   rintro ad1 rfl
   refine WX.ldE 0 1 e1 ttOk rfl rfl rfl rfl rfl rfl rfl rfl e1h (fun _ => rfl) (fun _ => rfl) ?_
   rintro ⟨⟨p1, c1⟩, ⟨⟩⟩
   refine R0 ?_
   refine WX.callV rfl rfl rfl rfl rfl (fun _ => rfl) rfl (fun w G bs hI hΓ => f262 w n e1 p1 c1 (hΓ.get 1 rfl) left2 ok1 v2) ?_
   intro hq1
   refine R0 ?_
   refine WX.cases 25 rfl (fun h3 => ?_) (fun h3 => ?_)
   ·skip
    have h3d := B.dt h3
    refine R0 ?_
    have hP2 : laws_szTableEntryS_L1 a (IntKind.i64.wrap (left - (((a).length : Nat) : Int))) = (Ctl.ret (-1)) := by rw [v3, drop_get e1h]; simp only [laws_szTableEntryS_L1, h3, ct, cf]
    have hP3 : laws_szTableEntryS a left = (-1) := by simp only [laws_szTableEntryS, h1, hP2, ct, cf]
    refine R1 ?_
    intro w1 G bs hI hΓ
    rw [hP3]
    exact ⟨rfl, (show I64 (-1) from (by unfold I64; omega))⟩
   ·skip
    have h3d := B.df h3
    refine R0 ?_
    refine WX.see rfl rfl rfl (fun _ hΓ => looks_arith rfl rfl rfl rfl (by unfold I64; first | omega | (simp only [List.length_take] at *; omega))) ?_
    refine R0 ?_
    exact WX.iter ((laws_szTableEntry e1 left2), i + 1) ⟨(by omega), hq1, (by rw [v3, drop_get e1h]; simp only [laws_szTableEntryS_L1, h3, ct, cf])⟩ (by first | (dsimp only; omega) | omega) (.cons rfl (.cons rfl (.cons rfl (.nil)))) .nil .nil [0] rfl
  ·skip
   have h2d := B.df h2
   refine R0 ?_
   have hX1 : laws_szTableEntryS_L1 a (IntKind.i64.wrap (left - (((a).length : Nat) : Int))) = (Ctl.nxt left2) := by rw [v3, List.drop_eq_nil_of_le (show (a).length ≤ i by omega)]; simp only [laws_szTableEntryS_L1, ct, cf]
   have hP4 : laws_szTableEntryS a left = left2 := by simp only [laws_szTableEntryS, h1, hX1, ct, cf]
   refine R1 ?_
   intro w1 G bs hI hΓ
   rw [hP4]
   exact ⟨rfl, v2⟩
theorem f422 (w : World) (n : Nat) (a : CacheEntry) (K0 : Option Addr) (M0 : Nat) (N0 : RdSl (hp w) K0 M0 a.data.name.parts) (K1 : Option Addr) (M1 : Nat) (N1 : RdSl (hp w) K1 M1 a.data.content) (K2 : Option Addr) (M2 : Nat) (N2 : RdSl (hp w) K2 M2 a.data.keyName.parts) (left : Int) (hoka : GoT.ok n a) (hokleft : GoT.ok n left) :
  Does Tryz.prog 422 #[.agg #[.slice K0 ((a.data.name.parts).length) M0, .slice K1 ((a.data.content).length) M1, .slice K2 ((a.data.keyName.parts).length) M2, .int .i64 (a.data.freshUntil), .int .i64 (a.data.signature), .int .i64 (a.lastUsed)], .int .i64 (left)] w emp (fun (rv : Value) (_ : World) => rv = .int .i64 ((laws_szCacheEntry a left)) ∧ GoT.ok n ((laws_szCacheEntry a left) : Int)) := by
 refine WX.enter (tt := tt) (Γ := [(0, MF.rs .stb K0 M0 a.data.name.parts), (1, MF.rs .stb K1 M1 a.data.content), (2, MF.rs .stb K2 M2 a.data.keyName.parts)]) Tryz.func422 rfl (by kernel_rfl) rfl (allS_cons rfl N0 (allS_cons rfl N1 (allS_cons rfl N2 allS_nil))) ?_
 refine R0 ?_
 refine WX.callV rfl rfl rfl rfl rfl (fun _ => rfl) rfl (fun w G bs hI hΓ => f64 w n a.data K0 M0 (hΓ.get 0 rfl) K1 M1 (hΓ.get 1 rfl) K2 M2 (hΓ.get 2 rfl) left ((ok_CacheEntry hoka).1) hokleft) ?_
 intro hq1
 refine R0 ?_
 refine WX.cases 10 rfl (fun h1 => ?_) (fun h1 => ?_)
 ·skip
  have h1d := B.dt h1
  refine R0 ?_
  have hP1 : laws_szCacheEntry a left = (-1) := by simp only [laws_szCacheEntry, h1, ct, cf]
  refine R1 ?_
  intro w1 G bs hI hΓ
  rw [hP1]
  exact ⟨rfl, (show I64 (-1) from (by unfold I64; omega))⟩
 ·skip
  have h1d := B.df h1
  refine R0 ?_
  have hP2 : laws_szCacheEntry a left = (laws_szData a.data left) := by simp only [laws_szCacheEntry, h1, ct, cf]
  refine R1 ?_
  intro w1 G bs hI hΓ
  rw [hP2]
  exact ⟨rfl, hq1⟩
theorem f378 (w : World) (n : Nat) (a : (List CacheEntry)) (pa : Option Addr) (ca : Nat) (N0 : RdSl (hp w) pa ca a) (left : Int) (hoka : GoT.ok n a) (hokleft : GoT.ok n left) :
  Does Tryz.prog 378 #[.slice pa ((a).length) ca, .int .i64 (left)] w emp (fun (rv : Value) (_ : World) => rv = .int .i64 ((laws_szCacheEntryS a left)) ∧ GoT.ok n ((laws_szCacheEntryS a left) : Int)) := by
 refine WX.enter (tt := tt) (Γ := [(0, MF.rs .stb pa ca a)]) Tryz.func378 rfl (by kernel_rfl) rfl (allS_cons rfl N0 allS_nil) ?_
 refine R0 ?_
 refine WX.see rfl rfl rfl (fun _ hΓ => looks_wrap rfl rfl rfl rfl) ?_
 refine R0 ?_
 refine WX.cases 11 rfl (fun h1 => ?_) (fun h1 => ?_)
 ·skip
  have h1d := B.dt h1
  refine R0 ?_
  have hP1 : laws_szCacheEntryS a left = (-1) := by simp only [laws_szCacheEntryS, h1, ct, cf]
  refine R1 ?_
  intro w1 G bs hI hΓ
  rw [hP1]
  exact ⟨rfl, (show I64 (-1) from (by unfold I64; omega))⟩
 ·skip
  have h1d := B.df h1
  refine R0 ?_
  have r1 : (a).length ≤ bd n := (okl hoka).1
  have r2 : (a).length ≤ 9223372036854775807 := N0.2.1
  refine WX.loop (ι := Int × Nat) ⟨fun | (left2, i) => (i ≤ (a).length) ∧ (-9223372036854775808 ≤ left2 ∧ left2 ≤ 9223372036854775807) ∧ (laws_szCacheEntryS_L1 a (IntKind.i64.wrap (left - (((a).length : Nat) : Int))) = laws_szCacheEntryS_L1 ((a).drop i) left2), fun | (left2, i) => (a).length - i, fun | (left2, i) => [(1, .v (.int .i64 (left2))), (5, .v (.int .i64 (((i : Nat) : Int)))), (0, .v (.slice pa ((a).length) ca))], fun | (left2, i) => [], fun | (left2, i) => [], fun | (left2, i) => [(0, MF.rs .stb pa ca a)]⟩ (IntKind.i64.wrap (left - (((a).length : Nat) : Int)), 0) ⟨(Nat.zero_le _), (i64_wrap _), rfl⟩
   (.cons rfl (.cons rfl (.cons rfl (.nil)))) .nil .nil [0] rfl ?_
  rintro ⟨left2, i⟩ hpre
  have hpre_ : (i ≤ (a).length) ∧ (-9223372036854775808 ≤ left2 ∧ left2 ≤ 9223372036854775807) ∧ (laws_szCacheEntryS_L1 a (IntKind.i64.wrap (left - (((a).length : Nat) : Int))) = laws_szCacheEntryS_L1 ((a).drop i) left2) := hpre
  clear hpre
  obtain ⟨v1, v2, v3⟩ := hpre_
  refine R0 ?_
  refine WX.cases 15 rfl (fun h2 => ?_) (fun h2 => ?_)
  ·skip
   have h2d := B.dt h2
   have e1i : i < (a).length := (by omega)
   obtain ⟨e1, e1h⟩ : ∃ e1, (a)[i]? = some e1 := ⟨_, List.getElem?_eq_getElem e1i⟩
   have ok1 : GoT.ok n e1 := (okl hoka).2 _ (List.mem_of_getElem? e1h)
   refine R0 ?_
   refine WX.idx 0 i ttOk rfl rfl rfl rfl rfl rfl rfl rfl rfl rfl e1i ?_
   rintro ad1 rfl
   refine WX.ldE 0 1 e1 ttOk rfl rfl rfl rfl rfl rfl rfl rfl e1h (fun _ => rfl) (fun _ => rfl) ?_
   rintro ⟨⟨⟨p1, c1⟩, ⟨p2, c2⟩, ⟨p3, c3⟩, ⟨⟩, ⟨⟩⟩, ⟨⟩⟩
   refine R0 ?_
   refine WX.callV rfl rfl rfl rfl rfl (fun _ => rfl) rfl (fun w G bs hI hΓ => f422 w n e1 p1 c1 (hΓ.get 1 rfl) p2 c2 (hΓ.get 2 rfl) p3 c3 (hΓ.get 3 rfl) left2 ok1 v2) ?_
   intro hq1
   refine R0 ?_
   refine WX.cases 25 rfl (fun h3 => ?_) (fun h3 => ?_)
   ·skip
    have h3d := B.dt h3
    refine R0 ?_
    have hP2 : laws_szCacheEntryS_L1 a (IntKind.i64.wrap (left - (((a).length : Nat) : Int))) = (Ctl.ret (-1)) := by rw [v3, drop_get e1h]; simp only [laws_szCacheEntryS_L1, h3, ct, cf]
    have hP3 : laws_szCacheEntryS a left = (-1) := by simp only [laws_szCacheEntryS, h1, hP2, ct, cf]
    refine R1 ?_
    intro w1 G bs hI hΓ
    rw [hP3]
    exact ⟨rfl, (show I64 (-1) from (by unfold I64; omega))⟩
   ·skip
    have h3d := B.df h3
    refine R0 ?_
    refine WX.see rfl rfl rfl (fun _ hΓ => looks_arith rfl rfl rfl rfl (by unfold I64; first | omega | (simp only [List.length_take] at *; omega))) ?_
    refine R0 ?_
    exact WX.iter ((laws_szCacheEntry e1 left2), i + 1) ⟨(by omega), hq1, (by rw [v3, drop_get e1h]; simp only [laws_szCacheEntryS_L1, h3, ct, cf])⟩ (by first | (dsimp only; omega) | omega) (.cons rfl (.cons rfl (.cons rfl (.nil)))) .nil .nil [0] rfl
  ·skip
   have h2d := B.df h2
   refine R0 ?_
   have hX1 : laws_szCacheEntryS_L1 a (IntKind.i64.wrap (left - (((a).length : Nat) : Int))) = (Ctl.nxt left2) := by rw [v3, List.drop_eq_nil_of_le (show (a).length ≤ i by omega)]; simp only [laws_szCacheEntryS_L1, ct, cf]
   have hP4 : laws_szCacheEntryS a left = left2 := by simp only [laws_szCacheEntryS, h1, hX1, ct, cf]
   refine R1 ?_
   intro w1 G bs hI hΓ
   rw [hP4]
   exact ⟨rfl, v2⟩
theorem f319 (w : World) (n : Nat) (a : ContentStore) (K0 : Option Addr) (M0 : Nat) (N0 : RdSl (hp w) K0 M0 a.entries) (left : Int) (hoka : GoT.ok n a) (hokleft : GoT.ok n left) :
  Does Tryz.prog 319 #[.agg #[.int .i64 (a.capacity), .slice K0 ((a.entries).length) M0], .int .i64 (left)] w emp (fun (rv : Value) (_ : World) => rv = .int .i64 ((laws_szContentStore a left)) ∧ GoT.ok n ((laws_szContentStore a left) : Int)) := by
 refine WX.enter (tt := tt) (Γ := [(0, MF.rs .stb K0 M0 a.entries)]) Tryz.func319 rfl (by kernel_rfl) rfl (allS_cons rfl N0 allS_nil) ?_
 refine R0 ?_
 refine WX.callV rfl rfl rfl rfl rfl (fun _ => rfl) rfl (fun w G bs hI hΓ => f378 w n a.entries K0 M0 (hΓ.get 0 rfl) left ((ok_ContentStore hoka).2) hokleft) ?_
 intro hq1
 refine R0 ?_
 refine WX.cases 10 rfl (fun h1 => ?_) (fun h1 => ?_)
 ·skip
  have h1d := B.dt h1
  refine R0 ?_
  have hP1 : laws_szContentStore a left = (-1) := by simp only [laws_szContentStore, h1, ct, cf]
  refine R1 ?_
  intro w1 G bs hI hΓ
  rw [hP1]
  exact ⟨rfl, (show I64 (-1) from (by unfold I64; omega))⟩
 ·skip
  have h1d := B.df h1
  refine R0 ?_
  have hP2 : laws_szContentStore a left = (laws_szCacheEntryS a.entries left) := by simp only [laws_szContentStore, h1, ct, cf]
  refine R1 ?_
  intro w1 G bs hI hΓ
  rw [hP2]
  exact ⟨rfl, hq1⟩
theorem f423 (w : World) (n : Nat) (a : (List Requester)) (pa : Option Addr) (ca : Nat) (N0 : RdSl (hp w) pa ca a) (left : Int) (hoka : GoT.ok n a) (hokleft : GoT.ok n left) :
  Does Tryz.prog 423 #[.slice pa ((a).length) ca, .int .i64 (left)] w emp (fun (rv : Value) (_ : World) => rv = .int .i64 ((laws_szRequesterS a left)) ∧ GoT.ok n ((laws_szRequesterS a left) : Int)) := by
 refine WX.enter (tt := tt) (Γ := [(0, MF.rs .stb pa ca a)]) Tryz.func423 rfl (by kernel_rfl) rfl (allS_cons rfl N0 allS_nil) ?_
 refine R0 ?_
 refine WX.see rfl rfl rfl (fun _ hΓ => looks_wrap rfl rfl rfl rfl) ?_
 refine R0 ?_
 refine WX.cases 10 rfl (fun h1 => ?_) (fun h1 => ?_)
 ·skip
  have h1d := B.dt h1
  refine R0 ?_
  have hP1 : laws_szRequesterS a left = (-1) := by simp only [laws_szRequesterS, h1, ct, cf]
  refine R1 ?_
  intro w1 G bs hI hΓ
  rw [hP1]
  exact ⟨rfl, (show I64 (-1) from (by unfold I64; omega))⟩
 ·skip
  have h1d := B.df h1
  refine R0 ?_
  have hP2 : laws_szRequesterS a left = (IntKind.i64.wrap (left - (((a).length : Nat) : Int))) := by simp only [laws_szRequesterS, h1, ct, cf]
  refine R1 ?_
  intro w1 G bs hI hΓ
  rw [hP2]
  exact ⟨rfl, (i64_wrap _)⟩
theorem f379 (w : World) (n : Nat) (a : PendingInterest) (K0 : Option Addr) (M0 : Nat) (N0 : RdSl (hp w) K0 M0 a.name.parts) (K1 : Option Addr) (M1 : Nat) (N1 : RdSl (hp w) K1 M1 a.requesters) (left : Int) (hoka : GoT.ok n a) (hokleft : GoT.ok n left) :
  Does Tryz.prog 379 #[.agg #[.slice K0 ((a.name.parts).length) M0, .slice K1 ((a.requesters).length) M1, .int .i64 (a.lastSent)], .int .i64 (left)] w emp (fun (rv : Value) (_ : World) => rv = .int .i64 ((laws_szPendingInterest a left)) ∧ GoT.ok n ((laws_szPendingInterest a left) : Int)) := by
 refine WX.enter (tt := tt) (Γ := [(0, MF.rs .stb K0 M0 a.name.parts), (1, MF.rs .stb K1 M1 a.requesters)]) Tryz.func379 rfl (by kernel_rfl) rfl (allS_cons rfl N0 (allS_cons rfl N1 allS_nil)) ?_
 refine R0 ?_
 refine WX.callV rfl rfl rfl rfl rfl (fun _ => rfl) rfl (fun w G bs hI hΓ => f145 w n a.name K0 M0 (hΓ.get 0 rfl) left ((ok_PendingInterest hoka).1) hokleft) ?_
 intro hq1
 refine R0 ?_
 refine WX.cases 10 rfl (fun h1 => ?_) (fun h1 => ?_)
 ·skip
  have h1d := B.dt h1
  refine R0 ?_
  have hP1 : laws_szPendingInterest a left = (-1) := by simp only [laws_szPendingInterest, h1, ct, cf]
  refine R1 ?_
  intro w1 G bs hI hΓ
  rw [hP1]
  exact ⟨rfl, (show I64 (-1) from (by unfold I64; omega))⟩
 ·skip
  have h1d := B.df h1
  refine R0 ?_
  refine WX.callV rfl rfl rfl rfl rfl (fun _ => rfl) rfl (fun w G bs hI hΓ => f423 w n a.requesters K1 M1 (hΓ.get 1 rfl) (laws_szName a.name left) ((ok_PendingInterest hoka).2.1) hq1) ?_
  intro hq2
  refine R0 ?_
  refine WX.cases 16 rfl (fun h2 => ?_) (fun h2 => ?_)
  ·skip
   have h2d := B.dt h2
   refine R0 ?_
   have hP2 : laws_szPendingInterest a left = (-1) := by simp only [laws_szPendingInterest, h1, h2, ct, cf]
   refine R1 ?_
   intro w1 G bs hI hΓ
   rw [hP2]
   exact ⟨rfl, (show I64 (-1) from (by unfold I64; omega))⟩
  ·skip
   have h2d := B.df h2
   refine R0 ?_
   have hP3 : laws_szPendingInterest a left = (laws_szRequesterS a.requesters (laws_szName a.name left)) := by simp only [laws_szPendingInterest, h1, h2, ct, cf]
   refine R1 ?_
   intro w1 G bs hI hΓ
   rw [hP3]
   exact ⟨rfl, hq2⟩
theorem f320 (w : World) (n : Nat) (a : (List PendingInterest)) (pa : Option Addr) (ca : Nat) (N0 : RdSl (hp w) pa ca a) (left : Int) (hoka : GoT.ok n a) (hokleft : GoT.ok n left) :
  Does Tryz.prog 320 #[.slice pa ((a).length) ca, .int .i64 (left)] w emp (fun (rv : Value) (_ : World) => rv = .int .i64 ((laws_szPendingInterestS a left)) ∧ GoT.ok n ((laws_szPendingInterestS a left) : Int)) := by
 refine WX.enter (tt := tt) (Γ := [(0, MF.rs .stb pa ca a)]) Tryz.func320 rfl (by kernel_rfl) rfl (allS_cons rfl N0 allS_nil) ?_
 refine R0 ?_
 refine WX.see rfl rfl rfl (fun _ hΓ => looks_wrap rfl rfl rfl rfl) ?_
 refine R0 ?_
 refine WX.cases 11 rfl (fun h1 => ?_) (fun h1 => ?_)
 ·skip
  have h1d := B.dt h1
  refine R0 ?_
  have hP1 : laws_szPendingInterestS a left = (-1) := by simp only [laws_szPendingInterestS, h1, ct, cf]
  refine R1 ?_
  intro w1 G bs hI hΓ
  rw [hP1]
  exact ⟨rfl, (show I64 (-1) from (by unfold I64; omega))⟩
 ·skip
  have h1d := B.df h1
  refine R0 ?_
  have r1 : (a).length ≤ bd n := (okl hoka).1
  have r2 : (a).length ≤ 9223372036854775807 := N0.2.1
  refine WX.loop (ι := Int × Nat) ⟨fun | (left2, i) => (i ≤ (a).length) ∧ (-9223372036854775808 ≤ left2 ∧ left2 ≤ 9223372036854775807) ∧ (laws_szPendingInterestS_L1 a (IntKind.i64.wrap (left - (((a).length : Nat) : Int))) = laws_szPendingInterestS_L1 ((a).drop i) left2), fun | (left2, i) => (a).length - i, fun | (left2, i) => [(1, .v (.int .i64 (left2))), (5, .v (.int .i64 (((i : Nat) : Int)))), (0, .v (.slice pa ((a).length) ca))], fun | (left2, i) => [], fun | (left2, i) => [], fun | (left2, i) => [(0, MF.rs .stb pa ca a)]⟩ (IntKind.i64.wrap (left - (((a).length : Nat) : Int)), 0) ⟨(Nat.zero_le _), (i64_wrap _), rfl⟩
   (.cons rfl (.cons rfl (.cons rfl (.nil)))) .nil .nil [0] rfl ?_
  rintro ⟨left2, i⟩ hpre
  have hpre_ : (i ≤ (a).length) ∧ (-9223372036854775808 ≤ left2 ∧ left2 ≤ 9223372036854775807) ∧ (laws_szPendingInterestS_L1 a (IntKind.i64.wrap (left - (((a).length : Nat) : Int))) = laws_szPendingInterestS_L1 ((a).drop i) left2) := hpre
  clear hpre
  obtain ⟨v1, v2, v3⟩ := hpre_
  refine R0 ?_
  refine WX.cases 15 rfl (fun h2 => ?_) (fun h2 => ?_)
  ·skip
   have h2d := B.dt h2
   have e1i : i < (a).length := (by omega)
   obtain ⟨e1, e1h⟩ : ∃ e1, (a)[i]? = some e1 := ⟨_, List.getElem?_eq_getElem e1i⟩
   have ok1 : GoT.ok n e1 := (okl hoka).2 _ (List.mem_of_getElem? e1h)
   refine R0 ?_
   refine WX.idx 0 i ttOk rfl rfl rfl rfl rfl rfl rfl rfl rfl rfl e1i ?_
   rintro ad1 rfl
   refine WX.ldE 0 1 e1 ttOk rfl rfl rfl rfl rfl rfl rfl rfl e1h (fun _ => rfl) (fun _ => rfl) ?_
   rintro ⟨⟨p1, c1⟩, ⟨p2, c2⟩, ⟨⟩⟩
   refine R0 ?_
   refine WX.callV rfl rfl rfl rfl rfl (fun _ => rfl) rfl (fun w G bs hI hΓ => f379 w n e1 p1 c1 (hΓ.get 1 rfl) p2 c2 (hΓ.get 2 rfl) left2 ok1 v2) ?_
   intro hq1
   refine R0 ?_
   refine WX.cases 25 rfl (fun h3 => ?_) (fun h3 => ?_)
   ·skip
    have h3d := B.dt h3
    refine R0 ?_
    have hP2 : laws_szPendingInterestS_L1 a (IntKind.i64.wrap (left - (((a).length : Nat) : Int))) = (Ctl.ret (-1)) := by rw [v3, drop_get e1h]; simp only [laws_szPendingInterestS_L1, h3, ct, cf]
    have hP3 : laws_szPendingInterestS a left = (-1) := by simp only [laws_szPendingInterestS, h1, hP2, ct, cf]
    refine R1 ?_
    intro w1 G bs hI hΓ
    rw [hP3]
    exact ⟨rfl, (show I64 (-1) from (by unfold I64; omega))⟩
   ·skip
    have h3d := B.df h3
    refine R0 ?_
    refine WX.see rfl rfl rfl (fun _ hΓ => looks_arith rfl rfl rfl rfl (by unfold I64; first | omega | (simp only [List.length_take] at *; omega))) ?_
    refine R0 ?_
    exact WX.iter ((laws_szPendingInterest e1 left2), i + 1) ⟨(by omega), hq1, (by rw [v3, drop_get e1h]; simp only [laws_szPendingInterestS_L1, h3, ct, cf])⟩ (by first | (dsimp only; omega) | omega) (.cons rfl (.cons rfl (.cons rfl (.nil)))) .nil .nil [0] rfl
  ·skip
   have h2d := B.df h2
   refine R0 ?_
   have hX1 : laws_szPendingInterestS_L1 a (IntKind.i64.wrap (left - (((a).length : Nat) : Int))) = (Ctl.nxt left2) := by rw [v3, List.drop_eq_nil_of_le (show (a).length ≤ i by omega)]; simp only [laws_szPendingInterestS_L1, ct, cf]
   have hP4 : laws_szPendingInterestS a left = left2 := by simp only [laws_szPendingInterestS, h1, hX1, ct, cf]
   refine R1 ?_
   intro w1 G bs hI hΓ
   rw [hP4]
   exact ⟨rfl, v2⟩
theorem f380 (w : World) (n : Nat) (a : SeenNonce) (K0 : Option Addr) (M0 : Nat) (N0 : RdSl (hp w) K0 M0 a.name.parts) (left : Int) (hoka : GoT.ok n a) (hokleft : GoT.ok n left) :
  Does Tryz.prog 380 #[.agg #[.slice K0 ((a.name.parts).length) M0, .int .i64 (a.nonce)], .int .i64 (left)] w emp (fun (rv : Value) (_ : World) => rv = .int .i64 ((laws_szSeenNonce a left)) ∧ GoT.ok n ((laws_szSeenNonce a left) : Int)) := by
 refine WX.enter (tt := tt) (Γ := [(0, MF.rs .stb K0 M0 a.name.parts)]) Tryz.func380 rfl (by kernel_rfl) rfl (allS_cons rfl N0 allS_nil) ?_
 refine R0 ?_
 refine WX.callV rfl rfl rfl rfl rfl (fun _ => rfl) rfl (fun w G bs hI hΓ => f145 w n a.name K0 M0 (hΓ.get 0 rfl) left ((ok_SeenNonce hoka).1) hokleft) ?_
 intro hq1
 refine R0 ?_
 refine WX.cases 10 rfl (fun h1 => ?_) (fun h1 => ?_)
 ·skip
  have h1d := B.dt h1
  refine R0 ?_
  have hP1 : laws_szSeenNonce a left = (-1) := by simp only [laws_szSeenNonce, h1, ct, cf]
  refine R1 ?_
  intro w1 G bs hI hΓ
  rw [hP1]
  exact ⟨rfl, (show I64 (-1) from (by unfold I64; omega))⟩
 ·skip
  have h1d := B.df h1
  refine R0 ?_
  have hP2 : laws_szSeenNonce a left = (laws_szName a.name left) := by simp only [laws_szSeenNonce, h1, ct, cf]
  refine R1 ?_
  intro w1 G bs hI hΓ
  rw [hP2]
  exact ⟨rfl, hq1⟩
theorem f321 (w : World) (n : Nat) (a : (List SeenNonce)) (pa : Option Addr) (ca : Nat) (N0 : RdSl (hp w) pa ca a) (left : Int) (hoka : GoT.ok n a) (hokleft : GoT.ok n left) :
  Does Tryz.prog 321 #[.slice pa ((a).length) ca, .int .i64 (left)] w emp (fun (rv : Value) (_ : World) => rv = .int .i64 ((laws_szSeenNonceS a left)) ∧ GoT.ok n ((laws_szSeenNonceS a left) : Int)) := by
 refine WX.enter (tt := tt) (Γ := [(0, MF.rs .stb pa ca a)]) Tryz.func321 rfl (by kernel_rfl) rfl (allS_cons rfl N0 allS_nil) ?_
 refine R0 ?_
 refine WX.see rfl rfl rfl (fun _ hΓ => looks_wrap rfl rfl rfl rfl) ?_
 refine R0 ?_
 refine WX.cases 11 rfl (fun h1 => ?_) (fun h1 => ?_)
 ·skip
  have h1d := B.dt h1
  refine R0 ?_
  have hP1 : laws_szSeenNonceS a left = (-1) := by simp only [laws_szSeenNonceS, h1, ct, cf]
  refine R1 ?_
  intro w1 G bs hI hΓ
  rw [hP1]
  exact ⟨rfl, (show I64 (-1) from (by unfold I64; omega))⟩
 ·skip
  have h1d := B.df h1
  refine R0 ?_
  have r1 : (a).length ≤ bd n := (okl hoka).1
  have r2 : (a).length ≤ 9223372036854775807 := N0.2.1
  refine WX.loop (ι := Int × Nat) ⟨fun | (left2, i) => (i ≤ (a).length) ∧ (-9223372036854775808 ≤ left2 ∧ left2 ≤ 9223372036854775807) ∧ (laws_szSeenNonceS_L1 a (IntKind.i64.wrap (left - (((a).length : Nat) : Int))) = laws_szSeenNonceS_L1 ((a).drop i) left2), fun | (left2, i) => (a).length - i, fun | (left2, i) => [(1, .v (.int .i64 (left2))), (5, .v (.int .i64 (((i : Nat) : Int)))), (0, .v (.slice pa ((a).length) ca))], fun | (left2, i) => [], fun | (left2, i) => [], fun | (left2, i) => [(0, MF.rs .stb pa ca a)]⟩ (IntKind.i64.wrap (left - (((a).length : Nat) : Int)), 0) ⟨(Nat.zero_le _), (i64_wrap _), rfl⟩
   (.cons rfl (.cons rfl (.cons rfl (.nil)))) .nil .nil [0] rfl ?_
  rintro ⟨left2, i⟩ hpre
  have hpre_ : (i ≤ (a).length) ∧ (-9223372036854775808 ≤ left2 ∧ left2 ≤ 9223372036854775807) ∧ (laws_szSeenNonceS_L1 a (IntKind.i64.wrap (left - (((a).length : Nat) : Int))) = laws_szSeenNonceS_L1 ((a).drop i) left2) := hpre
  clear hpre
  obtain ⟨v1, v2, v3⟩ := hpre_
  refine R0 ?_
  refine WX.cases 15 rfl (fun h2 => ?_) (fun h2 => ?_)
  ·skip
   have h2d := B.dt h2
   have e1i : i < (a).length := (by omega)
   obtain ⟨e1, e1h⟩ : ∃ e1, (a)[i]? = some e1 := ⟨_, List.getElem?_eq_getElem e1i⟩
   have ok1 : GoT.ok n e1 := (okl hoka).2 _ (List.mem_of_getElem? e1h)
   refine R0 ?_
   refine WX.idx 0 i ttOk rfl rfl rfl rfl rfl rfl rfl rfl rfl rfl e1i ?_
   rintro ad1 rfl
   refine WX.ldE 0 1 e1 ttOk rfl rfl rfl rfl rfl rfl rfl rfl e1h (fun _ => rfl) (fun _ => rfl) ?_
   rintro ⟨⟨p1, c1⟩, ⟨⟩⟩
   refine R0 ?_
   refine WX.callV rfl rfl rfl rfl rfl (fun _ => rfl) rfl (fun w G bs hI hΓ => f380 w n e1 p1 c1 (hΓ.get 1 rfl) left2 ok1 v2) ?_
   intro hq1
   refine R0 ?_
   refine WX.cases 25 rfl (fun h3 => ?_) (fun h3 => ?_)
   ·skip
    have h3d := B.dt h3
    refine R0 ?_
    have hP2 : laws_szSeenNonceS_L1 a (IntKind.i64.wrap (left - (((a).length : Nat) : Int))) = (Ctl.ret (-1)) := by rw [v3, drop_get e1h]; simp only [laws_szSeenNonceS_L1, h3, ct, cf]
    have hP3 : laws_szSeenNonceS a left = (-1) := by simp only [laws_szSeenNonceS, h1, hP2, ct, cf]
    refine R1 ?_
    intro w1 G bs hI hΓ
    rw [hP3]
    exact ⟨rfl, (show I64 (-1) from (by unfold I64; omega))⟩
   ·skip
    have h3d := B.df h3
    refine R0 ?_
    refine WX.see rfl rfl rfl (fun _ hΓ => looks_arith rfl rfl rfl rfl (by unfold I64; first | omega | (simp only [List.length_take] at *; omega))) ?_
    refine R0 ?_
    exact WX.iter ((laws_szSeenNonce e1 left2), i + 1) ⟨(by omega), hq1, (by rw [v3, drop_get e1h]; simp only [laws_szSeenNonceS_L1, h3, ct, cf])⟩ (by first | (dsimp only; omega) | omega) (.cons rfl (.cons rfl (.cons rfl (.nil)))) .nil .nil [0] rfl
  ·skip
   have h2d := B.df h2
   refine R0 ?_
   have hX1 : laws_szSeenNonceS_L1 a (IntKind.i64.wrap (left - (((a).length : Nat) : Int))) = (Ctl.nxt left2) := by rw [v3, List.drop_eq_nil_of_le (show (a).length ≤ i by omega)]; simp only [laws_szSeenNonceS_L1, ct, cf]
   have hP4 : laws_szSeenNonceS a left = left2 := by simp only [laws_szSeenNonceS, h1, hX1, ct, cf]
   refine R1 ?_
   intro w1 G bs hI hΓ
   rw [hP4]
   exact ⟨rfl, v2⟩
theorem f381 (w : World) (n : Nat) (a : Route) (K0 : Option Addr) (M0 : Nat) (N0 : RdSl (hp w) K0 M0 a.pfx.parts) (left : Int) (hoka : GoT.ok n a) (hokleft : GoT.ok n left) :
  Does Tryz.prog 381 #[.agg #[.slice K0 ((a.pfx.parts).length) M0, .int .i64 (a.face), .int .i64 (a.cost)], .int .i64 (left)] w emp (fun (rv : Value) (_ : World) => rv = .int .i64 ((laws_szRoute a left)) ∧ GoT.ok n ((laws_szRoute a left) : Int)) := by
 refine WX.enter (tt := tt) (Γ := [(0, MF.rs .stb K0 M0 a.pfx.parts)]) Tryz.func381 rfl (by kernel_rfl) rfl (allS_cons rfl N0 allS_nil) ?_
 refine R0 ?_
 refine WX.callV rfl rfl rfl rfl rfl (fun _ => rfl) rfl (fun w G bs hI hΓ => f145 w n a.pfx K0 M0 (hΓ.get 0 rfl) left ((ok_Route hoka).1) hokleft) ?_
 intro hq1
 refine R0 ?_
 refine WX.cases 10 rfl (fun h1 => ?_) (fun h1 => ?_)
 ·skip
  have h1d := B.dt h1
  refine R0 ?_
  have hP1 : laws_szRoute a left = (-1) := by simp only [laws_szRoute, h1, ct, cf]
  refine R1 ?_
  intro w1 G bs hI hΓ
  rw [hP1]
  exact ⟨rfl, (show I64 (-1) from (by unfold I64; omega))⟩
 ·skip
  have h1d := B.df h1
  refine R0 ?_
  have hP2 : laws_szRoute a left = (laws_szName a.pfx left) := by simp only [laws_szRoute, h1, ct, cf]
  refine R1 ?_
  intro w1 G bs hI hΓ
  rw [hP2]
  exact ⟨rfl, hq1⟩
theorem f322 (w : World) (n : Nat) (a : (List Route)) (pa : Option Addr) (ca : Nat) (N0 : RdSl (hp w) pa ca a) (left : Int) (hoka : GoT.ok n a) (hokleft : GoT.ok n left) :
  Does Tryz.prog 322 #[.slice pa ((a).length) ca, .int .i64 (left)] w emp (fun (rv : Value) (_ : World) => rv = .int .i64 ((laws_szRouteS a left)) ∧ GoT.ok n ((laws_szRouteS a left) : Int)) := by
 refine WX.enter (tt := tt) (Γ := [(0, MF.rs .stb pa ca a)]) Tryz.func322 rfl (by kernel_rfl) rfl (allS_cons rfl N0 allS_nil) ?_
 refine R0 ?_
 refine WX.see rfl rfl rfl (fun _ hΓ => looks_wrap rfl rfl rfl rfl) ?_
 refine R0 ?_
 refine WX.cases 11 rfl (fun h1 => ?_) (fun h1 => ?_)
 ·skip
  have h1d := B.dt h1
  refine R0 ?_
  have hP1 : laws_szRouteS a left = (-1) := by simp only [laws_szRouteS, h1, ct, cf]
  refine R1 ?_
  intro w1 G bs hI hΓ
  rw [hP1]
  exact ⟨rfl, (show I64 (-1) from (by unfold I64; omega))⟩
 ·skip
  have h1d := B.df h1
  refine R0 ?_
  have r1 : (a).length ≤ bd n := (okl hoka).1
  have r2 : (a).length ≤ 9223372036854775807 := N0.2.1
  refine WX.loop (ι := Int × Nat) ⟨fun | (left2, i) => (i ≤ (a).length) ∧ (-9223372036854775808 ≤ left2 ∧ left2 ≤ 9223372036854775807) ∧ (laws_szRouteS_L1 a (IntKind.i64.wrap (left - (((a).length : Nat) : Int))) = laws_szRouteS_L1 ((a).drop i) left2), fun | (left2, i) => (a).length - i, fun | (left2, i) => [(1, .v (.int .i64 (left2))), (5, .v (.int .i64 (((i : Nat) : Int)))), (0, .v (.slice pa ((a).length) ca))], fun | (left2, i) => [], fun | (left2, i) => [], fun | (left2, i) => [(0, MF.rs .stb pa ca a)]⟩ (IntKind.i64.wrap (left - (((a).length : Nat) : Int)), 0) ⟨(Nat.zero_le _), (i64_wrap _), rfl⟩
   (.cons rfl (.cons rfl (.cons rfl (.nil)))) .nil .nil [0] rfl ?_
  rintro ⟨left2, i⟩ hpre
  have hpre_ : (i ≤ (a).length) ∧ (-9223372036854775808 ≤ left2 ∧ left2 ≤ 9223372036854775807) ∧ (laws_szRouteS_L1 a (IntKind.i64.wrap (left - (((a).length : Nat) : Int))) = laws_szRouteS_L1 ((a).drop i) left2) := hpre
  clear hpre
  obtain ⟨v1, v2, v3⟩ := hpre_
  refine R0 ?_
  refine WX.cases 15 rfl (fun h2 => ?_) (fun h2 => ?_)
  ·skip
   have h2d := B.dt h2
   have e1i : i < (a).length := (by omega)
   obtain ⟨e1, e1h⟩ : ∃ e1, (a)[i]? = some e1 := ⟨_, List.getElem?_eq_getElem e1i⟩
   have ok1 : GoT.ok n e1 := (okl hoka).2 _ (List.mem_of_getElem? e1h)
   refine R0 ?_
   refine WX.idx 0 i ttOk rfl rfl rfl rfl rfl rfl rfl rfl rfl rfl e1i ?_
   rintro ad1 rfl
   refine WX.ldE 0 1 e1 ttOk rfl rfl rfl rfl rfl rfl rfl rfl e1h (fun _ => rfl) (fun _ => rfl) ?_
   rintro ⟨⟨p1, c1⟩, ⟨⟩, ⟨⟩⟩
   refine R0 ?_
   refine WX.callV rfl rfl rfl rfl rfl (fun _ => rfl) rfl (fun w G bs hI hΓ => f381 w n e1 p1 c1 (hΓ.get 1 rfl) left2 ok1 v2) ?_
   intro hq1
   refine R0 ?_
   refine WX.cases 25 rfl (fun h3 => ?_) (fun h3 => ?_)
   ·skip
    have h3d := B.dt h3
    refine R0 ?_
    have hP2 : laws_szRouteS_L1 a (IntKind.i64.wrap (left - (((a).length : Nat) : Int))) = (Ctl.ret (-1)) := by rw [v3, drop_get e1h]; simp only [laws_szRouteS_L1, h3, ct, cf]
    have hP3 : laws_szRouteS a left = (-1) := by simp only [laws_szRouteS, h1, hP2, ct, cf]
    refine R1 ?_
    intro w1 G bs hI hΓ
    rw [hP3]
    exact ⟨rfl, (show I64 (-1) from (by unfold I64; omega))⟩
   ·skip
    have h3d := B.df h3
    refine R0 ?_
    refine WX.see rfl rfl rfl (fun _ hΓ => looks_arith rfl rfl rfl rfl (by unfold I64; first | omega | (simp only [List.length_take] at *; omega))) ?_
    refine R0 ?_
    exact WX.iter ((laws_szRoute e1 left2), i + 1) ⟨(by omega), hq1, (by rw [v3, drop_get e1h]; simp only [laws_szRouteS_L1, h3, ct, cf])⟩ (by first | (dsimp only; omega) | omega) (.cons rfl (.cons rfl (.cons rfl (.nil)))) .nil .nil [0] rfl
  ·skip
   have h2d := B.df h2
   refine R0 ?_
   have hX1 : laws_szRouteS_L1 a (IntKind.i64.wrap (left - (((a).length : Nat) : Int))) = (Ctl.nxt left2) := by rw [v3, List.drop_eq_nil_of_le (show (a).length ≤ i by omega)]; simp only [laws_szRouteS_L1, ct, cf]
   have hP4 : laws_szRouteS a left = left2 := by simp only [laws_szRouteS, h1, hX1, ct, cf]
   refine R1 ?_
   intro w1 G bs hI hΓ
   rw [hP4]
   exact ⟨rfl, v2⟩
theorem f382 (w : World) (n : Nat) (a : Measurement) (K0 : Option Addr) (M0 : Nat) (N0 : RdSl (hp w) K0 M0 a.pfx.parts) (left : Int) (hoka : GoT.ok n a) (hokleft : GoT.ok n left) :
  Does Tryz.prog 382 #[.agg #[.slice K0 ((a.pfx.parts).length) M0, .int .i64 (a.face), .int .i64 (a.failures)], .int .i64 (left)] w emp (fun (rv : Value) (_ : World) => rv = .int .i64 ((laws_szMeasurement a left)) ∧ GoT.ok n ((laws_szMeasurement a left) : Int)) := by
 refine WX.enter (tt := tt) (Γ := [(0, MF.rs .stb K0 M0 a.pfx.parts)]) Tryz.func382 rfl (by kernel_rfl) rfl (allS_cons rfl N0 allS_nil) ?_
 refine R0 ?_
 refine WX.callV rfl rfl rfl rfl rfl (fun _ => rfl) rfl (fun w G bs hI hΓ => f145 w n a.pfx K0 M0 (hΓ.get 0 rfl) left ((ok_Measurement hoka).1) hokleft) ?_
 intro hq1
 refine R0 ?_
 refine WX.cases 10 rfl (fun h1 => ?_) (fun h1 => ?_)
 ·skip
  have h1d := B.dt h1
  refine R0 ?_
  have hP1 : laws_szMeasurement a left = (-1) := by simp only [laws_szMeasurement, h1, ct, cf]
  refine R1 ?_
  intro w1 G bs hI hΓ
  rw [hP1]
  exact ⟨rfl, (show I64 (-1) from (by unfold I64; omega))⟩
 ·skip
  have h1d := B.df h1
  refine R0 ?_
  have hP2 : laws_szMeasurement a left = (laws_szName a.pfx left) := by simp only [laws_szMeasurement, h1, ct, cf]
  refine R1 ?_
  intro w1 G bs hI hΓ
  rw [hP2]
  exact ⟨rfl, hq1⟩
theorem f323 (w : World) (n : Nat) (a : (List Measurement)) (pa : Option Addr) (ca : Nat) (N0 : RdSl (hp w) pa ca a) (left : Int) (hoka : GoT.ok n a) (hokleft : GoT.ok n left) :
  Does Tryz.prog 323 #[.slice pa ((a).length) ca, .int .i64 (left)] w emp (fun (rv : Value) (_ : World) => rv = .int .i64 ((laws_szMeasurementS a left)) ∧ GoT.ok n ((laws_szMeasurementS a left) : Int)) := by
 refine WX.enter (tt := tt) (Γ := [(0, MF.rs .stb pa ca a)]) Tryz.func323 rfl (by kernel_rfl) rfl (allS_cons rfl N0 allS_nil) ?_
 refine R0 ?_
 refine WX.see rfl rfl rfl (fun _ hΓ => looks_wrap rfl rfl rfl rfl) ?_
 refine R0 ?_
 refine WX.cases 11 rfl (fun h1 => ?_) (fun h1 => ?_)
 ·skip
  have h1d := B.dt h1
  refine R0 ?_
  have hP1 : laws_szMeasurementS a left = (-1) := by simp only [laws_szMeasurementS, h1, ct, cf]
  refine R1 ?_
  intro w1 G bs hI hΓ
  rw [hP1]
  exact ⟨rfl, (show I64 (-1) from (by unfold I64; omega))⟩
 ·skip
  have h1d := B.df h1
  refine R0 ?_
  have r1 : (a).length ≤ bd n := (okl hoka).1
  have r2 : (a).length ≤ 9223372036854775807 := N0.2.1
  refine WX.loop (ι := Int × Nat) ⟨fun | (left2, i) => (i ≤ (a).length) ∧ (-9223372036854775808 ≤ left2 ∧ left2 ≤ 9223372036854775807) ∧ (laws_szMeasurementS_L1 a (IntKind.i64.wrap (left - (((a).length : Nat) : Int))) = laws_szMeasurementS_L1 ((a).drop i) left2), fun | (left2, i) => (a).length - i, fun | (left2, i) => [(1, .v (.int .i64 (left2))), (5, .v (.int .i64 (((i : Nat) : Int)))), (0, .v (.slice pa ((a).length) ca))], fun | (left2, i) => [], fun | (left2, i) => [], fun | (left2, i) => [(0, MF.rs .stb pa ca a)]⟩ (IntKind.i64.wrap (left - (((a).length : Nat) : Int)), 0) ⟨(Nat.zero_le _), (i64_wrap _), rfl⟩
   (.cons rfl (.cons rfl (.cons rfl (.nil)))) .nil .nil [0] rfl ?_
  rintro ⟨left2, i⟩ hpre
  have hpre_ : (i ≤ (a).length) ∧ (-9223372036854775808 ≤ left2 ∧ left2 ≤ 9223372036854775807) ∧ (laws_szMeasurementS_L1 a (IntKind.i64.wrap (left - (((a).length : Nat) : Int))) = laws_szMeasurementS_L1 ((a).drop i) left2) := hpre
  clear hpre
  obtain ⟨v1, v2, v3⟩ := hpre_
  refine R0 ?_
  refine WX.cases 15 rfl (fun h2 => ?_) (fun h2 => ?_)
  ·skip
   have h2d := B.dt h2
   have e1i : i < (a).length := (by omega)
   obtain ⟨e1, e1h⟩ : ∃ e1, (a)[i]? = some e1 := ⟨_, List.getElem?_eq_getElem e1i⟩
   have ok1 : GoT.ok n e1 := (okl hoka).2 _ (List.mem_of_getElem? e1h)
   refine R0 ?_
   refine WX.idx 0 i ttOk rfl rfl rfl rfl rfl rfl rfl rfl rfl rfl e1i ?_
   rintro ad1 rfl
   refine WX.ldE 0 1 e1 ttOk rfl rfl rfl rfl rfl rfl rfl rfl e1h (fun _ => rfl) (fun _ => rfl) ?_
   rintro ⟨⟨p1, c1⟩, ⟨⟩, ⟨⟩⟩
   refine R0 ?_
   refine WX.callV rfl rfl rfl rfl rfl (fun _ => rfl) rfl (fun w G bs hI hΓ => f382 w n e1 p1 c1 (hΓ.get 1 rfl) left2 ok1 v2) ?_
   intro hq1
   refine R0 ?_
   refine WX.cases 25 rfl (fun h3 => ?_) (fun h3 => ?_)
   ·skip
    have h3d := B.dt h3
    refine R0 ?_
    have hP2 : laws_szMeasurementS_L1 a (IntKind.i64.wrap (left - (((a).length : Nat) : Int))) = (Ctl.ret (-1)) := by rw [v3, drop_get e1h]; simp only [laws_szMeasurementS_L1, h3, ct, cf]
    have hP3 : laws_szMeasurementS a left = (-1) := by simp only [laws_szMeasurementS, h1, hP2, ct, cf]
    refine R1 ?_
    intro w1 G bs hI hΓ
    rw [hP3]
    exact ⟨rfl, (show I64 (-1) from (by unfold I64; omega))⟩
   ·skip
    have h3d := B.df h3
    refine R0 ?_
    refine WX.see rfl rfl rfl (fun _ hΓ => looks_arith rfl rfl rfl rfl (by unfold I64; first | omega | (simp only [List.length_take] at *; omega))) ?_
    refine R0 ?_
    exact WX.iter ((laws_szMeasurement e1 left2), i + 1) ⟨(by omega), hq1, (by rw [v3, drop_get e1h]; simp only [laws_szMeasurementS_L1, h3, ct, cf])⟩ (by first | (dsimp only; omega) | omega) (.cons rfl (.cons rfl (.cons rfl (.nil)))) .nil .nil [0] rfl
  ·skip
   have h2d := B.df h2
   refine R0 ?_
   have hX1 : laws_szMeasurementS_L1 a (IntKind.i64.wrap (left - (((a).length : Nat) : Int))) = (Ctl.nxt left2) := by rw [v3, List.drop_eq_nil_of_le (show (a).length ≤ i by omega)]; simp only [laws_szMeasurementS_L1, ct, cf]
   have hP4 : laws_szMeasurementS a left = left2 := by simp only [laws_szMeasurementS, h1, hX1, ct, cf]
   refine R1 ?_
   intro w1 G bs hI hΓ
   rw [hP4]
   exact ⟨rfl, v2⟩
theorem f263 (w : World) (n : Nat) (a : NodeP) (K0 : Option Addr) (M0 : Nat) (N0 : RdSl (hp w) K0 M0 a.locl) (K1 : Option Addr) (M1 : Nat) (N1 : RdSl (hp w) K1 M1 a.cache.entries) (K2 : Option Addr) (M2 : Nat) (N2 : RdSl (hp w) K2 M2 a.pending) (K3 : Option Addr) (M3 : Nat) (N3 : RdSl (hp w) K3 M3 a.seen) (K4 : Option Addr) (M4 : Nat) (N4 : RdSl (hp w) K4 M4 a.routes) (K5 : Option Addr) (M5 : Nat) (N5 : RdSl (hp w) K5 M5 a.measurements) (left : Int) (hoka : GoT.ok n a) (hokleft : GoT.ok n left) :
  Does Tryz.prog 263 #[.agg #[.slice K0 ((a.locl).length) M0, .int .i64 (a.cache.capacity), .slice K1 ((a.cache.entries).length) M1, .slice K2 ((a.pending).length) M2, .slice K3 ((a.seen).length) M3, .slice K4 ((a.routes).length) M4, .slice K5 ((a.measurements).length) M5, .int .i64 (a.dropped)], .int .i64 (left)] w emp (fun (rv : Value) (_ : World) => rv = .int .i64 ((laws_szNode a left)) ∧ GoT.ok n ((laws_szNode a left) : Int)) := by
 refine WX.enter (tt := tt) (Γ := [(0, MF.rs .stb K0 M0 a.locl), (1, MF.rs .stb K1 M1 a.cache.entries), (2, MF.rs .stb K2 M2 a.pending), (3, MF.rs .stb K3 M3 a.seen), (4, MF.rs .stb K4 M4 a.routes), (5, MF.rs .stb K5 M5 a.measurements)]) Tryz.func263 rfl (by kernel_rfl) rfl (allS_cons rfl N0 (allS_cons rfl N1 (allS_cons rfl N2 (allS_cons rfl N3 (allS_cons rfl N4 (allS_cons rfl N5 allS_nil)))))) ?_
 refine R0 ?_
 refine WX.callV rfl rfl rfl rfl rfl (fun _ => rfl) rfl (fun w G bs hI hΓ => f149 w n a.locl K0 M0 (hΓ.get 0 rfl) left ((ok_NodeP hoka).1) hokleft) ?_
 intro hq1
 refine R0 ?_
 refine WX.cases 10 rfl (fun h1 => ?_) (fun h1 => ?_)
 ·skip
  have h1d := B.dt h1
  refine R0 ?_
  have hP1 : laws_szNode a left = (-1) := by simp only [laws_szNode, h1, ct, cf]
  refine R1 ?_
  intro w1 G bs hI hΓ
  rw [hP1]
  exact ⟨rfl, (show I64 (-1) from (by unfold I64; omega))⟩
 ·skip
  have h1d := B.df h1
  refine R0 ?_
  refine WX.callV rfl rfl rfl rfl rfl (fun _ => rfl) rfl (fun w G bs hI hΓ => f319 w n a.cache K1 M1 (hΓ.get 1 rfl) (laws_szDataS a.locl left) ((ok_NodeP hoka).2.1) hq1) ?_
  intro hq2
  refine R0 ?_
  refine WX.cases 16 rfl (fun h2 => ?_) (fun h2 => ?_)
  ·skip
   have h2d := B.dt h2
   refine R0 ?_
   have hP2 : laws_szNode a left = (-1) := by simp only [laws_szNode, h1, h2, ct, cf]
   refine R1 ?_
   intro w1 G bs hI hΓ
   rw [hP2]
   exact ⟨rfl, (show I64 (-1) from (by unfold I64; omega))⟩
  ·skip
   have h2d := B.df h2
   refine R0 ?_
   refine WX.callV rfl rfl rfl rfl rfl (fun _ => rfl) rfl (fun w G bs hI hΓ => f320 w n a.pending K2 M2 (hΓ.get 2 rfl) (laws_szContentStore a.cache (laws_szDataS a.locl left)) ((ok_NodeP hoka).2.2.1) hq2) ?_
   intro hq3
   refine R0 ?_
   refine WX.cases 22 rfl (fun h3 => ?_) (fun h3 => ?_)
   ·skip
    have h3d := B.dt h3
    refine R0 ?_
    have hP3 : laws_szNode a left = (-1) := by simp only [laws_szNode, h1, h2, h3, ct, cf]
    refine R1 ?_
    intro w1 G bs hI hΓ
    rw [hP3]
    exact ⟨rfl, (show I64 (-1) from (by unfold I64; omega))⟩
   ·skip
    have h3d := B.df h3
    refine R0 ?_
    refine WX.callV rfl rfl rfl rfl rfl (fun _ => rfl) rfl (fun w G bs hI hΓ => f321 w n a.seen K3 M3 (hΓ.get 3 rfl) (laws_szPendingInterestS a.pending (laws_szContentStore a.cache (laws_szDataS a.locl left))) ((ok_NodeP hoka).2.2.2.1) hq3) ?_
    intro hq4
    refine R0 ?_
    refine WX.cases 28 rfl (fun h4 => ?_) (fun h4 => ?_)
    ·skip
     have h4d := B.dt h4
     refine R0 ?_
     have hP4 : laws_szNode a left = (-1) := by simp only [laws_szNode, h1, h2, h3, h4, ct, cf]
     refine R1 ?_
     intro w1 G bs hI hΓ
     rw [hP4]
     exact ⟨rfl, (show I64 (-1) from (by unfold I64; omega))⟩
    ·skip
     have h4d := B.df h4
     refine R0 ?_
     refine WX.callV rfl rfl rfl rfl rfl (fun _ => rfl) rfl (fun w G bs hI hΓ => f322 w n a.routes K4 M4 (hΓ.get 4 rfl) (laws_szSeenNonceS a.seen (laws_szPendingInterestS a.pending (laws_szContentStore a.cache (laws_szDataS a.locl left)))) ((ok_NodeP hoka).2.2.2.2.1) hq4) ?_
     intro hq5
     refine R0 ?_
     refine WX.cases 34 rfl (fun h5 => ?_) (fun h5 => ?_)
     ·skip
      have h5d := B.dt h5
      refine R0 ?_
      have hP5 : laws_szNode a left = (-1) := by simp only [laws_szNode, h1, h2, h3, h4, h5, ct, cf]
      refine R1 ?_
      intro w1 G bs hI hΓ
      rw [hP5]
      exact ⟨rfl, (show I64 (-1) from (by unfold I64; omega))⟩
     ·skip
      have h5d := B.df h5
      refine R0 ?_
      refine WX.callV rfl rfl rfl rfl rfl (fun _ => rfl) rfl (fun w G bs hI hΓ => f323 w n a.measurements K5 M5 (hΓ.get 5 rfl) (laws_szRouteS a.routes (laws_szSeenNonceS a.seen (laws_szPendingInterestS a.pending (laws_szContentStore a.cache (laws_szDataS a.locl left))))) ((ok_NodeP hoka).2.2.2.2.2.1) hq5) ?_
      intro hq6
      refine R0 ?_
      refine WX.cases 40 rfl (fun h6 => ?_) (fun h6 => ?_)
      ·skip
       have h6d := B.dt h6
       refine R0 ?_
       have hP6 : laws_szNode a left = (-1) := by simp only [laws_szNode, h1, h2, h3, h4, h5, h6, ct, cf]
       refine R1 ?_
       intro w1 G bs hI hΓ
       rw [hP6]
       exact ⟨rfl, (show I64 (-1) from (by unfold I64; omega))⟩
      ·skip
       have h6d := B.df h6
       refine R0 ?_
       have hP7 : laws_szNode a left = (laws_szMeasurementS a.measurements (laws_szRouteS a.routes (laws_szSeenNonceS a.seen (laws_szPendingInterestS a.pending (laws_szContentStore a.cache (laws_szDataS a.locl left)))))) := by simp only [laws_szNode, h1, h2, h3, h4, h5, h6, ct, cf]
       refine R1 ?_
       intro w1 G bs hI hΓ
       rw [hP7]
       exact ⟨rfl, hq6⟩
theorem f178 (w : World) (n : Nat) (a : (List NodeP)) (pa : Option Addr) (ca : Nat) (N0 : RdSl (hp w) pa ca a) (left : Int) (hoka : GoT.ok n a) (hokleft : GoT.ok n left) :
  Does Tryz.prog 178 #[.slice pa ((a).length) ca, .int .i64 (left)] w emp (fun (rv : Value) (_ : World) => rv = .int .i64 ((laws_szNodeS a left)) ∧ GoT.ok n ((laws_szNodeS a left) : Int)) := by
 refine WX.enter (tt := tt) (Γ := [(0, MF.rs .stb pa ca a)]) Tryz.func178 rfl (by kernel_rfl) rfl (allS_cons rfl N0 allS_nil) ?_
 refine R0 ?_
 refine WX.see rfl rfl rfl (fun _ hΓ => looks_wrap rfl rfl rfl rfl) ?_
 refine R0 ?_
 refine WX.cases 11 rfl (fun h1 => ?_) (fun h1 => ?_)
 ·skip
  have h1d := B.dt h1
  refine R0 ?_
  have hP1 : laws_szNodeS a left = (-1) := by simp only [laws_szNodeS, h1, ct, cf]
  refine R1 ?_
  intro w1 G bs hI hΓ
  rw [hP1]
  exact ⟨rfl, (show I64 (-1) from (by unfold I64; omega))⟩
 ·skip
  have h1d := B.df h1
  refine R0 ?_
  have r1 : (a).length ≤ bd n := (okl hoka).1
  have r2 : (a).length ≤ 9223372036854775807 := N0.2.1
  refine WX.loop (ι := Int × Nat) ⟨fun | (left2, i) => (i ≤ (a).length) ∧ (-9223372036854775808 ≤ left2 ∧ left2 ≤ 9223372036854775807) ∧ (laws_szNodeS_L1 a (IntKind.i64.wrap (left - (((a).length : Nat) : Int))) = laws_szNodeS_L1 ((a).drop i) left2), fun | (left2, i) => (a).length - i, fun | (left2, i) => [(1, .v (.int .i64 (left2))), (5, .v (.int .i64 (((i : Nat) : Int)))), (0, .v (.slice pa ((a).length) ca))], fun | (left2, i) => [], fun | (left2, i) => [], fun | (left2, i) => [(0, MF.rs .stb pa ca a)]⟩ (IntKind.i64.wrap (left - (((a).length : Nat) : Int)), 0) ⟨(Nat.zero_le _), (i64_wrap _), rfl⟩
   (.cons rfl (.cons rfl (.cons rfl (.nil)))) .nil .nil [0] rfl ?_
  rintro ⟨left2, i⟩ hpre
  have hpre_ : (i ≤ (a).length) ∧ (-9223372036854775808 ≤ left2 ∧ left2 ≤ 9223372036854775807) ∧ (laws_szNodeS_L1 a (IntKind.i64.wrap (left - (((a).length : Nat) : Int))) = laws_szNodeS_L1 ((a).drop i) left2) := hpre
  clear hpre
  obtain ⟨v1, v2, v3⟩ := hpre_
  refine R0 ?_
  refine WX.cases 15 rfl (fun h2 => ?_) (fun h2 => ?_)
  ·skip
   have h2d := B.dt h2
   have e1i : i < (a).length := (by omega)
   obtain ⟨e1, e1h⟩ : ∃ e1, (a)[i]? = some e1 := ⟨_, List.getElem?_eq_getElem e1i⟩
   have ok1 : GoT.ok n e1 := (okl hoka).2 _ (List.mem_of_getElem? e1h)
   refine R0 ?_
   refine WX.idx 0 i ttOk rfl rfl rfl rfl rfl rfl rfl rfl rfl rfl e1i ?_
   rintro ad1 rfl
   refine WX.ldE 0 1 e1 ttOk rfl rfl rfl rfl rfl rfl rfl rfl e1h (fun _ => rfl) (fun _ => rfl) ?_
   rintro ⟨⟨p1, c1⟩, ⟨⟨⟩, ⟨p2, c2⟩⟩, ⟨p3, c3⟩, ⟨p4, c4⟩, ⟨p5, c5⟩, ⟨p6, c6⟩, ⟨⟩⟩
   refine R0 ?_
   refine WX.callV rfl rfl rfl rfl rfl (fun _ => rfl) rfl (fun w G bs hI hΓ => f263 w n e1 p1 c1 (hΓ.get 1 rfl) p2 c2 (hΓ.get 2 rfl) p3 c3 (hΓ.get 3 rfl) p4 c4 (hΓ.get 4 rfl) p5 c5 (hΓ.get 5 rfl) p6 c6 (hΓ.get 6 rfl) left2 ok1 v2) ?_
   intro hq1
   refine R0 ?_
   refine WX.cases 25 rfl (fun h3 => ?_) (fun h3 => ?_)
   ·skip
    have h3d := B.dt h3
    refine R0 ?_
    have hP2 : laws_szNodeS_L1 a (IntKind.i64.wrap (left - (((a).length : Nat) : Int))) = (Ctl.ret (-1)) := by rw [v3, drop_get e1h]; simp only [laws_szNodeS_L1, h3, ct, cf]
    have hP3 : laws_szNodeS a left = (-1) := by simp only [laws_szNodeS, h1, hP2, ct, cf]
    refine R1 ?_
    intro w1 G bs hI hΓ
    rw [hP3]
    exact ⟨rfl, (show I64 (-1) from (by unfold I64; omega))⟩
   ·skip
    have h3d := B.df h3
    refine R0 ?_
    refine WX.see rfl rfl rfl (fun _ hΓ => looks_arith rfl rfl rfl rfl (by unfold I64; first | omega | (simp only [List.length_take] at *; omega))) ?_
    refine R0 ?_
    exact WX.iter ((laws_szNode e1 left2), i + 1) ⟨(by omega), hq1, (by rw [v3, drop_get e1h]; simp only [laws_szNodeS_L1, h3, ct, cf])⟩ (by first | (dsimp only; omega) | omega) (.cons rfl (.cons rfl (.cons rfl (.nil)))) .nil .nil [0] rfl
  ·skip
   have h2d := B.df h2
   refine R0 ?_
   have hX1 : laws_szNodeS_L1 a (IntKind.i64.wrap (left - (((a).length : Nat) : Int))) = (Ctl.nxt left2) := by rw [v3, List.drop_eq_nil_of_le (show (a).length ≤ i by omega)]; simp only [laws_szNodeS_L1, ct, cf]
   have hP4 : laws_szNodeS a left = left2 := by simp only [laws_szNodeS, h1, hX1, ct, cf]
   refine R1 ?_
   intro w1 G bs hI hΓ
   rw [hP4]
   exact ⟨rfl, v2⟩
theorem f179 (w : World) (n : Nat) (a : (List Int)) (pa : Option Addr) (ca : Nat) (N0 : RdSl (hp w) pa ca a) (left : Int) (hoka : GoT.ok n a) (hokleft : GoT.ok n left) :
  Does Tryz.prog 179 #[.slice pa ((a).length) ca, .int .i64 (left)] w emp (fun (rv : Value) (_ : World) => rv = .int .i64 ((laws_szIntS a left)) ∧ GoT.ok n ((laws_szIntS a left) : Int)) := by
 refine WX.enter (tt := tt) (Γ := [(0, MF.rs .stb pa ca a)]) Tryz.func179 rfl (by kernel_rfl) rfl (allS_cons rfl N0 allS_nil) ?_
 refine R0 ?_
 refine WX.see rfl rfl rfl (fun _ hΓ => looks_wrap rfl rfl rfl rfl) ?_
 refine R0 ?_
 refine WX.cases 10 rfl (fun h1 => ?_) (fun h1 => ?_)
 ·skip
  have h1d := B.dt h1
  refine R0 ?_
  have hP1 : laws_szIntS a left = (-1) := by simp only [laws_szIntS, h1, ct, cf]
  refine R1 ?_
  intro w1 G bs hI hΓ
  rw [hP1]
  exact ⟨rfl, (show I64 (-1) from (by unfold I64; omega))⟩
 ·skip
  have h1d := B.df h1
  refine R0 ?_
  have hP2 : laws_szIntS a left = (IntKind.i64.wrap (left - (((a).length : Nat) : Int))) := by simp only [laws_szIntS, h1, ct, cf]
  refine R1 ?_
  intro w1 G bs hI hΓ
  rw [hP2]
  exact ⟨rfl, (i64_wrap _)⟩
theorem f324 (w : World) (n : Nat) (a : Interest) (K0 : Option Addr) (M0 : Nat) (N0 : RdSl (hp w) K0 M0 a.name.parts) (left : Int) (hoka : GoT.ok n a) (hokleft : GoT.ok n left) :
  Does Tryz.prog 324 #[.agg #[.slice K0 ((a.name.parts).length) M0, .int .i64 (a.nonce), .int .i64 (a.hopLimit), .int .i64 (a.lifetime)], .int .i64 (left)] w emp (fun (rv : Value) (_ : World) => rv = .int .i64 ((laws_szInterest a left)) ∧ GoT.ok n ((laws_szInterest a left) : Int)) := by
 refine WX.enter (tt := tt) (Γ := [(0, MF.rs .stb K0 M0 a.name.parts)]) Tryz.func324 rfl (by kernel_rfl) rfl (allS_cons rfl N0 allS_nil) ?_
 refine R0 ?_
 refine WX.callV rfl rfl rfl rfl rfl (fun _ => rfl) rfl (fun w G bs hI hΓ => f145 w n a.name K0 M0 (hΓ.get 0 rfl) left ((ok_Interest hoka).1) hokleft) ?_
 intro hq1
 refine R0 ?_
 refine WX.cases 10 rfl (fun h1 => ?_) (fun h1 => ?_)
 ·skip
  have h1d := B.dt h1
  refine R0 ?_
  have hP1 : laws_szInterest a left = (-1) := by simp only [laws_szInterest, h1, ct, cf]
  refine R1 ?_
  intro w1 G bs hI hΓ
  rw [hP1]
  exact ⟨rfl, (show I64 (-1) from (by unfold I64; omega))⟩
 ·skip
  have h1d := B.df h1
  refine R0 ?_
  have hP2 : laws_szInterest a left = (laws_szName a.name left) := by simp only [laws_szInterest, h1, ct, cf]
  refine R1 ?_
  intro w1 G bs hI hΓ
  rw [hP2]
  exact ⟨rfl, hq1⟩
theorem f264 (w : World) (n : Nat) (a : PacketInFlight) (K0 : Option Addr) (M0 : Nat) (N0 : RdSl (hp w) K0 M0 a.interest.name.parts) (K1 : Option Addr) (M1 : Nat) (N1 : RdSl (hp w) K1 M1 a.data.name.parts) (K2 : Option Addr) (M2 : Nat) (N2 : RdSl (hp w) K2 M2 a.data.content) (K3 : Option Addr) (M3 : Nat) (N3 : RdSl (hp w) K3 M3 a.data.keyName.parts) (left : Int) (hoka : GoT.ok n a) (hokleft : GoT.ok n left) :
  Does Tryz.prog 264 #[.agg #[.int .i64 (a.to), .int .i64 (a.face), .bool a.isInterest, .slice K0 ((a.interest.name.parts).length) M0, .int .i64 (a.interest.nonce), .int .i64 (a.interest.hopLimit), .int .i64 (a.interest.lifetime), .slice K1 ((a.data.name.parts).length) M1, .slice K2 ((a.data.content).length) M2, .slice K3 ((a.data.keyName.parts).length) M3, .int .i64 (a.data.freshUntil), .int .i64 (a.data.signature)], .int .i64 (left)] w emp (fun (rv : Value) (_ : World) => rv = .int .i64 ((laws_szPacketInFlight a left)) ∧ GoT.ok n ((laws_szPacketInFlight a left) : Int)) := by
 refine WX.enter (tt := tt) (Γ := [(0, MF.rs .stb K0 M0 a.interest.name.parts), (1, MF.rs .stb K1 M1 a.data.name.parts), (2, MF.rs .stb K2 M2 a.data.content), (3, MF.rs .stb K3 M3 a.data.keyName.parts)]) Tryz.func264 rfl (by kernel_rfl) rfl (allS_cons rfl N0 (allS_cons rfl N1 (allS_cons rfl N2 (allS_cons rfl N3 allS_nil)))) ?_
 refine R0 ?_
 refine WX.callV rfl rfl rfl rfl rfl (fun _ => rfl) rfl (fun w G bs hI hΓ => f324 w n a.interest K0 M0 (hΓ.get 0 rfl) left ((ok_PacketInFlight hoka).2.2.2.1) hokleft) ?_
 intro hq1
 refine R0 ?_
 refine WX.cases 10 rfl (fun h1 => ?_) (fun h1 => ?_)
 ·skip
  have h1d := B.dt h1
  refine R0 ?_
  have hP1 : laws_szPacketInFlight a left = (-1) := by simp only [laws_szPacketInFlight, h1, ct, cf]
  refine R1 ?_
  intro w1 G bs hI hΓ
  rw [hP1]
  exact ⟨rfl, (show I64 (-1) from (by unfold I64; omega))⟩
 ·skip
  have h1d := B.df h1
  refine R0 ?_
  refine WX.callV rfl rfl rfl rfl rfl (fun _ => rfl) rfl (fun w G bs hI hΓ => f64 w n a.data K1 M1 (hΓ.get 1 rfl) K2 M2 (hΓ.get 2 rfl) K3 M3 (hΓ.get 3 rfl) (laws_szInterest a.interest left) ((ok_PacketInFlight hoka).2.2.2.2) hq1) ?_
  intro hq2
  refine R0 ?_
  refine WX.cases 16 rfl (fun h2 => ?_) (fun h2 => ?_)
  ·skip
   have h2d := B.dt h2
   refine R0 ?_
   have hP2 : laws_szPacketInFlight a left = (-1) := by simp only [laws_szPacketInFlight, h1, h2, ct, cf]
   refine R1 ?_
   intro w1 G bs hI hΓ
   rw [hP2]
   exact ⟨rfl, (show I64 (-1) from (by unfold I64; omega))⟩
  ·skip
   have h2d := B.df h2
   refine R0 ?_
   have hP3 : laws_szPacketInFlight a left = (laws_szData a.data (laws_szInterest a.interest left)) := by simp only [laws_szPacketInFlight, h1, h2, ct, cf]
   refine R1 ?_
   intro w1 G bs hI hΓ
   rw [hP3]
   exact ⟨rfl, hq2⟩
theorem f180 (w : World) (n : Nat) (a : (List PacketInFlight)) (pa : Option Addr) (ca : Nat) (N0 : RdSl (hp w) pa ca a) (left : Int) (hoka : GoT.ok n a) (hokleft : GoT.ok n left) :
  Does Tryz.prog 180 #[.slice pa ((a).length) ca, .int .i64 (left)] w emp (fun (rv : Value) (_ : World) => rv = .int .i64 ((laws_szPacketInFlightS a left)) ∧ GoT.ok n ((laws_szPacketInFlightS a left) : Int)) := by
 refine WX.enter (tt := tt) (Γ := [(0, MF.rs .stb pa ca a)]) Tryz.func180 rfl (by kernel_rfl) rfl (allS_cons rfl N0 allS_nil) ?_
 refine R0 ?_
 refine WX.see rfl rfl rfl (fun _ hΓ => looks_wrap rfl rfl rfl rfl) ?_
 refine R0 ?_
 refine WX.cases 11 rfl (fun h1 => ?_) (fun h1 => ?_)
 ·skip
  have h1d := B.dt h1
  refine R0 ?_
  have hP1 : laws_szPacketInFlightS a left = (-1) := by simp only [laws_szPacketInFlightS, h1, ct, cf]
  refine R1 ?_
  intro w1 G bs hI hΓ
  rw [hP1]
  exact ⟨rfl, (show I64 (-1) from (by unfold I64; omega))⟩
 ·skip
  have h1d := B.df h1
  refine R0 ?_
  have r1 : (a).length ≤ bd n := (okl hoka).1
  have r2 : (a).length ≤ 9223372036854775807 := N0.2.1
  refine WX.loop (ι := Int × Nat) ⟨fun | (left2, i) => (i ≤ (a).length) ∧ (-9223372036854775808 ≤ left2 ∧ left2 ≤ 9223372036854775807) ∧ (laws_szPacketInFlightS_L1 a (IntKind.i64.wrap (left - (((a).length : Nat) : Int))) = laws_szPacketInFlightS_L1 ((a).drop i) left2), fun | (left2, i) => (a).length - i, fun | (left2, i) => [(1, .v (.int .i64 (left2))), (5, .v (.int .i64 (((i : Nat) : Int)))), (0, .v (.slice pa ((a).length) ca))], fun | (left2, i) => [], fun | (left2, i) => [], fun | (left2, i) => [(0, MF.rs .stb pa ca a)]⟩ (IntKind.i64.wrap (left - (((a).length : Nat) : Int)), 0) ⟨(Nat.zero_le _), (i64_wrap _), rfl⟩
   (.cons rfl (.cons rfl (.cons rfl (.nil)))) .nil .nil [0] rfl ?_
  rintro ⟨left2, i⟩ hpre
  have hpre_ : (i ≤ (a).length) ∧ (-9223372036854775808 ≤ left2 ∧ left2 ≤ 9223372036854775807) ∧ (laws_szPacketInFlightS_L1 a (IntKind.i64.wrap (left - (((a).length : Nat) : Int))) = laws_szPacketInFlightS_L1 ((a).drop i) left2) := hpre
  clear hpre
  obtain ⟨v1, v2, v3⟩ := hpre_
  refine R0 ?_
  refine WX.cases 15 rfl (fun h2 => ?_) (fun h2 => ?_)
  ·skip
   have h2d := B.dt h2
   have e1i : i < (a).length := (by omega)
   obtain ⟨e1, e1h⟩ : ∃ e1, (a)[i]? = some e1 := ⟨_, List.getElem?_eq_getElem e1i⟩
   have ok1 : GoT.ok n e1 := (okl hoka).2 _ (List.mem_of_getElem? e1h)
   refine R0 ?_
   refine WX.idx 0 i ttOk rfl rfl rfl rfl rfl rfl rfl rfl rfl rfl e1i ?_
   rintro ad1 rfl
   refine WX.ldE 0 1 e1 ttOk rfl rfl rfl rfl rfl rfl rfl rfl e1h (fun _ => rfl) (fun _ => rfl) ?_
   rintro ⟨⟨⟩, ⟨⟩, ⟨⟩, ⟨⟨p1, c1⟩, ⟨⟩, ⟨⟩, ⟨⟩⟩, ⟨⟨p2, c2⟩, ⟨p3, c3⟩, ⟨p4, c4⟩, ⟨⟩, ⟨⟩⟩⟩
   refine R0 ?_
   refine WX.callV rfl rfl rfl rfl rfl (fun _ => rfl) rfl (fun w G bs hI hΓ => f264 w n e1 p1 c1 (hΓ.get 1 rfl) p2 c2 (hΓ.get 2 rfl) p3 c3 (hΓ.get 3 rfl) p4 c4 (hΓ.get 4 rfl) left2 ok1 v2) ?_
   intro hq1
   refine R0 ?_
   refine WX.cases 25 rfl (fun h3 => ?_) (fun h3 => ?_)
   ·skip
    have h3d := B.dt h3
    refine R0 ?_
    have hP2 : laws_szPacketInFlightS_L1 a (IntKind.i64.wrap (left - (((a).length : Nat) : Int))) = (Ctl.ret (-1)) := by rw [v3, drop_get e1h]; simp only [laws_szPacketInFlightS_L1, h3, ct, cf]
    have hP3 : laws_szPacketInFlightS a left = (-1) := by simp only [laws_szPacketInFlightS, h1, hP2, ct, cf]
    refine R1 ?_
    intro w1 G bs hI hΓ
    rw [hP3]
    exact ⟨rfl, (show I64 (-1) from (by unfold I64; omega))⟩
   ·skip
    have h3d := B.df h3
    refine R0 ?_
    refine WX.see rfl rfl rfl (fun _ hΓ => looks_arith rfl rfl rfl rfl (by unfold I64; first | omega | (simp only [List.length_take] at *; omega))) ?_
    refine R0 ?_
    exact WX.iter ((laws_szPacketInFlight e1 left2), i + 1) ⟨(by omega), hq1, (by rw [v3, drop_get e1h]; simp only [laws_szPacketInFlightS_L1, h3, ct, cf])⟩ (by first | (dsimp only; omega) | omega) (.cons rfl (.cons rfl (.cons rfl (.nil)))) .nil .nil [0] rfl
  ·skip
   have h2d := B.df h2
   refine R0 ?_
   have hX1 : laws_szPacketInFlightS_L1 a (IntKind.i64.wrap (left - (((a).length : Nat) : Int))) = (Ctl.nxt left2) := by rw [v3, List.drop_eq_nil_of_le (show (a).length ≤ i by omega)]; simp only [laws_szPacketInFlightS_L1, ct, cf]
   have hP4 : laws_szPacketInFlightS a left = left2 := by simp only [laws_szPacketInFlightS, h1, hX1, ct, cf]
   refine R1 ?_
   intro w1 G bs hI hΓ
   rw [hP4]
   exact ⟨rfl, v2⟩
theorem f181 (w : World) (n : Nat) (a : (List Consumer)) (pa : Option Addr) (ca : Nat) (N0 : RdSl (hp w) pa ca a) (left : Int) (hoka : GoT.ok n a) (hokleft : GoT.ok n left) :
  Does Tryz.prog 181 #[.slice pa ((a).length) ca, .int .i64 (left)] w emp (fun (rv : Value) (_ : World) => rv = .int .i64 ((laws_szConsumerS a left)) ∧ GoT.ok n ((laws_szConsumerS a left) : Int)) := by
 refine WX.enter (tt := tt) (Γ := [(0, MF.rs .stb pa ca a)]) Tryz.func181 rfl (by kernel_rfl) rfl (allS_cons rfl N0 allS_nil) ?_
 refine R0 ?_
 refine WX.see rfl rfl rfl (fun _ hΓ => looks_wrap rfl rfl rfl rfl) ?_
 refine R0 ?_
 refine WX.cases 11 rfl (fun h1 => ?_) (fun h1 => ?_)
 ·skip
  have h1d := B.dt h1
  refine R0 ?_
  have hP1 : laws_szConsumerS a left = (-1) := by simp only [laws_szConsumerS, h1, ct, cf]
  refine R1 ?_
  intro w1 G bs hI hΓ
  rw [hP1]
  exact ⟨rfl, (show I64 (-1) from (by unfold I64; omega))⟩
 ·skip
  have h1d := B.df h1
  refine R0 ?_
  have r1 : (a).length ≤ bd n := (okl hoka).1
  have r2 : (a).length ≤ 9223372036854775807 := N0.2.1
  refine WX.loop (ι := Int × Nat) ⟨fun | (left2, i) => (i ≤ (a).length) ∧ (-9223372036854775808 ≤ left2 ∧ left2 ≤ 9223372036854775807) ∧ (laws_szConsumerS_L1 a (IntKind.i64.wrap (left - (((a).length : Nat) : Int))) = laws_szConsumerS_L1 ((a).drop i) left2), fun | (left2, i) => (a).length - i, fun | (left2, i) => [(1, .v (.int .i64 (left2))), (5, .v (.int .i64 (((i : Nat) : Int)))), (0, .v (.slice pa ((a).length) ca))], fun | (left2, i) => [], fun | (left2, i) => [], fun | (left2, i) => [(0, MF.rs .stb pa ca a)]⟩ (IntKind.i64.wrap (left - (((a).length : Nat) : Int)), 0) ⟨(Nat.zero_le _), (i64_wrap _), rfl⟩
   (.cons rfl (.cons rfl (.cons rfl (.nil)))) .nil .nil [0] rfl ?_
  rintro ⟨left2, i⟩ hpre
  have hpre_ : (i ≤ (a).length) ∧ (-9223372036854775808 ≤ left2 ∧ left2 ≤ 9223372036854775807) ∧ (laws_szConsumerS_L1 a (IntKind.i64.wrap (left - (((a).length : Nat) : Int))) = laws_szConsumerS_L1 ((a).drop i) left2) := hpre
  clear hpre
  obtain ⟨v1, v2, v3⟩ := hpre_
  refine R0 ?_
  refine WX.cases 15 rfl (fun h2 => ?_) (fun h2 => ?_)
  ·skip
   have h2d := B.dt h2
   have e1i : i < (a).length := (by omega)
   obtain ⟨e1, e1h⟩ : ∃ e1, (a)[i]? = some e1 := ⟨_, List.getElem?_eq_getElem e1i⟩
   have ok1 : GoT.ok n e1 := (okl hoka).2 _ (List.mem_of_getElem? e1h)
   refine R0 ?_
   refine WX.idx 0 i ttOk rfl rfl rfl rfl rfl rfl rfl rfl rfl rfl e1i ?_
   rintro ad1 rfl
   refine WX.ldE 0 1 e1 ttOk rfl rfl rfl rfl rfl rfl rfl rfl e1h (fun _ => rfl) (fun _ => rfl) ?_
   rintro ⟨⟨⟩, ⟨⟩, ⟨p1, c1⟩, ⟨⟩, ⟨⟩, ⟨⟩, ⟨⟨p2, c2⟩, ⟨p3, c3⟩, ⟨p4, c4⟩, ⟨⟩, ⟨⟩⟩⟩
   refine R0 ?_
   refine WX.callV rfl rfl rfl rfl rfl (fun _ => rfl) rfl (fun w G bs hI hΓ => f62 w n e1 p1 c1 (hΓ.get 1 rfl) p2 c2 (hΓ.get 2 rfl) p3 c3 (hΓ.get 3 rfl) p4 c4 (hΓ.get 4 rfl) left2 ok1 v2) ?_
   intro hq1
   refine R0 ?_
   refine WX.cases 25 rfl (fun h3 => ?_) (fun h3 => ?_)
   ·skip
    have h3d := B.dt h3
    refine R0 ?_
    have hP2 : laws_szConsumerS_L1 a (IntKind.i64.wrap (left - (((a).length : Nat) : Int))) = (Ctl.ret (-1)) := by rw [v3, drop_get e1h]; simp only [laws_szConsumerS_L1, h3, ct, cf]
    have hP3 : laws_szConsumerS a left = (-1) := by simp only [laws_szConsumerS, h1, hP2, ct, cf]
    refine R1 ?_
    intro w1 G bs hI hΓ
    rw [hP3]
    exact ⟨rfl, (show I64 (-1) from (by unfold I64; omega))⟩
   ·skip
    have h3d := B.df h3
    refine R0 ?_
    refine WX.see rfl rfl rfl (fun _ hΓ => looks_arith rfl rfl rfl rfl (by unfold I64; first | omega | (simp only [List.length_take] at *; omega))) ?_
    refine R0 ?_
    exact WX.iter ((laws_szConsumer e1 left2), i + 1) ⟨(by omega), hq1, (by rw [v3, drop_get e1h]; simp only [laws_szConsumerS_L1, h3, ct, cf])⟩ (by first | (dsimp only; omega) | omega) (.cons rfl (.cons rfl (.cons rfl (.nil)))) .nil .nil [0] rfl
  ·skip
   have h2d := B.df h2
   refine R0 ?_
   have hX1 : laws_szConsumerS_L1 a (IntKind.i64.wrap (left - (((a).length : Nat) : Int))) = (Ctl.nxt left2) := by rw [v3, List.drop_eq_nil_of_le (show (a).length ≤ i by omega)]; simp only [laws_szConsumerS_L1, ct, cf]
   have hP4 : laws_szConsumerS a left = left2 := by simp only [laws_szConsumerS, h1, hX1, ct, cf]
   refine R1 ?_
   intro w1 G bs hI hΓ
   rw [hP4]
   exact ⟨rfl, v2⟩
theorem f77 (w : World) (n : Nat) (a : Network) (K0 : Option Addr) (M0 : Nat) (N0 : RdSl (hp w) K0 M0 a.topology.links) (K1 : Option Addr) (M1 : Nat) (N1 : RdSl (hp w) K1 M1 a.trust.keys) (K2 : Option Addr) (M2 : Nat) (N2 : RdSl (hp w) K2 M2 a.trust.rules) (K3 : Option Addr) (M3 : Nat) (N3 : RdSl (hp w) K3 M3 a.trust.anchors) (K4 : Option Addr) (M4 : Nat) (N4 : RdSl (hp w) K4 M4 a.trust.certificates) (K5 : Option Addr) (M5 : Nat) (N5 : RdSl (hp w) K5 M5 a.producers) (K6 : Option Addr) (M6 : Nat) (N6 : RdSl (hp w) K6 M6 a.nodes) (K7 : Option Addr) (M7 : Nat) (N7 : RdSl (hp w) K7 M7 a.failedLinks) (K8 : Option Addr) (M8 : Nat) (N8 : RdSl (hp w) K8 M8 a.inFlight) (K9 : Option Addr) (M9 : Nat) (N9 : RdSl (hp w) K9 M9 a.consumers) (left : Int) (hoka : GoT.ok n a) (hokleft : GoT.ok n left) :
  Does Tryz.prog 77 #[.agg #[.int .i64 (a.topology.size), .slice K0 ((a.topology.links).length) M0, .slice K1 ((a.trust.keys).length) M1, .slice K2 ((a.trust.rules).length) M2, .slice K3 ((a.trust.anchors).length) M3, .slice K4 ((a.trust.certificates).length) M4, .slice K5 ((a.producers).length) M5, .slice K6 ((a.nodes).length) M6, .int .i64 (a.downNodes), .slice K7 ((a.failedLinks).length) M7, .slice K8 ((a.inFlight).length) M8, .slice K9 ((a.consumers).length) M9, .int .i64 (a.now), .int .i64 (a.dropped)], .int .i64 (left)] w emp (fun (rv : Value) (_ : World) => rv = .int .i64 ((laws_szNetwork a left)) ∧ GoT.ok n ((laws_szNetwork a left) : Int)) := by
 refine WX.enter (tt := tt) (Γ := [(0, MF.rs .stb K0 M0 a.topology.links), (1, MF.rs .stb K1 M1 a.trust.keys), (2, MF.rs .stb K2 M2 a.trust.rules), (3, MF.rs .stb K3 M3 a.trust.anchors), (4, MF.rs .stb K4 M4 a.trust.certificates), (5, MF.rs .stb K5 M5 a.producers), (6, MF.rs .stb K6 M6 a.nodes), (7, MF.rs .stb K7 M7 a.failedLinks), (8, MF.rs .stb K8 M8 a.inFlight), (9, MF.rs .stb K9 M9 a.consumers)]) Tryz.func77 rfl (by kernel_rfl) rfl (allS_cons rfl N0 (allS_cons rfl N1 (allS_cons rfl N2 (allS_cons rfl N3 (allS_cons rfl N4 (allS_cons rfl N5 (allS_cons rfl N6 (allS_cons rfl N7 (allS_cons rfl N8 (allS_cons rfl N9 allS_nil)))))))))) ?_
 refine R0 ?_
 refine WX.callV rfl rfl rfl rfl rfl (fun _ => rfl) rfl (fun w G bs hI hΓ => f176 w n a.topology K0 M0 (hΓ.get 0 rfl) left ((ok_Network hoka).1) hokleft) ?_
 intro hq1
 refine R0 ?_
 refine WX.cases 10 rfl (fun h1 => ?_) (fun h1 => ?_)
 ·skip
  have h1d := B.dt h1
  refine R0 ?_
  have hP1 : laws_szNetwork a left = (-1) := by simp only [laws_szNetwork, h1, ct, cf]
  refine R1 ?_
  intro w1 G bs hI hΓ
  rw [hP1]
  exact ⟨rfl, (show I64 (-1) from (by unfold I64; omega))⟩
 ·skip
  have h1d := B.df h1
  refine R0 ?_
  refine WX.callV rfl rfl rfl rfl rfl (fun _ => rfl) rfl (fun w G bs hI hΓ => f63 w n a.trust K1 M1 (hΓ.get 1 rfl) K2 M2 (hΓ.get 2 rfl) K3 M3 (hΓ.get 3 rfl) K4 M4 (hΓ.get 4 rfl) (laws_szTopology a.topology left) ((ok_Network hoka).2.1) hq1) ?_
  intro hq2
  refine R0 ?_
  refine WX.cases 16 rfl (fun h2 => ?_) (fun h2 => ?_)
  ·skip
   have h2d := B.dt h2
   refine R0 ?_
   have hP2 : laws_szNetwork a left = (-1) := by simp only [laws_szNetwork, h1, h2, ct, cf]
   refine R1 ?_
   intro w1 G bs hI hΓ
   rw [hP2]
   exact ⟨rfl, (show I64 (-1) from (by unfold I64; omega))⟩
  ·skip
   have h2d := B.df h2
   refine R0 ?_
   refine WX.callV rfl rfl rfl rfl rfl (fun _ => rfl) rfl (fun w G bs hI hΓ => f177 w n a.producers K5 M5 (hΓ.get 5 rfl) (laws_szTrustPolicy a.trust (laws_szTopology a.topology left)) ((ok_Network hoka).2.2.1) hq2) ?_
   intro hq3
   refine R0 ?_
   refine WX.cases 22 rfl (fun h3 => ?_) (fun h3 => ?_)
   ·skip
    have h3d := B.dt h3
    refine R0 ?_
    have hP3 : laws_szNetwork a left = (-1) := by simp only [laws_szNetwork, h1, h2, h3, ct, cf]
    refine R1 ?_
    intro w1 G bs hI hΓ
    rw [hP3]
    exact ⟨rfl, (show I64 (-1) from (by unfold I64; omega))⟩
   ·skip
    have h3d := B.df h3
    refine R0 ?_
    refine WX.callV rfl rfl rfl rfl rfl (fun _ => rfl) rfl (fun w G bs hI hΓ => f178 w n a.nodes K6 M6 (hΓ.get 6 rfl) (laws_szTableEntryS a.producers (laws_szTrustPolicy a.trust (laws_szTopology a.topology left))) ((ok_Network hoka).2.2.2.1) hq3) ?_
    intro hq4
    refine R0 ?_
    refine WX.cases 28 rfl (fun h4 => ?_) (fun h4 => ?_)
    ·skip
     have h4d := B.dt h4
     refine R0 ?_
     have hP4 : laws_szNetwork a left = (-1) := by simp only [laws_szNetwork, h1, h2, h3, h4, ct, cf]
     refine R1 ?_
     intro w1 G bs hI hΓ
     rw [hP4]
     exact ⟨rfl, (show I64 (-1) from (by unfold I64; omega))⟩
    ·skip
     have h4d := B.df h4
     refine R0 ?_
     refine WX.callV rfl rfl rfl rfl rfl (fun _ => rfl) rfl (fun w G bs hI hΓ => f179 w n a.failedLinks K7 M7 (hΓ.get 7 rfl) (laws_szNodeS a.nodes (laws_szTableEntryS a.producers (laws_szTrustPolicy a.trust (laws_szTopology a.topology left)))) ((ok_Network hoka).2.2.2.2.2.1) hq4) ?_
     intro hq5
     refine R0 ?_
     refine WX.cases 34 rfl (fun h5 => ?_) (fun h5 => ?_)
     ·skip
      have h5d := B.dt h5
      refine R0 ?_
      have hP5 : laws_szNetwork a left = (-1) := by simp only [laws_szNetwork, h1, h2, h3, h4, h5, ct, cf]
      refine R1 ?_
      intro w1 G bs hI hΓ
      rw [hP5]
      exact ⟨rfl, (show I64 (-1) from (by unfold I64; omega))⟩
     ·skip
      have h5d := B.df h5
      refine R0 ?_
      refine WX.callV rfl rfl rfl rfl rfl (fun _ => rfl) rfl (fun w G bs hI hΓ => f180 w n a.inFlight K8 M8 (hΓ.get 8 rfl) (laws_szIntS a.failedLinks (laws_szNodeS a.nodes (laws_szTableEntryS a.producers (laws_szTrustPolicy a.trust (laws_szTopology a.topology left))))) ((ok_Network hoka).2.2.2.2.2.2.1) hq5) ?_
      intro hq6
      refine R0 ?_
      refine WX.cases 40 rfl (fun h6 => ?_) (fun h6 => ?_)
      ·skip
       have h6d := B.dt h6
       refine R0 ?_
       have hP6 : laws_szNetwork a left = (-1) := by simp only [laws_szNetwork, h1, h2, h3, h4, h5, h6, ct, cf]
       refine R1 ?_
       intro w1 G bs hI hΓ
       rw [hP6]
       exact ⟨rfl, (show I64 (-1) from (by unfold I64; omega))⟩
      ·skip
       have h6d := B.df h6
       refine R0 ?_
       refine WX.callV rfl rfl rfl rfl rfl (fun _ => rfl) rfl (fun w G bs hI hΓ => f181 w n a.consumers K9 M9 (hΓ.get 9 rfl) (laws_szPacketInFlightS a.inFlight (laws_szIntS a.failedLinks (laws_szNodeS a.nodes (laws_szTableEntryS a.producers (laws_szTrustPolicy a.trust (laws_szTopology a.topology left)))))) ((ok_Network hoka).2.2.2.2.2.2.2.1) hq6) ?_
       intro hq7
       refine R0 ?_
       refine WX.cases 46 rfl (fun h7 => ?_) (fun h7 => ?_)
       ·skip
        have h7d := B.dt h7
        refine R0 ?_
        have hP7 : laws_szNetwork a left = (-1) := by simp only [laws_szNetwork, h1, h2, h3, h4, h5, h6, h7, ct, cf]
        refine R1 ?_
        intro w1 G bs hI hΓ
        rw [hP7]
        exact ⟨rfl, (show I64 (-1) from (by unfold I64; omega))⟩
       ·skip
        have h7d := B.df h7
        refine R0 ?_
        have hP8 : laws_szNetwork a left = (laws_szConsumerS a.consumers (laws_szPacketInFlightS a.inFlight (laws_szIntS a.failedLinks (laws_szNodeS a.nodes (laws_szTableEntryS a.producers (laws_szTrustPolicy a.trust (laws_szTopology a.topology left))))))) := by simp only [laws_szNetwork, h1, h2, h3, h4, h5, h6, h7, ct, cf]
        refine R1 ?_
        intro w1 G bs hI hΓ
        rw [hP8]
        exact ⟨rfl, hq7⟩
end Go.Proofs.YtdimfabadjfkiaaGreat

namespace Go.Stp
set_option linter.unusedVariables false
set_option linter.unusedSimpArgs false
def laws_eqStringS_L1 (b : (List Str)) : List Str → Nat → Option (Bool)
  | [], i => none
  | e1 :: rest_, i =>
    match (b)[i]? with
      | none => default
      | some e2 =>
        bif (!((e1).toList == (e2).toList)) then
          (some false)
        else
          laws_eqStringS_L1 b rest_ (i + 1)
def laws_eqStringS (a : (List Str)) (b : (List Str)) : Bool :=
  bif ((((a).length : Nat) : Int) != (((b).length : Nat) : Int)) then
    false
  else
    match laws_eqStringS_L1 b a 0 with
      | some r_ => r_
      | none =>
        true
def laws_eqName (a : Name) (b : Name) : Bool :=
  bif (!(laws_eqStringS a.parts b.parts)) then
    false
  else
    true
def laws_eqByteS_L1 (b : (List UInt8)) : List UInt8 → Nat → Option (Bool)
  | [], i => none
  | e1 :: rest_, i =>
    match (b)[i]? with
      | none => default
      | some e2 =>
        bif (((e1).toNat : Int) != ((e2).toNat : Int)) then
          (some false)
        else
          laws_eqByteS_L1 b rest_ (i + 1)
def laws_eqByteS (a : (List UInt8)) (b : (List UInt8)) : Bool :=
  bif ((((a).length : Nat) : Int) != (((b).length : Nat) : Int)) then
    false
  else
    match laws_eqByteS_L1 b a 0 with
      | some r_ => r_
      | none =>
        true
def laws_eqData (a : DataP) (b : DataP) : Bool :=
  bif (!(laws_eqName a.name b.name)) then
    false
  else
    bif (!(laws_eqByteS a.content b.content)) then
      false
    else
      bif (!(laws_eqName a.keyName b.keyName)) then
        false
      else
        bif (a.freshUntil != b.freshUntil) then
          false
        else
          bif (a.signature != b.signature) then
            false
          else
            true
def laws_eqConsumer (a : Consumer) (b : Consumer) : Bool :=
  bif (a.node != b.node) then
    false
  else
    bif (a.index != b.index) then
      false
    else
      bif (!(laws_eqName a.name b.name)) then
        false
      else
        bif (a.attempts != b.attempts) then
          false
        else
          bif (a.wait != b.wait) then
            false
          else
            bif (!(a.satisfied == b.satisfied)) then
              false
            else
              bif (!(laws_eqData a.data b.data)) then
                false
              else
                true
def laws_eqKey (a : Key) (b : Key) : Bool :=
  bif (!(laws_eqName a.name b.name)) then
    false
  else
    bif (a.secret != b.secret) then
      false
    else
      true
def laws_eqKeyS_L1 (b : (List Key)) : List Key → Nat → Option (Bool)
  | [], i => none
  | e1 :: rest_, i =>
    match (b)[i]? with
      | none => default
      | some e2 =>
        bif (!(laws_eqKey e1 e2)) then
          (some false)
        else
          laws_eqKeyS_L1 b rest_ (i + 1)
def laws_eqKeyS (a : (List Key)) (b : (List Key)) : Bool :=
  bif ((((a).length : Nat) : Int) != (((b).length : Nat) : Int)) then
    false
  else
    match laws_eqKeyS_L1 b a 0 with
      | some r_ => r_
      | none =>
        true
def laws_eqPattern (a : Pattern) (b : Pattern) : Bool :=
  bif (!(laws_eqStringS a.parts b.parts)) then
    false
  else
    true
def laws_eqRule (a : Rule) (b : Rule) : Bool :=
  bif (!(laws_eqPattern a.dataPattern b.dataPattern)) then
    false
  else
    bif (!(laws_eqPattern a.keyPattern b.keyPattern)) then
      false
    else
      true
def laws_eqRuleS_L1 (b : (List Rule)) : List Rule → Nat → Option (Bool)
  | [], i => none
  | e1 :: rest_, i =>
    match (b)[i]? with
      | none => default
      | some e2 =>
        bif (!(laws_eqRule e1 e2)) then
          (some false)
        else
          laws_eqRuleS_L1 b rest_ (i + 1)
def laws_eqRuleS (a : (List Rule)) (b : (List Rule)) : Bool :=
  bif ((((a).length : Nat) : Int) != (((b).length : Nat) : Int)) then
    false
  else
    match laws_eqRuleS_L1 b a 0 with
      | some r_ => r_
      | none =>
        true
def laws_eqNameS_L1 (b : (List Name)) : List Name → Nat → Option (Bool)
  | [], i => none
  | e1 :: rest_, i =>
    match (b)[i]? with
      | none => default
      | some e2 =>
        bif (!(laws_eqName e1 e2)) then
          (some false)
        else
          laws_eqNameS_L1 b rest_ (i + 1)
def laws_eqNameS (a : (List Name)) (b : (List Name)) : Bool :=
  bif ((((a).length : Nat) : Int) != (((b).length : Nat) : Int)) then
    false
  else
    match laws_eqNameS_L1 b a 0 with
      | some r_ => r_
      | none =>
        true
def laws_eqDataS_L1 (b : (List DataP)) : List DataP → Nat → Option (Bool)
  | [], i => none
  | e1 :: rest_, i =>
    match (b)[i]? with
      | none => default
      | some e2 =>
        bif (!(laws_eqData e1 e2)) then
          (some false)
        else
          laws_eqDataS_L1 b rest_ (i + 1)
def laws_eqDataS (a : (List DataP)) (b : (List DataP)) : Bool :=
  bif ((((a).length : Nat) : Int) != (((b).length : Nat) : Int)) then
    false
  else
    match laws_eqDataS_L1 b a 0 with
      | some r_ => r_
      | none =>
        true
def laws_eqTrustPolicy (a : TrustPolicy) (b : TrustPolicy) : Bool :=
  bif (!(laws_eqKeyS a.keys b.keys)) then
    false
  else
    bif (!(laws_eqRuleS a.rules b.rules)) then
      false
    else
      bif (!(laws_eqNameS a.anchors b.anchors)) then
        false
      else
        bif (!(laws_eqDataS a.certificates b.certificates)) then
          false
        else
          true
def laws_eqLink (a : Link) (b : Link) : Bool :=
  bif (a.a != b.a) then
    false
  else
    bif (a.b != b.b) then
      false
    else
      true
def laws_eqLinkS_L1 (b : (List Link)) : List Link → Nat → Option (Bool)
  | [], i => none
  | e1 :: rest_, i =>
    match (b)[i]? with
      | none => default
      | some e2 =>
        bif (!(laws_eqLink e1 e2)) then
          (some false)
        else
          laws_eqLinkS_L1 b rest_ (i + 1)
def laws_eqLinkS (a : (List Link)) (b : (List Link)) : Bool :=
  bif ((((a).length : Nat) : Int) != (((b).length : Nat) : Int)) then
    false
  else
    match laws_eqLinkS_L1 b a 0 with
      | some r_ => r_
      | none =>
        true
def laws_eqTopology (a : Topology) (b : Topology) : Bool :=
  bif (a.size != b.size) then
    false
  else
    bif (!(laws_eqLinkS a.links b.links)) then
      false
    else
      true
def laws_eqTableEntry (a : TableEntry) (b : TableEntry) : Bool :=
  bif (!(laws_eqName a.name b.name)) then
    false
  else
    bif (a.value != b.value) then
      false
    else
      true
def laws_eqTableEntryS_L1 (b : (List TableEntry)) : List TableEntry → Nat → Option (Bool)
  | [], i => none
  | e1 :: rest_, i =>
    match (b)[i]? with
      | none => default
      | some e2 =>
        bif (!(laws_eqTableEntry e1 e2)) then
          (some false)
        else
          laws_eqTableEntryS_L1 b rest_ (i + 1)
def laws_eqTableEntryS (a : (List TableEntry)) (b : (List TableEntry)) : Bool :=
  bif ((((a).length : Nat) : Int) != (((b).length : Nat) : Int)) then
    false
  else
    match laws_eqTableEntryS_L1 b a 0 with
      | some r_ => r_
      | none =>
        true
def laws_eqCacheEntry (a : CacheEntry) (b : CacheEntry) : Bool :=
  bif (!(laws_eqData a.data b.data)) then
    false
  else
    bif (a.lastUsed != b.lastUsed) then
      false
    else
      true
def laws_eqCacheEntryS_L1 (b : (List CacheEntry)) : List CacheEntry → Nat → Option (Bool)
  | [], i => none
  | e1 :: rest_, i =>
    match (b)[i]? with
      | none => default
      | some e2 =>
        bif (!(laws_eqCacheEntry e1 e2)) then
          (some false)
        else
          laws_eqCacheEntryS_L1 b rest_ (i + 1)
def laws_eqCacheEntryS (a : (List CacheEntry)) (b : (List CacheEntry)) : Bool :=
  bif ((((a).length : Nat) : Int) != (((b).length : Nat) : Int)) then
    false
  else
    match laws_eqCacheEntryS_L1 b a 0 with
      | some r_ => r_
      | none =>
        true
def laws_eqContentStore (a : ContentStore) (b : ContentStore) : Bool :=
  bif (a.capacity != b.capacity) then
    false
  else
    bif (!(laws_eqCacheEntryS a.entries b.entries)) then
      false
    else
      true
def laws_eqRequester (a : Requester) (b : Requester) : Bool :=
  bif (a.face != b.face) then
    false
  else
    bif (a.nonce != b.nonce) then
      false
    else
      bif (a.expiry != b.expiry) then
        false
      else
        true
def laws_eqRequesterS_L1 (b : (List Requester)) : List Requester → Nat → Option (Bool)
  | [], i => none
  | e1 :: rest_, i =>
    match (b)[i]? with
      | none => default
      | some e2 =>
        bif (!(laws_eqRequester e1 e2)) then
          (some false)
        else
          laws_eqRequesterS_L1 b rest_ (i + 1)
def laws_eqRequesterS (a : (List Requester)) (b : (List Requester)) : Bool :=
  bif ((((a).length : Nat) : Int) != (((b).length : Nat) : Int)) then
    false
  else
    match laws_eqRequesterS_L1 b a 0 with
      | some r_ => r_
      | none =>
        true
def laws_eqPendingInterest (a : PendingInterest) (b : PendingInterest) : Bool :=
  bif (!(laws_eqName a.name b.name)) then
    false
  else
    bif (!(laws_eqRequesterS a.requesters b.requesters)) then
      false
    else
      bif (a.lastSent != b.lastSent) then
        false
      else
        true
def laws_eqPendingInterestS_L1 (b : (List PendingInterest)) : List PendingInterest → Nat → Option (Bool)
  | [], i => none
  | e1 :: rest_, i =>
    match (b)[i]? with
      | none => default
      | some e2 =>
        bif (!(laws_eqPendingInterest e1 e2)) then
          (some false)
        else
          laws_eqPendingInterestS_L1 b rest_ (i + 1)
def laws_eqPendingInterestS (a : (List PendingInterest)) (b : (List PendingInterest)) : Bool :=
  bif ((((a).length : Nat) : Int) != (((b).length : Nat) : Int)) then
    false
  else
    match laws_eqPendingInterestS_L1 b a 0 with
      | some r_ => r_
      | none =>
        true
def laws_eqSeenNonce (a : SeenNonce) (b : SeenNonce) : Bool :=
  bif (!(laws_eqName a.name b.name)) then
    false
  else
    bif (a.nonce != b.nonce) then
      false
    else
      true
def laws_eqSeenNonceS_L1 (b : (List SeenNonce)) : List SeenNonce → Nat → Option (Bool)
  | [], i => none
  | e1 :: rest_, i =>
    match (b)[i]? with
      | none => default
      | some e2 =>
        bif (!(laws_eqSeenNonce e1 e2)) then
          (some false)
        else
          laws_eqSeenNonceS_L1 b rest_ (i + 1)
def laws_eqSeenNonceS (a : (List SeenNonce)) (b : (List SeenNonce)) : Bool :=
  bif ((((a).length : Nat) : Int) != (((b).length : Nat) : Int)) then
    false
  else
    match laws_eqSeenNonceS_L1 b a 0 with
      | some r_ => r_
      | none =>
        true
def laws_eqRoute (a : Route) (b : Route) : Bool :=
  bif (!(laws_eqName a.pfx b.pfx)) then
    false
  else
    bif (a.face != b.face) then
      false
    else
      bif (a.cost != b.cost) then
        false
      else
        true
def laws_eqRouteS_L1 (b : (List Route)) : List Route → Nat → Option (Bool)
  | [], i => none
  | e1 :: rest_, i =>
    match (b)[i]? with
      | none => default
      | some e2 =>
        bif (!(laws_eqRoute e1 e2)) then
          (some false)
        else
          laws_eqRouteS_L1 b rest_ (i + 1)
def laws_eqRouteS (a : (List Route)) (b : (List Route)) : Bool :=
  bif ((((a).length : Nat) : Int) != (((b).length : Nat) : Int)) then
    false
  else
    match laws_eqRouteS_L1 b a 0 with
      | some r_ => r_
      | none =>
        true
def laws_eqMeasurement (a : Measurement) (b : Measurement) : Bool :=
  bif (!(laws_eqName a.pfx b.pfx)) then
    false
  else
    bif (a.face != b.face) then
      false
    else
      bif (a.failures != b.failures) then
        false
      else
        true
def laws_eqMeasurementS_L1 (b : (List Measurement)) : List Measurement → Nat → Option (Bool)
  | [], i => none
  | e1 :: rest_, i =>
    match (b)[i]? with
      | none => default
      | some e2 =>
        bif (!(laws_eqMeasurement e1 e2)) then
          (some false)
        else
          laws_eqMeasurementS_L1 b rest_ (i + 1)
def laws_eqMeasurementS (a : (List Measurement)) (b : (List Measurement)) : Bool :=
  bif ((((a).length : Nat) : Int) != (((b).length : Nat) : Int)) then
    false
  else
    match laws_eqMeasurementS_L1 b a 0 with
      | some r_ => r_
      | none =>
        true
def laws_eqNode (a : NodeP) (b : NodeP) : Bool :=
  bif (!(laws_eqDataS a.locl b.locl)) then
    false
  else
    bif (!(laws_eqContentStore a.cache b.cache)) then
      false
    else
      bif (!(laws_eqPendingInterestS a.pending b.pending)) then
        false
      else
        bif (!(laws_eqSeenNonceS a.seen b.seen)) then
          false
        else
          bif (!(laws_eqRouteS a.routes b.routes)) then
            false
          else
            bif (!(laws_eqMeasurementS a.measurements b.measurements)) then
              false
            else
              bif (a.dropped != b.dropped) then
                false
              else
                true
def laws_eqNodeS_L1 (b : (List NodeP)) : List NodeP → Nat → Option (Bool)
  | [], i => none
  | e1 :: rest_, i =>
    match (b)[i]? with
      | none => default
      | some e2 =>
        bif (!(laws_eqNode e1 e2)) then
          (some false)
        else
          laws_eqNodeS_L1 b rest_ (i + 1)
def laws_eqNodeS (a : (List NodeP)) (b : (List NodeP)) : Bool :=
  bif ((((a).length : Nat) : Int) != (((b).length : Nat) : Int)) then
    false
  else
    match laws_eqNodeS_L1 b a 0 with
      | some r_ => r_
      | none =>
        true
def laws_eqIntS_L1 (b : (List Int)) : List Int → Nat → Option (Bool)
  | [], i => none
  | e1 :: rest_, i =>
    match (b)[i]? with
      | none => default
      | some e2 =>
        bif (e1 != e2) then
          (some false)
        else
          laws_eqIntS_L1 b rest_ (i + 1)
def laws_eqIntS (a : (List Int)) (b : (List Int)) : Bool :=
  bif ((((a).length : Nat) : Int) != (((b).length : Nat) : Int)) then
    false
  else
    match laws_eqIntS_L1 b a 0 with
      | some r_ => r_
      | none =>
        true
def laws_eqInterest (a : Interest) (b : Interest) : Bool :=
  bif (!(laws_eqName a.name b.name)) then
    false
  else
    bif (a.nonce != b.nonce) then
      false
    else
      bif (a.hopLimit != b.hopLimit) then
        false
      else
        bif (a.lifetime != b.lifetime) then
          false
        else
          true
def laws_eqPacketInFlight (a : PacketInFlight) (b : PacketInFlight) : Bool :=
  bif (a.to != b.to) then
    false
  else
    bif (a.face != b.face) then
      false
    else
      bif (!(a.isInterest == b.isInterest)) then
        false
      else
        bif (!(laws_eqInterest a.interest b.interest)) then
          false
        else
          bif (!(laws_eqData a.data b.data)) then
            false
          else
            true
def laws_eqPacketInFlightS_L1 (b : (List PacketInFlight)) : List PacketInFlight → Nat → Option (Bool)
  | [], i => none
  | e1 :: rest_, i =>
    match (b)[i]? with
      | none => default
      | some e2 =>
        bif (!(laws_eqPacketInFlight e1 e2)) then
          (some false)
        else
          laws_eqPacketInFlightS_L1 b rest_ (i + 1)
def laws_eqPacketInFlightS (a : (List PacketInFlight)) (b : (List PacketInFlight)) : Bool :=
  bif ((((a).length : Nat) : Int) != (((b).length : Nat) : Int)) then
    false
  else
    match laws_eqPacketInFlightS_L1 b a 0 with
      | some r_ => r_
      | none =>
        true
def laws_eqConsumerS_L1 (b : (List Consumer)) : List Consumer → Nat → Option (Bool)
  | [], i => none
  | e1 :: rest_, i =>
    match (b)[i]? with
      | none => default
      | some e2 =>
        bif (!(laws_eqConsumer e1 e2)) then
          (some false)
        else
          laws_eqConsumerS_L1 b rest_ (i + 1)
def laws_eqConsumerS (a : (List Consumer)) (b : (List Consumer)) : Bool :=
  bif ((((a).length : Nat) : Int) != (((b).length : Nat) : Int)) then
    false
  else
    match laws_eqConsumerS_L1 b a 0 with
      | some r_ => r_
      | none =>
        true
def laws_eqNetwork (a : Network) (b : Network) : Bool :=
  bif (!(laws_eqTopology a.topology b.topology)) then
    false
  else
    bif (!(laws_eqTrustPolicy a.trust b.trust)) then
      false
    else
      bif (!(laws_eqTableEntryS a.producers b.producers)) then
        false
      else
        bif (!(laws_eqNodeS a.nodes b.nodes)) then
          false
        else
          bif (a.downNodes != b.downNodes) then
            false
          else
            bif (!(laws_eqIntS a.failedLinks b.failedLinks)) then
              false
            else
              bif (!(laws_eqPacketInFlightS a.inFlight b.inFlight)) then
                false
              else
                bif (!(laws_eqConsumerS a.consumers b.consumers)) then
                  false
                else
                  bif (a.now != b.now) then
                    false
                  else
                    bif (a.dropped != b.dropped) then
                      false
                    else
                      true
end Go.Stp

