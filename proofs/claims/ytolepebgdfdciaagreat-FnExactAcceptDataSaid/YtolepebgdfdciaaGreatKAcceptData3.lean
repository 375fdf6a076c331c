/-
  What the proof of one law needs: rules of the program logic, functions as Lean functions, contracts. No condition but what each says. Written by a program (pack.py) out of my own texts.
-/
import Derived.Test.YtolepebgdfdciaaGreatKAcceptData2
namespace Go.Proofs.YtolepebgdfdciaaGreat
open Go.Stp
set_option linter.unusedVariables false
set_option linter.unusedSimpArgs false
theorem f208 (w : World) (n : Nat) (a : (List Str)) (pa : Option Addr) (ca : Nat) (N0 : RdSl (hp w) pa ca a) (left : Int) (hoka : GoT.ok n a) (hokleft : GoT.ok n left) :
  Does Tryz.prog 208 #[.slice pa ((a).length) ca, .int .i64 (left)] w emp (fun (rv : Value) (_ : World) => rv = .int .i64 ((laws_szStringS a left)) ∧ GoT.ok n ((laws_szStringS a left) : Int)) := by
 refine WX.enter (tt := tt) (Γ := [(0, MF.rs .stb pa ca a)]) Tryz.func208 rfl (by kernel_rfl) rfl (allS_cons rfl N0 allS_nil) ?_
 refine R0 ?_
 refine WX.see rfl rfl rfl (fun _ hΓ => looks_wrap rfl rfl rfl rfl) ?_
 refine R0 ?_
 refine WX.cases 11 rfl (fun h1 => ?_) (fun h1 => ?_)
 ·skip
  have h1d := B.dt h1
  refine R0 ?_
  have hP1 : laws_szStringS a left = (-1) := by simp only [laws_szStringS, h1, ct, cf]
  refine R1 ?_
  intro w1 G bs hI hΓ
  rw [hP1]
  exact ⟨rfl, (show I64 (-1) from (by unfold I64; omega))⟩
 ·skip
  have h1d := B.df h1
  refine R0 ?_
  have r1 : (a).length ≤ bd n := (okl hoka).1
  have r2 : (a).length ≤ 9223372036854775807 := N0.2.1
  refine WX.loop (ι := Int × Nat) ⟨fun | (left2, i) => (i ≤ (a).length) ∧ (-9223372036854775808 ≤ left2 ∧ left2 ≤ 9223372036854775807) ∧ (laws_szStringS_L1 a (IntKind.i64.wrap (left - (((a).length : Nat) : Int))) = laws_szStringS_L1 ((a).drop i) left2), fun | (left2, i) => (a).length - i, fun | (left2, i) => [(1, .v (.int .i64 (left2))), (5, .v (.int .i64 (((i : Nat) : Int)))), (0, .v (.slice pa ((a).length) ca))], fun | (left2, i) => [], fun | (left2, i) => [], fun | (left2, i) => [(0, MF.rs .stb pa ca a)]⟩ (IntKind.i64.wrap (left - (((a).length : Nat) : Int)), 0) ⟨(Nat.zero_le _), (i64_wrap _), rfl⟩
   (.cons rfl (.cons rfl (.cons rfl (.nil)))) .nil .nil [0] rfl ?_
  rintro ⟨left2, i⟩ hpre
  have hpre_ : (i ≤ (a).length) ∧ (-9223372036854775808 ≤ left2 ∧ left2 ≤ 9223372036854775807) ∧ (laws_szStringS_L1 a (IntKind.i64.wrap (left - (((a).length : Nat) : Int))) = laws_szStringS_L1 ((a).drop i) left2) := hpre
  clear hpre
  obtain ⟨v1, v2, v3⟩ := hpre_
  refine R0 ?_
  refine WX.cases 15 rfl (fun h2 => ?_) (fun h2 => ?_)
  ·skip
   have h2d := B.dt h2
   have e1i : i < (a).length := (by omega)
   obtain ⟨e1, e1h⟩ : ∃ e1, (a)[i]? = some e1 := ⟨_, List.getElem?_eq_getElem e1i⟩
   have ok1 : GoT.ok n e1 := (okl hoka).2 _ (List.mem_of_getElem? e1h)
   refine R0 ?_
   refine WX.idx 0 i ttOk rfl rfl rfl rfl rfl rfl rfl rfl rfl rfl e1i ?_
   rintro ad1 rfl
   refine WX.ldE 0 1 e1 ttOk rfl rfl rfl rfl rfl rfl rfl rfl e1h (fun _ => rfl) (fun _ => rfl) ?_
   rintro ⟨⟩
   refine R0 ?_
   refine WX.see rfl rfl rfl (fun _ hΓ => looks_wrap rfl rfl rfl rfl) ?_
   refine R0 ?_
   refine WX.cases 26 rfl (fun h3 => ?_) (fun h3 => ?_)
   ·skip
    have h3d := B.dt h3
    refine R0 ?_
    have hP2 : laws_szStringS_L1 a (IntKind.i64.wrap (left - (((a).length : Nat) : Int))) = (Ctl.ret (-1)) := by rw [v3, drop_get e1h]; simp only [laws_szStringS_L1, h3, ct, cf]
    have hP3 : laws_szStringS a left = (-1) := by simp only [laws_szStringS, h1, hP2, ct, cf]
    refine R1 ?_
    intro w1 G bs hI hΓ
    rw [hP3]
    exact ⟨rfl, (show I64 (-1) from (by unfold I64; omega))⟩
   ·skip
    have h3d := B.df h3
    refine R0 ?_
    refine WX.see rfl rfl rfl (fun _ hΓ => looks_arith rfl rfl rfl rfl (by unfold I64; first | omega | (simp only [List.length_take] at *; omega))) ?_
    refine R0 ?_
    exact WX.iter (IntKind.i64.wrap (left2 - (((e1).size : Nat) : Int)), i + 1) ⟨(by omega), (i64_wrap _), (by rw [v3, drop_get e1h]; simp only [laws_szStringS_L1, h3, ct, cf])⟩ (by first | (dsimp only; omega) | omega) (.cons rfl (.cons rfl (.cons rfl (.nil)))) .nil .nil [0] rfl
  ·skip
   have h2d := B.df h2
   refine R0 ?_
   have hX1 : laws_szStringS_L1 a (IntKind.i64.wrap (left - (((a).length : Nat) : Int))) = (Ctl.nxt left2) := by rw [v3, List.drop_eq_nil_of_le (show (a).length ≤ i by omega)]; simp only [laws_szStringS_L1, ct, cf]
   have hP4 : laws_szStringS a left = left2 := by simp only [laws_szStringS, h1, hX1, ct, cf]
   refine R1 ?_
   intro w1 G bs hI hΓ
   rw [hP4]
   exact ⟨rfl, v2⟩
theorem f139 (w : World) (n : Nat) (a : Name) (pa : Option Addr) (ca : Nat) (N0 : RdSl (hp w) pa ca a.parts) (left : Int) (hoka : GoT.ok n a) (hokleft : GoT.ok n left) :
  Does Tryz.prog 139 #[.agg #[.slice pa ((a.parts).length) ca], .int .i64 (left)] w emp (fun (rv : Value) (_ : World) => rv = .int .i64 ((laws_szName a left)) ∧ GoT.ok n ((laws_szName a left) : Int)) := by
 refine WX.enter (tt := tt) (Γ := [(0, MF.rs .stb pa ca a.parts)]) Tryz.func139 rfl (by kernel_rfl) rfl (allS_cons rfl N0 allS_nil) ?_
 refine R0 ?_
 refine WX.callV rfl rfl rfl rfl rfl (fun _ => rfl) rfl (fun w G bs hI hΓ => f208 w n a.parts pa ca (hΓ.get 0 rfl) left (ok_Name hoka) hokleft) ?_
 intro hq1
 refine R0 ?_
 refine WX.cases 10 rfl (fun h1 => ?_) (fun h1 => ?_)
 ·skip
  have h1d := B.dt h1
  refine R0 ?_
  have hP1 : laws_szName a left = (-1) := by simp only [laws_szName, h1, ct, cf]
  refine R1 ?_
  intro w1 G bs hI hΓ
  rw [hP1]
  exact ⟨rfl, (show I64 (-1) from (by unfold I64; omega))⟩
 ·skip
  have h1d := B.df h1
  refine R0 ?_
  have hP2 : laws_szName a left = (laws_szStringS a.parts left) := by simp only [laws_szName, h1, ct, cf]
  refine R1 ?_
  intro w1 G bs hI hΓ
  rw [hP2]
  exact ⟨rfl, hq1⟩
theorem f144 (w : World) (n : Nat) (a : (List UInt8)) (pa : Option Addr) (ca : Nat) (N0 : RdSl (hp w) pa ca a) (left : Int) (hoka : GoT.ok n a) (hokleft : GoT.ok n left) :
  Does Tryz.prog 144 #[.slice pa ((a).length) ca, .int .i64 (left)] w emp (fun (rv : Value) (_ : World) => rv = .int .i64 ((laws_szByteS a left)) ∧ GoT.ok n ((laws_szByteS a left) : Int)) := by
 refine WX.enter (tt := tt) (Γ := [(0, MF.rs .stb pa ca a)]) Tryz.func144 rfl (by kernel_rfl) rfl (allS_cons rfl N0 allS_nil) ?_
 refine R0 ?_
 refine WX.see rfl rfl rfl (fun _ hΓ => looks_wrap rfl rfl rfl rfl) ?_
 refine R0 ?_
 refine WX.cases 10 rfl (fun h1 => ?_) (fun h1 => ?_)
 ·skip
  have h1d := B.dt h1
  refine R0 ?_
  have hP1 : laws_szByteS a left = (-1) := by simp only [laws_szByteS, h1, ct, cf]
  refine R1 ?_
  intro w1 G bs hI hΓ
  rw [hP1]
  exact ⟨rfl, (show I64 (-1) from (by unfold I64; omega))⟩
 ·skip
  have h1d := B.df h1
  refine R0 ?_
  have hP2 : laws_szByteS a left = (IntKind.i64.wrap (left - (((a).length : Nat) : Int))) := by simp only [laws_szByteS, h1, ct, cf]
  refine R1 ?_
  intro w1 G bs hI hΓ
  rw [hP2]
  exact ⟨rfl, (i64_wrap _)⟩
theorem f63 (w : World) (n : Nat) (a : DataP) (K0 : Option Addr) (M0 : Nat) (N0 : RdSl (hp w) K0 M0 a.name.parts) (K1 : Option Addr) (M1 : Nat) (N1 : RdSl (hp w) K1 M1 a.content) (K2 : Option Addr) (M2 : Nat) (N2 : RdSl (hp w) K2 M2 a.keyName.parts) (left : Int) (hoka : GoT.ok n a) (hokleft : GoT.ok n left) :
  Does Tryz.prog 63 #[.agg #[.slice K0 ((a.name.parts).length) M0, .slice K1 ((a.content).length) M1, .slice K2 ((a.keyName.parts).length) M2, .int .i64 (a.freshUntil), .int .i64 (a.signature)], .int .i64 (left)] w emp (fun (rv : Value) (_ : World) => rv = .int .i64 ((laws_szData a left)) ∧ GoT.ok n ((laws_szData a left) : Int)) := by
 refine WX.enter (tt := tt) (Γ := [(0, MF.rs .stb K0 M0 a.name.parts), (1, MF.rs .stb K1 M1 a.content), (2, MF.rs .stb K2 M2 a.keyName.parts)]) Tryz.func63 rfl (by kernel_rfl) rfl (allS_cons rfl N0 (allS_cons rfl N1 (allS_cons rfl N2 allS_nil))) ?_
 refine R0 ?_
 refine WX.callV rfl rfl rfl rfl rfl (fun _ => rfl) rfl (fun w G bs hI hΓ => f139 w n a.name K0 M0 (hΓ.get 0 rfl) left ((ok_DataP hoka).1) hokleft) ?_
 intro hq1
 refine R0 ?_
 refine WX.cases 10 rfl (fun h1 => ?_) (fun h1 => ?_)
 ·skip
  have h1d := B.dt h1
  refine R0 ?_
  have hP1 : laws_szData a left = (-1) := by simp only [laws_szData, h1, ct, cf]
  refine R1 ?_
  intro w1 G bs hI hΓ
  rw [hP1]
  exact ⟨rfl, (show I64 (-1) from (by unfold I64; omega))⟩
 ·skip
  have h1d := B.df h1
  refine R0 ?_
  refine WX.callV rfl rfl rfl rfl rfl (fun _ => rfl) rfl (fun w G bs hI hΓ => f144 w n a.content K1 M1 (hΓ.get 1 rfl) (laws_szName a.name left) ((ok_DataP hoka).2.1) hq1) ?_
  intro hq2
  refine R0 ?_
  refine WX.cases 16 rfl (fun h2 => ?_) (fun h2 => ?_)
  ·skip
   have h2d := B.dt h2
   refine R0 ?_
   have hP2 : laws_szData a left = (-1) := by simp only [laws_szData, h1, h2, ct, cf]
   refine R1 ?_
   intro w1 G bs hI hΓ
   rw [hP2]
   exact ⟨rfl, (show I64 (-1) from (by unfold I64; omega))⟩
  ·skip
   have h2d := B.df h2
   refine R0 ?_
   refine WX.callV rfl rfl rfl rfl rfl (fun _ => rfl) rfl (fun w G bs hI hΓ => f139 w n a.keyName K2 M2 (hΓ.get 2 rfl) (laws_szByteS a.content (laws_szName a.name left)) ((ok_DataP hoka).2.2.1) hq2) ?_
   intro hq3
   refine R0 ?_
   refine WX.cases 22 rfl (fun h3 => ?_) (fun h3 => ?_)
   ·skip
    have h3d := B.dt h3
    refine R0 ?_
    have hP3 : laws_szData a left = (-1) := by simp only [laws_szData, h1, h2, h3, ct, cf]
    refine R1 ?_
    intro w1 G bs hI hΓ
    rw [hP3]
    exact ⟨rfl, (show I64 (-1) from (by unfold I64; omega))⟩
   ·skip
    have h3d := B.df h3
    refine R0 ?_
    have hP4 : laws_szData a left = (laws_szName a.keyName (laws_szByteS a.content (laws_szName a.name left))) := by simp only [laws_szData, h1, h2, h3, ct, cf]
    refine R1 ?_
    intro w1 G bs hI hΓ
    rw [hP4]
    exact ⟨rfl, hq3⟩
theorem f61 (w : World) (n : Nat) (a : Consumer) (K0 : Option Addr) (M0 : Nat) (N0 : RdSl (hp w) K0 M0 a.name.parts) (K1 : Option Addr) (M1 : Nat) (N1 : RdSl (hp w) K1 M1 a.data.name.parts) (K2 : Option Addr) (M2 : Nat) (N2 : RdSl (hp w) K2 M2 a.data.content) (K3 : Option Addr) (M3 : Nat) (N3 : RdSl (hp w) K3 M3 a.data.keyName.parts) (left : Int) (hoka : GoT.ok n a) (hokleft : GoT.ok n left) :
  Does Tryz.prog 61 #[.agg #[.int .i64 (a.node), .int .i64 (a.index), .slice K0 ((a.name.parts).length) M0, .int .i64 (a.attempts), .int .i64 (a.wait), .bool a.satisfied, .slice K1 ((a.data.name.parts).length) M1, .slice K2 ((a.data.content).length) M2, .slice K3 ((a.data.keyName.parts).length) M3, .int .i64 (a.data.freshUntil), .int .i64 (a.data.signature)], .int .i64 (left)] w emp (fun (rv : Value) (_ : World) => rv = .int .i64 ((laws_szConsumer a left)) ∧ GoT.ok n ((laws_szConsumer a left) : Int)) := by
 refine WX.enter (tt := tt) (Γ := [(0, MF.rs .stb K0 M0 a.name.parts), (1, MF.rs .stb K1 M1 a.data.name.parts), (2, MF.rs .stb K2 M2 a.data.content), (3, MF.rs .stb K3 M3 a.data.keyName.parts)]) Tryz.func61 rfl (by kernel_rfl) rfl (allS_cons rfl N0 (allS_cons rfl N1 (allS_cons rfl N2 (allS_cons rfl N3 allS_nil)))) ?_
 refine R0 ?_
 refine WX.callV rfl rfl rfl rfl rfl (fun _ => rfl) rfl (fun w G bs hI hΓ => f139 w n a.name K0 M0 (hΓ.get 0 rfl) left ((ok_Consumer hoka).2.2.1) hokleft) ?_
 intro hq1
 refine R0 ?_
 refine WX.cases 10 rfl (fun h1 => ?_) (fun h1 => ?_)
 ·skip
  have h1d := B.dt h1
  refine R0 ?_
  have hP1 : laws_szConsumer a left = (-1) := by simp only [laws_szConsumer, h1, ct, cf]
  refine R1 ?_
  intro w1 G bs hI hΓ
  rw [hP1]
  exact ⟨rfl, (show I64 (-1) from (by unfold I64; omega))⟩
 ·skip
  have h1d := B.df h1
  refine R0 ?_
  refine WX.callV rfl rfl rfl rfl rfl (fun _ => rfl) rfl (fun w G bs hI hΓ => f63 w n a.data K1 M1 (hΓ.get 1 rfl) K2 M2 (hΓ.get 2 rfl) K3 M3 (hΓ.get 3 rfl) (laws_szName a.name left) ((ok_Consumer hoka).2.2.2.2.2.2) hq1) ?_
  intro hq2
  refine R0 ?_
  refine WX.cases 16 rfl (fun h2 => ?_) (fun h2 => ?_)
  ·skip
   have h2d := B.dt h2
   refine R0 ?_
   have hP2 : laws_szConsumer a left = (-1) := by simp only [laws_szConsumer, h1, h2, ct, cf]
   refine R1 ?_
   intro w1 G bs hI hΓ
   rw [hP2]
   exact ⟨rfl, (show I64 (-1) from (by unfold I64; omega))⟩
  ·skip
   have h2d := B.df h2
   refine R0 ?_
   have hP3 : laws_szConsumer a left = (laws_szData a.data (laws_szName a.name left)) := by simp only [laws_szConsumer, h1, h2, ct, cf]
   refine R1 ?_
   intro w1 G bs hI hΓ
   rw [hP3]
   exact ⟨rfl, hq2⟩
theorem f209 (w : World) (n : Nat) (a : Key) (K0 : Option Addr) (M0 : Nat) (N0 : RdSl (hp w) K0 M0 a.name.parts) (left : Int) (hoka : GoT.ok n a) (hokleft : GoT.ok n left) :
  Does Tryz.prog 209 #[.agg #[.slice K0 ((a.name.parts).length) M0, .int .i64 (a.secret)], .int .i64 (left)] w emp (fun (rv : Value) (_ : World) => rv = .int .i64 ((laws_szKey a left)) ∧ GoT.ok n ((laws_szKey a left) : Int)) := by
 refine WX.enter (tt := tt) (Γ := [(0, MF.rs .stb K0 M0 a.name.parts)]) Tryz.func209 rfl (by kernel_rfl) rfl (allS_cons rfl N0 allS_nil) ?_
 refine R0 ?_
 refine WX.callV rfl rfl rfl rfl rfl (fun _ => rfl) rfl (fun w G bs hI hΓ => f139 w n a.name K0 M0 (hΓ.get 0 rfl) left ((ok_Key hoka).1) hokleft) ?_
 intro hq1
 refine R0 ?_
 refine WX.cases 10 rfl (fun h1 => ?_) (fun h1 => ?_)
 ·skip
  have h1d := B.dt h1
  refine R0 ?_
  have hP1 : laws_szKey a left = (-1) := by simp only [laws_szKey, h1, ct, cf]
  refine R1 ?_
  intro w1 G bs hI hΓ
  rw [hP1]
  exact ⟨rfl, (show I64 (-1) from (by unfold I64; omega))⟩
 ·skip
  have h1d := B.df h1
  refine R0 ?_
  have hP2 : laws_szKey a left = (laws_szName a.name left) := by simp only [laws_szKey, h1, ct, cf]
  refine R1 ?_
  intro w1 G bs hI hΓ
  rw [hP2]
  exact ⟨rfl, hq1⟩
theorem f140 (w : World) (n : Nat) (a : (List Key)) (pa : Option Addr) (ca : Nat) (N0 : RdSl (hp w) pa ca a) (left : Int) (hoka : GoT.ok n a) (hokleft : GoT.ok n left) :
  Does Tryz.prog 140 #[.slice pa ((a).length) ca, .int .i64 (left)] w emp (fun (rv : Value) (_ : World) => rv = .int .i64 ((laws_szKeyS a left)) ∧ GoT.ok n ((laws_szKeyS a left) : Int)) := by
 refine WX.enter (tt := tt) (Γ := [(0, MF.rs .stb pa ca a)]) Tryz.func140 rfl (by kernel_rfl) rfl (allS_cons rfl N0 allS_nil) ?_
 refine R0 ?_
 refine WX.see rfl rfl rfl (fun _ hΓ => looks_wrap rfl rfl rfl rfl) ?_
 refine R0 ?_
 refine WX.cases 11 rfl (fun h1 => ?_) (fun h1 => ?_)
 ·skip
  have h1d := B.dt h1
  refine R0 ?_
  have hP1 : laws_szKeyS a left = (-1) := by simp only [laws_szKeyS, h1, ct, cf]
  refine R1 ?_
  intro w1 G bs hI hΓ
  rw [hP1]
  exact ⟨rfl, (show I64 (-1) from (by unfold I64; omega))⟩
 ·skip
  have h1d := B.df h1
  refine R0 ?_
  have r1 : (a).length ≤ bd n := (okl hoka).1
  have r2 : (a).length ≤ 9223372036854775807 := N0.2.1
  refine WX.loop (ι := Int × Nat) ⟨fun | (left2, i) => (i ≤ (a).length) ∧ (-9223372036854775808 ≤ left2 ∧ left2 ≤ 9223372036854775807) ∧ (laws_szKeyS_L1 a (IntKind.i64.wrap (left - (((a).length : Nat) : Int))) = laws_szKeyS_L1 ((a).drop i) left2), fun | (left2, i) => (a).length - i, fun | (left2, i) => [(1, .v (.int .i64 (left2))), (5, .v (.int .i64 (((i : Nat) : Int)))), (0, .v (.slice pa ((a).length) ca))], fun | (left2, i) => [], fun | (left2, i) => [], fun | (left2, i) => [(0, MF.rs .stb pa ca a)]⟩ (IntKind.i64.wrap (left - (((a).length : Nat) : Int)), 0) ⟨(Nat.zero_le _), (i64_wrap _), rfl⟩
   (.cons rfl (.cons rfl (.cons rfl (.nil)))) .nil .nil [0] rfl ?_
  rintro ⟨left2, i⟩ hpre
  have hpre_ : (i ≤ (a).length) ∧ (-9223372036854775808 ≤ left2 ∧ left2 ≤ 9223372036854775807) ∧ (laws_szKeyS_L1 a (IntKind.i64.wrap (left - (((a).length : Nat) : Int))) = laws_szKeyS_L1 ((a).drop i) left2) := hpre
  clear hpre
  obtain ⟨v1, v2, v3⟩ := hpre_
  refine R0 ?_
  refine WX.cases 15 rfl (fun h2 => ?_) (fun h2 => ?_)
  ·skip
   have h2d := B.dt h2
   have e1i : i < (a).length := (by omega)
   obtain ⟨e1, e1h⟩ : ∃ e1, (a)[i]? = some e1 := ⟨_, List.getElem?_eq_getElem e1i⟩
   have ok1 : GoT.ok n e1 := (okl hoka).2 _ (List.mem_of_getElem? e1h)
   refine R0 ?_
   refine WX.idx 0 i ttOk rfl rfl rfl rfl rfl rfl rfl rfl rfl rfl e1i ?_
   rintro ad1 rfl
   refine WX.ldE 0 1 e1 ttOk rfl rfl rfl rfl rfl rfl rfl rfl e1h (fun _ => rfl) (fun _ => rfl) ?_
   rintro ⟨⟨p1, c1⟩, ⟨⟩⟩
   refine R0 ?_
   refine WX.callV rfl rfl rfl rfl rfl (fun _ => rfl) rfl (fun w G bs hI hΓ => f209 w n e1 p1 c1 (hΓ.get 1 rfl) left2 ok1 v2) ?_
   intro hq1
   refine R0 ?_
   refine WX.cases 25 rfl (fun h3 => ?_) (fun h3 => ?_)
   ·skip
    have h3d := B.dt h3
    refine R0 ?_
    have hP2 : laws_szKeyS_L1 a (IntKind.i64.wrap (left - (((a).length : Nat) : Int))) = (Ctl.ret (-1)) := by rw [v3, drop_get e1h]; simp only [laws_szKeyS_L1, h3, ct, cf]
    have hP3 : laws_szKeyS a left = (-1) := by simp only [laws_szKeyS, h1, hP2, ct, cf]
    refine R1 ?_
    intro w1 G bs hI hΓ
    rw [hP3]
    exact ⟨rfl, (show I64 (-1) from (by unfold I64; omega))⟩
   ·skip
    have h3d := B.df h3
    refine R0 ?_
    refine WX.see rfl rfl rfl (fun _ hΓ => looks_arith rfl rfl rfl rfl (by unfold I64; first | omega | (simp only [List.length_take] at *; omega))) ?_
    refine R0 ?_
    exact WX.iter ((laws_szKey e1 left2), i + 1) ⟨(by omega), hq1, (by rw [v3, drop_get e1h]; simp only [laws_szKeyS_L1, h3, ct, cf])⟩ (by first | (dsimp only; omega) | omega) (.cons rfl (.cons rfl (.cons rfl (.nil)))) .nil .nil [0] rfl
  ·skip
   have h2d := B.df h2
   refine R0 ?_
   have hX1 : laws_szKeyS_L1 a (IntKind.i64.wrap (left - (((a).length : Nat) : Int))) = (Ctl.nxt left2) := by rw [v3, List.drop_eq_nil_of_le (show (a).length ≤ i by omega)]; simp only [laws_szKeyS_L1, ct, cf]
   have hP4 : laws_szKeyS a left = left2 := by simp only [laws_szKeyS, h1, hX1, ct, cf]
   refine R1 ?_
   intro w1 G bs hI hΓ
   rw [hP4]
   exact ⟨rfl, v2⟩
theorem f232 (w : World) (n : Nat) (a : Pattern) (pa : Option Addr) (ca : Nat) (N0 : RdSl (hp w) pa ca a.parts) (left : Int) (hoka : GoT.ok n a) (hokleft : GoT.ok n left) :
  Does Tryz.prog 232 #[.agg #[.slice pa ((a.parts).length) ca], .int .i64 (left)] w emp (fun (rv : Value) (_ : World) => rv = .int .i64 ((laws_szPattern a left)) ∧ GoT.ok n ((laws_szPattern a left) : Int)) := by
 refine WX.enter (tt := tt) (Γ := [(0, MF.rs .stb pa ca a.parts)]) Tryz.func232 rfl (by kernel_rfl) rfl (allS_cons rfl N0 allS_nil) ?_
 refine R0 ?_
 refine WX.callV rfl rfl rfl rfl rfl (fun _ => rfl) rfl (fun w G bs hI hΓ => f208 w n a.parts pa ca (hΓ.get 0 rfl) left (ok_Pattern hoka) hokleft) ?_
 intro hq1
 refine R0 ?_
 refine WX.cases 10 rfl (fun h1 => ?_) (fun h1 => ?_)
 ·skip
  have h1d := B.dt h1
  refine R0 ?_
  have hP1 : laws_szPattern a left = (-1) := by simp only [laws_szPattern, h1, ct, cf]
  refine R1 ?_
  intro w1 G bs hI hΓ
  rw [hP1]
  exact ⟨rfl, (show I64 (-1) from (by unfold I64; omega))⟩
 ·skip
  have h1d := B.df h1
  refine R0 ?_
  have hP2 : laws_szPattern a left = (laws_szStringS a.parts left) := by simp only [laws_szPattern, h1, ct, cf]
  refine R1 ?_
  intro w1 G bs hI hΓ
  rw [hP2]
  exact ⟨rfl, hq1⟩
theorem f210 (w : World) (n : Nat) (a : Rule) (K0 : Option Addr) (M0 : Nat) (N0 : RdSl (hp w) K0 M0 a.dataPattern.parts) (K1 : Option Addr) (M1 : Nat) (N1 : RdSl (hp w) K1 M1 a.keyPattern.parts) (left : Int) (hoka : GoT.ok n a) (hokleft : GoT.ok n left) :
  Does Tryz.prog 210 #[.agg #[.slice K0 ((a.dataPattern.parts).length) M0, .slice K1 ((a.keyPattern.parts).length) M1], .int .i64 (left)] w emp (fun (rv : Value) (_ : World) => rv = .int .i64 ((laws_szRule a left)) ∧ GoT.ok n ((laws_szRule a left) : Int)) := by
 refine WX.enter (tt := tt) (Γ := [(0, MF.rs .stb K0 M0 a.dataPattern.parts), (1, MF.rs .stb K1 M1 a.keyPattern.parts)]) Tryz.func210 rfl (by kernel_rfl) rfl (allS_cons rfl N0 (allS_cons rfl N1 allS_nil)) ?_
 refine R0 ?_
 refine WX.callV rfl rfl rfl rfl rfl (fun _ => rfl) rfl (fun w G bs hI hΓ => f232 w n a.dataPattern K0 M0 (hΓ.get 0 rfl) left ((ok_Rule hoka).1) hokleft) ?_
 intro hq1
 refine R0 ?_
 refine WX.cases 10 rfl (fun h1 => ?_) (fun h1 => ?_)
 ·skip
  have h1d := B.dt h1
  refine R0 ?_
  have hP1 : laws_szRule a left = (-1) := by simp only [laws_szRule, h1, ct, cf]
  refine R1 ?_
  intro w1 G bs hI hΓ
  rw [hP1]
  exact ⟨rfl, (show I64 (-1) from (by unfold I64; omega))⟩
 ·skip
  have h1d := B.df h1
  refine R0 ?_
  refine WX.callV rfl rfl rfl rfl rfl (fun _ => rfl) rfl (fun w G bs hI hΓ => f232 w n a.keyPattern K1 M1 (hΓ.get 1 rfl) (laws_szPattern a.dataPattern left) ((ok_Rule hoka).2) hq1) ?_
  intro hq2
  refine R0 ?_
  refine WX.cases 16 rfl (fun h2 => ?_) (fun h2 => ?_)
  ·skip
   have h2d := B.dt h2
   refine R0 ?_
   have hP2 : laws_szRule a left = (-1) := by simp only [laws_szRule, h1, h2, ct, cf]
   refine R1 ?_
   intro w1 G bs hI hΓ
   rw [hP2]
   exact ⟨rfl, (show I64 (-1) from (by unfold I64; omega))⟩
  ·skip
   have h2d := B.df h2
   refine R0 ?_
   have hP3 : laws_szRule a left = (laws_szPattern a.keyPattern (laws_szPattern a.dataPattern left)) := by simp only [laws_szRule, h1, h2, ct, cf]
   refine R1 ?_
   intro w1 G bs hI hΓ
   rw [hP3]
   exact ⟨rfl, hq2⟩
theorem f141 (w : World) (n : Nat) (a : (List Rule)) (pa : Option Addr) (ca : Nat) (N0 : RdSl (hp w) pa ca a) (left : Int) (hoka : GoT.ok n a) (hokleft : GoT.ok n left) :
  Does Tryz.prog 141 #[.slice pa ((a).length) ca, .int .i64 (left)] w emp (fun (rv : Value) (_ : World) => rv = .int .i64 ((laws_szRuleS a left)) ∧ GoT.ok n ((laws_szRuleS a left) : Int)) := by
 refine WX.enter (tt := tt) (Γ := [(0, MF.rs .stb pa ca a)]) Tryz.func141 rfl (by kernel_rfl) rfl (allS_cons rfl N0 allS_nil) ?_
 refine R0 ?_
 refine WX.see rfl rfl rfl (fun _ hΓ => looks_wrap rfl rfl rfl rfl) ?_
 refine R0 ?_
 refine WX.cases 11 rfl (fun h1 => ?_) (fun h1 => ?_)
 ·skip
  have h1d := B.dt h1
  refine R0 ?_
  have hP1 : laws_szRuleS a left = (-1) := by simp only [laws_szRuleS, h1, ct, cf]
  refine R1 ?_
  intro w1 G bs hI hΓ
  rw [hP1]
  exact ⟨rfl, (show I64 (-1) from (by unfold I64; omega))⟩
 ·skip
  have h1d := B.df h1
  refine R0 ?_
  have r1 : (a).length ≤ bd n := (okl hoka).1
  have r2 : (a).length ≤ 9223372036854775807 := N0.2.1
  refine WX.loop (ι := Int × Nat) ⟨fun | (left2, i) => (i ≤ (a).length) ∧ (-9223372036854775808 ≤ left2 ∧ left2 ≤ 9223372036854775807) ∧ (laws_szRuleS_L1 a (IntKind.i64.wrap (left - (((a).length : Nat) : Int))) = laws_szRuleS_L1 ((a).drop i) left2), fun | (left2, i) => (a).length - i, fun | (left2, i) => [(1, .v (.int .i64 (left2))), (5, .v (.int .i64 (((i : Nat) : Int)))), (0, .v (.slice pa ((a).length) ca))], fun | (left2, i) => [], fun | (left2, i) => [], fun | (left2, i) => [(0, MF.rs .stb pa ca a)]⟩ (IntKind.i64.wrap (left - (((a).length : Nat) : Int)), 0) ⟨(Nat.zero_le _), (i64_wrap _), rfl⟩
   (.cons rfl (.cons rfl (.cons rfl (.nil)))) .nil .nil [0] rfl ?_
  rintro ⟨left2, i⟩ hpre
  have hpre_ : (i ≤ (a).length) ∧ (-9223372036854775808 ≤ left2 ∧ left2 ≤ 9223372036854775807) ∧ (laws_szRuleS_L1 a (IntKind.i64.wrap (left - (((a).length : Nat) : Int))) = laws_szRuleS_L1 ((a).drop i) left2) := hpre
  clear hpre
  obtain ⟨v1, v2, v3⟩ := hpre_
  refine R0 ?_
  refine WX.cases 15 rfl (fun h2 => ?_) (fun h2 => ?_)
  ·skip
   have h2d := B.dt h2
   have e1i : i < (a).length := (by omega)
   obtain ⟨e1, e1h⟩ : ∃ e1, (a)[i]? = some e1 := ⟨_, List.getElem?_eq_getElem e1i⟩
   have ok1 : GoT.ok n e1 := (okl hoka).2 _ (List.mem_of_getElem? e1h)
   refine R0 ?_
   refine WX.idx 0 i ttOk rfl rfl rfl rfl rfl rfl rfl rfl rfl rfl e1i ?_
   rintro ad1 rfl
   refine WX.ldE 0 1 e1 ttOk rfl rfl rfl rfl rfl rfl rfl rfl e1h (fun _ => rfl) (fun _ => rfl) ?_
   rintro ⟨⟨p1, c1⟩, ⟨p2, c2⟩⟩
   refine R0 ?_
   refine WX.callV rfl rfl rfl rfl rfl (fun _ => rfl) rfl (fun w G bs hI hΓ => f210 w n e1 p1 c1 (hΓ.get 1 rfl) p2 c2 (hΓ.get 2 rfl) left2 ok1 v2) ?_
   intro hq1
   refine R0 ?_
   refine WX.cases 25 rfl (fun h3 => ?_) (fun h3 => ?_)
   ·skip
    have h3d := B.dt h3
    refine R0 ?_
    have hP2 : laws_szRuleS_L1 a (IntKind.i64.wrap (left - (((a).length : Nat) : Int))) = (Ctl.ret (-1)) := by rw [v3, drop_get e1h]; simp only [laws_szRuleS_L1, h3, ct, cf]
    have hP3 : laws_szRuleS a left = (-1) := by simp only [laws_szRuleS, h1, hP2, ct, cf]
    refine R1 ?_
    intro w1 G bs hI hΓ
    rw [hP3]
    exact ⟨rfl, (show I64 (-1) from (by unfold I64; omega))⟩
   ·skip
    have h3d := B.df h3
    refine R0 ?_
    refine WX.see rfl rfl rfl (fun _ hΓ => looks_arith rfl rfl rfl rfl (by unfold I64; first | omega | (simp only [List.length_take] at *; omega))) ?_
    refine R0 ?_
    exact WX.iter ((laws_szRule e1 left2), i + 1) ⟨(by omega), hq1, (by rw [v3, drop_get e1h]; simp only [laws_szRuleS_L1, h3, ct, cf])⟩ (by first | (dsimp only; omega) | omega) (.cons rfl (.cons rfl (.cons rfl (.nil)))) .nil .nil [0] rfl
  ·skip
   have h2d := B.df h2
   refine R0 ?_
   have hX1 : laws_szRuleS_L1 a (IntKind.i64.wrap (left - (((a).length : Nat) : Int))) = (Ctl.nxt left2) := by rw [v3, List.drop_eq_nil_of_le (show (a).length ≤ i by omega)]; simp only [laws_szRuleS_L1, ct, cf]
   have hP4 : laws_szRuleS a left = left2 := by simp only [laws_szRuleS, h1, hX1, ct, cf]
   refine R1 ?_
   intro w1 G bs hI hΓ
   rw [hP4]
   exact ⟨rfl, v2⟩
theorem f142 (w : World) (n : Nat) (a : (List Name)) (pa : Option Addr) (ca : Nat) (N0 : RdSl (hp w) pa ca a) (left : Int) (hoka : GoT.ok n a) (hokleft : GoT.ok n left) :
  Does Tryz.prog 142 #[.slice pa ((a).length) ca, .int .i64 (left)] w emp (fun (rv : Value) (_ : World) => rv = .int .i64 ((laws_szNameS a left)) ∧ GoT.ok n ((laws_szNameS a left) : Int)) := by
 refine WX.enter (tt := tt) (Γ := [(0, MF.rs .stb pa ca a)]) Tryz.func142 rfl (by kernel_rfl) rfl (allS_cons rfl N0 allS_nil) ?_
 refine R0 ?_
 refine WX.see rfl rfl rfl (fun _ hΓ => looks_wrap rfl rfl rfl rfl) ?_
 refine R0 ?_
 refine WX.cases 11 rfl (fun h1 => ?_) (fun h1 => ?_)
 ·skip
  have h1d := B.dt h1
  refine R0 ?_
  have hP1 : laws_szNameS a left = (-1) := by simp only [laws_szNameS, h1, ct, cf]
  refine R1 ?_
  intro w1 G bs hI hΓ
  rw [hP1]
  exact ⟨rfl, (show I64 (-1) from (by unfold I64; omega))⟩
 ·skip
  have h1d := B.df h1
  refine R0 ?_
  have r1 : (a).length ≤ bd n := (okl hoka).1
  have r2 : (a).length ≤ 9223372036854775807 := N0.2.1
  refine WX.loop (ι := Int × Nat) ⟨fun | (left2, i) => (i ≤ (a).length) ∧ (-9223372036854775808 ≤ left2 ∧ left2 ≤ 9223372036854775807) ∧ (laws_szNameS_L1 a (IntKind.i64.wrap (left - (((a).length : Nat) : Int))) = laws_szNameS_L1 ((a).drop i) left2), fun | (left2, i) => (a).length - i, fun | (left2, i) => [(1, .v (.int .i64 (left2))), (5, .v (.int .i64 (((i : Nat) : Int)))), (0, .v (.slice pa ((a).length) ca))], fun | (left2, i) => [], fun | (left2, i) => [], fun | (left2, i) => [(0, MF.rs .stb pa ca a)]⟩ (IntKind.i64.wrap (left - (((a).length : Nat) : Int)), 0) ⟨(Nat.zero_le _), (i64_wrap _), rfl⟩
   (.cons rfl (.cons rfl (.cons rfl (.nil)))) .nil .nil [0] rfl ?_
  rintro ⟨left2, i⟩ hpre
  have hpre_ : (i ≤ (a).length) ∧ (-9223372036854775808 ≤ left2 ∧ left2 ≤ 9223372036854775807) ∧ (laws_szNameS_L1 a (IntKind.i64.wrap (left - (((a).length : Nat) : Int))) = laws_szNameS_L1 ((a).drop i) left2) := hpre
  clear hpre
  obtain ⟨v1, v2, v3⟩ := hpre_
  refine R0 ?_
  refine WX.cases 15 rfl (fun h2 => ?_) (fun h2 => ?_)
  ·skip
   have h2d := B.dt h2
   have e1i : i < (a).length := (by omega)
   obtain ⟨e1, e1h⟩ : ∃ e1, (a)[i]? = some e1 := ⟨_, List.getElem?_eq_getElem e1i⟩
   have ok1 : GoT.ok n e1 := (okl hoka).2 _ (List.mem_of_getElem? e1h)
   refine R0 ?_
   refine WX.idx 0 i ttOk rfl rfl rfl rfl rfl rfl rfl rfl rfl rfl e1i ?_
   rintro ad1 rfl
   refine WX.ldE 0 1 e1 ttOk rfl rfl rfl rfl rfl rfl rfl rfl e1h (fun _ => rfl) (fun _ => rfl) ?_
   rintro ⟨p1, c1⟩
   refine R0 ?_
   refine WX.callV rfl rfl rfl rfl rfl (fun _ => rfl) rfl (fun w G bs hI hΓ => f139 w n e1 p1 c1 (hΓ.get 1 rfl) left2 ok1 v2) ?_
   intro hq1
   refine R0 ?_
   refine WX.cases 25 rfl (fun h3 => ?_) (fun h3 => ?_)
   ·skip
    have h3d := B.dt h3
    refine R0 ?_
    have hP2 : laws_szNameS_L1 a (IntKind.i64.wrap (left - (((a).length : Nat) : Int))) = (Ctl.ret (-1)) := by rw [v3, drop_get e1h]; simp only [laws_szNameS_L1, h3, ct, cf]
    have hP3 : laws_szNameS a left = (-1) := by simp only [laws_szNameS, h1, hP2, ct, cf]
    refine R1 ?_
    intro w1 G bs hI hΓ
    rw [hP3]
    exact ⟨rfl, (show I64 (-1) from (by unfold I64; omega))⟩
   ·skip
    have h3d := B.df h3
    refine R0 ?_
    refine WX.see rfl rfl rfl (fun _ hΓ => looks_arith rfl rfl rfl rfl (by unfold I64; first | omega | (simp only [List.length_take] at *; omega))) ?_
    refine R0 ?_
    exact WX.iter ((laws_szName e1 left2), i + 1) ⟨(by omega), hq1, (by rw [v3, drop_get e1h]; simp only [laws_szNameS_L1, h3, ct, cf])⟩ (by first | (dsimp only; omega) | omega) (.cons rfl (.cons rfl (.cons rfl (.nil)))) .nil .nil [0] rfl
  ·skip
   have h2d := B.df h2
   refine R0 ?_
   have hX1 : laws_szNameS_L1 a (IntKind.i64.wrap (left - (((a).length : Nat) : Int))) = (Ctl.nxt left2) := by rw [v3, List.drop_eq_nil_of_le (show (a).length ≤ i by omega)]; simp only [laws_szNameS_L1, ct, cf]
   have hP4 : laws_szNameS a left = left2 := by simp only [laws_szNameS, h1, hX1, ct, cf]
   refine R1 ?_
   intro w1 G bs hI hΓ
   rw [hP4]
   exact ⟨rfl, v2⟩
theorem f143 (w : World) (n : Nat) (a : (List DataP)) (pa : Option Addr) (ca : Nat) (N0 : RdSl (hp w) pa ca a) (left : Int) (hoka : GoT.ok n a) (hokleft : GoT.ok n left) :
  Does Tryz.prog 143 #[.slice pa ((a).length) ca, .int .i64 (left)] w emp (fun (rv : Value) (_ : World) => rv = .int .i64 ((laws_szDataS a left)) ∧ GoT.ok n ((laws_szDataS a left) : Int)) := by
 refine WX.enter (tt := tt) (Γ := [(0, MF.rs .stb pa ca a)]) Tryz.func143 rfl (by kernel_rfl) rfl (allS_cons rfl N0 allS_nil) ?_
 refine R0 ?_
 refine WX.see rfl rfl rfl (fun _ hΓ => looks_wrap rfl rfl rfl rfl) ?_
 refine R0 ?_
 refine WX.cases 11 rfl (fun h1 => ?_) (fun h1 => ?_)
 ·skip
  have h1d := B.dt h1
  refine R0 ?_
  have hP1 : laws_szDataS a left = (-1) := by simp only [laws_szDataS, h1, ct, cf]
  refine R1 ?_
  intro w1 G bs hI hΓ
  rw [hP1]
  exact ⟨rfl, (show I64 (-1) from (by unfold I64; omega))⟩
 ·skip
  have h1d := B.df h1
  refine R0 ?_
  have r1 : (a).length ≤ bd n := (okl hoka).1
  have r2 : (a).length ≤ 9223372036854775807 := N0.2.1
  refine WX.loop (ι := Int × Nat) ⟨fun | (left2, i) => (i ≤ (a).length) ∧ (-9223372036854775808 ≤ left2 ∧ left2 ≤ 9223372036854775807) ∧ (laws_szDataS_L1 a (IntKind.i64.wrap (left - (((a).length : Nat) : Int))) = laws_szDataS_L1 ((a).drop i) left2), fun | (left2, i) => (a).length - i, fun | (left2, i) => [(1, .v (.int .i64 (left2))), (5, .v (.int .i64 (((i : Nat) : Int)))), (0, .v (.slice pa ((a).length) ca))], fun | (left2, i) => [], fun | (left2, i) => [], fun | (left2, i) => [(0, MF.rs .stb pa ca a)]⟩ (IntKind.i64.wrap (left - (((a).length : Nat) : Int)), 0) ⟨(Nat.zero_le _), (i64_wrap _), rfl⟩
   (.cons rfl (.cons rfl (.cons rfl (.nil)))) .nil .nil [0] rfl ?_
  rintro ⟨left2, i⟩ hpre
  have hpre_ : (i ≤ (a).length) ∧ (-9223372036854775808 ≤ left2 ∧ left2 ≤ 9223372036854775807) ∧ (laws_szDataS_L1 a (IntKind.i64.wrap (left - (((a).length : Nat) : Int))) = laws_szDataS_L1 ((a).drop i) left2) := hpre
  clear hpre
  obtain ⟨v1, v2, v3⟩ := hpre_
  refine R0 ?_
  refine WX.cases 15 rfl (fun h2 => ?_) (fun h2 => ?_)
  ·skip
   have h2d := B.dt h2
   have e1i : i < (a).length := (by omega)
   obtain ⟨e1, e1h⟩ : ∃ e1, (a)[i]? = some e1 := ⟨_, List.getElem?_eq_getElem e1i⟩
   have ok1 : GoT.ok n e1 := (okl hoka).2 _ (List.mem_of_getElem? e1h)
   refine R0 ?_
   refine WX.idx 0 i ttOk rfl rfl rfl rfl rfl rfl rfl rfl rfl rfl e1i ?_
   rintro ad1 rfl
   refine WX.ldE 0 1 e1 ttOk rfl rfl rfl rfl rfl rfl rfl rfl e1h (fun _ => rfl) (fun _ => rfl) ?_
   rintro ⟨⟨p1, c1⟩, ⟨p2, c2⟩, ⟨p3, c3⟩, ⟨⟩, ⟨⟩⟩
   refine R0 ?_
   refine WX.callV rfl rfl rfl rfl rfl (fun _ => rfl) rfl (fun w G bs hI hΓ => f63 w n e1 p1 c1 (hΓ.get 1 rfl) p2 c2 (hΓ.get 2 rfl) p3 c3 (hΓ.get 3 rfl) left2 ok1 v2) ?_
   intro hq1
   refine R0 ?_
   refine WX.cases 25 rfl (fun h3 => ?_) (fun h3 => ?_)
   ·skip
    have h3d := B.dt h3
    refine R0 ?_
    have hP2 : laws_szDataS_L1 a (IntKind.i64.wrap (left - (((a).length : Nat) : Int))) = (Ctl.ret (-1)) := by rw [v3, drop_get e1h]; simp only [laws_szDataS_L1, h3, ct, cf]
    have hP3 : laws_szDataS a left = (-1) := by simp only [laws_szDataS, h1, hP2, ct, cf]
    refine R1 ?_
    intro w1 G bs hI hΓ
    rw [hP3]
    exact ⟨rfl, (show I64 (-1) from (by unfold I64; omega))⟩
   ·skip
    have h3d := B.df h3
    refine R0 ?_
    refine WX.see rfl rfl rfl (fun _ hΓ => looks_arith rfl rfl rfl rfl (by unfold I64; first | omega | (simp only [List.length_take] at *; omega))) ?_
    refine R0 ?_
    exact WX.iter ((laws_szData e1 left2), i + 1) ⟨(by omega), hq1, (by rw [v3, drop_get e1h]; simp only [laws_szDataS_L1, h3, ct, cf])⟩ (by first | (dsimp only; omega) | omega) (.cons rfl (.cons rfl (.cons rfl (.nil)))) .nil .nil [0] rfl
  ·skip
   have h2d := B.df h2
   refine R0 ?_
   have hX1 : laws_szDataS_L1 a (IntKind.i64.wrap (left - (((a).length : Nat) : Int))) = (Ctl.nxt left2) := by rw [v3, List.drop_eq_nil_of_le (show (a).length ≤ i by omega)]; simp only [laws_szDataS_L1, ct, cf]
   have hP4 : laws_szDataS a left = left2 := by simp only [laws_szDataS, h1, hX1, ct, cf]
   refine R1 ?_
   intro w1 G bs hI hΓ
   rw [hP4]
   exact ⟨rfl, v2⟩
theorem f62 (w : World) (n : Nat) (a : TrustPolicy) (K0 : Option Addr) (M0 : Nat) (N0 : RdSl (hp w) K0 M0 a.keys) (K1 : Option Addr) (M1 : Nat) (N1 : RdSl (hp w) K1 M1 a.rules) (K2 : Option Addr) (M2 : Nat) (N2 : RdSl (hp w) K2 M2 a.anchors) (K3 : Option Addr) (M3 : Nat) (N3 : RdSl (hp w) K3 M3 a.certificates) (left : Int) (hoka : GoT.ok n a) (hokleft : GoT.ok n left) :
  Does Tryz.prog 62 #[.agg #[.slice K0 ((a.keys).length) M0, .slice K1 ((a.rules).length) M1, .slice K2 ((a.anchors).length) M2, .slice K3 ((a.certificates).length) M3], .int .i64 (left)] w emp (fun (rv : Value) (_ : World) => rv = .int .i64 ((laws_szTrustPolicy a left)) ∧ GoT.ok n ((laws_szTrustPolicy a left) : Int)) := by
 refine WX.enter (tt := tt) (Γ := [(0, MF.rs .stb K0 M0 a.keys), (1, MF.rs .stb K1 M1 a.rules), (2, MF.rs .stb K2 M2 a.anchors), (3, MF.rs .stb K3 M3 a.certificates)]) Tryz.func62 rfl (by kernel_rfl) rfl (allS_cons rfl N0 (allS_cons rfl N1 (allS_cons rfl N2 (allS_cons rfl N3 allS_nil)))) ?_
 refine R0 ?_
 refine WX.callV rfl rfl rfl rfl rfl (fun _ => rfl) rfl (fun w G bs hI hΓ => f140 w n a.keys K0 M0 (hΓ.get 0 rfl) left ((ok_TrustPolicy hoka).1) hokleft) ?_
 intro hq1
 refine R0 ?_
 refine WX.cases 10 rfl (fun h1 => ?_) (fun h1 => ?_)
 ·skip
  have h1d := B.dt h1
  refine R0 ?_
  have hP1 : laws_szTrustPolicy a left = (-1) := by simp only [laws_szTrustPolicy, h1, ct, cf]
  refine R1 ?_
  intro w1 G bs hI hΓ
  rw [hP1]
  exact ⟨rfl, (show I64 (-1) from (by unfold I64; omega))⟩
 ·skip
  have h1d := B.df h1
  refine R0 ?_
  refine WX.callV rfl rfl rfl rfl rfl (fun _ => rfl) rfl (fun w G bs hI hΓ => f141 w n a.rules K1 M1 (hΓ.get 1 rfl) (laws_szKeyS a.keys left) ((ok_TrustPolicy hoka).2.1) hq1) ?_
  intro hq2
  refine R0 ?_
  refine WX.cases 16 rfl (fun h2 => ?_) (fun h2 => ?_)
  ·skip
   have h2d := B.dt h2
   refine R0 ?_
   have hP2 : laws_szTrustPolicy a left = (-1) := by simp only [laws_szTrustPolicy, h1, h2, ct, cf]
   refine R1 ?_
   intro w1 G bs hI hΓ
   rw [hP2]
   exact ⟨rfl, (show I64 (-1) from (by unfold I64; omega))⟩
  ·skip
   have h2d := B.df h2
   refine R0 ?_
   refine WX.callV rfl rfl rfl rfl rfl (fun _ => rfl) rfl (fun w G bs hI hΓ => f142 w n a.anchors K2 M2 (hΓ.get 2 rfl) (laws_szRuleS a.rules (laws_szKeyS a.keys left)) ((ok_TrustPolicy hoka).2.2.1) hq2) ?_
   intro hq3
   refine R0 ?_
   refine WX.cases 22 rfl (fun h3 => ?_) (fun h3 => ?_)
   ·skip
    have h3d := B.dt h3
    refine R0 ?_
    have hP3 : laws_szTrustPolicy a left = (-1) := by simp only [laws_szTrustPolicy, h1, h2, h3, ct, cf]
    refine R1 ?_
    intro w1 G bs hI hΓ
    rw [hP3]
    exact ⟨rfl, (show I64 (-1) from (by unfold I64; omega))⟩
   ·skip
    have h3d := B.df h3
    refine R0 ?_
    refine WX.callV rfl rfl rfl rfl rfl (fun _ => rfl) rfl (fun w G bs hI hΓ => f143 w n a.certificates K3 M3 (hΓ.get 3 rfl) (laws_szNameS a.anchors (laws_szRuleS a.rules (laws_szKeyS a.keys left))) ((ok_TrustPolicy hoka).2.2.2) hq3) ?_
    intro hq4
    refine R0 ?_
    refine WX.cases 28 rfl (fun h4 => ?_) (fun h4 => ?_)
    ·skip
     have h4d := B.dt h4
     refine R0 ?_
     have hP4 : laws_szTrustPolicy a left = (-1) := by simp only [laws_szTrustPolicy, h1, h2, h3, h4, ct, cf]
     refine R1 ?_
     intro w1 G bs hI hΓ
     rw [hP4]
     exact ⟨rfl, (show I64 (-1) from (by unfold I64; omega))⟩
    ·skip
     have h4d := B.df h4
     refine R0 ?_
     have hP5 : laws_szTrustPolicy a left = (laws_szDataS a.certificates (laws_szNameS a.anchors (laws_szRuleS a.rules (laws_szKeyS a.keys left)))) := by simp only [laws_szTrustPolicy, h1, h2, h3, h4, ct, cf]
     refine R1 ?_
     intro w1 G bs hI hΓ
     rw [hP5]
     exact ⟨rfl, hq4⟩
end Go.Proofs.YtolepebgdfdciaaGreat

namespace Go.Stp
set_option linter.unusedVariables false
set_option linter.unusedSimpArgs false
def laws_eqStringS_L1 (b : (List Str)) : List Str → Nat → Option (Bool)
  | [], i => none
  | e1 :: rest_, i =>
    match (b)[i]? with
      | none => default
      | some e2 =>
        bif (!((e1).toList == (e2).toList)) then
          (some false)
        else
          laws_eqStringS_L1 b rest_ (i + 1)
def laws_eqStringS (a : (List Str)) (b : (List Str)) : Bool :=
  bif ((((a).length : Nat) : Int) != (((b).length : Nat) : Int)) then
    false
  else
    match laws_eqStringS_L1 b a 0 with
      | some r_ => r_
      | none =>
        true
def laws_eqName (a : Name) (b : Name) : Bool :=
  bif (!(laws_eqStringS a.parts b.parts)) then
    false
  else
    true
def laws_eqByteS_L1 (b : (List UInt8)) : List UInt8 → Nat → Option (Bool)
  | [], i => none
  | e1 :: rest_, i =>
    match (b)[i]? with
      | none => default
      | some e2 =>
        bif (((e1).toNat : Int) != ((e2).toNat : Int)) then
          (some false)
        else
          laws_eqByteS_L1 b rest_ (i + 1)
def laws_eqByteS (a : (List UInt8)) (b : (List UInt8)) : Bool :=
  bif ((((a).length : Nat) : Int) != (((b).length : Nat) : Int)) then
    false
  else
    match laws_eqByteS_L1 b a 0 with
      | some r_ => r_
      | none =>
        true
def laws_eqData (a : DataP) (b : DataP) : Bool :=
  bif (!(laws_eqName a.name b.name)) then
    false
  else
    bif (!(laws_eqByteS a.content b.content)) then
      false
    else
      bif (!(laws_eqName a.keyName b.keyName)) then
        false
      else
        bif (a.freshUntil != b.freshUntil) then
          false
        else
          bif (a.signature != b.signature) then
            false
          else
            true
def laws_eqConsumer (a : Consumer) (b : Consumer) : Bool :=
  bif (a.node != b.node) then
    false
  else
    bif (a.index != b.index) then
      false
    else
      bif (!(laws_eqName a.name b.name)) then
        false
      else
        bif (a.attempts != b.attempts) then
          false
        else
          bif (a.wait != b.wait) then
            false
          else
            bif (!(a.satisfied == b.satisfied)) then
              false
            else
              bif (!(laws_eqData a.data b.data)) then
                false
              else
                true
def laws_eqKey (a : Key) (b : Key) : Bool :=
  bif (!(laws_eqName a.name b.name)) then
    false
  else
    bif (a.secret != b.secret) then
      false
    else
      true
def laws_eqKeyS_L1 (b : (List Key)) : List Key → Nat → Option (Bool)
  | [], i => none
  | e1 :: rest_, i =>
    match (b)[i]? with
      | none => default
      | some e2 =>
        bif (!(laws_eqKey e1 e2)) then
          (some false)
        else
          laws_eqKeyS_L1 b rest_ (i + 1)
def laws_eqKeyS (a : (List Key)) (b : (List Key)) : Bool :=
  bif ((((a).length : Nat) : Int) != (((b).length : Nat) : Int)) then
    false
  else
    match laws_eqKeyS_L1 b a 0 with
      | some r_ => r_
      | none =>
        true
def laws_eqPattern (a : Pattern) (b : Pattern) : Bool :=
  bif (!(laws_eqStringS a.parts b.parts)) then
    false
  else
    true
def laws_eqRule (a : Rule) (b : Rule) : Bool :=
  bif (!(laws_eqPattern a.dataPattern b.dataPattern)) then
    false
  else
    bif (!(laws_eqPattern a.keyPattern b.keyPattern)) then
      false
    else
      true
def laws_eqRuleS_L1 (b : (List Rule)) : List Rule → Nat → Option (Bool)
  | [], i => none
  | e1 :: rest_, i =>
    match (b)[i]? with
      | none => default
      | some e2 =>
        bif (!(laws_eqRule e1 e2)) then
          (some false)
        else
          laws_eqRuleS_L1 b rest_ (i + 1)
def laws_eqRuleS (a : (List Rule)) (b : (List Rule)) : Bool :=
  bif ((((a).length : Nat) : Int) != (((b).length : Nat) : Int)) then
    false
  else
    match laws_eqRuleS_L1 b a 0 with
      | some r_ => r_
      | none =>
        true
def laws_eqNameS_L1 (b : (List Name)) : List Name → Nat → Option (Bool)
  | [], i => none
  | e1 :: rest_, i =>
    match (b)[i]? with
      | none => default
      | some e2 =>
        bif (!(laws_eqName e1 e2)) then
          (some false)
        else
          laws_eqNameS_L1 b rest_ (i + 1)
def laws_eqNameS (a : (List Name)) (b : (List Name)) : Bool :=
  bif ((((a).length : Nat) : Int) != (((b).length : Nat) : Int)) then
    false
  else
    match laws_eqNameS_L1 b a 0 with
      | some r_ => r_
      | none =>
        true
def laws_eqDataS_L1 (b : (List DataP)) : List DataP → Nat → Option (Bool)
  | [], i => none
  | e1 :: rest_, i =>
    match (b)[i]? with
      | none => default
      | some e2 =>
        bif (!(laws_eqData e1 e2)) then
          (some false)
        else
          laws_eqDataS_L1 b rest_ (i + 1)
def laws_eqDataS (a : (List DataP)) (b : (List DataP)) : Bool :=
  bif ((((a).length : Nat) : Int) != (((b).length : Nat) : Int)) then
    false
  else
    match laws_eqDataS_L1 b a 0 with
      | some r_ => r_
      | none =>
        true
def laws_eqTrustPolicy (a : TrustPolicy) (b : TrustPolicy) : Bool :=
  bif (!(laws_eqKeyS a.keys b.keys)) then
    false
  else
    bif (!(laws_eqRuleS a.rules b.rules)) then
      false
    else
      bif (!(laws_eqNameS a.anchors b.anchors)) then
        false
      else
        bif (!(laws_eqDataS a.certificates b.certificates)) then
          false
        else
          true
end Go.Stp

namespace Go.Proofs.YtolepebgdfdciaaGreat
open Go.Stp
set_option linter.unusedVariables false
set_option linter.unusedSimpArgs false
theorem f216 (w : World) (n : Nat) (hn : n + 0 ≤ 9) (a : (List Str)) (pa : Option Addr) (ca : Nat) (N0 : RdSl (hp w) pa ca a) (b : (List Str)) (pb : Option Addr) (cb : Nat) (N1 : RdSl (hp w) pb cb b) (hoka : GoT.ok n a) (hokb : GoT.ok n b) :
  Does Tryz.prog 216 #[.slice pa ((a).length) ca, .slice pb ((b).length) cb] w emp (fun (rv : Value) (_ : World) => rv = .bool (laws_eqStringS a b) ∧ True) := by
 have hbP := bd_pos n
 have hbB := bd_big (n := n) (by omega)
 refine WX.enter (tt := tt) (Γ := [(0, MF.rs .stb pa ca a), (1, MF.rs .stb pb cb b)]) Tryz.func216 rfl (by kernel_rfl) rfl (allS_cons rfl N0 (allS_cons rfl N1 allS_nil)) ?_
 refine R0 ?_
 refine WX.cases 10 rfl (fun h1 => ?_) (fun h1 => ?_)
 ·skip
  have h1d := B.nt' h1
  refine R0 ?_
  have hP1 : laws_eqStringS a b = false := by simp only [laws_eqStringS, h1, ct, cf]
  exact R3 hP1
 ·skip
  have h1d := B.nf' h1
  refine R0 ?_
  have r1 : (a).length ≤ bd n := (okl hoka).1
  refine WX.loop (ι := Nat) ⟨fun i => (i ≤ (a).length) ∧ (laws_eqStringS_L1 b a 0 = laws_eqStringS_L1 b ((a).drop i) i), fun i => (a).length - i, fun i => [(5, .v (.int .i64 (((i : Nat) : Int)))), (0, .v (.slice pa ((a).length) ca)), (1, .v (.slice pb ((b).length) cb))], fun i => [], fun i => [], fun i => [(0, MF.rs .stb pa ca a), (1, MF.rs .stb pb cb b)]⟩ 0 ⟨(Nat.zero_le _), rfl⟩
   (.cons rfl (.cons rfl (.cons rfl (.nil)))) .nil .nil [0, 1] rfl ?_
  rintro i hpre
  have hpre_ : (i ≤ (a).length) ∧ (laws_eqStringS_L1 b a 0 = laws_eqStringS_L1 b ((a).drop i) i) := hpre
  clear hpre
  obtain ⟨v1, v2⟩ := hpre_
  refine R0 ?_
  refine WX.cases 14 rfl (fun h2 => ?_) (fun h2 => ?_)
  ·skip
   have h2d := B.dt h2
   have e1i : i < (a).length := (by omega)
   obtain ⟨e1, e1h⟩ : ∃ e1, (a)[i]? = some e1 := ⟨_, List.getElem?_eq_getElem e1i⟩
   have ok1 : GoT.ok n e1 := (okl hoka).2 _ (List.mem_of_getElem? e1h)
   refine R0 ?_
   refine WX.draw [] mixed ?_
   intro bs G0 hΓ0
   refine DX.takes (fuel := 7) ttOk [(0, true), (1, true)] (by kernel_rfl) rfl ?_
   refine DX.idx 2 0 i ttOk hΓ0 (by kernel_rfl) rfl rfl rfl rfl rfl rfl rfl rfl rfl rfl rfl e1i ?_
   rintro ad1 rfl
   refine DX.ldE 3 0 2 e1 ttOk hΓ0 (by kernel_rfl) rfl rfl rfl rfl rfl rfl rfl rfl e1h (fun _ => rfl) (fun _ => rfl) ?_
   rintro ⟨⟩
   refine DX.takes (fuel := 3) ttOk [(4, true), (5, true)] (by kernel_rfl) rfl ?_
   have e2i : i < (b).length := (by first | assumption | omega)
   obtain ⟨e2, e2h⟩ : ∃ e2, (b)[i]? = some e2 := ⟨_, List.getElem?_eq_getElem e2i⟩
   have ok2 : GoT.ok n e2 := (okl hokb).2 _ (List.mem_of_getElem? e2h)
   refine DX.idx 6 1 i ttOk hΓ0 (by kernel_rfl) rfl rfl rfl rfl rfl rfl rfl rfl rfl rfl rfl e2i ?_
   rintro ad2 rfl
   refine DX.ldE 7 1 2 e2 ttOk hΓ0 (by kernel_rfl) rfl rfl rfl rfl rfl rfl rfl rfl e2h (fun _ => rfl) (fun _ => rfl) ?_
   rintro ⟨⟩
   refine DX.takes (fuel := 0) ttOk [(8, true)] (by kernel_rfl) rfl ?_
   refine DX.tail2 [] rfl rfl (by kernel_rfl) ?_
   refine R0 ?_
   refine WX.cases 25 rfl (fun h3 => ?_) (fun h3 => ?_)
   ·skip
    have h3d := B.ef (B.nt h3)
    refine R0 ?_
    have hP2 : laws_eqStringS_L1 b a 0 = (some false) := by rw [v2, drop_get e1h]; simp only [laws_eqStringS_L1, e2h, h3, ct, cf]
    have hP3 : laws_eqStringS a b = false := by simp only [laws_eqStringS, h1, hP2, ct, cf]
    exact R3 hP3
   ·skip
    have h3d := B.et (B.nf h3)
    refine R0 ?_
    refine WX.see rfl rfl rfl (fun _ hΓ => looks_arith rfl rfl rfl rfl (by unfold I64; first | omega | (simp only [List.length_take] at *; omega))) ?_
    refine R0 ?_
    exact WX.iter (i + 1) ⟨(by omega), (by rw [v2, drop_get e1h]; simp only [laws_eqStringS_L1, e2h, h3, ct, cf])⟩ (by first | (dsimp only; omega) | omega) (.cons rfl (.cons rfl (.cons rfl (.nil)))) .nil .nil [0, 1] rfl
  ·skip
   have h2d := B.df h2
   refine R0 ?_
   have hX1 : laws_eqStringS_L1 b a 0 = none := by rw [v2, List.drop_eq_nil_of_le (show (a).length ≤ i by omega)]; simp only [laws_eqStringS_L1, ct, cf]
   have hP4 : laws_eqStringS a b = true := by simp only [laws_eqStringS, h1, hX1, ct, cf]
   exact R3 hP4
theorem f156 (w : World) (n : Nat) (hn : n + 0 ≤ 9) (a : Name) (pa : Option Addr) (ca : Nat) (N0 : RdSl (hp w) pa ca a.parts) (b : Name) (pb : Option Addr) (cb : Nat) (N1 : RdSl (hp w) pb cb b.parts) (hoka : GoT.ok n a) (hokb : GoT.ok n b) :
  Does Tryz.prog 156 #[.agg #[.slice pa ((a.parts).length) ca], .agg #[.slice pb ((b.parts).length) cb]] w emp (fun (rv : Value) (_ : World) => rv = .bool (laws_eqName a b) ∧ True) := by
 have hbP := bd_pos n
 have hbB := bd_big (n := n) (by omega)
 refine WX.enter (tt := tt) (Γ := [(0, MF.rs .stb pa ca a.parts), (1, MF.rs .stb pb cb b.parts)]) Tryz.func156 rfl (by kernel_rfl) rfl (allS_cons rfl N0 (allS_cons rfl N1 allS_nil)) ?_
 refine R0 ?_
 refine WX.callV rfl rfl rfl rfl rfl (fun _ => rfl) rfl (fun w G bs hI hΓ => f216 w n (by omega) a.parts pa ca (hΓ.get 0 rfl) b.parts pb cb (hΓ.get 1 rfl) (ok_Name hoka) (ok_Name hokb)) ?_
 intro hq1
 refine R0 ?_
 refine WX.cases 10 rfl (fun h1 => ?_) (fun h1 => ?_)
 ·skip
  have h1d := (B.nt h1)
  refine R0 ?_
  have hP1 : laws_eqName a b = false := by simp only [laws_eqName, h1, ct, cf]
  exact R3 hP1
 ·skip
  have h1d := (B.nf h1)
  refine R0 ?_
  have hP2 : laws_eqName a b = true := by simp only [laws_eqName, h1, ct, cf]
  exact R3 hP2
theorem f161 (w : World) (n : Nat) (hn : n + 0 ≤ 9) (a : (List UInt8)) (pa : Option Addr) (ca : Nat) (N0 : RdSl (hp w) pa ca a) (b : (List UInt8)) (pb : Option Addr) (cb : Nat) (N1 : RdSl (hp w) pb cb b) (hoka : GoT.ok n a) (hokb : GoT.ok n b) :
  Does Tryz.prog 161 #[.slice pa ((a).length) ca, .slice pb ((b).length) cb] w emp (fun (rv : Value) (_ : World) => rv = .bool (laws_eqByteS a b) ∧ True) := by
 have hbP := bd_pos n
 have hbB := bd_big (n := n) (by omega)
 refine WX.enter (tt := tt) (Γ := [(0, MF.rs .stb pa ca a), (1, MF.rs .stb pb cb b)]) Tryz.func161 rfl (by kernel_rfl) rfl (allS_cons rfl N0 (allS_cons rfl N1 allS_nil)) ?_
 refine R0 ?_
 refine WX.cases 10 rfl (fun h1 => ?_) (fun h1 => ?_)
 ·skip
  have h1d := B.nt' h1
  refine R0 ?_
  have hP1 : laws_eqByteS a b = false := by simp only [laws_eqByteS, h1, ct, cf]
  exact R3 hP1
 ·skip
  have h1d := B.nf' h1
  refine R0 ?_
  have r1 : (a).length ≤ bd n := (okl hoka).1
  refine WX.loop (ι := Nat) ⟨fun i => (i ≤ (a).length) ∧ (laws_eqByteS_L1 b a 0 = laws_eqByteS_L1 b ((a).drop i) i), fun i => (a).length - i, fun i => [(5, .v (.int .i64 (((i : Nat) : Int)))), (0, .v (.slice pa ((a).length) ca)), (1, .v (.slice pb ((b).length) cb))], fun i => [], fun i => [], fun i => [(0, MF.rs .stb pa ca a), (1, MF.rs .stb pb cb b)]⟩ 0 ⟨(Nat.zero_le _), rfl⟩
   (.cons rfl (.cons rfl (.cons rfl (.nil)))) .nil .nil [0, 1] rfl ?_
  rintro i hpre
  have hpre_ : (i ≤ (a).length) ∧ (laws_eqByteS_L1 b a 0 = laws_eqByteS_L1 b ((a).drop i) i) := hpre
  clear hpre
  obtain ⟨v1, v2⟩ := hpre_
  refine R0 ?_
  refine WX.cases 14 rfl (fun h2 => ?_) (fun h2 => ?_)
  ·skip
   have h2d := B.dt h2
   have e1i : i < (a).length := (by omega)
   obtain ⟨e1, e1h⟩ : ∃ e1, (a)[i]? = some e1 := ⟨_, List.getElem?_eq_getElem e1i⟩
   refine R0 ?_
   refine WX.draw [] mixed ?_
   intro bs G0 hΓ0
   refine DX.takes (fuel := 7) ttOk [(0, true), (1, true)] (by kernel_rfl) rfl ?_
   refine DX.idx 2 0 i ttOk hΓ0 (by kernel_rfl) rfl rfl rfl rfl rfl rfl rfl rfl rfl rfl rfl e1i ?_
   rintro ad1 rfl
   refine DX.ldE 3 0 2 e1 ttOk hΓ0 (by kernel_rfl) rfl rfl rfl rfl rfl rfl rfl rfl e1h (fun _ => rfl) (fun _ => rfl) ?_
   rintro ⟨⟩
   refine DX.takes (fuel := 3) ttOk [(4, true), (5, true)] (by kernel_rfl) rfl ?_
   have e2i : i < (b).length := (by first | assumption | omega)
   obtain ⟨e2, e2h⟩ : ∃ e2, (b)[i]? = some e2 := ⟨_, List.getElem?_eq_getElem e2i⟩
   refine DX.idx 6 1 i ttOk hΓ0 (by kernel_rfl) rfl rfl rfl rfl rfl rfl rfl rfl rfl rfl rfl e2i ?_
   rintro ad2 rfl
   refine DX.ldE 7 1 2 e2 ttOk hΓ0 (by kernel_rfl) rfl rfl rfl rfl rfl rfl rfl rfl e2h (fun _ => rfl) (fun _ => rfl) ?_
   rintro ⟨⟩
   refine DX.takes (fuel := 0) ttOk [(8, true)] (by kernel_rfl) rfl ?_
   refine DX.tail2 [] rfl rfl (by kernel_rfl) ?_
   refine R0 ?_
   refine WX.cases 25 rfl (fun h3 => ?_) (fun h3 => ?_)
   ·skip
    have h3d := B.nt' h3
    refine R0 ?_
    have hP2 : laws_eqByteS_L1 b a 0 = (some false) := by rw [v2, drop_get e1h]; simp only [laws_eqByteS_L1, e2h, h3, ct, cf]
    have hP3 : laws_eqByteS a b = false := by simp only [laws_eqByteS, h1, hP2, ct, cf]
    exact R3 hP3
   ·skip
    have h3d := B.nf' h3
    refine R0 ?_
    refine WX.see rfl rfl rfl (fun _ hΓ => looks_arith rfl rfl rfl rfl (by unfold I64; first | omega | (simp only [List.length_take] at *; omega))) ?_
    refine R0 ?_
    exact WX.iter (i + 1) ⟨(by omega), (by rw [v2, drop_get e1h]; simp only [laws_eqByteS_L1, e2h, h3, ct, cf])⟩ (by first | (dsimp only; omega) | omega) (.cons rfl (.cons rfl (.cons rfl (.nil)))) .nil .nil [0, 1] rfl
  ·skip
   have h2d := B.df h2
   refine R0 ?_
   have hX1 : laws_eqByteS_L1 b a 0 = none := by rw [v2, List.drop_eq_nil_of_le (show (a).length ≤ i by omega)]; simp only [laws_eqByteS_L1, ct, cf]
   have hP4 : laws_eqByteS a b = true := by simp only [laws_eqByteS, h1, hX1, ct, cf]
   exact R3 hP4
theorem f71 (w : World) (n : Nat) (hn : n + 0 ≤ 9) (a : DataP) (K0 : Option Addr) (M0 : Nat) (N0 : RdSl (hp w) K0 M0 a.name.parts) (K1 : Option Addr) (M1 : Nat) (N1 : RdSl (hp w) K1 M1 a.content) (K2 : Option Addr) (M2 : Nat) (N2 : RdSl (hp w) K2 M2 a.keyName.parts) (b : DataP) (K3 : Option Addr) (M3 : Nat) (N3 : RdSl (hp w) K3 M3 b.name.parts) (K4 : Option Addr) (M4 : Nat) (N4 : RdSl (hp w) K4 M4 b.content) (K5 : Option Addr) (M5 : Nat) (N5 : RdSl (hp w) K5 M5 b.keyName.parts) (hoka : GoT.ok n a) (hokb : GoT.ok n b) :
  Does Tryz.prog 71 #[.agg #[.slice K0 ((a.name.parts).length) M0, .slice K1 ((a.content).length) M1, .slice K2 ((a.keyName.parts).length) M2, .int .i64 (a.freshUntil), .int .i64 (a.signature)], .agg #[.slice K3 ((b.name.parts).length) M3, .slice K4 ((b.content).length) M4, .slice K5 ((b.keyName.parts).length) M5, .int .i64 (b.freshUntil), .int .i64 (b.signature)]] w emp (fun (rv : Value) (_ : World) => rv = .bool (laws_eqData a b) ∧ True) := by
 have hbP := bd_pos n
 have hbB := bd_big (n := n) (by omega)
 refine WX.enter (tt := tt) (Γ := [(0, MF.rs .stb K0 M0 a.name.parts), (1, MF.rs .stb K1 M1 a.content), (2, MF.rs .stb K2 M2 a.keyName.parts), (3, MF.rs .stb K3 M3 b.name.parts), (4, MF.rs .stb K4 M4 b.content), (5, MF.rs .stb K5 M5 b.keyName.parts)]) Tryz.func71 rfl (by kernel_rfl) rfl (allS_cons rfl N0 (allS_cons rfl N1 (allS_cons rfl N2 (allS_cons rfl N3 (allS_cons rfl N4 (allS_cons rfl N5 allS_nil)))))) ?_
 refine R0 ?_
 refine WX.callV rfl rfl rfl rfl rfl (fun _ => rfl) rfl (fun w G bs hI hΓ => f156 w n (by omega) a.name K0 M0 (hΓ.get 0 rfl) b.name K3 M3 (hΓ.get 3 rfl) ((ok_DataP hoka).1) ((ok_DataP hokb).1)) ?_
 intro hq1
 refine R0 ?_
 refine WX.cases 10 rfl (fun h1 => ?_) (fun h1 => ?_)
 ·skip
  have h1d := (B.nt h1)
  refine R0 ?_
  have hP1 : laws_eqData a b = false := by simp only [laws_eqData, h1, ct, cf]
  exact R3 hP1
 ·skip
  have h1d := (B.nf h1)
  refine R0 ?_
  refine WX.callV rfl rfl rfl rfl rfl (fun _ => rfl) rfl (fun w G bs hI hΓ => f161 w n (by omega) a.content K1 M1 (hΓ.get 1 rfl) b.content K4 M4 (hΓ.get 4 rfl) ((ok_DataP hoka).2.1) ((ok_DataP hokb).2.1)) ?_
  intro hq2
  refine R0 ?_
  refine WX.cases 16 rfl (fun h2 => ?_) (fun h2 => ?_)
  ·skip
   have h2d := (B.nt h2)
   refine R0 ?_
   have hP2 : laws_eqData a b = false := by simp only [laws_eqData, h1, h2, ct, cf]
   exact R3 hP2
  ·skip
   have h2d := (B.nf h2)
   refine R0 ?_
   refine WX.callV rfl rfl rfl rfl rfl (fun _ => rfl) rfl (fun w G bs hI hΓ => f156 w n (by omega) a.keyName K2 M2 (hΓ.get 2 rfl) b.keyName K5 M5 (hΓ.get 5 rfl) ((ok_DataP hoka).2.2.1) ((ok_DataP hokb).2.2.1)) ?_
   intro hq3
   refine R0 ?_
   refine WX.cases 22 rfl (fun h3 => ?_) (fun h3 => ?_)
   ·skip
    have h3d := (B.nt h3)
    refine R0 ?_
    have hP3 : laws_eqData a b = false := by simp only [laws_eqData, h1, h2, h3, ct, cf]
    exact R3 hP3
   ·skip
    have h3d := (B.nf h3)
    refine R0 ?_
    refine WX.cases 27 rfl (fun h4 => ?_) (fun h4 => ?_)
    ·skip
     have h4d := B.nt' h4
     refine R0 ?_
     have hP4 : laws_eqData a b = false := by simp only [laws_eqData, h1, h2, h3, h4, ct, cf]
     exact R3 hP4
    ·skip
     have h4d := B.nf' h4
     refine R0 ?_
     refine WX.cases 32 rfl (fun h5 => ?_) (fun h5 => ?_)
     ·skip
      have h5d := B.nt' h5
      refine R0 ?_
      have hP5 : laws_eqData a b = false := by simp only [laws_eqData, h1, h2, h3, h4, h5, ct, cf]
      exact R3 hP5
     ·skip
      have h5d := B.nf' h5
      refine R0 ?_
      have hP6 : laws_eqData a b = true := by simp only [laws_eqData, h1, h2, h3, h4, h5, ct, cf]
      exact R3 hP6
theorem f69 (w : World) (n : Nat) (hn : n + 0 ≤ 9) (a : Consumer) (K0 : Option Addr) (M0 : Nat) (N0 : RdSl (hp w) K0 M0 a.name.parts) (K1 : Option Addr) (M1 : Nat) (N1 : RdSl (hp w) K1 M1 a.data.name.parts) (K2 : Option Addr) (M2 : Nat) (N2 : RdSl (hp w) K2 M2 a.data.content) (K3 : Option Addr) (M3 : Nat) (N3 : RdSl (hp w) K3 M3 a.data.keyName.parts) (b : Consumer) (K4 : Option Addr) (M4 : Nat) (N4 : RdSl (hp w) K4 M4 b.name.parts) (K5 : Option Addr) (M5 : Nat) (N5 : RdSl (hp w) K5 M5 b.data.name.parts) (K6 : Option Addr) (M6 : Nat) (N6 : RdSl (hp w) K6 M6 b.data.content) (K7 : Option Addr) (M7 : Nat) (N7 : RdSl (hp w) K7 M7 b.data.keyName.parts) (hoka : GoT.ok n a) (hokb : GoT.ok n b) :
  Does Tryz.prog 69 #[.agg #[.int .i64 (a.node), .int .i64 (a.index), .slice K0 ((a.name.parts).length) M0, .int .i64 (a.attempts), .int .i64 (a.wait), .bool a.satisfied, .slice K1 ((a.data.name.parts).length) M1, .slice K2 ((a.data.content).length) M2, .slice K3 ((a.data.keyName.parts).length) M3, .int .i64 (a.data.freshUntil), .int .i64 (a.data.signature)], .agg #[.int .i64 (b.node), .int .i64 (b.index), .slice K4 ((b.name.parts).length) M4, .int .i64 (b.attempts), .int .i64 (b.wait), .bool b.satisfied, .slice K5 ((b.data.name.parts).length) M5, .slice K6 ((b.data.content).length) M6, .slice K7 ((b.data.keyName.parts).length) M7, .int .i64 (b.data.freshUntil), .int .i64 (b.data.signature)]] w emp (fun (rv : Value) (_ : World) => rv = .bool (laws_eqConsumer a b) ∧ True) := by
 have hbP := bd_pos n
 have hbB := bd_big (n := n) (by omega)
 refine WX.enter (tt := tt) (Γ := [(0, MF.rs .stb K0 M0 a.name.parts), (1, MF.rs .stb K1 M1 a.data.name.parts), (2, MF.rs .stb K2 M2 a.data.content), (3, MF.rs .stb K3 M3 a.data.keyName.parts), (4, MF.rs .stb K4 M4 b.name.parts), (5, MF.rs .stb K5 M5 b.data.name.parts), (6, MF.rs .stb K6 M6 b.data.content), (7, MF.rs .stb K7 M7 b.data.keyName.parts)]) Tryz.func69 rfl (by kernel_rfl) rfl (allS_cons rfl N0 (allS_cons rfl N1 (allS_cons rfl N2 (allS_cons rfl N3 (allS_cons rfl N4 (allS_cons rfl N5 (allS_cons rfl N6 (allS_cons rfl N7 allS_nil)))))))) ?_
 refine R0 ?_
 refine WX.cases 9 rfl (fun h1 => ?_) (fun h1 => ?_)
 ·skip
  have h1d := B.nt' h1
  refine R0 ?_
  have hP1 : laws_eqConsumer a b = false := by simp only [laws_eqConsumer, h1, ct, cf]
  exact R3 hP1
 ·skip
  have h1d := B.nf' h1
  refine R0 ?_
  refine WX.cases 14 rfl (fun h2 => ?_) (fun h2 => ?_)
  ·skip
   have h2d := B.nt' h2
   refine R0 ?_
   have hP2 : laws_eqConsumer a b = false := by simp only [laws_eqConsumer, h1, h2, ct, cf]
   exact R3 hP2
  ·skip
   have h2d := B.nf' h2
   refine R0 ?_
   refine WX.callV rfl rfl rfl rfl rfl (fun _ => rfl) rfl (fun w G bs hI hΓ => f156 w n (by omega) a.name K0 M0 (hΓ.get 0 rfl) b.name K4 M4 (hΓ.get 4 rfl) ((ok_Consumer hoka).2.2.1) ((ok_Consumer hokb).2.2.1)) ?_
   intro hq1
   refine R0 ?_
   refine WX.cases 20 rfl (fun h3 => ?_) (fun h3 => ?_)
   ·skip
    have h3d := (B.nt h3)
    refine R0 ?_
    have hP3 : laws_eqConsumer a b = false := by simp only [laws_eqConsumer, h1, h2, h3, ct, cf]
    exact R3 hP3
   ·skip
    have h3d := (B.nf h3)
    refine R0 ?_
    refine WX.cases 25 rfl (fun h4 => ?_) (fun h4 => ?_)
    ·skip
     have h4d := B.nt' h4
     refine R0 ?_
     have hP4 : laws_eqConsumer a b = false := by simp only [laws_eqConsumer, h1, h2, h3, h4, ct, cf]
     exact R3 hP4
    ·skip
     have h4d := B.nf' h4
     refine R0 ?_
     refine WX.cases 30 rfl (fun h5 => ?_) (fun h5 => ?_)
     ·skip
      have h5d := B.nt' h5
      refine R0 ?_
      have hP5 : laws_eqConsumer a b = false := by simp only [laws_eqConsumer, h1, h2, h3, h4, h5, ct, cf]
      exact R3 hP5
     ·skip
      have h5d := B.nf' h5
      refine R0 ?_
      refine WX.see rfl rfl rfl (fun _ hΓ => looks_beq ttOk rfl rfl rfl rfl rfl rfl) ?_
      refine R0 ?_
      refine WX.cases 35 rfl (fun h6 => ?_) (fun h6 => ?_)
      ·skip
       have h6d := (B.nt h6)
       refine R0 ?_
       have hP6 : laws_eqConsumer a b = false := by simp only [laws_eqConsumer, h1, h2, h3, h4, h5, h6, ct, cf]
       exact R3 hP6
      ·skip
       have h6d := (B.nf h6)
       refine R0 ?_
       refine WX.callV rfl rfl rfl rfl rfl (fun _ => rfl) rfl (fun w G bs hI hΓ => f71 w n (by omega) a.data K1 M1 (hΓ.get 1 rfl) K2 M2 (hΓ.get 2 rfl) K3 M3 (hΓ.get 3 rfl) b.data K5 M5 (hΓ.get 5 rfl) K6 M6 (hΓ.get 6 rfl) K7 M7 (hΓ.get 7 rfl) ((ok_Consumer hoka).2.2.2.2.2.2) ((ok_Consumer hokb).2.2.2.2.2.2)) ?_
       intro hq2
       refine R0 ?_
       refine WX.cases 41 rfl (fun h7 => ?_) (fun h7 => ?_)
       ·skip
        have h7d := (B.nt h7)
        refine R0 ?_
        have hP7 : laws_eqConsumer a b = false := by simp only [laws_eqConsumer, h1, h2, h3, h4, h5, h6, h7, ct, cf]
        exact R3 hP7
       ·skip
        have h7d := (B.nf h7)
        refine R0 ?_
        have hP8 : laws_eqConsumer a b = true := by simp only [laws_eqConsumer, h1, h2, h3, h4, h5, h6, h7, ct, cf]
        exact R3 hP8
theorem f217 (w : World) (n : Nat) (hn : n + 0 ≤ 9) (a : Key) (K0 : Option Addr) (M0 : Nat) (N0 : RdSl (hp w) K0 M0 a.name.parts) (b : Key) (K1 : Option Addr) (M1 : Nat) (N1 : RdSl (hp w) K1 M1 b.name.parts) (hoka : GoT.ok n a) (hokb : GoT.ok n b) :
  Does Tryz.prog 217 #[.agg #[.slice K0 ((a.name.parts).length) M0, .int .i64 (a.secret)], .agg #[.slice K1 ((b.name.parts).length) M1, .int .i64 (b.secret)]] w emp (fun (rv : Value) (_ : World) => rv = .bool (laws_eqKey a b) ∧ True) := by
 have hbP := bd_pos n
 have hbB := bd_big (n := n) (by omega)
 refine WX.enter (tt := tt) (Γ := [(0, MF.rs .stb K0 M0 a.name.parts), (1, MF.rs .stb K1 M1 b.name.parts)]) Tryz.func217 rfl (by kernel_rfl) rfl (allS_cons rfl N0 (allS_cons rfl N1 allS_nil)) ?_
 refine R0 ?_
 refine WX.callV rfl rfl rfl rfl rfl (fun _ => rfl) rfl (fun w G bs hI hΓ => f156 w n (by omega) a.name K0 M0 (hΓ.get 0 rfl) b.name K1 M1 (hΓ.get 1 rfl) ((ok_Key hoka).1) ((ok_Key hokb).1)) ?_
 intro hq1
 refine R0 ?_
 refine WX.cases 10 rfl (fun h1 => ?_) (fun h1 => ?_)
 ·skip
  have h1d := (B.nt h1)
  refine R0 ?_
  have hP1 : laws_eqKey a b = false := by simp only [laws_eqKey, h1, ct, cf]
  exact R3 hP1
 ·skip
  have h1d := (B.nf h1)
  refine R0 ?_
  refine WX.cases 15 rfl (fun h2 => ?_) (fun h2 => ?_)
  ·skip
   have h2d := B.nt' h2
   refine R0 ?_
   have hP2 : laws_eqKey a b = false := by simp only [laws_eqKey, h1, h2, ct, cf]
   exact R3 hP2
  ·skip
   have h2d := B.nf' h2
   refine R0 ?_
   have hP3 : laws_eqKey a b = true := by simp only [laws_eqKey, h1, h2, ct, cf]
   exact R3 hP3
theorem f157 (w : World) (n : Nat) (hn : n + 0 ≤ 9) (a : (List Key)) (pa : Option Addr) (ca : Nat) (N0 : RdSl (hp w) pa ca a) (b : (List Key)) (pb : Option Addr) (cb : Nat) (N1 : RdSl (hp w) pb cb b) (hoka : GoT.ok n a) (hokb : GoT.ok n b) :
  Does Tryz.prog 157 #[.slice pa ((a).length) ca, .slice pb ((b).length) cb] w emp (fun (rv : Value) (_ : World) => rv = .bool (laws_eqKeyS a b) ∧ True) := by
 have hbP := bd_pos n
 have hbB := bd_big (n := n) (by omega)
 refine WX.enter (tt := tt) (Γ := [(0, MF.rs .stb pa ca a), (1, MF.rs .stb pb cb b)]) Tryz.func157 rfl (by kernel_rfl) rfl (allS_cons rfl N0 (allS_cons rfl N1 allS_nil)) ?_
 refine R0 ?_
 refine WX.cases 10 rfl (fun h1 => ?_) (fun h1 => ?_)
 ·skip
  have h1d := B.nt' h1
  refine R0 ?_
  have hP1 : laws_eqKeyS a b = false := by simp only [laws_eqKeyS, h1, ct, cf]
  exact R3 hP1
 ·skip
  have h1d := B.nf' h1
  refine R0 ?_
  have r1 : (a).length ≤ bd n := (okl hoka).1
  refine WX.loop (ι := Nat) ⟨fun i => (i ≤ (a).length) ∧ (laws_eqKeyS_L1 b a 0 = laws_eqKeyS_L1 b ((a).drop i) i), fun i => (a).length - i, fun i => [(5, .v (.int .i64 (((i : Nat) : Int)))), (0, .v (.slice pa ((a).length) ca)), (1, .v (.slice pb ((b).length) cb))], fun i => [], fun i => [], fun i => [(0, MF.rs .stb pa ca a), (1, MF.rs .stb pb cb b)]⟩ 0 ⟨(Nat.zero_le _), rfl⟩
   (.cons rfl (.cons rfl (.cons rfl (.nil)))) .nil .nil [0, 1] rfl ?_
  rintro i hpre
  have hpre_ : (i ≤ (a).length) ∧ (laws_eqKeyS_L1 b a 0 = laws_eqKeyS_L1 b ((a).drop i) i) := hpre
  clear hpre
  obtain ⟨v1, v2⟩ := hpre_
  refine R0 ?_
  refine WX.cases 14 rfl (fun h2 => ?_) (fun h2 => ?_)
  ·skip
   have h2d := B.dt h2
   have e1i : i < (a).length := (by omega)
   obtain ⟨e1, e1h⟩ : ∃ e1, (a)[i]? = some e1 := ⟨_, List.getElem?_eq_getElem e1i⟩
   have ok1 : GoT.ok n e1 := (okl hoka).2 _ (List.mem_of_getElem? e1h)
   refine R0 ?_
   refine WX.draw [] mixed ?_
   intro bs G0 hΓ0
   refine DX.takes (fuel := 8) ttOk [(0, true), (1, true)] (by kernel_rfl) rfl ?_
   refine DX.idx 2 0 i ttOk hΓ0 (by kernel_rfl) rfl rfl rfl rfl rfl rfl rfl rfl rfl rfl rfl e1i ?_
   rintro ad1 rfl
   refine DX.ldE 3 0 2 e1 ttOk hΓ0 (by kernel_rfl) rfl rfl rfl rfl rfl rfl rfl rfl e1h (fun _ => rfl) (fun _ => rfl) ?_
   rintro ⟨⟨p1, c1⟩, ⟨⟩⟩
   refine DX.takes (fuel := 4) ttOk [(4, true), (5, true)] (by kernel_rfl) rfl ?_
   have e2i : i < (b).length := (by first | assumption | omega)
   obtain ⟨e2, e2h⟩ : ∃ e2, (b)[i]? = some e2 := ⟨_, List.getElem?_eq_getElem e2i⟩
   have ok2 : GoT.ok n e2 := (okl hokb).2 _ (List.mem_of_getElem? e2h)
   refine DX.idx 6 1 i ttOk hΓ0 (by kernel_rfl) rfl rfl rfl rfl rfl rfl rfl rfl rfl rfl rfl e2i ?_
   rintro ad2 rfl
   refine DX.ldE 7 1 3 e2 ttOk hΓ0 (by kernel_rfl) rfl rfl rfl rfl rfl rfl rfl rfl e2h (fun _ => rfl) (fun _ => rfl) ?_
   rintro ⟨⟨p2, c2⟩, ⟨⟩⟩
   refine DX.callV 8 rfl (by kernel_rfl) rfl rfl rfl rfl rfl rfl (fun _ => rfl) rfl (fun w G bs hI hΓ => f217 w n (by omega) e1 p1 c1 (hΓ.get 2 rfl) e2 p2 c2 (hΓ.get 3 rfl) ok1 ok2) ?_
   intro hq1
   refine DX.takes (fuel := 0) ttOk [(9, true)] (by kernel_rfl) rfl ?_
   refine DX.tail2 [] rfl rfl (by kernel_rfl) ?_
   refine R0 ?_
   refine WX.cases 26 rfl (fun h3 => ?_) (fun h3 => ?_)
   ·skip
    have h3d := (B.nt h3)
    refine R0 ?_
    have hP2 : laws_eqKeyS_L1 b a 0 = (some false) := by rw [v2, drop_get e1h]; simp only [laws_eqKeyS_L1, e2h, h3, ct, cf]
    have hP3 : laws_eqKeyS a b = false := by simp only [laws_eqKeyS, h1, hP2, ct, cf]
    exact R3 hP3
   ·skip
    have h3d := (B.nf h3)
    refine R0 ?_
    refine WX.see rfl rfl rfl (fun _ hΓ => looks_arith rfl rfl rfl rfl (by unfold I64; first | omega | (simp only [List.length_take] at *; omega))) ?_
    refine R0 ?_
    exact WX.iter (i + 1) ⟨(by omega), (by rw [v2, drop_get e1h]; simp only [laws_eqKeyS_L1, e2h, h3, ct, cf])⟩ (by first | (dsimp only; omega) | omega) (.cons rfl (.cons rfl (.cons rfl (.nil)))) .nil .nil [0, 1] rfl
  ·skip
   have h2d := B.df h2
   refine R0 ?_
   have hX1 : laws_eqKeyS_L1 b a 0 = none := by rw [v2, List.drop_eq_nil_of_le (show (a).length ≤ i by omega)]; simp only [laws_eqKeyS_L1, ct, cf]
   have hP4 : laws_eqKeyS a b = true := by simp only [laws_eqKeyS, h1, hX1, ct, cf]
   exact R3 hP4
theorem f242 (w : World) (n : Nat) (hn : n + 0 ≤ 9) (a : Pattern) (pa : Option Addr) (ca : Nat) (N0 : RdSl (hp w) pa ca a.parts) (b : Pattern) (pb : Option Addr) (cb : Nat) (N1 : RdSl (hp w) pb cb b.parts) (hoka : GoT.ok n a) (hokb : GoT.ok n b) :
  Does Tryz.prog 242 #[.agg #[.slice pa ((a.parts).length) ca], .agg #[.slice pb ((b.parts).length) cb]] w emp (fun (rv : Value) (_ : World) => rv = .bool (laws_eqPattern a b) ∧ True) := by
 have hbP := bd_pos n
 have hbB := bd_big (n := n) (by omega)
 refine WX.enter (tt := tt) (Γ := [(0, MF.rs .stb pa ca a.parts), (1, MF.rs .stb pb cb b.parts)]) Tryz.func242 rfl (by kernel_rfl) rfl (allS_cons rfl N0 (allS_cons rfl N1 allS_nil)) ?_
 refine R0 ?_
 refine WX.callV rfl rfl rfl rfl rfl (fun _ => rfl) rfl (fun w G bs hI hΓ => f216 w n (by omega) a.parts pa ca (hΓ.get 0 rfl) b.parts pb cb (hΓ.get 1 rfl) (ok_Pattern hoka) (ok_Pattern hokb)) ?_
 intro hq1
 refine R0 ?_
 refine WX.cases 10 rfl (fun h1 => ?_) (fun h1 => ?_)
 ·skip
  have h1d := (B.nt h1)
  refine R0 ?_
  have hP1 : laws_eqPattern a b = false := by simp only [laws_eqPattern, h1, ct, cf]
  exact R3 hP1
 ·skip
  have h1d := (B.nf h1)
  refine R0 ?_
  have hP2 : laws_eqPattern a b = true := by simp only [laws_eqPattern, h1, ct, cf]
  exact R3 hP2
theorem f218 (w : World) (n : Nat) (hn : n + 0 ≤ 9) (a : Rule) (K0 : Option Addr) (M0 : Nat) (N0 : RdSl (hp w) K0 M0 a.dataPattern.parts) (K1 : Option Addr) (M1 : Nat) (N1 : RdSl (hp w) K1 M1 a.keyPattern.parts) (b : Rule) (K2 : Option Addr) (M2 : Nat) (N2 : RdSl (hp w) K2 M2 b.dataPattern.parts) (K3 : Option Addr) (M3 : Nat) (N3 : RdSl (hp w) K3 M3 b.keyPattern.parts) (hoka : GoT.ok n a) (hokb : GoT.ok n b) :
  Does Tryz.prog 218 #[.agg #[.slice K0 ((a.dataPattern.parts).length) M0, .slice K1 ((a.keyPattern.parts).length) M1], .agg #[.slice K2 ((b.dataPattern.parts).length) M2, .slice K3 ((b.keyPattern.parts).length) M3]] w emp (fun (rv : Value) (_ : World) => rv = .bool (laws_eqRule a b) ∧ True) := by
 have hbP := bd_pos n
 have hbB := bd_big (n := n) (by omega)
 refine WX.enter (tt := tt) (Γ := [(0, MF.rs .stb K0 M0 a.dataPattern.parts), (1, MF.rs .stb K1 M1 a.keyPattern.parts), (2, MF.rs .stb K2 M2 b.dataPattern.parts), (3, MF.rs .stb K3 M3 b.keyPattern.parts)]) Tryz.func218 rfl (by kernel_rfl) rfl (allS_cons rfl N0 (allS_cons rfl N1 (allS_cons rfl N2 (allS_cons rfl N3 allS_nil)))) ?_
 refine R0 ?_
 refine WX.callV rfl rfl rfl rfl rfl (fun _ => rfl) rfl (fun w G bs hI hΓ => f242 w n (by omega) a.dataPattern K0 M0 (hΓ.get 0 rfl) b.dataPattern K2 M2 (hΓ.get 2 rfl) ((ok_Rule hoka).1) ((ok_Rule hokb).1)) ?_
 intro hq1
 refine R0 ?_
 refine WX.cases 10 rfl (fun h1 => ?_) (fun h1 => ?_)
 ·skip
  have h1d := (B.nt h1)
  refine R0 ?_
  have hP1 : laws_eqRule a b = false := by simp only [laws_eqRule, h1, ct, cf]
  exact R3 hP1
 ·skip
  have h1d := (B.nf h1)
  refine R0 ?_
  refine WX.callV rfl rfl rfl rfl rfl (fun _ => rfl) rfl (fun w G bs hI hΓ => f242 w n (by omega) a.keyPattern K1 M1 (hΓ.get 1 rfl) b.keyPattern K3 M3 (hΓ.get 3 rfl) ((ok_Rule hoka).2) ((ok_Rule hokb).2)) ?_
  intro hq2
  refine R0 ?_
  refine WX.cases 16 rfl (fun h2 => ?_) (fun h2 => ?_)
  ·skip
   have h2d := (B.nt h2)
   refine R0 ?_
   have hP2 : laws_eqRule a b = false := by simp only [laws_eqRule, h1, h2, ct, cf]
   exact R3 hP2
  ·skip
   have h2d := (B.nf h2)
   refine R0 ?_
   have hP3 : laws_eqRule a b = true := by simp only [laws_eqRule, h1, h2, ct, cf]
   exact R3 hP3
theorem f158 (w : World) (n : Nat) (hn : n + 0 ≤ 9) (a : (List Rule)) (pa : Option Addr) (ca : Nat) (N0 : RdSl (hp w) pa ca a) (b : (List Rule)) (pb : Option Addr) (cb : Nat) (N1 : RdSl (hp w) pb cb b) (hoka : GoT.ok n a) (hokb : GoT.ok n b) :
  Does Tryz.prog 158 #[.slice pa ((a).length) ca, .slice pb ((b).length) cb] w emp (fun (rv : Value) (_ : World) => rv = .bool (laws_eqRuleS a b) ∧ True) := by
 have hbP := bd_pos n
 have hbB := bd_big (n := n) (by omega)
 refine WX.enter (tt := tt) (Γ := [(0, MF.rs .stb pa ca a), (1, MF.rs .stb pb cb b)]) Tryz.func158 rfl (by kernel_rfl) rfl (allS_cons rfl N0 (allS_cons rfl N1 allS_nil)) ?_
 refine R0 ?_
 refine WX.cases 10 rfl (fun h1 => ?_) (fun h1 => ?_)
 ·skip
  have h1d := B.nt' h1
  refine R0 ?_
  have hP1 : laws_eqRuleS a b = false := by simp only [laws_eqRuleS, h1, ct, cf]
  exact R3 hP1
 ·skip
  have h1d := B.nf' h1
  refine R0 ?_
  have r1 : (a).length ≤ bd n := (okl hoka).1
  refine WX.loop (ι := Nat) ⟨fun i => (i ≤ (a).length) ∧ (laws_eqRuleS_L1 b a 0 = laws_eqRuleS_L1 b ((a).drop i) i), fun i => (a).length - i, fun i => [(5, .v (.int .i64 (((i : Nat) : Int)))), (0, .v (.slice pa ((a).length) ca)), (1, .v (.slice pb ((b).length) cb))], fun i => [], fun i => [], fun i => [(0, MF.rs .stb pa ca a), (1, MF.rs .stb pb cb b)]⟩ 0 ⟨(Nat.zero_le _), rfl⟩
   (.cons rfl (.cons rfl (.cons rfl (.nil)))) .nil .nil [0, 1] rfl ?_
  rintro i hpre
  have hpre_ : (i ≤ (a).length) ∧ (laws_eqRuleS_L1 b a 0 = laws_eqRuleS_L1 b ((a).drop i) i) := hpre
  clear hpre
  obtain ⟨v1, v2⟩ := hpre_
  refine R0 ?_
  refine WX.cases 14 rfl (fun h2 => ?_) (fun h2 => ?_)
  ·skip
   have h2d := B.dt h2
   have e1i : i < (a).length := (by omega)
   obtain ⟨e1, e1h⟩ : ∃ e1, (a)[i]? = some e1 := ⟨_, List.getElem?_eq_getElem e1i⟩
   have ok1 : GoT.ok n e1 := (okl hoka).2 _ (List.mem_of_getElem? e1h)
   refine R0 ?_
   refine WX.draw [] mixed ?_
   intro bs G0 hΓ0
   refine DX.takes (fuel := 8) ttOk [(0, true), (1, true)] (by kernel_rfl) rfl ?_
   refine DX.idx 2 0 i ttOk hΓ0 (by kernel_rfl) rfl rfl rfl rfl rfl rfl rfl rfl rfl rfl rfl e1i ?_
   rintro ad1 rfl
   refine DX.ldE 3 0 2 e1 ttOk hΓ0 (by kernel_rfl) rfl rfl rfl rfl rfl rfl rfl rfl e1h (fun _ => rfl) (fun _ => rfl) ?_
   rintro ⟨⟨p1, c1⟩, ⟨p2, c2⟩⟩
   refine DX.takes (fuel := 4) ttOk [(4, true), (5, true)] (by kernel_rfl) rfl ?_
   have e2i : i < (b).length := (by first | assumption | omega)
   obtain ⟨e2, e2h⟩ : ∃ e2, (b)[i]? = some e2 := ⟨_, List.getElem?_eq_getElem e2i⟩
   have ok2 : GoT.ok n e2 := (okl hokb).2 _ (List.mem_of_getElem? e2h)
   refine DX.idx 6 1 i ttOk hΓ0 (by kernel_rfl) rfl rfl rfl rfl rfl rfl rfl rfl rfl rfl rfl e2i ?_
   rintro ad2 rfl
   refine DX.ldE 7 1 4 e2 ttOk hΓ0 (by kernel_rfl) rfl rfl rfl rfl rfl rfl rfl rfl e2h (fun _ => rfl) (fun _ => rfl) ?_
   rintro ⟨⟨p3, c3⟩, ⟨p4, c4⟩⟩
   refine DX.callV 8 rfl (by kernel_rfl) rfl rfl rfl rfl rfl rfl (fun _ => rfl) rfl (fun w G bs hI hΓ => f218 w n (by omega) e1 p1 c1 (hΓ.get 2 rfl) p2 c2 (hΓ.get 3 rfl) e2 p3 c3 (hΓ.get 4 rfl) p4 c4 (hΓ.get 5 rfl) ok1 ok2) ?_
   intro hq1
   refine DX.takes (fuel := 0) ttOk [(9, true)] (by kernel_rfl) rfl ?_
   refine DX.tail2 [] rfl rfl (by kernel_rfl) ?_
   refine R0 ?_
   refine WX.cases 26 rfl (fun h3 => ?_) (fun h3 => ?_)
   ·skip
    have h3d := (B.nt h3)
    refine R0 ?_
    have hP2 : laws_eqRuleS_L1 b a 0 = (some false) := by rw [v2, drop_get e1h]; simp only [laws_eqRuleS_L1, e2h, h3, ct, cf]
    have hP3 : laws_eqRuleS a b = false := by simp only [laws_eqRuleS, h1, hP2, ct, cf]
    exact R3 hP3
   ·skip
    have h3d := (B.nf h3)
    refine R0 ?_
    refine WX.see rfl rfl rfl (fun _ hΓ => looks_arith rfl rfl rfl rfl (by unfold I64; first | omega | (simp only [List.length_take] at *; omega))) ?_
    refine R0 ?_
    exact WX.iter (i + 1) ⟨(by omega), (by rw [v2, drop_get e1h]; simp only [laws_eqRuleS_L1, e2h, h3, ct, cf])⟩ (by first | (dsimp only; omega) | omega) (.cons rfl (.cons rfl (.cons rfl (.nil)))) .nil .nil [0, 1] rfl
  ·skip
   have h2d := B.df h2
   refine R0 ?_
   have hX1 : laws_eqRuleS_L1 b a 0 = none := by rw [v2, List.drop_eq_nil_of_le (show (a).length ≤ i by omega)]; simp only [laws_eqRuleS_L1, ct, cf]
   have hP4 : laws_eqRuleS a b = true := by simp only [laws_eqRuleS, h1, hX1, ct, cf]
   exact R3 hP4
theorem f159 (w : World) (n : Nat) (hn : n + 0 ≤ 9) (a : (List Name)) (pa : Option Addr) (ca : Nat) (N0 : RdSl (hp w) pa ca a) (b : (List Name)) (pb : Option Addr) (cb : Nat) (N1 : RdSl (hp w) pb cb b) (hoka : GoT.ok n a) (hokb : GoT.ok n b) :
  Does Tryz.prog 159 #[.slice pa ((a).length) ca, .slice pb ((b).length) cb] w emp (fun (rv : Value) (_ : World) => rv = .bool (laws_eqNameS a b) ∧ True) := by
 have hbP := bd_pos n
 have hbB := bd_big (n := n) (by omega)
 refine WX.enter (tt := tt) (Γ := [(0, MF.rs .stb pa ca a), (1, MF.rs .stb pb cb b)]) Tryz.func159 rfl (by kernel_rfl) rfl (allS_cons rfl N0 (allS_cons rfl N1 allS_nil)) ?_
 refine R0 ?_
 refine WX.cases 10 rfl (fun h1 => ?_) (fun h1 => ?_)
 ·skip
  have h1d := B.nt' h1
  refine R0 ?_
  have hP1 : laws_eqNameS a b = false := by simp only [laws_eqNameS, h1, ct, cf]
  exact R3 hP1
 ·skip
  have h1d := B.nf' h1
  refine R0 ?_
  have r1 : (a).length ≤ bd n := (okl hoka).1
  refine WX.loop (ι := Nat) ⟨fun i => (i ≤ (a).length) ∧ (laws_eqNameS_L1 b a 0 = laws_eqNameS_L1 b ((a).drop i) i), fun i => (a).length - i, fun i => [(5, .v (.int .i64 (((i : Nat) : Int)))), (0, .v (.slice pa ((a).length) ca)), (1, .v (.slice pb ((b).length) cb))], fun i => [], fun i => [], fun i => [(0, MF.rs .stb pa ca a), (1, MF.rs .stb pb cb b)]⟩ 0 ⟨(Nat.zero_le _), rfl⟩
   (.cons rfl (.cons rfl (.cons rfl (.nil)))) .nil .nil [0, 1] rfl ?_
  rintro i hpre
  have hpre_ : (i ≤ (a).length) ∧ (laws_eqNameS_L1 b a 0 = laws_eqNameS_L1 b ((a).drop i) i) := hpre
  clear hpre
  obtain ⟨v1, v2⟩ := hpre_
  refine R0 ?_
  refine WX.cases 14 rfl (fun h2 => ?_) (fun h2 => ?_)
  ·skip
   have h2d := B.dt h2
   have e1i : i < (a).length := (by omega)
   obtain ⟨e1, e1h⟩ : ∃ e1, (a)[i]? = some e1 := ⟨_, List.getElem?_eq_getElem e1i⟩
   have ok1 : GoT.ok n e1 := (okl hoka).2 _ (List.mem_of_getElem? e1h)
   refine R0 ?_
   refine WX.draw [] mixed ?_
   intro bs G0 hΓ0
   refine DX.takes (fuel := 8) ttOk [(0, true), (1, true)] (by kernel_rfl) rfl ?_
   refine DX.idx 2 0 i ttOk hΓ0 (by kernel_rfl) rfl rfl rfl rfl rfl rfl rfl rfl rfl rfl rfl e1i ?_
   rintro ad1 rfl
   refine DX.ldE 3 0 2 e1 ttOk hΓ0 (by kernel_rfl) rfl rfl rfl rfl rfl rfl rfl rfl e1h (fun _ => rfl) (fun _ => rfl) ?_
   rintro ⟨p1, c1⟩
   refine DX.takes (fuel := 4) ttOk [(4, true), (5, true)] (by kernel_rfl) rfl ?_
   have e2i : i < (b).length := (by first | assumption | omega)
   obtain ⟨e2, e2h⟩ : ∃ e2, (b)[i]? = some e2 := ⟨_, List.getElem?_eq_getElem e2i⟩
   have ok2 : GoT.ok n e2 := (okl hokb).2 _ (List.mem_of_getElem? e2h)
   refine DX.idx 6 1 i ttOk hΓ0 (by kernel_rfl) rfl rfl rfl rfl rfl rfl rfl rfl rfl rfl rfl e2i ?_
   rintro ad2 rfl
   refine DX.ldE 7 1 3 e2 ttOk hΓ0 (by kernel_rfl) rfl rfl rfl rfl rfl rfl rfl rfl e2h (fun _ => rfl) (fun _ => rfl) ?_
   rintro ⟨p2, c2⟩
   refine DX.callV 8 rfl (by kernel_rfl) rfl rfl rfl rfl rfl rfl (fun _ => rfl) rfl (fun w G bs hI hΓ => f156 w n (by omega) e1 p1 c1 (hΓ.get 2 rfl) e2 p2 c2 (hΓ.get 3 rfl) ok1 ok2) ?_
   intro hq1
   refine DX.takes (fuel := 0) ttOk [(9, true)] (by kernel_rfl) rfl ?_
   refine DX.tail2 [] rfl rfl (by kernel_rfl) ?_
   refine R0 ?_
   refine WX.cases 26 rfl (fun h3 => ?_) (fun h3 => ?_)
   ·skip
    have h3d := (B.nt h3)
    refine R0 ?_
    have hP2 : laws_eqNameS_L1 b a 0 = (some false) := by rw [v2, drop_get e1h]; simp only [laws_eqNameS_L1, e2h, h3, ct, cf]
    have hP3 : laws_eqNameS a b = false := by simp only [laws_eqNameS, h1, hP2, ct, cf]
    exact R3 hP3
   ·skip
    have h3d := (B.nf h3)
    refine R0 ?_
    refine WX.see rfl rfl rfl (fun _ hΓ => looks_arith rfl rfl rfl rfl (by unfold I64; first | omega | (simp only [List.length_take] at *; omega))) ?_
    refine R0 ?_
    exact WX.iter (i + 1) ⟨(by omega), (by rw [v2, drop_get e1h]; simp only [laws_eqNameS_L1, e2h, h3, ct, cf])⟩ (by first | (dsimp only; omega) | omega) (.cons rfl (.cons rfl (.cons rfl (.nil)))) .nil .nil [0, 1] rfl
  ·skip
   have h2d := B.df h2
   refine R0 ?_
   have hX1 : laws_eqNameS_L1 b a 0 = none := by rw [v2, List.drop_eq_nil_of_le (show (a).length ≤ i by omega)]; simp only [laws_eqNameS_L1, ct, cf]
   have hP4 : laws_eqNameS a b = true := by simp only [laws_eqNameS, h1, hX1, ct, cf]
   exact R3 hP4
theorem f160 (w : World) (n : Nat) (hn : n + 0 ≤ 9) (a : (List DataP)) (pa : Option Addr) (ca : Nat) (N0 : RdSl (hp w) pa ca a) (b : (List DataP)) (pb : Option Addr) (cb : Nat) (N1 : RdSl (hp w) pb cb b) (hoka : GoT.ok n a) (hokb : GoT.ok n b) :
  Does Tryz.prog 160 #[.slice pa ((a).length) ca, .slice pb ((b).length) cb] w emp (fun (rv : Value) (_ : World) => rv = .bool (laws_eqDataS a b) ∧ True) := by
 have hbP := bd_pos n
 have hbB := bd_big (n := n) (by omega)
 refine WX.enter (tt := tt) (Γ := [(0, MF.rs .stb pa ca a), (1, MF.rs .stb pb cb b)]) Tryz.func160 rfl (by kernel_rfl) rfl (allS_cons rfl N0 (allS_cons rfl N1 allS_nil)) ?_
 refine R0 ?_
 refine WX.cases 10 rfl (fun h1 => ?_) (fun h1 => ?_)
 ·skip
  have h1d := B.nt' h1
  refine R0 ?_
  have hP1 : laws_eqDataS a b = false := by simp only [laws_eqDataS, h1, ct, cf]
  exact R3 hP1
 ·skip
  have h1d := B.nf' h1
  refine R0 ?_
  have r1 : (a).length ≤ bd n := (okl hoka).1
  refine WX.loop (ι := Nat) ⟨fun i => (i ≤ (a).length) ∧ (laws_eqDataS_L1 b a 0 = laws_eqDataS_L1 b ((a).drop i) i), fun i => (a).length - i, fun i => [(5, .v (.int .i64 (((i : Nat) : Int)))), (0, .v (.slice pa ((a).length) ca)), (1, .v (.slice pb ((b).length) cb))], fun i => [], fun i => [], fun i => [(0, MF.rs .stb pa ca a), (1, MF.rs .stb pb cb b)]⟩ 0 ⟨(Nat.zero_le _), rfl⟩
   (.cons rfl (.cons rfl (.cons rfl (.nil)))) .nil .nil [0, 1] rfl ?_
  rintro i hpre
  have hpre_ : (i ≤ (a).length) ∧ (laws_eqDataS_L1 b a 0 = laws_eqDataS_L1 b ((a).drop i) i) := hpre
  clear hpre
  obtain ⟨v1, v2⟩ := hpre_
  refine R0 ?_
  refine WX.cases 14 rfl (fun h2 => ?_) (fun h2 => ?_)
  ·skip
   have h2d := B.dt h2
   have e1i : i < (a).length := (by omega)
   obtain ⟨e1, e1h⟩ : ∃ e1, (a)[i]? = some e1 := ⟨_, List.getElem?_eq_getElem e1i⟩
   have ok1 : GoT.ok n e1 := (okl hoka).2 _ (List.mem_of_getElem? e1h)
   refine R0 ?_
   refine WX.draw [] mixed ?_
   intro bs G0 hΓ0
   refine DX.takes (fuel := 8) ttOk [(0, true), (1, true)] (by kernel_rfl) rfl ?_
   refine DX.idx 2 0 i ttOk hΓ0 (by kernel_rfl) rfl rfl rfl rfl rfl rfl rfl rfl rfl rfl rfl e1i ?_
   rintro ad1 rfl
   refine DX.ldE 3 0 2 e1 ttOk hΓ0 (by kernel_rfl) rfl rfl rfl rfl rfl rfl rfl rfl e1h (fun _ => rfl) (fun _ => rfl) ?_
   rintro ⟨⟨p1, c1⟩, ⟨p2, c2⟩, ⟨p3, c3⟩, ⟨⟩, ⟨⟩⟩
   refine DX.takes (fuel := 4) ttOk [(4, true), (5, true)] (by kernel_rfl) rfl ?_
   have e2i : i < (b).length := (by first | assumption | omega)
   obtain ⟨e2, e2h⟩ : ∃ e2, (b)[i]? = some e2 := ⟨_, List.getElem?_eq_getElem e2i⟩
   have ok2 : GoT.ok n e2 := (okl hokb).2 _ (List.mem_of_getElem? e2h)
   refine DX.idx 6 1 i ttOk hΓ0 (by kernel_rfl) rfl rfl rfl rfl rfl rfl rfl rfl rfl rfl rfl e2i ?_
   rintro ad2 rfl
   refine DX.ldE 7 1 5 e2 ttOk hΓ0 (by kernel_rfl) rfl rfl rfl rfl rfl rfl rfl rfl e2h (fun _ => rfl) (fun _ => rfl) ?_
   rintro ⟨⟨p4, c4⟩, ⟨p5, c5⟩, ⟨p6, c6⟩, ⟨⟩, ⟨⟩⟩
   refine DX.callV 8 rfl (by kernel_rfl) rfl rfl rfl rfl rfl rfl (fun _ => rfl) rfl (fun w G bs hI hΓ => f71 w n (by omega) e1 p1 c1 (hΓ.get 2 rfl) p2 c2 (hΓ.get 3 rfl) p3 c3 (hΓ.get 4 rfl) e2 p4 c4 (hΓ.get 5 rfl) p5 c5 (hΓ.get 6 rfl) p6 c6 (hΓ.get 7 rfl) ok1 ok2) ?_
   intro hq1
   refine DX.takes (fuel := 0) ttOk [(9, true)] (by kernel_rfl) rfl ?_
   refine DX.tail2 [] rfl rfl (by kernel_rfl) ?_
   refine R0 ?_
   refine WX.cases 26 rfl (fun h3 => ?_) (fun h3 => ?_)
   ·skip
    have h3d := (B.nt h3)
    refine R0 ?_
    have hP2 : laws_eqDataS_L1 b a 0 = (some false) := by rw [v2, drop_get e1h]; simp only [laws_eqDataS_L1, e2h, h3, ct, cf]
    have hP3 : laws_eqDataS a b = false := by simp only [laws_eqDataS, h1, hP2, ct, cf]
    exact R3 hP3
   ·skip
    have h3d := (B.nf h3)
    refine R0 ?_
    refine WX.see rfl rfl rfl (fun _ hΓ => looks_arith rfl rfl rfl rfl (by unfold I64; first | omega | (simp only [List.length_take] at *; omega))) ?_
    refine R0 ?_
    exact WX.iter (i + 1) ⟨(by omega), (by rw [v2, drop_get e1h]; simp only [laws_eqDataS_L1, e2h, h3, ct, cf])⟩ (by first | (dsimp only; omega) | omega) (.cons rfl (.cons rfl (.cons rfl (.nil)))) .nil .nil [0, 1] rfl
  ·skip
   have h2d := B.df h2
   refine R0 ?_
   have hX1 : laws_eqDataS_L1 b a 0 = none := by rw [v2, List.drop_eq_nil_of_le (show (a).length ≤ i by omega)]; simp only [laws_eqDataS_L1, ct, cf]
   have hP4 : laws_eqDataS a b = true := by simp only [laws_eqDataS, h1, hX1, ct, cf]
   exact R3 hP4
theorem f70 (w : World) (n : Nat) (hn : n + 0 ≤ 9) (a : TrustPolicy) (K0 : Option Addr) (M0 : Nat) (N0 : RdSl (hp w) K0 M0 a.keys) (K1 : Option Addr) (M1 : Nat) (N1 : RdSl (hp w) K1 M1 a.rules) (K2 : Option Addr) (M2 : Nat) (N2 : RdSl (hp w) K2 M2 a.anchors) (K3 : Option Addr) (M3 : Nat) (N3 : RdSl (hp w) K3 M3 a.certificates) (b : TrustPolicy) (K4 : Option Addr) (M4 : Nat) (N4 : RdSl (hp w) K4 M4 b.keys) (K5 : Option Addr) (M5 : Nat) (N5 : RdSl (hp w) K5 M5 b.rules) (K6 : Option Addr) (M6 : Nat) (N6 : RdSl (hp w) K6 M6 b.anchors) (K7 : Option Addr) (M7 : Nat) (N7 : RdSl (hp w) K7 M7 b.certificates) (hoka : GoT.ok n a) (hokb : GoT.ok n b) :
  Does Tryz.prog 70 #[.agg #[.slice K0 ((a.keys).length) M0, .slice K1 ((a.rules).length) M1, .slice K2 ((a.anchors).length) M2, .slice K3 ((a.certificates).length) M3], .agg #[.slice K4 ((b.keys).length) M4, .slice K5 ((b.rules).length) M5, .slice K6 ((b.anchors).length) M6, .slice K7 ((b.certificates).length) M7]] w emp (fun (rv : Value) (_ : World) => rv = .bool (laws_eqTrustPolicy a b) ∧ True) := by
 have hbP := bd_pos n
 have hbB := bd_big (n := n) (by omega)
 refine WX.enter (tt := tt) (Γ := [(0, MF.rs .stb K0 M0 a.keys), (1, MF.rs .stb K1 M1 a.rules), (2, MF.rs .stb K2 M2 a.anchors), (3, MF.rs .stb K3 M3 a.certificates), (4, MF.rs .stb K4 M4 b.keys), (5, MF.rs .stb K5 M5 b.rules), (6, MF.rs .stb K6 M6 b.anchors), (7, MF.rs .stb K7 M7 b.certificates)]) Tryz.func70 rfl (by kernel_rfl) rfl (allS_cons rfl N0 (allS_cons rfl N1 (allS_cons rfl N2 (allS_cons rfl N3 (allS_cons rfl N4 (allS_cons rfl N5 (allS_cons rfl N6 (allS_cons rfl N7 allS_nil)))))))) ?_
 refine R0 ?_
 refine WX.callV rfl rfl rfl rfl rfl (fun _ => rfl) rfl (fun w G bs hI hΓ => f157 w n (by omega) a.keys K0 M0 (hΓ.get 0 rfl) b.keys K4 M4 (hΓ.get 4 rfl) ((ok_TrustPolicy hoka).1) ((ok_TrustPolicy hokb).1)) ?_
 intro hq1
 refine R0 ?_
 refine WX.cases 10 rfl (fun h1 => ?_) (fun h1 => ?_)
 ·skip
  have h1d := (B.nt h1)
  refine R0 ?_
  have hP1 : laws_eqTrustPolicy a b = false := by simp only [laws_eqTrustPolicy, h1, ct, cf]
  exact R3 hP1
 ·skip
  have h1d := (B.nf h1)
  refine R0 ?_
  refine WX.callV rfl rfl rfl rfl rfl (fun _ => rfl) rfl (fun w G bs hI hΓ => f158 w n (by omega) a.rules K1 M1 (hΓ.get 1 rfl) b.rules K5 M5 (hΓ.get 5 rfl) ((ok_TrustPolicy hoka).2.1) ((ok_TrustPolicy hokb).2.1)) ?_
  intro hq2
  refine R0 ?_
  refine WX.cases 16 rfl (fun h2 => ?_) (fun h2 => ?_)
  ·skip
   have h2d := (B.nt h2)
   refine R0 ?_
   have hP2 : laws_eqTrustPolicy a b = false := by simp only [laws_eqTrustPolicy, h1, h2, ct, cf]
   exact R3 hP2
  ·skip
   have h2d := (B.nf h2)
   refine R0 ?_
   refine WX.callV rfl rfl rfl rfl rfl (fun _ => rfl) rfl (fun w G bs hI hΓ => f159 w n (by omega) a.anchors K2 M2 (hΓ.get 2 rfl) b.anchors K6 M6 (hΓ.get 6 rfl) ((ok_TrustPolicy hoka).2.2.1) ((ok_TrustPolicy hokb).2.2.1)) ?_
   intro hq3
   refine R0 ?_
   refine WX.cases 22 rfl (fun h3 => ?_) (fun h3 => ?_)
   ·skip
    have h3d := (B.nt h3)
    refine R0 ?_
    have hP3 : laws_eqTrustPolicy a b = false := by simp only [laws_eqTrustPolicy, h1, h2, h3, ct, cf]
    exact R3 hP3
   ·skip
    have h3d := (B.nf h3)
    refine R0 ?_
    refine WX.callV rfl rfl rfl rfl rfl (fun _ => rfl) rfl (fun w G bs hI hΓ => f160 w n (by omega) a.certificates K3 M3 (hΓ.get 3 rfl) b.certificates K7 M7 (hΓ.get 7 rfl) ((ok_TrustPolicy hoka).2.2.2) ((ok_TrustPolicy hokb).2.2.2)) ?_
    intro hq4
    refine R0 ?_
    refine WX.cases 28 rfl (fun h4 => ?_) (fun h4 => ?_)
    ·skip
     have h4d := (B.nt h4)
     refine R0 ?_
     have hP4 : laws_eqTrustPolicy a b = false := by simp only [laws_eqTrustPolicy, h1, h2, h3, h4, ct, cf]
     exact R3 hP4
    ·skip
     have h4d := (B.nf h4)
     refine R0 ?_
     have hP5 : laws_eqTrustPolicy a b = true := by simp only [laws_eqTrustPolicy, h1, h2, h3, h4, ct, cf]
     exact R3 hP5
end Go.Proofs.YtolepebgdfdciaaGreat

namespace Go.Stp
set_option linter.unusedVariables false
set_option linter.unusedSimpArgs false
def laws_toStringS_L1 : List Str → Nat → (List Str) → (List Str)
  | [], i, out => ((out) : List Str)
  | e1 :: rest_, i, out =>
    match (out)[i]? with
      | none => default
      | some e2 =>
        laws_toStringS_L1 rest_ (i + 1) (((out.set i e1)) : List Str)
def laws_toStringS (a : (List Str)) : (List Str) :=
  match laws_toStringS_L1 a 0 ((List.replicate ((a).length) (⟨#[]⟩ : Str)) : List Str) with
    | out =>
      out
def laws_toName (a : Name) : Name :=
  (Name.mk (laws_toStringS a.parts))
def laws_toByteS_L1 : List UInt8 → Nat → (List UInt8) → (List UInt8)
  | [], i, out => ((out) : List UInt8)
  | e1 :: rest_, i, out =>
    match (out)[i]? with
      | none => default
      | some e2 =>
        laws_toByteS_L1 rest_ (i + 1) (((out.set i e1)) : List UInt8)
def laws_toByteS (a : (List UInt8)) : (List UInt8) :=
  match laws_toByteS_L1 a 0 ((List.replicate ((a).length) (0 : UInt8)) : List UInt8) with
    | out =>
      out
def laws_toData (a : DataP) : DataP :=
  (DataP.mk (laws_toName a.name) (laws_toByteS a.content) (laws_toName a.keyName) a.freshUntil a.signature)
def laws_toConsumer (a : Consumer) : Consumer :=
  (Consumer.mk a.node a.index (laws_toName a.name) a.attempts a.wait a.satisfied (laws_toData a.data))
def laws_toKey (a : Key) : Key :=
  (Key.mk (laws_toName a.name) a.secret)
def laws_toKeyS_L1 : List Key → Nat → (List Key) → (List Key)
  | [], i, out => ((out) : List Key)
  | e1 :: rest_, i, out =>
    match (out)[i]? with
      | none => default
      | some e2 =>
        laws_toKeyS_L1 rest_ (i + 1) (((out.set i (laws_toKey e1))) : List Key)
def laws_toKeyS (a : (List Key)) : (List Key) :=
  match laws_toKeyS_L1 a 0 ((List.replicate ((a).length) (Key.mk (Name.mk ([])) 0)) : List Key) with
    | out =>
      out
def laws_toPattern (a : Pattern) : Pattern :=
  (Pattern.mk (laws_toStringS a.parts))
def laws_toRule (a : Rule) : Rule :=
  (Rule.mk (laws_toPattern a.dataPattern) (laws_toPattern a.keyPattern))
def laws_toRuleS_L1 : List Rule → Nat → (List Rule) → (List Rule)
  | [], i, out => ((out) : List Rule)
  | e1 :: rest_, i, out =>
    match (out)[i]? with
      | none => default
      | some e2 =>
        laws_toRuleS_L1 rest_ (i + 1) (((out.set i (laws_toRule e1))) : List Rule)
def laws_toRuleS (a : (List Rule)) : (List Rule) :=
  match laws_toRuleS_L1 a 0 ((List.replicate ((a).length) (Rule.mk (Pattern.mk ([])) (Pattern.mk ([])))) : List Rule) with
    | out =>
      out
def laws_toNameS_L1 : List Name → Nat → (List Name) → (List Name)
  | [], i, out => ((out) : List Name)
  | e1 :: rest_, i, out =>
    match (out)[i]? with
      | none => default
      | some e2 =>
        laws_toNameS_L1 rest_ (i + 1) (((out.set i (laws_toName e1))) : List Name)
def laws_toNameS (a : (List Name)) : (List Name) :=
  match laws_toNameS_L1 a 0 ((List.replicate ((a).length) (Name.mk ([]))) : List Name) with
    | out =>
      out
def laws_toDataS_L1 : List DataP → Nat → (List DataP) → (List DataP)
  | [], i, out => ((out) : List DataP)
  | e1 :: rest_, i, out =>
    match (out)[i]? with
      | none => default
      | some e2 =>
        laws_toDataS_L1 rest_ (i + 1) (((out.set i (laws_toData e1))) : List DataP)
def laws_toDataS (a : (List DataP)) : (List DataP) :=
  match laws_toDataS_L1 a 0 ((List.replicate ((a).length) (DataP.mk (Name.mk ([])) ([]) (Name.mk ([])) 0 0)) : List DataP) with
    | out =>
      out
def laws_toTrustPolicy (a : TrustPolicy) : TrustPolicy :=
  (TrustPolicy.mk (laws_toKeyS a.keys) (laws_toRuleS a.rules) (laws_toNameS a.anchors) (laws_toDataS a.certificates))
end Go.Stp

namespace Go.Proofs.YtolepebgdfdciaaGreat
open Go.Stp
set_option linter.unusedVariables false
set_option linter.unusedSimpArgs false
theorem f212 (w : World) (n : Nat) (hn : n + 0 ≤ 9) (a : (List Str)) (pa : Option Addr) (ca : Nat) (N0 : RdSl (hp w) pa ca a) (hoka : GoT.ok n a) :
  Does Tryz.prog 212 #[.slice pa ((a).length) ca] w emp (Post w emp (fun x : GoT.X ((List Str)) => (GoT.sh ((laws_toStringS a) : (List Str)) x).headD undef) (fun x => GoT.oa ((laws_toStringS a) : (List Str)) x) (GoT.ok n ((laws_toStringS a) : (List Str)))) := by
 have hbP := bd_pos n
 have hbB := bd_big (n := n) (by omega)
 refine WX.enter (tt := tt) (Γ := [(0, MF.rs .stb pa ca a)]) Tryz.func212 rfl (by kernel_rfl) rfl (allS_cons rfl N0 allS_nil) ?_
 refine R0 ?_
 have r1 : (a).length ≤ bd n := (okl hoka).1
 refine WX.mkS ((a).length) ttOk rfl rfl rfl rfl rfl rfl rfl (by omega) (by omega) rfl ?_
 intro p1
 refine WX.free 1 (MF.ol (zrep ((a).length) [.string (⟨#[]⟩ : Str)]) ((List.replicate ((a).length) (⟨#[]⟩ : Str)) : List Str)) (ol_zrep (α := Str) (z0 := (⟨#[]⟩ : Str)) (x0 := ()) rfl trivial _) ?_
 refine R0 ?_
 refine WX.loop (ι := (List Value) × (List Str) × Nat) ⟨fun | (xsout, out, i) => (i ≤ (a).length) ∧ (out.length = (a).length) ∧ (∀ z_ ∈ out, GoT.ok n z_) ∧ (laws_toStringS_L1 a 0 ((List.replicate ((a).length) (⟨#[]⟩ : Str)) : List Str) = laws_toStringS_L1 ((a).drop i) i out), fun | (xsout, out, i) => (a).length - i, fun | (xsout, out, i) => [(3, .v (.slice p1 ((a).length) ((a).length))), (4, .v (.int .i64 (((i : Nat) : Int)))), (0, .v (.slice pa ((a).length) ca))], fun | (xsout, out, i) => [], fun | (xsout, out, i) => [(7, ⟨1, p1, (a).length, ((a).length), xsout⟩)], fun | (xsout, out, i) => [(0, MF.rs .stb pa ca a), (1, MF.ol xsout (out : List Str))]⟩ ((zrep ((a).length) [.string (⟨#[]⟩ : Str)]), ((List.replicate ((a).length) (⟨#[]⟩ : Str)) : List Str), 0) ⟨(Nat.zero_le _), (by simp), (all_rep (Nat.le_trans (by decide) (bd_pos _))), rfl⟩
  (.cons rfl (.cons rfl (.cons rfl (.nil)))) .nil (.cons rfl (.nil)) [0, 1] rfl ?_
 rintro ⟨xsout, out, i⟩ hpre
 have hpre_ : (i ≤ (a).length) ∧ (out.length = (a).length) ∧ (∀ z_ ∈ out, GoT.ok n z_) ∧ (laws_toStringS_L1 a 0 ((List.replicate ((a).length) (⟨#[]⟩ : Str)) : List Str) = laws_toStringS_L1 ((a).drop i) i out) := hpre
 clear hpre
 obtain ⟨v1, v2, v3, v4⟩ := hpre_
 refine R0 ?_
 refine WX.cases 11 rfl (fun h1 => ?_) (fun h1 => ?_)
 ·skip
  have h1d := B.dt h1
  have e1i : i < (a).length := (by omega)
  obtain ⟨e1, e1h⟩ : ∃ e1, (a)[i]? = some e1 := ⟨_, List.getElem?_eq_getElem e1i⟩
  have ok1 : GoT.ok n e1 := (okl hoka).2 _ (List.mem_of_getElem? e1h)
  refine R0 ?_
  refine WX.idx 0 i ttOk rfl rfl rfl rfl rfl rfl rfl rfl rfl rfl e1i ?_
  rintro ad1 rfl
  refine WX.ldE 0 2 e1 ttOk rfl rfl rfl rfl rfl rfl rfl rfl e1h (fun _ => rfl) (fun _ => rfl) ?_
  rintro ⟨⟩
  have hr1 : i < (a).length := (by first | assumption | omega)
  refine WX.idxR 7 i ttOk rfl rfl rfl rfl rfl rfl rfl rfl rfl hr1 ?_
  rintro ad2 rfl
  have e2i : i < (out).length := (by first | assumption | omega)
  obtain ⟨e2, e2h⟩ : ∃ e2, (out)[i]? = some e2 := ⟨_, List.getElem?_eq_getElem e2i⟩
  have ok2 : GoT.ok n e2 := v3 _ (List.mem_of_getElem? e2h)
  refine WX.opnE (α := Str) (e := e2) 7 1 2 i rfl rfl rfl e2h (fun _ => rfl) (fun _ _ _ => rfl) (fun _ _ _ => rfl) ?_
  rintro A1 B1 ⟨⟩ hA1 hB1
  refine WX.stA 7 ttOk rfl rfl rfl rfl rfl rfl rfl rfl rfl rfl rfl rfl rfl rfl hA1 hr1 rfl rfl rfl rfl (by simp) rfl ?_
  refine R0 ?_
  refine WX.see rfl rfl rfl (fun _ hΓ => looks_arith rfl rfl rfl rfl (by unfold I64; first | omega | (simp only [List.length_take] at *; omega))) ?_
  refine R0 ?_
  refine WX.turn [2, 3] 4 rfl (fun h hs => cl_elem (α := Str) (e := e1) (x := ()) e2i hs) (gs := [MF.ol (A1 ++ [.string e1] ++ B1) (out.set i e1)]) rfl ?_
  refine WX.turn [4] 1 rfl (fun _ h => h) rfl ?_
  exact WX.iter ((A1 ++ [.string e1] ++ B1), ((out.set i e1) : List Str), i + 1) ⟨(by omega), (by first | assumption | omega | (simp; omega)), (all_set v3 (show GoT.ok n (e1 : Str) from ok1)), (by rw [v4, drop_get e1h]; simp only [laws_toStringS_L1, e2h, ct, cf])⟩ (by first | (dsimp only; omega) | omega) (.cons rfl (.cons rfl (.cons rfl (.nil)))) .nil (.cons rfl (.nil)) [0, 1] rfl
 ·skip
  have h1d := B.df h1
  refine R0 ?_
  have hX1 : laws_toStringS_L1 a 0 ((List.replicate ((a).length) (⟨#[]⟩ : Str)) : List Str) = ((out) : List Str) := by rw [v4, List.drop_eq_nil_of_le (show (a).length ≤ i by omega)]; simp only [laws_toStringS_L1, ct, cf]
  refine WX.seal 7 1 5 rfl rfl (show (a).length = (out).length from by omega) rfl rfl ?_
  refine WX.slot 2 (y := .v (.slice p1 (out).length ((a).length))) rfl (fun _ => by show (Value.slice p1 ((a).length) ((a).length) : Value) = Value.slice p1 (out).length ((a).length); rw [(show (a).length = (out).length from by omega)]) ?_
  refine WX.slot 21 (y := .v (.slice p1 (out).length ((a).length))) rfl (fun _ => by show (Value.slice p1 ((a).length) ((a).length) : Value) = Value.slice p1 (out).length ((a).length); rw [(show (a).length = (out).length from by omega)]) ?_
  refine WX.slot 3 (y := .v (.slice p1 (out).length ((a).length))) rfl (fun _ => by show (Value.slice p1 ((a).length) ((a).length) : Value) = Value.slice p1 (out).length ((a).length); rw [(show (a).length = (out).length from by omega)]) ?_
  have hP1 : laws_toStringS a = out := by simp only [laws_toStringS, hX1, ct, cf]
  refine R1 ?_
  intro w1 G bs hI hΓ
  rw [hP1]
  exact Post.of [6] (p1, ((a).length)) hI hΓ rfl rfl rfl (okl_mk (by omega) v3 : GoT.ok n (out : List Str))
theorem f148 (w : World) (n : Nat) (hn : n + 0 ≤ 9) (a : Name) (pa : Option Addr) (ca : Nat) (N0 : RdSl (hp w) pa ca a.parts) (hoka : GoT.ok n a) :
  Does Tryz.prog 148 #[.agg #[.slice pa ((a.parts).length) ca]] w emp (Post w emp (fun x : GoT.X (Name) => .agg ⟨GoT.sh ((laws_toName a) : Name) x⟩) (fun x => GoT.oa ((laws_toName a) : Name) x) (GoT.ok n ((laws_toName a) : Name))) := by
 have hbP := bd_pos n
 have hbB := bd_big (n := n) (by omega)
 refine WX.enter (tt := tt) (Γ := [(0, MF.rs .stb pa ca a.parts)]) Tryz.func148 rfl (by kernel_rfl) rfl (allS_cons rfl N0 allS_nil) ?_
 refine R0 ?_
 refine WX.callF 1 (fun _ _ h => GoT.ow_rd h) (fun _ f hf => GoT.fak f hf) rfl rfl rfl rfl rfl (fun _ => rfl) rfl (fun w G bs hI hΓ => f212 w n (by omega) a.parts pa ca (hΓ.get 0 rfl) (ok_Name hoka)) (fun _ => rfl) (fun _ => rfl) ?_
 rintro ⟨p1, c1⟩ hq1
 refine R0 ?_
 have hP1 : laws_toName a = (Name.mk (laws_toStringS a.parts)) := by simp only [laws_toName, ct, cf]
 refine R1 ?_
 intro w1 G bs hI hΓ
 rw [hP1]
 exact Post.of [2] (p1, c1) hI hΓ rfl rfl rfl hq1
theorem f153 (w : World) (n : Nat) (hn : n + 0 ≤ 9) (a : (List UInt8)) (pa : Option Addr) (ca : Nat) (N0 : RdSl (hp w) pa ca a) (hoka : GoT.ok n a) :
  Does Tryz.prog 153 #[.slice pa ((a).length) ca] w emp (Post w emp (fun x : GoT.X ((List UInt8)) => (GoT.sh ((laws_toByteS a) : (List UInt8)) x).headD undef) (fun x => GoT.oa ((laws_toByteS a) : (List UInt8)) x) (GoT.ok n ((laws_toByteS a) : (List UInt8)))) := by
 have hbP := bd_pos n
 have hbB := bd_big (n := n) (by omega)
 refine WX.enter (tt := tt) (Γ := [(0, MF.rs .stb pa ca a)]) Tryz.func153 rfl (by kernel_rfl) rfl (allS_cons rfl N0 allS_nil) ?_
 refine R0 ?_
 have r1 : (a).length ≤ bd n := (okl hoka).1
 refine WX.mkS ((a).length) ttOk rfl rfl rfl rfl rfl rfl rfl (by omega) (by omega) rfl ?_
 intro p1
 refine WX.free 1 (MF.ol (zrep ((a).length) [.int .u8 (((0 : UInt8)).toNat : Nat)]) ((List.replicate ((a).length) (0 : UInt8)) : List UInt8)) (ol_zrep (α := UInt8) (z0 := (0 : UInt8)) (x0 := ()) rfl trivial _) ?_
 refine R0 ?_
 refine WX.loop (ι := (List Value) × (List UInt8) × Nat) ⟨fun | (xsout, out, i) => (i ≤ (a).length) ∧ (out.length = (a).length) ∧ (∀ z_ ∈ out, GoT.ok n z_) ∧ (laws_toByteS_L1 a 0 ((List.replicate ((a).length) (0 : UInt8)) : List UInt8) = laws_toByteS_L1 ((a).drop i) i out), fun | (xsout, out, i) => (a).length - i, fun | (xsout, out, i) => [(3, .v (.slice p1 ((a).length) ((a).length))), (4, .v (.int .i64 (((i : Nat) : Int)))), (0, .v (.slice pa ((a).length) ca))], fun | (xsout, out, i) => [], fun | (xsout, out, i) => [(7, ⟨1, p1, (a).length, ((a).length), xsout⟩)], fun | (xsout, out, i) => [(0, MF.rs .stb pa ca a), (1, MF.ol xsout (out : List UInt8))]⟩ ((zrep ((a).length) [.int .u8 (((0 : UInt8)).toNat : Nat)]), ((List.replicate ((a).length) (0 : UInt8)) : List UInt8), 0) ⟨(Nat.zero_le _), (by simp), (all_rep trivial), rfl⟩
  (.cons rfl (.cons rfl (.cons rfl (.nil)))) .nil (.cons rfl (.nil)) [0, 1] rfl ?_
 rintro ⟨xsout, out, i⟩ hpre
 have hpre_ : (i ≤ (a).length) ∧ (out.length = (a).length) ∧ (∀ z_ ∈ out, GoT.ok n z_) ∧ (laws_toByteS_L1 a 0 ((List.replicate ((a).length) (0 : UInt8)) : List UInt8) = laws_toByteS_L1 ((a).drop i) i out) := hpre
 clear hpre
 obtain ⟨v1, v2, v3, v4⟩ := hpre_
 refine R0 ?_
 refine WX.cases 11 rfl (fun h1 => ?_) (fun h1 => ?_)
 ·skip
  have h1d := B.dt h1
  have e1i : i < (a).length := (by omega)
  obtain ⟨e1, e1h⟩ : ∃ e1, (a)[i]? = some e1 := ⟨_, List.getElem?_eq_getElem e1i⟩
  refine R0 ?_
  refine WX.idx 0 i ttOk rfl rfl rfl rfl rfl rfl rfl rfl rfl rfl e1i ?_
  rintro ad1 rfl
  refine WX.ldE 0 2 e1 ttOk rfl rfl rfl rfl rfl rfl rfl rfl e1h (fun _ => rfl) (fun _ => rfl) ?_
  rintro ⟨⟩
  have hr1 : i < (a).length := (by first | assumption | omega)
  refine WX.idxR 7 i ttOk rfl rfl rfl rfl rfl rfl rfl rfl rfl hr1 ?_
  rintro ad2 rfl
  have e2i : i < (out).length := (by first | assumption | omega)
  obtain ⟨e2, e2h⟩ : ∃ e2, (out)[i]? = some e2 := ⟨_, List.getElem?_eq_getElem e2i⟩
  refine WX.opnE (α := UInt8) (e := e2) 7 1 2 i rfl rfl rfl e2h (fun _ => rfl) (fun _ _ _ => rfl) (fun _ _ _ => rfl) ?_
  rintro A1 B1 ⟨⟩ hA1 hB1
  refine WX.stA 7 ttOk rfl rfl rfl rfl rfl rfl rfl rfl rfl rfl rfl rfl rfl rfl hA1 hr1 rfl rfl rfl rfl (by simp) rfl ?_
  refine R0 ?_
  refine WX.see rfl rfl rfl (fun _ hΓ => looks_arith rfl rfl rfl rfl (by unfold I64; first | omega | (simp only [List.length_take] at *; omega))) ?_
  refine R0 ?_
  refine WX.turn [2, 3] 4 rfl (fun h hs => cl_elem (α := UInt8) (e := e1) (x := ()) e2i hs) (gs := [MF.ol (A1 ++ [.int .u8 ((e1).toNat : Nat)] ++ B1) (out.set i e1)]) rfl ?_
  refine WX.turn [4] 1 rfl (fun _ h => h) rfl ?_
  exact WX.iter ((A1 ++ [.int .u8 ((e1).toNat : Nat)] ++ B1), ((out.set i e1) : List UInt8), i + 1) ⟨(by omega), (by first | assumption | omega | (simp; omega)), (all_set v3 (show GoT.ok n (e1 : UInt8) from trivial)), (by rw [v4, drop_get e1h]; simp only [laws_toByteS_L1, e2h, ct, cf])⟩ (by first | (dsimp only; omega) | omega) (.cons rfl (.cons rfl (.cons rfl (.nil)))) .nil (.cons rfl (.nil)) [0, 1] rfl
 ·skip
  have h1d := B.df h1
  refine R0 ?_
  have hX1 : laws_toByteS_L1 a 0 ((List.replicate ((a).length) (0 : UInt8)) : List UInt8) = ((out) : List UInt8) := by rw [v4, List.drop_eq_nil_of_le (show (a).length ≤ i by omega)]; simp only [laws_toByteS_L1, ct, cf]
  refine WX.seal 7 1 5 rfl rfl (show (a).length = (out).length from by omega) rfl rfl ?_
  refine WX.slot 2 (y := .v (.slice p1 (out).length ((a).length))) rfl (fun _ => by show (Value.slice p1 ((a).length) ((a).length) : Value) = Value.slice p1 (out).length ((a).length); rw [(show (a).length = (out).length from by omega)]) ?_
  refine WX.slot 21 (y := .v (.slice p1 (out).length ((a).length))) rfl (fun _ => by show (Value.slice p1 ((a).length) ((a).length) : Value) = Value.slice p1 (out).length ((a).length); rw [(show (a).length = (out).length from by omega)]) ?_
  refine WX.slot 3 (y := .v (.slice p1 (out).length ((a).length))) rfl (fun _ => by show (Value.slice p1 ((a).length) ((a).length) : Value) = Value.slice p1 (out).length ((a).length); rw [(show (a).length = (out).length from by omega)]) ?_
  have hP1 : laws_toByteS a = out := by simp only [laws_toByteS, hX1, ct, cf]
  refine R1 ?_
  intro w1 G bs hI hΓ
  rw [hP1]
  exact Post.of [6] (p1, ((a).length)) hI hΓ rfl rfl rfl (okl_mk (by omega) (fun _ _ => trivial) : GoT.ok n (out : List UInt8))
theorem f67 (w : World) (n : Nat) (hn : n + 0 ≤ 9) (a : DataP) (K0 : Option Addr) (M0 : Nat) (N0 : RdSl (hp w) K0 M0 a.name.parts) (K1 : Option Addr) (M1 : Nat) (N1 : RdSl (hp w) K1 M1 a.content) (K2 : Option Addr) (M2 : Nat) (N2 : RdSl (hp w) K2 M2 a.keyName.parts) (hoka : GoT.ok n a) :
  Does Tryz.prog 67 #[.agg #[.slice K0 ((a.name.parts).length) M0, .slice K1 ((a.content).length) M1, .slice K2 ((a.keyName.parts).length) M2, .int .i64 (a.freshUntil), .int .i64 (a.signature)]] w emp (Post w emp (fun x : GoT.X (DataP) => .agg ⟨GoT.sh ((laws_toData a) : DataP) x⟩) (fun x => GoT.oa ((laws_toData a) : DataP) x) (GoT.ok n ((laws_toData a) : DataP))) := by
 have hbP := bd_pos n
 have hbB := bd_big (n := n) (by omega)
 refine WX.enter (tt := tt) (Γ := [(0, MF.rs .stb K0 M0 a.name.parts), (1, MF.rs .stb K1 M1 a.content), (2, MF.rs .stb K2 M2 a.keyName.parts)]) Tryz.func67 rfl (by kernel_rfl) rfl (allS_cons rfl N0 (allS_cons rfl N1 (allS_cons rfl N2 allS_nil))) ?_
 refine R0 ?_
 refine WX.callF 3 (fun _ _ h => GoT.ow_rd h) (fun _ f hf => GoT.fak f hf) rfl rfl rfl rfl rfl (fun _ => rfl) rfl (fun w G bs hI hΓ => f148 w n (by omega) a.name K0 M0 (hΓ.get 0 rfl) ((ok_DataP hoka).1)) (fun _ => rfl) (fun _ => rfl) ?_
 rintro ⟨p1, c1⟩ hq1
 refine R0 ?_
 refine WX.callF 5 (fun _ _ h => GoT.ow_rd h) (fun _ f hf => GoT.fak f hf) rfl rfl rfl rfl rfl (fun _ => rfl) rfl (fun w G bs hI hΓ => f153 w n (by omega) a.content K1 M1 (hΓ.get 1 rfl) ((ok_DataP hoka).2.1)) (fun _ => rfl) (fun _ => rfl) ?_
 rintro ⟨p2, c2⟩ hq2
 refine R0 ?_
 refine WX.callF 7 (fun _ _ h => GoT.ow_rd h) (fun _ f hf => GoT.fak f hf) rfl rfl rfl rfl rfl (fun _ => rfl) rfl (fun w G bs hI hΓ => f148 w n (by omega) a.keyName K2 M2 (hΓ.get 2 rfl) ((ok_DataP hoka).2.2.1)) (fun _ => rfl) (fun _ => rfl) ?_
 rintro ⟨p3, c3⟩ hq3
 refine R0 ?_
 have hP1 : laws_toData a = (DataP.mk (laws_toName a.name) (laws_toByteS a.content) (laws_toName a.keyName) a.freshUntil a.signature) := by simp only [laws_toData, ct, cf]
 refine R1 ?_
 intro w1 G bs hI hΓ
 rw [hP1]
 exact Post.of [4, 6, 8] ((p1, c1), (p2, c2), (p3, c3), (), ()) hI hΓ rfl rfl rfl (And.intro hq1 (And.intro hq2 (And.intro hq3 (And.intro (ok_DataP hoka).2.2.2.1 (ok_DataP hoka).2.2.2.2))))
theorem f65 (w : World) (n : Nat) (hn : n + 0 ≤ 9) (a : Consumer) (K0 : Option Addr) (M0 : Nat) (N0 : RdSl (hp w) K0 M0 a.name.parts) (K1 : Option Addr) (M1 : Nat) (N1 : RdSl (hp w) K1 M1 a.data.name.parts) (K2 : Option Addr) (M2 : Nat) (N2 : RdSl (hp w) K2 M2 a.data.content) (K3 : Option Addr) (M3 : Nat) (N3 : RdSl (hp w) K3 M3 a.data.keyName.parts) (hoka : GoT.ok n a) :
  Does Tryz.prog 65 #[.agg #[.int .i64 (a.node), .int .i64 (a.index), .slice K0 ((a.name.parts).length) M0, .int .i64 (a.attempts), .int .i64 (a.wait), .bool a.satisfied, .slice K1 ((a.data.name.parts).length) M1, .slice K2 ((a.data.content).length) M2, .slice K3 ((a.data.keyName.parts).length) M3, .int .i64 (a.data.freshUntil), .int .i64 (a.data.signature)]] w emp (Post w emp (fun x : GoT.X (Consumer) => .agg ⟨GoT.sh ((laws_toConsumer a) : Consumer) x⟩) (fun x => GoT.oa ((laws_toConsumer a) : Consumer) x) (GoT.ok n ((laws_toConsumer a) : Consumer))) := by
 have hbP := bd_pos n
 have hbB := bd_big (n := n) (by omega)
 refine WX.enter (tt := tt) (Γ := [(0, MF.rs .stb K0 M0 a.name.parts), (1, MF.rs .stb K1 M1 a.data.name.parts), (2, MF.rs .stb K2 M2 a.data.content), (3, MF.rs .stb K3 M3 a.data.keyName.parts)]) Tryz.func65 rfl (by kernel_rfl) rfl (allS_cons rfl N0 (allS_cons rfl N1 (allS_cons rfl N2 (allS_cons rfl N3 allS_nil)))) ?_
 refine R0 ?_
 refine WX.callF 4 (fun _ _ h => GoT.ow_rd h) (fun _ f hf => GoT.fak f hf) rfl rfl rfl rfl rfl (fun _ => rfl) rfl (fun w G bs hI hΓ => f148 w n (by omega) a.name K0 M0 (hΓ.get 0 rfl) ((ok_Consumer hoka).2.2.1)) (fun _ => rfl) (fun _ => rfl) ?_
 rintro ⟨p1, c1⟩ hq1
 refine R0 ?_
 refine WX.callF 6 (fun _ _ h => GoT.ow_rd h) (fun _ f hf => GoT.fak f hf) rfl rfl rfl rfl rfl (fun _ => rfl) rfl (fun w G bs hI hΓ => f67 w n (by omega) a.data K1 M1 (hΓ.get 1 rfl) K2 M2 (hΓ.get 2 rfl) K3 M3 (hΓ.get 3 rfl) ((ok_Consumer hoka).2.2.2.2.2.2)) (fun _ => rfl) (fun _ => rfl) ?_
 rintro ⟨⟨p2, c2⟩, ⟨p3, c3⟩, ⟨p4, c4⟩, ⟨⟩, ⟨⟩⟩ hq2
 refine R0 ?_
 have hP1 : laws_toConsumer a = (Consumer.mk a.node a.index (laws_toName a.name) a.attempts a.wait a.satisfied (laws_toData a.data)) := by simp only [laws_toConsumer, ct, cf]
 refine R1 ?_
 intro w1 G bs hI hΓ
 rw [hP1]
 exact Post.of [5, 9, 10, 11] ((), (), (p1, c1), (), (), (), ((p2, c2), (p3, c3), (p4, c4), (), ())) hI hΓ rfl rfl rfl (And.intro (ok_Consumer hoka).1 (And.intro (ok_Consumer hoka).2.1 (And.intro hq1 (And.intro (ok_Consumer hoka).2.2.2.1 (And.intro (ok_Consumer hoka).2.2.2.2.1 (And.intro trivial hq2))))))
theorem f213 (w : World) (n : Nat) (hn : n + 0 ≤ 9) (a : Key) (K0 : Option Addr) (M0 : Nat) (N0 : RdSl (hp w) K0 M0 a.name.parts) (hoka : GoT.ok n a) :
  Does Tryz.prog 213 #[.agg #[.slice K0 ((a.name.parts).length) M0, .int .i64 (a.secret)]] w emp (Post w emp (fun x : GoT.X (Key) => .agg ⟨GoT.sh ((laws_toKey a) : Key) x⟩) (fun x => GoT.oa ((laws_toKey a) : Key) x) (GoT.ok n ((laws_toKey a) : Key))) := by
 have hbP := bd_pos n
 have hbB := bd_big (n := n) (by omega)
 refine WX.enter (tt := tt) (Γ := [(0, MF.rs .stb K0 M0 a.name.parts)]) Tryz.func213 rfl (by kernel_rfl) rfl (allS_cons rfl N0 allS_nil) ?_
 refine R0 ?_
 refine WX.callF 1 (fun _ _ h => GoT.ow_rd h) (fun _ f hf => GoT.fak f hf) rfl rfl rfl rfl rfl (fun _ => rfl) rfl (fun w G bs hI hΓ => f148 w n (by omega) a.name K0 M0 (hΓ.get 0 rfl) ((ok_Key hoka).1)) (fun _ => rfl) (fun _ => rfl) ?_
 rintro ⟨p1, c1⟩ hq1
 refine R0 ?_
 have hP1 : laws_toKey a = (Key.mk (laws_toName a.name) a.secret) := by simp only [laws_toKey, ct, cf]
 refine R1 ?_
 intro w1 G bs hI hΓ
 rw [hP1]
 exact Post.of [2] ((p1, c1), ()) hI hΓ rfl rfl rfl (And.intro hq1 (ok_Key hoka).2)
theorem f149 (w : World) (n : Nat) (hn : n + 0 ≤ 9) (a : (List Key)) (pa : Option Addr) (ca : Nat) (N0 : RdSl (hp w) pa ca a) (hoka : GoT.ok n a) :
  Does Tryz.prog 149 #[.slice pa ((a).length) ca] w emp (Post w emp (fun x : GoT.X ((List Key)) => (GoT.sh ((laws_toKeyS a) : (List Key)) x).headD undef) (fun x => GoT.oa ((laws_toKeyS a) : (List Key)) x) (GoT.ok n ((laws_toKeyS a) : (List Key)))) := by
 have hbP := bd_pos n
 have hbB := bd_big (n := n) (by omega)
 refine WX.enter (tt := tt) (Γ := [(0, MF.rs .stb pa ca a)]) Tryz.func149 rfl (by kernel_rfl) rfl (allS_cons rfl N0 allS_nil) ?_
 refine R0 ?_
 have r1 : (a).length ≤ bd n := (okl hoka).1
 refine WX.mkS ((a).length) ttOk rfl rfl rfl rfl rfl rfl rfl (by omega) (by omega) rfl ?_
 intro p1
 refine WX.free 1 (MF.ol (zrep ((a).length) [.slice none (0) 0, .int .i64 (0)]) ((List.replicate ((a).length) (Key.mk (Name.mk ([])) 0)) : List Key)) (ol_zrep (α := Key) (z0 := (Key.mk (Name.mk ([])) 0)) (x0 := ((none, 0), ())) rfl (sep_emp_cons (owSl_nil _ _) trivial) _) ?_
 refine R0 ?_
 refine WX.loop (ι := (List Value) × (List Key) × Nat) ⟨fun | (xsout, out, i) => (i ≤ (a).length) ∧ (out.length = (a).length) ∧ (∀ z_ ∈ out, GoT.ok n z_) ∧ (laws_toKeyS_L1 a 0 ((List.replicate ((a).length) (Key.mk (Name.mk ([])) 0)) : List Key) = laws_toKeyS_L1 ((a).drop i) i out), fun | (xsout, out, i) => (a).length - i, fun | (xsout, out, i) => [(3, .v (.slice p1 ((a).length) ((a).length))), (4, .v (.int .i64 (((i : Nat) : Int)))), (0, .v (.slice pa ((a).length) ca))], fun | (xsout, out, i) => [], fun | (xsout, out, i) => [(7, ⟨2, p1, (a).length, ((a).length), xsout⟩)], fun | (xsout, out, i) => [(0, MF.rs .stb pa ca a), (1, MF.ol xsout (out : List Key))]⟩ ((zrep ((a).length) [.slice none (0) 0, .int .i64 (0)]), ((List.replicate ((a).length) (Key.mk (Name.mk ([])) 0)) : List Key), 0) ⟨(Nat.zero_le _), (by simp), (all_rep (And.intro (ok_nil (α := Str)) (show I64 0 from (by unfold I64; omega)))), rfl⟩
  (.cons rfl (.cons rfl (.cons rfl (.nil)))) .nil (.cons rfl (.nil)) [0, 1] rfl ?_
 rintro ⟨xsout, out, i⟩ hpre
 have hpre_ : (i ≤ (a).length) ∧ (out.length = (a).length) ∧ (∀ z_ ∈ out, GoT.ok n z_) ∧ (laws_toKeyS_L1 a 0 ((List.replicate ((a).length) (Key.mk (Name.mk ([])) 0)) : List Key) = laws_toKeyS_L1 ((a).drop i) i out) := hpre
 clear hpre
 obtain ⟨v1, v2, v3, v4⟩ := hpre_
 refine R0 ?_
 refine WX.cases 11 rfl (fun h1 => ?_) (fun h1 => ?_)
 ·skip
  have h1d := B.dt h1
  have e1i : i < (a).length := (by omega)
  obtain ⟨e1, e1h⟩ : ∃ e1, (a)[i]? = some e1 := ⟨_, List.getElem?_eq_getElem e1i⟩
  have ok1 : GoT.ok n e1 := (okl hoka).2 _ (List.mem_of_getElem? e1h)
  refine R0 ?_
  refine WX.idx 0 i ttOk rfl rfl rfl rfl rfl rfl rfl rfl rfl rfl e1i ?_
  rintro ad1 rfl
  refine WX.ldE 0 2 e1 ttOk rfl rfl rfl rfl rfl rfl rfl rfl e1h (fun _ => rfl) (fun _ => rfl) ?_
  rintro ⟨⟨p2, c1⟩, ⟨⟩⟩
  refine WX.callF 3 (fun _ _ h => GoT.ow_rd h) (fun _ f hf => GoT.fak f hf) rfl rfl rfl rfl rfl (fun _ => rfl) rfl (fun w G bs hI hΓ => f213 w n (by omega) e1 p2 c1 (hΓ.get 2 rfl) ok1) (fun _ => rfl) (fun _ => rfl) ?_
  rintro ⟨⟨p3, c2⟩, ⟨⟩⟩ hq1
  have hr1 : i < (a).length := (by first | assumption | omega)
  refine WX.idxR 7 i ttOk rfl rfl rfl rfl rfl rfl rfl rfl rfl hr1 ?_
  rintro ad2 rfl
  have e2i : i < (out).length := (by first | assumption | omega)
  obtain ⟨e2, e2h⟩ : ∃ e2, (out)[i]? = some e2 := ⟨_, List.getElem?_eq_getElem e2i⟩
  have ok2 : GoT.ok n e2 := v3 _ (List.mem_of_getElem? e2h)
  refine WX.opnE (α := Key) (e := e2) 7 1 5 i rfl rfl rfl e2h (fun _ => rfl) (fun _ _ _ => rfl) (fun _ _ _ => rfl) ?_
  rintro A1 B1 ⟨⟨p4, c3⟩, ⟨⟩⟩ hA1 hB1
  refine WX.stA 7 ttOk rfl rfl rfl rfl rfl rfl rfl rfl rfl rfl rfl rfl rfl rfl hA1 hr1 rfl rfl rfl rfl (by simp) rfl ?_
  refine R0 ?_
  refine WX.see rfl rfl rfl (fun _ hΓ => looks_arith rfl rfl rfl rfl (by unfold I64; first | omega | (simp only [List.length_take] at *; omega))) ?_
  refine R0 ?_
  refine WX.turn [4, 7, 8] 9 rfl (fun h hs => cl_elem (α := Key) (e := (laws_toKey e1)) (x := ((p3, c2), ())) e2i hs) (gs := [MF.ol (A1 ++ [.slice p3 (((laws_toKey e1).name.parts).length) c2, .int .i64 ((laws_toKey e1).secret)] ++ B1) (out.set i (laws_toKey e1))]) rfl ?_
  refine WX.turn [9] 1 rfl (fun _ h => h) rfl ?_
  exact WX.iter ((A1 ++ [.slice p3 (((laws_toKey e1).name.parts).length) c2, .int .i64 ((laws_toKey e1).secret)] ++ B1), ((out.set i (laws_toKey e1)) : List Key), i + 1) ⟨(by omega), (by first | assumption | omega | (simp; omega)), (all_set v3 (show GoT.ok n ((laws_toKey e1) : Key) from hq1)), (by rw [v4, drop_get e1h]; simp only [laws_toKeyS_L1, e2h, ct, cf])⟩ (by first | (dsimp only; omega) | omega) (.cons rfl (.cons rfl (.cons rfl (.nil)))) .nil (.cons rfl (.nil)) [0, 1] rfl
 ·skip
  have h1d := B.df h1
  refine R0 ?_
  have hX1 : laws_toKeyS_L1 a 0 ((List.replicate ((a).length) (Key.mk (Name.mk ([])) 0)) : List Key) = ((out) : List Key) := by rw [v4, List.drop_eq_nil_of_le (show (a).length ≤ i by omega)]; simp only [laws_toKeyS_L1, ct, cf]
  refine WX.seal 7 1 10 rfl rfl (show (a).length = (out).length from by omega) rfl rfl ?_
  refine WX.slot 2 (y := .v (.slice p1 (out).length ((a).length))) rfl (fun _ => by show (Value.slice p1 ((a).length) ((a).length) : Value) = Value.slice p1 (out).length ((a).length); rw [(show (a).length = (out).length from by omega)]) ?_
  refine WX.slot 22 (y := .v (.slice p1 (out).length ((a).length))) rfl (fun _ => by show (Value.slice p1 ((a).length) ((a).length) : Value) = Value.slice p1 (out).length ((a).length); rw [(show (a).length = (out).length from by omega)]) ?_
  refine WX.slot 3 (y := .v (.slice p1 (out).length ((a).length))) rfl (fun _ => by show (Value.slice p1 ((a).length) ((a).length) : Value) = Value.slice p1 (out).length ((a).length); rw [(show (a).length = (out).length from by omega)]) ?_
  have hP1 : laws_toKeyS a = out := by simp only [laws_toKeyS, hX1, ct, cf]
  refine R1 ?_
  intro w1 G bs hI hΓ
  rw [hP1]
  exact Post.of [11] (p1, ((a).length)) hI hΓ rfl rfl rfl (okl_mk (by omega) v3 : GoT.ok n (out : List Key))
theorem f237 (w : World) (n : Nat) (hn : n + 0 ≤ 9) (a : Pattern) (pa : Option Addr) (ca : Nat) (N0 : RdSl (hp w) pa ca a.parts) (hoka : GoT.ok n a) :
  Does Tryz.prog 237 #[.agg #[.slice pa ((a.parts).length) ca]] w emp (Post w emp (fun x : GoT.X (Pattern) => .agg ⟨GoT.sh ((laws_toPattern a) : Pattern) x⟩) (fun x => GoT.oa ((laws_toPattern a) : Pattern) x) (GoT.ok n ((laws_toPattern a) : Pattern))) := by
 have hbP := bd_pos n
 have hbB := bd_big (n := n) (by omega)
 refine WX.enter (tt := tt) (Γ := [(0, MF.rs .stb pa ca a.parts)]) Tryz.func237 rfl (by kernel_rfl) rfl (allS_cons rfl N0 allS_nil) ?_
 refine R0 ?_
 refine WX.callF 1 (fun _ _ h => GoT.ow_rd h) (fun _ f hf => GoT.fak f hf) rfl rfl rfl rfl rfl (fun _ => rfl) rfl (fun w G bs hI hΓ => f212 w n (by omega) a.parts pa ca (hΓ.get 0 rfl) (ok_Pattern hoka)) (fun _ => rfl) (fun _ => rfl) ?_
 rintro ⟨p1, c1⟩ hq1
 refine R0 ?_
 have hP1 : laws_toPattern a = (Pattern.mk (laws_toStringS a.parts)) := by simp only [laws_toPattern, ct, cf]
 refine R1 ?_
 intro w1 G bs hI hΓ
 rw [hP1]
 exact Post.of [2] (p1, c1) hI hΓ rfl rfl rfl hq1
theorem f214 (w : World) (n : Nat) (hn : n + 0 ≤ 9) (a : Rule) (K0 : Option Addr) (M0 : Nat) (N0 : RdSl (hp w) K0 M0 a.dataPattern.parts) (K1 : Option Addr) (M1 : Nat) (N1 : RdSl (hp w) K1 M1 a.keyPattern.parts) (hoka : GoT.ok n a) :
  Does Tryz.prog 214 #[.agg #[.slice K0 ((a.dataPattern.parts).length) M0, .slice K1 ((a.keyPattern.parts).length) M1]] w emp (Post w emp (fun x : GoT.X (Rule) => .agg ⟨GoT.sh ((laws_toRule a) : Rule) x⟩) (fun x => GoT.oa ((laws_toRule a) : Rule) x) (GoT.ok n ((laws_toRule a) : Rule))) := by
 have hbP := bd_pos n
 have hbB := bd_big (n := n) (by omega)
 refine WX.enter (tt := tt) (Γ := [(0, MF.rs .stb K0 M0 a.dataPattern.parts), (1, MF.rs .stb K1 M1 a.keyPattern.parts)]) Tryz.func214 rfl (by kernel_rfl) rfl (allS_cons rfl N0 (allS_cons rfl N1 allS_nil)) ?_
 refine R0 ?_
 refine WX.callF 2 (fun _ _ h => GoT.ow_rd h) (fun _ f hf => GoT.fak f hf) rfl rfl rfl rfl rfl (fun _ => rfl) rfl (fun w G bs hI hΓ => f237 w n (by omega) a.dataPattern K0 M0 (hΓ.get 0 rfl) ((ok_Rule hoka).1)) (fun _ => rfl) (fun _ => rfl) ?_
 rintro ⟨p1, c1⟩ hq1
 refine R0 ?_
 refine WX.callF 4 (fun _ _ h => GoT.ow_rd h) (fun _ f hf => GoT.fak f hf) rfl rfl rfl rfl rfl (fun _ => rfl) rfl (fun w G bs hI hΓ => f237 w n (by omega) a.keyPattern K1 M1 (hΓ.get 1 rfl) ((ok_Rule hoka).2)) (fun _ => rfl) (fun _ => rfl) ?_
 rintro ⟨p2, c2⟩ hq2
 refine R0 ?_
 have hP1 : laws_toRule a = (Rule.mk (laws_toPattern a.dataPattern) (laws_toPattern a.keyPattern)) := by simp only [laws_toRule, ct, cf]
 refine R1 ?_
 intro w1 G bs hI hΓ
 rw [hP1]
 exact Post.of [3, 5] ((p1, c1), (p2, c2)) hI hΓ rfl rfl rfl (And.intro hq1 hq2)
theorem f150 (w : World) (n : Nat) (hn : n + 0 ≤ 9) (a : (List Rule)) (pa : Option Addr) (ca : Nat) (N0 : RdSl (hp w) pa ca a) (hoka : GoT.ok n a) :
  Does Tryz.prog 150 #[.slice pa ((a).length) ca] w emp (Post w emp (fun x : GoT.X ((List Rule)) => (GoT.sh ((laws_toRuleS a) : (List Rule)) x).headD undef) (fun x => GoT.oa ((laws_toRuleS a) : (List Rule)) x) (GoT.ok n ((laws_toRuleS a) : (List Rule)))) := by
 have hbP := bd_pos n
 have hbB := bd_big (n := n) (by omega)
 refine WX.enter (tt := tt) (Γ := [(0, MF.rs .stb pa ca a)]) Tryz.func150 rfl (by kernel_rfl) rfl (allS_cons rfl N0 allS_nil) ?_
 refine R0 ?_
 have r1 : (a).length ≤ bd n := (okl hoka).1
 refine WX.mkS ((a).length) ttOk rfl rfl rfl rfl rfl rfl rfl (by omega) (by omega) rfl ?_
 intro p1
 refine WX.free 1 (MF.ol (zrep ((a).length) [.slice none (0) 0, .slice none (0) 0]) ((List.replicate ((a).length) (Rule.mk (Pattern.mk ([])) (Pattern.mk ([])))) : List Rule)) (ol_zrep (α := Rule) (z0 := (Rule.mk (Pattern.mk ([])) (Pattern.mk ([])))) (x0 := ((none, 0), (none, 0))) rfl (sep_emp_cons (owSl_nil _ _) (sep_emp_cons (owSl_nil _ _) trivial)) _) ?_
 refine R0 ?_
 refine WX.loop (ι := (List Value) × (List Rule) × Nat) ⟨fun | (xsout, out, i) => (i ≤ (a).length) ∧ (out.length = (a).length) ∧ (∀ z_ ∈ out, GoT.ok n z_) ∧ (laws_toRuleS_L1 a 0 ((List.replicate ((a).length) (Rule.mk (Pattern.mk ([])) (Pattern.mk ([])))) : List Rule) = laws_toRuleS_L1 ((a).drop i) i out), fun | (xsout, out, i) => (a).length - i, fun | (xsout, out, i) => [(3, .v (.slice p1 ((a).length) ((a).length))), (4, .v (.int .i64 (((i : Nat) : Int)))), (0, .v (.slice pa ((a).length) ca))], fun | (xsout, out, i) => [], fun | (xsout, out, i) => [(7, ⟨2, p1, (a).length, ((a).length), xsout⟩)], fun | (xsout, out, i) => [(0, MF.rs .stb pa ca a), (1, MF.ol xsout (out : List Rule))]⟩ ((zrep ((a).length) [.slice none (0) 0, .slice none (0) 0]), ((List.replicate ((a).length) (Rule.mk (Pattern.mk ([])) (Pattern.mk ([])))) : List Rule), 0) ⟨(Nat.zero_le _), (by simp), (all_rep (And.intro (ok_nil (α := Str)) (ok_nil (α := Str)))), rfl⟩
  (.cons rfl (.cons rfl (.cons rfl (.nil)))) .nil (.cons rfl (.nil)) [0, 1] rfl ?_
 rintro ⟨xsout, out, i⟩ hpre
 have hpre_ : (i ≤ (a).length) ∧ (out.length = (a).length) ∧ (∀ z_ ∈ out, GoT.ok n z_) ∧ (laws_toRuleS_L1 a 0 ((List.replicate ((a).length) (Rule.mk (Pattern.mk ([])) (Pattern.mk ([])))) : List Rule) = laws_toRuleS_L1 ((a).drop i) i out) := hpre
 clear hpre
 obtain ⟨v1, v2, v3, v4⟩ := hpre_
 refine R0 ?_
 refine WX.cases 11 rfl (fun h1 => ?_) (fun h1 => ?_)
 ·skip
  have h1d := B.dt h1
  have e1i : i < (a).length := (by omega)
  obtain ⟨e1, e1h⟩ : ∃ e1, (a)[i]? = some e1 := ⟨_, List.getElem?_eq_getElem e1i⟩
  have ok1 : GoT.ok n e1 := (okl hoka).2 _ (List.mem_of_getElem? e1h)
  refine R0 ?_
  refine WX.idx 0 i ttOk rfl rfl rfl rfl rfl rfl rfl rfl rfl rfl e1i ?_
  rintro ad1 rfl
  refine WX.ldE 0 2 e1 ttOk rfl rfl rfl rfl rfl rfl rfl rfl e1h (fun _ => rfl) (fun _ => rfl) ?_
  rintro ⟨⟨p2, c1⟩, ⟨p3, c2⟩⟩
  refine WX.callF 4 (fun _ _ h => GoT.ow_rd h) (fun _ f hf => GoT.fak f hf) rfl rfl rfl rfl rfl (fun _ => rfl) rfl (fun w G bs hI hΓ => f214 w n (by omega) e1 p2 c1 (hΓ.get 2 rfl) p3 c2 (hΓ.get 3 rfl) ok1) (fun _ => rfl) (fun _ => rfl) ?_
  rintro ⟨⟨p4, c3⟩, ⟨p5, c4⟩⟩ hq1
  have hr1 : i < (a).length := (by first | assumption | omega)
  refine WX.idxR 7 i ttOk rfl rfl rfl rfl rfl rfl rfl rfl rfl hr1 ?_
  rintro ad2 rfl
  have e2i : i < (out).length := (by first | assumption | omega)
  obtain ⟨e2, e2h⟩ : ∃ e2, (out)[i]? = some e2 := ⟨_, List.getElem?_eq_getElem e2i⟩
  have ok2 : GoT.ok n e2 := v3 _ (List.mem_of_getElem? e2h)
  refine WX.opnE (α := Rule) (e := e2) 7 1 8 i rfl rfl rfl e2h (fun _ => rfl) (fun _ _ _ => rfl) (fun _ _ _ => rfl) ?_
  rintro A1 B1 ⟨⟨p6, c5⟩, ⟨p7, c6⟩⟩ hA1 hB1
  refine WX.stA 7 ttOk rfl rfl rfl rfl rfl rfl rfl rfl rfl rfl rfl rfl rfl rfl hA1 hr1 rfl rfl rfl rfl (by simp) rfl ?_
  refine R0 ?_
  refine WX.see rfl rfl rfl (fun _ hΓ => looks_arith rfl rfl rfl rfl (by unfold I64; first | omega | (simp only [List.length_take] at *; omega))) ?_
  refine R0 ?_
  refine WX.turn [6, 7, 12, 13] 14 rfl (fun h hs => cl_elem (α := Rule) (e := (laws_toRule e1)) (x := ((p4, c3), (p5, c4))) e2i hs) (gs := [MF.ol (A1 ++ [.slice p4 (((laws_toRule e1).dataPattern.parts).length) c3, .slice p5 (((laws_toRule e1).keyPattern.parts).length) c4] ++ B1) (out.set i (laws_toRule e1))]) rfl ?_
  refine WX.turn [14] 1 rfl (fun _ h => h) rfl ?_
  exact WX.iter ((A1 ++ [.slice p4 (((laws_toRule e1).dataPattern.parts).length) c3, .slice p5 (((laws_toRule e1).keyPattern.parts).length) c4] ++ B1), ((out.set i (laws_toRule e1)) : List Rule), i + 1) ⟨(by omega), (by first | assumption | omega | (simp; omega)), (all_set v3 (show GoT.ok n ((laws_toRule e1) : Rule) from hq1)), (by rw [v4, drop_get e1h]; simp only [laws_toRuleS_L1, e2h, ct, cf])⟩ (by first | (dsimp only; omega) | omega) (.cons rfl (.cons rfl (.cons rfl (.nil)))) .nil (.cons rfl (.nil)) [0, 1] rfl
 ·skip
  have h1d := B.df h1
  refine R0 ?_
  have hX1 : laws_toRuleS_L1 a 0 ((List.replicate ((a).length) (Rule.mk (Pattern.mk ([])) (Pattern.mk ([])))) : List Rule) = ((out) : List Rule) := by rw [v4, List.drop_eq_nil_of_le (show (a).length ≤ i by omega)]; simp only [laws_toRuleS_L1, ct, cf]
  refine WX.seal 7 1 15 rfl rfl (show (a).length = (out).length from by omega) rfl rfl ?_
  refine WX.slot 2 (y := .v (.slice p1 (out).length ((a).length))) rfl (fun _ => by show (Value.slice p1 ((a).length) ((a).length) : Value) = Value.slice p1 (out).length ((a).length); rw [(show (a).length = (out).length from by omega)]) ?_
  refine WX.slot 22 (y := .v (.slice p1 (out).length ((a).length))) rfl (fun _ => by show (Value.slice p1 ((a).length) ((a).length) : Value) = Value.slice p1 (out).length ((a).length); rw [(show (a).length = (out).length from by omega)]) ?_
  refine WX.slot 3 (y := .v (.slice p1 (out).length ((a).length))) rfl (fun _ => by show (Value.slice p1 ((a).length) ((a).length) : Value) = Value.slice p1 (out).length ((a).length); rw [(show (a).length = (out).length from by omega)]) ?_
  have hP1 : laws_toRuleS a = out := by simp only [laws_toRuleS, hX1, ct, cf]
  refine R1 ?_
  intro w1 G bs hI hΓ
  rw [hP1]
  exact Post.of [16] (p1, ((a).length)) hI hΓ rfl rfl rfl (okl_mk (by omega) v3 : GoT.ok n (out : List Rule))
theorem f151 (w : World) (n : Nat) (hn : n + 0 ≤ 9) (a : (List Name)) (pa : Option Addr) (ca : Nat) (N0 : RdSl (hp w) pa ca a) (hoka : GoT.ok n a) :
  Does Tryz.prog 151 #[.slice pa ((a).length) ca] w emp (Post w emp (fun x : GoT.X ((List Name)) => (GoT.sh ((laws_toNameS a) : (List Name)) x).headD undef) (fun x => GoT.oa ((laws_toNameS a) : (List Name)) x) (GoT.ok n ((laws_toNameS a) : (List Name)))) := by
 have hbP := bd_pos n
 have hbB := bd_big (n := n) (by omega)
 refine WX.enter (tt := tt) (Γ := [(0, MF.rs .stb pa ca a)]) Tryz.func151 rfl (by kernel_rfl) rfl (allS_cons rfl N0 allS_nil) ?_
 refine R0 ?_
 have r1 : (a).length ≤ bd n := (okl hoka).1
 refine WX.mkS ((a).length) ttOk rfl rfl rfl rfl rfl rfl rfl (by omega) (by omega) rfl ?_
 intro p1
 refine WX.free 1 (MF.ol (zrep ((a).length) [.slice none (0) 0]) ((List.replicate ((a).length) (Name.mk ([]))) : List Name)) (ol_zrep (α := Name) (z0 := (Name.mk ([]))) (x0 := (none, 0)) rfl (sep_emp_cons (owSl_nil _ _) trivial) _) ?_
 refine R0 ?_
 refine WX.loop (ι := (List Value) × (List Name) × Nat) ⟨fun | (xsout, out, i) => (i ≤ (a).length) ∧ (out.length = (a).length) ∧ (∀ z_ ∈ out, GoT.ok n z_) ∧ (laws_toNameS_L1 a 0 ((List.replicate ((a).length) (Name.mk ([]))) : List Name) = laws_toNameS_L1 ((a).drop i) i out), fun | (xsout, out, i) => (a).length - i, fun | (xsout, out, i) => [(3, .v (.slice p1 ((a).length) ((a).length))), (4, .v (.int .i64 (((i : Nat) : Int)))), (0, .v (.slice pa ((a).length) ca))], fun | (xsout, out, i) => [], fun | (xsout, out, i) => [(7, ⟨1, p1, (a).length, ((a).length), xsout⟩)], fun | (xsout, out, i) => [(0, MF.rs .stb pa ca a), (1, MF.ol xsout (out : List Name))]⟩ ((zrep ((a).length) [.slice none (0) 0]), ((List.replicate ((a).length) (Name.mk ([]))) : List Name), 0) ⟨(Nat.zero_le _), (by simp), (all_rep (ok_nil (α := Str))), rfl⟩
  (.cons rfl (.cons rfl (.cons rfl (.nil)))) .nil (.cons rfl (.nil)) [0, 1] rfl ?_
 rintro ⟨xsout, out, i⟩ hpre
 have hpre_ : (i ≤ (a).length) ∧ (out.length = (a).length) ∧ (∀ z_ ∈ out, GoT.ok n z_) ∧ (laws_toNameS_L1 a 0 ((List.replicate ((a).length) (Name.mk ([]))) : List Name) = laws_toNameS_L1 ((a).drop i) i out) := hpre
 clear hpre
 obtain ⟨v1, v2, v3, v4⟩ := hpre_
 refine R0 ?_
 refine WX.cases 11 rfl (fun h1 => ?_) (fun h1 => ?_)
 ·skip
  have h1d := B.dt h1
  have e1i : i < (a).length := (by omega)
  obtain ⟨e1, e1h⟩ : ∃ e1, (a)[i]? = some e1 := ⟨_, List.getElem?_eq_getElem e1i⟩
  have ok1 : GoT.ok n e1 := (okl hoka).2 _ (List.mem_of_getElem? e1h)
  refine R0 ?_
  refine WX.idx 0 i ttOk rfl rfl rfl rfl rfl rfl rfl rfl rfl rfl e1i ?_
  rintro ad1 rfl
  refine WX.ldE 0 2 e1 ttOk rfl rfl rfl rfl rfl rfl rfl rfl e1h (fun _ => rfl) (fun _ => rfl) ?_
  rintro ⟨p2, c1⟩
  refine WX.callF 3 (fun _ _ h => GoT.ow_rd h) (fun _ f hf => GoT.fak f hf) rfl rfl rfl rfl rfl (fun _ => rfl) rfl (fun w G bs hI hΓ => f148 w n (by omega) e1 p2 c1 (hΓ.get 2 rfl) ok1) (fun _ => rfl) (fun _ => rfl) ?_
  rintro ⟨p3, c2⟩ hq1
  have hr1 : i < (a).length := (by first | assumption | omega)
  refine WX.idxR 7 i ttOk rfl rfl rfl rfl rfl rfl rfl rfl rfl hr1 ?_
  rintro ad2 rfl
  have e2i : i < (out).length := (by first | assumption | omega)
  obtain ⟨e2, e2h⟩ : ∃ e2, (out)[i]? = some e2 := ⟨_, List.getElem?_eq_getElem e2i⟩
  have ok2 : GoT.ok n e2 := v3 _ (List.mem_of_getElem? e2h)
  refine WX.opnE (α := Name) (e := e2) 7 1 5 i rfl rfl rfl e2h (fun _ => rfl) (fun _ _ _ => rfl) (fun _ _ _ => rfl) ?_
  rintro A1 B1 ⟨p4, c3⟩ hA1 hB1
  refine WX.stA 7 ttOk rfl rfl rfl rfl rfl rfl rfl rfl rfl rfl rfl rfl rfl rfl hA1 hr1 rfl rfl rfl rfl (by simp) rfl ?_
  refine R0 ?_
  refine WX.see rfl rfl rfl (fun _ hΓ => looks_arith rfl rfl rfl rfl (by unfold I64; first | omega | (simp only [List.length_take] at *; omega))) ?_
  refine R0 ?_
  refine WX.turn [4, 7, 8] 9 rfl (fun h hs => cl_elem (α := Name) (e := (laws_toName e1)) (x := (p3, c2)) e2i hs) (gs := [MF.ol (A1 ++ [.slice p3 (((laws_toName e1).parts).length) c2] ++ B1) (out.set i (laws_toName e1))]) rfl ?_
  refine WX.turn [9] 1 rfl (fun _ h => h) rfl ?_
  exact WX.iter ((A1 ++ [.slice p3 (((laws_toName e1).parts).length) c2] ++ B1), ((out.set i (laws_toName e1)) : List Name), i + 1) ⟨(by omega), (by first | assumption | omega | (simp; omega)), (all_set v3 (show GoT.ok n ((laws_toName e1) : Name) from hq1)), (by rw [v4, drop_get e1h]; simp only [laws_toNameS_L1, e2h, ct, cf])⟩ (by first | (dsimp only; omega) | omega) (.cons rfl (.cons rfl (.cons rfl (.nil)))) .nil (.cons rfl (.nil)) [0, 1] rfl
 ·skip
  have h1d := B.df h1
  refine R0 ?_
  have hX1 : laws_toNameS_L1 a 0 ((List.replicate ((a).length) (Name.mk ([]))) : List Name) = ((out) : List Name) := by rw [v4, List.drop_eq_nil_of_le (show (a).length ≤ i by omega)]; simp only [laws_toNameS_L1, ct, cf]
  refine WX.seal 7 1 10 rfl rfl (show (a).length = (out).length from by omega) rfl rfl ?_
  refine WX.slot 2 (y := .v (.slice p1 (out).length ((a).length))) rfl (fun _ => by show (Value.slice p1 ((a).length) ((a).length) : Value) = Value.slice p1 (out).length ((a).length); rw [(show (a).length = (out).length from by omega)]) ?_
  refine WX.slot 22 (y := .v (.slice p1 (out).length ((a).length))) rfl (fun _ => by show (Value.slice p1 ((a).length) ((a).length) : Value) = Value.slice p1 (out).length ((a).length); rw [(show (a).length = (out).length from by omega)]) ?_
  refine WX.slot 3 (y := .v (.slice p1 (out).length ((a).length))) rfl (fun _ => by show (Value.slice p1 ((a).length) ((a).length) : Value) = Value.slice p1 (out).length ((a).length); rw [(show (a).length = (out).length from by omega)]) ?_
  have hP1 : laws_toNameS a = out := by simp only [laws_toNameS, hX1, ct, cf]
  refine R1 ?_
  intro w1 G bs hI hΓ
  rw [hP1]
  exact Post.of [11] (p1, ((a).length)) hI hΓ rfl rfl rfl (okl_mk (by omega) v3 : GoT.ok n (out : List Name))
theorem f152 (w : World) (n : Nat) (hn : n + 0 ≤ 9) (a : (List DataP)) (pa : Option Addr) (ca : Nat) (N0 : RdSl (hp w) pa ca a) (hoka : GoT.ok n a) :
  Does Tryz.prog 152 #[.slice pa ((a).length) ca] w emp (Post w emp (fun x : GoT.X ((List DataP)) => (GoT.sh ((laws_toDataS a) : (List DataP)) x).headD undef) (fun x => GoT.oa ((laws_toDataS a) : (List DataP)) x) (GoT.ok n ((laws_toDataS a) : (List DataP)))) := by
 have hbP := bd_pos n
 have hbB := bd_big (n := n) (by omega)
 refine WX.enter (tt := tt) (Γ := [(0, MF.rs .stb pa ca a)]) Tryz.func152 rfl (by kernel_rfl) rfl (allS_cons rfl N0 allS_nil) ?_
 refine R0 ?_
 have r1 : (a).length ≤ bd n := (okl hoka).1
 refine WX.mkS ((a).length) ttOk rfl rfl rfl rfl rfl rfl rfl (by omega) (by omega) rfl ?_
 intro p1
 refine WX.free 1 (MF.ol (zrep ((a).length) [.slice none (0) 0, .slice none (0) 0, .slice none (0) 0, .int .i64 (0), .int .i64 (0)]) ((List.replicate ((a).length) (DataP.mk (Name.mk ([])) ([]) (Name.mk ([])) 0 0)) : List DataP)) (ol_zrep (α := DataP) (z0 := (DataP.mk (Name.mk ([])) ([]) (Name.mk ([])) 0 0)) (x0 := ((none, 0), (none, 0), (none, 0), (), ())) rfl (sep_emp_cons (owSl_nil _ _) (sep_emp_cons (owSl_nil _ _) (sep_emp_cons (owSl_nil _ _) trivial))) _) ?_
 refine R0 ?_
 refine WX.loop (ι := (List Value) × (List DataP) × Nat) ⟨fun | (xsout, out, i) => (i ≤ (a).length) ∧ (out.length = (a).length) ∧ (∀ z_ ∈ out, GoT.ok n z_) ∧ (laws_toDataS_L1 a 0 ((List.replicate ((a).length) (DataP.mk (Name.mk ([])) ([]) (Name.mk ([])) 0 0)) : List DataP) = laws_toDataS_L1 ((a).drop i) i out), fun | (xsout, out, i) => (a).length - i, fun | (xsout, out, i) => [(3, .v (.slice p1 ((a).length) ((a).length))), (4, .v (.int .i64 (((i : Nat) : Int)))), (0, .v (.slice pa ((a).length) ca))], fun | (xsout, out, i) => [], fun | (xsout, out, i) => [(7, ⟨5, p1, (a).length, ((a).length), xsout⟩)], fun | (xsout, out, i) => [(0, MF.rs .stb pa ca a), (1, MF.ol xsout (out : List DataP))]⟩ ((zrep ((a).length) [.slice none (0) 0, .slice none (0) 0, .slice none (0) 0, .int .i64 (0), .int .i64 (0)]), ((List.replicate ((a).length) (DataP.mk (Name.mk ([])) ([]) (Name.mk ([])) 0 0)) : List DataP), 0) ⟨(Nat.zero_le _), (by simp), (all_rep (And.intro (ok_nil (α := Str)) (And.intro (ok_nil (α := UInt8)) (And.intro (ok_nil (α := Str)) (And.intro (show I64 0 from (by unfold I64; omega)) (show I64 0 from (by unfold I64; omega))))))), rfl⟩
  (.cons rfl (.cons rfl (.cons rfl (.nil)))) .nil (.cons rfl (.nil)) [0, 1] rfl ?_
 rintro ⟨xsout, out, i⟩ hpre
 have hpre_ : (i ≤ (a).length) ∧ (out.length = (a).length) ∧ (∀ z_ ∈ out, GoT.ok n z_) ∧ (laws_toDataS_L1 a 0 ((List.replicate ((a).length) (DataP.mk (Name.mk ([])) ([]) (Name.mk ([])) 0 0)) : List DataP) = laws_toDataS_L1 ((a).drop i) i out) := hpre
 clear hpre
 obtain ⟨v1, v2, v3, v4⟩ := hpre_
 refine R0 ?_
 refine WX.cases 11 rfl (fun h1 => ?_) (fun h1 => ?_)
 ·skip
  have h1d := B.dt h1
  have e1i : i < (a).length := (by omega)
  obtain ⟨e1, e1h⟩ : ∃ e1, (a)[i]? = some e1 := ⟨_, List.getElem?_eq_getElem e1i⟩
  have ok1 : GoT.ok n e1 := (okl hoka).2 _ (List.mem_of_getElem? e1h)
  refine R0 ?_
  refine WX.idx 0 i ttOk rfl rfl rfl rfl rfl rfl rfl rfl rfl rfl e1i ?_
  rintro ad1 rfl
  refine WX.ldE 0 2 e1 ttOk rfl rfl rfl rfl rfl rfl rfl rfl e1h (fun _ => rfl) (fun _ => rfl) ?_
  rintro ⟨⟨p2, c1⟩, ⟨p3, c2⟩, ⟨p4, c3⟩, ⟨⟩, ⟨⟩⟩
  refine WX.callF 5 (fun _ _ h => GoT.ow_rd h) (fun _ f hf => GoT.fak f hf) rfl rfl rfl rfl rfl (fun _ => rfl) rfl (fun w G bs hI hΓ => f67 w n (by omega) e1 p2 c1 (hΓ.get 2 rfl) p3 c2 (hΓ.get 3 rfl) p4 c3 (hΓ.get 4 rfl) ok1) (fun _ => rfl) (fun _ => rfl) ?_
  rintro ⟨⟨p5, c4⟩, ⟨p6, c5⟩, ⟨p7, c6⟩, ⟨⟩, ⟨⟩⟩ hq1
  have hr1 : i < (a).length := (by first | assumption | omega)
  refine WX.idxR 7 i ttOk rfl rfl rfl rfl rfl rfl rfl rfl rfl hr1 ?_
  rintro ad2 rfl
  have e2i : i < (out).length := (by first | assumption | omega)
  obtain ⟨e2, e2h⟩ : ∃ e2, (out)[i]? = some e2 := ⟨_, List.getElem?_eq_getElem e2i⟩
  have ok2 : GoT.ok n e2 := v3 _ (List.mem_of_getElem? e2h)
  refine WX.opnE (α := DataP) (e := e2) 7 1 11 i rfl rfl rfl e2h (fun _ => rfl) (fun _ _ _ => rfl) (fun _ _ _ => rfl) ?_
  rintro A1 B1 ⟨⟨p8, c7⟩, ⟨p9, c8⟩, ⟨p10, c9⟩, ⟨⟩, ⟨⟩⟩ hA1 hB1
  refine WX.stA 7 ttOk rfl rfl rfl rfl rfl rfl rfl rfl rfl rfl rfl rfl rfl rfl hA1 hr1 rfl rfl rfl rfl (by simp) rfl ?_
  refine R0 ?_
  refine WX.see rfl rfl rfl (fun _ hΓ => looks_arith rfl rfl rfl rfl (by unfold I64; first | omega | (simp only [List.length_take] at *; omega))) ?_
  refine R0 ?_
  refine WX.turn [8, 9, 10, 17, 18] 19 rfl (fun h hs => cl_elem (α := DataP) (e := (laws_toData e1)) (x := ((p5, c4), (p6, c5), (p7, c6), (), ())) e2i hs) (gs := [MF.ol (A1 ++ [.slice p5 (((laws_toData e1).name.parts).length) c4, .slice p6 (((laws_toData e1).content).length) c5, .slice p7 (((laws_toData e1).keyName.parts).length) c6, .int .i64 ((laws_toData e1).freshUntil), .int .i64 ((laws_toData e1).signature)] ++ B1) (out.set i (laws_toData e1))]) rfl ?_
  refine WX.turn [19] 1 rfl (fun _ h => h) rfl ?_
  exact WX.iter ((A1 ++ [.slice p5 (((laws_toData e1).name.parts).length) c4, .slice p6 (((laws_toData e1).content).length) c5, .slice p7 (((laws_toData e1).keyName.parts).length) c6, .int .i64 ((laws_toData e1).freshUntil), .int .i64 ((laws_toData e1).signature)] ++ B1), ((out.set i (laws_toData e1)) : List DataP), i + 1) ⟨(by omega), (by first | assumption | omega | (simp; omega)), (all_set v3 (show GoT.ok n ((laws_toData e1) : DataP) from hq1)), (by rw [v4, drop_get e1h]; simp only [laws_toDataS_L1, e2h, ct, cf])⟩ (by first | (dsimp only; omega) | omega) (.cons rfl (.cons rfl (.cons rfl (.nil)))) .nil (.cons rfl (.nil)) [0, 1] rfl
 ·skip
  have h1d := B.df h1
  refine R0 ?_
  have hX1 : laws_toDataS_L1 a 0 ((List.replicate ((a).length) (DataP.mk (Name.mk ([])) ([]) (Name.mk ([])) 0 0)) : List DataP) = ((out) : List DataP) := by rw [v4, List.drop_eq_nil_of_le (show (a).length ≤ i by omega)]; simp only [laws_toDataS_L1, ct, cf]
  refine WX.seal 7 1 20 rfl rfl (show (a).length = (out).length from by omega) rfl rfl ?_
  refine WX.slot 2 (y := .v (.slice p1 (out).length ((a).length))) rfl (fun _ => by show (Value.slice p1 ((a).length) ((a).length) : Value) = Value.slice p1 (out).length ((a).length); rw [(show (a).length = (out).length from by omega)]) ?_
  refine WX.slot 22 (y := .v (.slice p1 (out).length ((a).length))) rfl (fun _ => by show (Value.slice p1 ((a).length) ((a).length) : Value) = Value.slice p1 (out).length ((a).length); rw [(show (a).length = (out).length from by omega)]) ?_
  refine WX.slot 3 (y := .v (.slice p1 (out).length ((a).length))) rfl (fun _ => by show (Value.slice p1 ((a).length) ((a).length) : Value) = Value.slice p1 (out).length ((a).length); rw [(show (a).length = (out).length from by omega)]) ?_
  have hP1 : laws_toDataS a = out := by simp only [laws_toDataS, hX1, ct, cf]
  refine R1 ?_
  intro w1 G bs hI hΓ
  rw [hP1]
  exact Post.of [21] (p1, ((a).length)) hI hΓ rfl rfl rfl (okl_mk (by omega) v3 : GoT.ok n (out : List DataP))
theorem f66 (w : World) (n : Nat) (hn : n + 0 ≤ 9) (a : TrustPolicy) (K0 : Option Addr) (M0 : Nat) (N0 : RdSl (hp w) K0 M0 a.keys) (K1 : Option Addr) (M1 : Nat) (N1 : RdSl (hp w) K1 M1 a.rules) (K2 : Option Addr) (M2 : Nat) (N2 : RdSl (hp w) K2 M2 a.anchors) (K3 : Option Addr) (M3 : Nat) (N3 : RdSl (hp w) K3 M3 a.certificates) (hoka : GoT.ok n a) :
  Does Tryz.prog 66 #[.agg #[.slice K0 ((a.keys).length) M0, .slice K1 ((a.rules).length) M1, .slice K2 ((a.anchors).length) M2, .slice K3 ((a.certificates).length) M3]] w emp (Post w emp (fun x : GoT.X (TrustPolicy) => .agg ⟨GoT.sh ((laws_toTrustPolicy a) : TrustPolicy) x⟩) (fun x => GoT.oa ((laws_toTrustPolicy a) : TrustPolicy) x) (GoT.ok n ((laws_toTrustPolicy a) : TrustPolicy))) := by
 have hbP := bd_pos n
 have hbB := bd_big (n := n) (by omega)
 refine WX.enter (tt := tt) (Γ := [(0, MF.rs .stb K0 M0 a.keys), (1, MF.rs .stb K1 M1 a.rules), (2, MF.rs .stb K2 M2 a.anchors), (3, MF.rs .stb K3 M3 a.certificates)]) Tryz.func66 rfl (by kernel_rfl) rfl (allS_cons rfl N0 (allS_cons rfl N1 (allS_cons rfl N2 (allS_cons rfl N3 allS_nil)))) ?_
 refine R0 ?_
 refine WX.callF 4 (fun _ _ h => GoT.ow_rd h) (fun _ f hf => GoT.fak f hf) rfl rfl rfl rfl rfl (fun _ => rfl) rfl (fun w G bs hI hΓ => f149 w n (by omega) a.keys K0 M0 (hΓ.get 0 rfl) ((ok_TrustPolicy hoka).1)) (fun _ => rfl) (fun _ => rfl) ?_
 rintro ⟨p1, c1⟩ hq1
 refine R0 ?_
 refine WX.callF 6 (fun _ _ h => GoT.ow_rd h) (fun _ f hf => GoT.fak f hf) rfl rfl rfl rfl rfl (fun _ => rfl) rfl (fun w G bs hI hΓ => f150 w n (by omega) a.rules K1 M1 (hΓ.get 1 rfl) ((ok_TrustPolicy hoka).2.1)) (fun _ => rfl) (fun _ => rfl) ?_
 rintro ⟨p2, c2⟩ hq2
 refine R0 ?_
 refine WX.callF 8 (fun _ _ h => GoT.ow_rd h) (fun _ f hf => GoT.fak f hf) rfl rfl rfl rfl rfl (fun _ => rfl) rfl (fun w G bs hI hΓ => f151 w n (by omega) a.anchors K2 M2 (hΓ.get 2 rfl) ((ok_TrustPolicy hoka).2.2.1)) (fun _ => rfl) (fun _ => rfl) ?_
 rintro ⟨p3, c3⟩ hq3
 refine R0 ?_
 refine WX.callF 10 (fun _ _ h => GoT.ow_rd h) (fun _ f hf => GoT.fak f hf) rfl rfl rfl rfl rfl (fun _ => rfl) rfl (fun w G bs hI hΓ => f152 w n (by omega) a.certificates K3 M3 (hΓ.get 3 rfl) ((ok_TrustPolicy hoka).2.2.2)) (fun _ => rfl) (fun _ => rfl) ?_
 rintro ⟨p4, c4⟩ hq4
 refine R0 ?_
 have hP1 : laws_toTrustPolicy a = (TrustPolicy.mk (laws_toKeyS a.keys) (laws_toRuleS a.rules) (laws_toNameS a.anchors) (laws_toDataS a.certificates)) := by simp only [laws_toTrustPolicy, ct, cf]
 refine R1 ?_
 intro w1 G bs hI hΓ
 rw [hP1]
 exact Post.of [5, 7, 9, 11] ((p1, c1), (p2, c2), (p3, c3), (p4, c4)) hI hΓ rfl rfl rfl (And.intro hq1 (And.intro hq2 (And.intro hq3 hq4)))
end Go.Proofs.YtolepebgdfdciaaGreat

namespace Go.Stp
set_option linter.unusedVariables false
set_option linter.unusedSimpArgs false
def laws_markText_L1 (k2 : Int) (out : Str) : Int × Str :=
  if k2 > 0 then
    laws_markText_L1 (IntKind.i64.wrap (Int.tdiv k2 10)) ((bstr ([(toU8 (IntKind.i64.wrap (48 + (Int.tmod k2 10))))])) ++ out)
  else
    (k2, out)
termination_by k2.toNat
decreasing_by exact wrap_quo10 ‹_›
def laws_markText (k : Int) : Str :=
  bif decide (k ≤ 0) then
    (⟨#[109, 48]⟩ : Str)
  else
    match laws_markText_L1 k (⟨#[]⟩ : Str) with
      | (k2, out) =>
        ((⟨#[109]⟩ : Str) ++ out)
def laws_markStringS_L1 : Nat → Nat → (List Str) → Int → (List Str) × Int
  | 0, i, a2, k2 => (((a2) : List Str), k2)
  | m_ + 1, i, a2, k2 =>
    match (a2)[i]? with
      | none => default
      | some e1 =>
        laws_markStringS_L1 m_ (i + 1) (((a2.set i (laws_markText k2))) : List Str) (IntKind.i64.wrap (k2 + 1))
def laws_markStringS (a : (List Str)) (k : Int) : Int × (List Str) :=
  match laws_markStringS_L1 ((a).length) 0 (a : List Str) k with
    | (a2, k2) =>
      (k2, a2)
def laws_markName (a : Name) (k : Int) : Int × Name :=
  (((laws_markStringS a.parts k).1), (Name.mk ((laws_markStringS a.parts k).2)))
def laws_markByteS_L1 : Nat → Nat → (List UInt8) → Int → (List UInt8) × Int
  | 0, i, a2, k2 => (((a2) : List UInt8), k2)
  | m_ + 1, i, a2, k2 =>
    match (a2)[i]? with
      | none => default
      | some e1 =>
        laws_markByteS_L1 m_ (i + 1) (((a2.set i (toU8 k2))) : List UInt8) (IntKind.i64.wrap (k2 + 1))
def laws_markByteS (a : (List UInt8)) (k : Int) : Int × (List UInt8) :=
  match laws_markByteS_L1 ((a).length) 0 (a : List UInt8) k with
    | (a2, k2) =>
      (k2, a2)
def laws_markData (a : DataP) (k : Int) : Int × DataP :=
  (((laws_markName a.keyName ((laws_markByteS a.content ((laws_markName a.name k).1)).1)).1), (DataP.mk ((laws_markName a.name k).2) ((laws_markByteS a.content ((laws_markName a.name k).1)).2) ((laws_markName a.keyName ((laws_markByteS a.content ((laws_markName a.name k).1)).1)).2) a.freshUntil a.signature))
def laws_markConsumer (a : Consumer) (k : Int) : Int × Consumer :=
  (((laws_markData a.data ((laws_markName a.name k).1)).1), (Consumer.mk a.node a.index ((laws_markName a.name k).2) a.attempts a.wait a.satisfied (DataP.mk ((laws_markData a.data ((laws_markName a.name k).1)).2.name) ((laws_markData a.data ((laws_markName a.name k).1)).2.content) ((laws_markData a.data ((laws_markName a.name k).1)).2.keyName) a.data.freshUntil a.data.signature)))
def laws_markKeyS_L1 : Nat → Nat → (List Key) → Int → (List Key) × Int
  | 0, i, a2, k2 => (((a2) : List Key), k2)
  | m_ + 1, i, a2, k2 =>
    match (a2)[i]? with
      | none => default
      | some e1 =>
        laws_markKeyS_L1 m_ (i + 1) (((a2.set i (Key.mk (Name.mk ((laws_markStringS e1.name.parts k2).2)) ((laws_markStringS e1.name.parts k2).1)))) : List Key) (IntKind.i64.wrap (((laws_markStringS e1.name.parts k2).1) + 1))
def laws_markKeyS (a : (List Key)) (k : Int) : Int × (List Key) :=
  match laws_markKeyS_L1 ((a).length) 0 (a : List Key) k with
    | (a2, k2) =>
      (k2, a2)
def laws_markRuleS_L1 : Nat → Nat → (List Rule) → Int → (List Rule) × Int
  | 0, i, a2, k2 => (((a2) : List Rule), k2)
  | m_ + 1, i, a2, k2 =>
    match (a2)[i]? with
      | none => default
      | some e1 =>
        laws_markRuleS_L1 m_ (i + 1) (((a2.set i (Rule.mk (Pattern.mk ((laws_markStringS e1.dataPattern.parts k2).2)) (Pattern.mk ((laws_markStringS e1.keyPattern.parts ((laws_markStringS e1.dataPattern.parts k2).1)).2))))) : List Rule) ((laws_markStringS e1.keyPattern.parts ((laws_markStringS e1.dataPattern.parts k2).1)).1)
def laws_markRuleS (a : (List Rule)) (k : Int) : Int × (List Rule) :=
  match laws_markRuleS_L1 ((a).length) 0 (a : List Rule) k with
    | (a2, k2) =>
      (k2, a2)
def laws_markNameS_L1 : Nat → Nat → (List Name) → Int → (List Name) × Int
  | 0, i, a2, k2 => (((a2) : List Name), k2)
  | m_ + 1, i, a2, k2 =>
    match (a2)[i]? with
      | none => default
      | some e1 =>
        laws_markNameS_L1 m_ (i + 1) (((a2.set i (Name.mk ((laws_markStringS e1.parts k2).2)))) : List Name) ((laws_markStringS e1.parts k2).1)
def laws_markNameS (a : (List Name)) (k : Int) : Int × (List Name) :=
  match laws_markNameS_L1 ((a).length) 0 (a : List Name) k with
    | (a2, k2) =>
      (k2, a2)
def laws_markDataS_L1 : Nat → Nat → (List DataP) → Int → (List DataP) × Int
  | 0, i, a2, k2 => (((a2) : List DataP), k2)
  | m_ + 1, i, a2, k2 =>
    match (a2)[i]? with
      | none => default
      | some e1 =>
        laws_markDataS_L1 m_ (i + 1) (((a2.set i (DataP.mk (Name.mk ((laws_markStringS e1.name.parts k2).2)) ((laws_markByteS e1.content ((laws_markStringS e1.name.parts k2).1)).2) (Name.mk ((laws_markStringS e1.keyName.parts ((laws_markByteS e1.content ((laws_markStringS e1.name.parts k2).1)).1)).2)) ((laws_markStringS e1.keyName.parts ((laws_markByteS e1.content ((laws_markStringS e1.name.parts k2).1)).1)).1) (IntKind.i64.wrap (((laws_markStringS e1.keyName.parts ((laws_markByteS e1.content ((laws_markStringS e1.name.parts k2).1)).1)).1) + 1))))) : List DataP) (IntKind.i64.wrap ((IntKind.i64.wrap (((laws_markStringS e1.keyName.parts ((laws_markByteS e1.content ((laws_markStringS e1.name.parts k2).1)).1)).1) + 1)) + 1))
def laws_markDataS (a : (List DataP)) (k : Int) : Int × (List DataP) :=
  match laws_markDataS_L1 ((a).length) 0 (a : List DataP) k with
    | (a2, k2) =>
      (k2, a2)
def laws_markTrustPolicy (a : TrustPolicy) (k : Int) : Int × TrustPolicy :=
  (((laws_markDataS a.certificates ((laws_markNameS a.anchors ((laws_markRuleS a.rules ((laws_markKeyS a.keys k).1)).1)).1)).1), (TrustPolicy.mk ((laws_markKeyS a.keys k).2) ((laws_markRuleS a.rules ((laws_markKeyS a.keys k).1)).2) ((laws_markNameS a.anchors ((laws_markRuleS a.rules ((laws_markKeyS a.keys k).1)).1)).2) ((laws_markDataS a.certificates ((laws_markNameS a.anchors ((laws_markRuleS a.rules ((laws_markKeyS a.keys k).1)).1)).1)).2)))
end Go.Stp

