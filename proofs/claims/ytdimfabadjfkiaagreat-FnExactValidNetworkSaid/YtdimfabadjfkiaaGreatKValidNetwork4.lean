/-
  What the proof of one law needs: rules of the program logic, functions as Lean functions, contracts. No condition but what each says. Written by a program (pack.py) out of my own texts.
-/
import Derived.Test.YtdimfabadjfkiaaGreatKValidNetwork3
namespace Go.Proofs.YtdimfabadjfkiaaGreat
open Go.Stp
set_option linter.unusedVariables false
set_option linter.unusedSimpArgs false
theorem f255 (w : World) (n : Nat) (hn : n + 0 ≤ 9) (a : (List Str)) (pa : Option Addr) (ca : Nat) (N0 : RdSl (hp w) pa ca a) (b : (List Str)) (pb : Option Addr) (cb : Nat) (N1 : RdSl (hp w) pb cb b) (hoka : GoT.ok n a) (hokb : GoT.ok n b) :
  Does Tryz.prog 255 #[.slice pa ((a).length) ca, .slice pb ((b).length) cb] w emp (fun (rv : Value) (_ : World) => rv = .bool (laws_eqStringS a b) ∧ True) := by
 have hbP := bd_pos n
 have hbB := bd_big (n := n) (by omega)
 refine WX.enter (tt := tt) (Γ := [(0, MF.rs .stb pa ca a), (1, MF.rs .stb pb cb b)]) Tryz.func255 rfl (by kernel_rfl) rfl (allS_cons rfl N0 (allS_cons rfl N1 allS_nil)) ?_
 refine R0 ?_
 refine WX.cases 10 rfl (fun h1 => ?_) (fun h1 => ?_)
 ·skip
  have h1d := B.nt' h1
  refine R0 ?_
  have hP1 : laws_eqStringS a b = false := by simp only [laws_eqStringS, h1, ct, cf]
  exact R3 hP1
 ·skip
  have h1d := B.nf' h1
  refine R0 ?_
  have r1 : (a).length ≤ bd n := (okl hoka).1
  refine WX.loop (ι := Nat) ⟨fun i => (i ≤ (a).length) ∧ (laws_eqStringS_L1 b a 0 = laws_eqStringS_L1 b ((a).drop i) i), fun i => (a).length - i, fun i => [(5, .v (.int .i64 (((i : Nat) : Int)))), (0, .v (.slice pa ((a).length) ca)), (1, .v (.slice pb ((b).length) cb))], fun i => [], fun i => [], fun i => [(0, MF.rs .stb pa ca a), (1, MF.rs .stb pb cb b)]⟩ 0 ⟨(Nat.zero_le _), rfl⟩
   (.cons rfl (.cons rfl (.cons rfl (.nil)))) .nil .nil [0, 1] rfl ?_
  rintro i hpre
  have hpre_ : (i ≤ (a).length) ∧ (laws_eqStringS_L1 b a 0 = laws_eqStringS_L1 b ((a).drop i) i) := hpre
  clear hpre
  obtain ⟨v1, v2⟩ := hpre_
  refine R0 ?_
  refine WX.cases 14 rfl (fun h2 => ?_) (fun h2 => ?_)
  ·skip
   have h2d := B.dt h2
   have e1i : i < (a).length := (by omega)
   obtain ⟨e1, e1h⟩ : ∃ e1, (a)[i]? = some e1 := ⟨_, List.getElem?_eq_getElem e1i⟩
   have ok1 : GoT.ok n e1 := (okl hoka).2 _ (List.mem_of_getElem? e1h)
   refine R0 ?_
   refine WX.draw [] mixed ?_
   intro bs G0 hΓ0
   refine DX.takes (fuel := 7) ttOk [(0, true), (1, true)] (by kernel_rfl) rfl ?_
   refine DX.idx 2 0 i ttOk hΓ0 (by kernel_rfl) rfl rfl rfl rfl rfl rfl rfl rfl rfl rfl rfl e1i ?_
   rintro ad1 rfl
   refine DX.ldE 3 0 2 e1 ttOk hΓ0 (by kernel_rfl) rfl rfl rfl rfl rfl rfl rfl rfl e1h (fun _ => rfl) (fun _ => rfl) ?_
   rintro ⟨⟩
   refine DX.takes (fuel := 3) ttOk [(4, true), (5, true)] (by kernel_rfl) rfl ?_
   have e2i : i < (b).length := (by first | assumption | omega)
   obtain ⟨e2, e2h⟩ : ∃ e2, (b)[i]? = some e2 := ⟨_, List.getElem?_eq_getElem e2i⟩
   have ok2 : GoT.ok n e2 := (okl hokb).2 _ (List.mem_of_getElem? e2h)
   refine DX.idx 6 1 i ttOk hΓ0 (by kernel_rfl) rfl rfl rfl rfl rfl rfl rfl rfl rfl rfl rfl e2i ?_
   rintro ad2 rfl
   refine DX.ldE 7 1 2 e2 ttOk hΓ0 (by kernel_rfl) rfl rfl rfl rfl rfl rfl rfl rfl e2h (fun _ => rfl) (fun _ => rfl) ?_
   rintro ⟨⟩
   refine DX.takes (fuel := 0) ttOk [(8, true)] (by kernel_rfl) rfl ?_
   refine DX.tail2 [] rfl rfl (by kernel_rfl) ?_
   refine R0 ?_
   refine WX.cases 25 rfl (fun h3 => ?_) (fun h3 => ?_)
   ·skip
    have h3d := B.ef (B.nt h3)
    refine R0 ?_
    have hP2 : laws_eqStringS_L1 b a 0 = (some false) := by rw [v2, drop_get e1h]; simp only [laws_eqStringS_L1, e2h, h3, ct, cf]
    have hP3 : laws_eqStringS a b = false := by simp only [laws_eqStringS, h1, hP2, ct, cf]
    exact R3 hP3
   ·skip
    have h3d := B.et (B.nf h3)
    refine R0 ?_
    refine WX.see rfl rfl rfl (fun _ hΓ => looks_arith rfl rfl rfl rfl (by unfold I64; first | omega | (simp only [List.length_take] at *; omega))) ?_
    refine R0 ?_
    exact WX.iter (i + 1) ⟨(by omega), (by rw [v2, drop_get e1h]; simp only [laws_eqStringS_L1, e2h, h3, ct, cf])⟩ (by first | (dsimp only; omega) | omega) (.cons rfl (.cons rfl (.cons rfl (.nil)))) .nil .nil [0, 1] rfl
  ·skip
   have h2d := B.df h2
   refine R0 ?_
   have hX1 : laws_eqStringS_L1 b a 0 = none := by rw [v2, List.drop_eq_nil_of_le (show (a).length ≤ i by omega)]; simp only [laws_eqStringS_L1, ct, cf]
   have hP4 : laws_eqStringS a b = true := by simp only [laws_eqStringS, h1, hX1, ct, cf]
   exact R3 hP4
theorem f162 (w : World) (n : Nat) (hn : n + 0 ≤ 9) (a : Name) (pa : Option Addr) (ca : Nat) (N0 : RdSl (hp w) pa ca a.parts) (b : Name) (pb : Option Addr) (cb : Nat) (N1 : RdSl (hp w) pb cb b.parts) (hoka : GoT.ok n a) (hokb : GoT.ok n b) :
  Does Tryz.prog 162 #[.agg #[.slice pa ((a.parts).length) ca], .agg #[.slice pb ((b.parts).length) cb]] w emp (fun (rv : Value) (_ : World) => rv = .bool (laws_eqName a b) ∧ True) := by
 have hbP := bd_pos n
 have hbB := bd_big (n := n) (by omega)
 refine WX.enter (tt := tt) (Γ := [(0, MF.rs .stb pa ca a.parts), (1, MF.rs .stb pb cb b.parts)]) Tryz.func162 rfl (by kernel_rfl) rfl (allS_cons rfl N0 (allS_cons rfl N1 allS_nil)) ?_
 refine R0 ?_
 refine WX.callV rfl rfl rfl rfl rfl (fun _ => rfl) rfl (fun w G bs hI hΓ => f255 w n (by omega) a.parts pa ca (hΓ.get 0 rfl) b.parts pb cb (hΓ.get 1 rfl) (ok_Name hoka) (ok_Name hokb)) ?_
 intro hq1
 refine R0 ?_
 refine WX.cases 10 rfl (fun h1 => ?_) (fun h1 => ?_)
 ·skip
  have h1d := (B.nt h1)
  refine R0 ?_
  have hP1 : laws_eqName a b = false := by simp only [laws_eqName, h1, ct, cf]
  exact R3 hP1
 ·skip
  have h1d := (B.nf h1)
  refine R0 ?_
  have hP2 : laws_eqName a b = true := by simp only [laws_eqName, h1, ct, cf]
  exact R3 hP2
theorem f167 (w : World) (n : Nat) (hn : n + 0 ≤ 9) (a : (List UInt8)) (pa : Option Addr) (ca : Nat) (N0 : RdSl (hp w) pa ca a) (b : (List UInt8)) (pb : Option Addr) (cb : Nat) (N1 : RdSl (hp w) pb cb b) (hoka : GoT.ok n a) (hokb : GoT.ok n b) :
  Does Tryz.prog 167 #[.slice pa ((a).length) ca, .slice pb ((b).length) cb] w emp (fun (rv : Value) (_ : World) => rv = .bool (laws_eqByteS a b) ∧ True) := by
 have hbP := bd_pos n
 have hbB := bd_big (n := n) (by omega)
 refine WX.enter (tt := tt) (Γ := [(0, MF.rs .stb pa ca a), (1, MF.rs .stb pb cb b)]) Tryz.func167 rfl (by kernel_rfl) rfl (allS_cons rfl N0 (allS_cons rfl N1 allS_nil)) ?_
 refine R0 ?_
 refine WX.cases 10 rfl (fun h1 => ?_) (fun h1 => ?_)
 ·skip
  have h1d := B.nt' h1
  refine R0 ?_
  have hP1 : laws_eqByteS a b = false := by simp only [laws_eqByteS, h1, ct, cf]
  exact R3 hP1
 ·skip
  have h1d := B.nf' h1
  refine R0 ?_
  have r1 : (a).length ≤ bd n := (okl hoka).1
  refine WX.loop (ι := Nat) ⟨fun i => (i ≤ (a).length) ∧ (laws_eqByteS_L1 b a 0 = laws_eqByteS_L1 b ((a).drop i) i), fun i => (a).length - i, fun i => [(5, .v (.int .i64 (((i : Nat) : Int)))), (0, .v (.slice pa ((a).length) ca)), (1, .v (.slice pb ((b).length) cb))], fun i => [], fun i => [], fun i => [(0, MF.rs .stb pa ca a), (1, MF.rs .stb pb cb b)]⟩ 0 ⟨(Nat.zero_le _), rfl⟩
   (.cons rfl (.cons rfl (.cons rfl (.nil)))) .nil .nil [0, 1] rfl ?_
  rintro i hpre
  have hpre_ : (i ≤ (a).length) ∧ (laws_eqByteS_L1 b a 0 = laws_eqByteS_L1 b ((a).drop i) i) := hpre
  clear hpre
  obtain ⟨v1, v2⟩ := hpre_
  refine R0 ?_
  refine WX.cases 14 rfl (fun h2 => ?_) (fun h2 => ?_)
  ·skip
   have h2d := B.dt h2
   have e1i : i < (a).length := (by omega)
   obtain ⟨e1, e1h⟩ : ∃ e1, (a)[i]? = some e1 := ⟨_, List.getElem?_eq_getElem e1i⟩
   refine R0 ?_
   refine WX.draw [] mixed ?_
   intro bs G0 hΓ0
   refine DX.takes (fuel := 7) ttOk [(0, true), (1, true)] (by kernel_rfl) rfl ?_
   refine DX.idx 2 0 i ttOk hΓ0 (by kernel_rfl) rfl rfl rfl rfl rfl rfl rfl rfl rfl rfl rfl e1i ?_
   rintro ad1 rfl
   refine DX.ldE 3 0 2 e1 ttOk hΓ0 (by kernel_rfl) rfl rfl rfl rfl rfl rfl rfl rfl e1h (fun _ => rfl) (fun _ => rfl) ?_
   rintro ⟨⟩
   refine DX.takes (fuel := 3) ttOk [(4, true), (5, true)] (by kernel_rfl) rfl ?_
   have e2i : i < (b).length := (by first | assumption | omega)
   obtain ⟨e2, e2h⟩ : ∃ e2, (b)[i]? = some e2 := ⟨_, List.getElem?_eq_getElem e2i⟩
   refine DX.idx 6 1 i ttOk hΓ0 (by kernel_rfl) rfl rfl rfl rfl rfl rfl rfl rfl rfl rfl rfl e2i ?_
   rintro ad2 rfl
   refine DX.ldE 7 1 2 e2 ttOk hΓ0 (by kernel_rfl) rfl rfl rfl rfl rfl rfl rfl rfl e2h (fun _ => rfl) (fun _ => rfl) ?_
   rintro ⟨⟩
   refine DX.takes (fuel := 0) ttOk [(8, true)] (by kernel_rfl) rfl ?_
   refine DX.tail2 [] rfl rfl (by kernel_rfl) ?_
   refine R0 ?_
   refine WX.cases 25 rfl (fun h3 => ?_) (fun h3 => ?_)
   ·skip
    have h3d := B.nt' h3
    refine R0 ?_
    have hP2 : laws_eqByteS_L1 b a 0 = (some false) := by rw [v2, drop_get e1h]; simp only [laws_eqByteS_L1, e2h, h3, ct, cf]
    have hP3 : laws_eqByteS a b = false := by simp only [laws_eqByteS, h1, hP2, ct, cf]
    exact R3 hP3
   ·skip
    have h3d := B.nf' h3
    refine R0 ?_
    refine WX.see rfl rfl rfl (fun _ hΓ => looks_arith rfl rfl rfl rfl (by unfold I64; first | omega | (simp only [List.length_take] at *; omega))) ?_
    refine R0 ?_
    exact WX.iter (i + 1) ⟨(by omega), (by rw [v2, drop_get e1h]; simp only [laws_eqByteS_L1, e2h, h3, ct, cf])⟩ (by first | (dsimp only; omega) | omega) (.cons rfl (.cons rfl (.cons rfl (.nil)))) .nil .nil [0, 1] rfl
  ·skip
   have h2d := B.df h2
   refine R0 ?_
   have hX1 : laws_eqByteS_L1 b a 0 = none := by rw [v2, List.drop_eq_nil_of_le (show (a).length ≤ i by omega)]; simp only [laws_eqByteS_L1, ct, cf]
   have hP4 : laws_eqByteS a b = true := by simp only [laws_eqByteS, h1, hX1, ct, cf]
   exact R3 hP4
theorem f72 (w : World) (n : Nat) (hn : n + 0 ≤ 9) (a : DataP) (K0 : Option Addr) (M0 : Nat) (N0 : RdSl (hp w) K0 M0 a.name.parts) (K1 : Option Addr) (M1 : Nat) (N1 : RdSl (hp w) K1 M1 a.content) (K2 : Option Addr) (M2 : Nat) (N2 : RdSl (hp w) K2 M2 a.keyName.parts) (b : DataP) (K3 : Option Addr) (M3 : Nat) (N3 : RdSl (hp w) K3 M3 b.name.parts) (K4 : Option Addr) (M4 : Nat) (N4 : RdSl (hp w) K4 M4 b.content) (K5 : Option Addr) (M5 : Nat) (N5 : RdSl (hp w) K5 M5 b.keyName.parts) (hoka : GoT.ok n a) (hokb : GoT.ok n b) :
  Does Tryz.prog 72 #[.agg #[.slice K0 ((a.name.parts).length) M0, .slice K1 ((a.content).length) M1, .slice K2 ((a.keyName.parts).length) M2, .int .i64 (a.freshUntil), .int .i64 (a.signature)], .agg #[.slice K3 ((b.name.parts).length) M3, .slice K4 ((b.content).length) M4, .slice K5 ((b.keyName.parts).length) M5, .int .i64 (b.freshUntil), .int .i64 (b.signature)]] w emp (fun (rv : Value) (_ : World) => rv = .bool (laws_eqData a b) ∧ True) := by
 have hbP := bd_pos n
 have hbB := bd_big (n := n) (by omega)
 refine WX.enter (tt := tt) (Γ := [(0, MF.rs .stb K0 M0 a.name.parts), (1, MF.rs .stb K1 M1 a.content), (2, MF.rs .stb K2 M2 a.keyName.parts), (3, MF.rs .stb K3 M3 b.name.parts), (4, MF.rs .stb K4 M4 b.content), (5, MF.rs .stb K5 M5 b.keyName.parts)]) Tryz.func72 rfl (by kernel_rfl) rfl (allS_cons rfl N0 (allS_cons rfl N1 (allS_cons rfl N2 (allS_cons rfl N3 (allS_cons rfl N4 (allS_cons rfl N5 allS_nil)))))) ?_
 refine R0 ?_
 refine WX.callV rfl rfl rfl rfl rfl (fun _ => rfl) rfl (fun w G bs hI hΓ => f162 w n (by omega) a.name K0 M0 (hΓ.get 0 rfl) b.name K3 M3 (hΓ.get 3 rfl) ((ok_DataP hoka).1) ((ok_DataP hokb).1)) ?_
 intro hq1
 refine R0 ?_
 refine WX.cases 10 rfl (fun h1 => ?_) (fun h1 => ?_)
 ·skip
  have h1d := (B.nt h1)
  refine R0 ?_
  have hP1 : laws_eqData a b = false := by simp only [laws_eqData, h1, ct, cf]
  exact R3 hP1
 ·skip
  have h1d := (B.nf h1)
  refine R0 ?_
  refine WX.callV rfl rfl rfl rfl rfl (fun _ => rfl) rfl (fun w G bs hI hΓ => f167 w n (by omega) a.content K1 M1 (hΓ.get 1 rfl) b.content K4 M4 (hΓ.get 4 rfl) ((ok_DataP hoka).2.1) ((ok_DataP hokb).2.1)) ?_
  intro hq2
  refine R0 ?_
  refine WX.cases 16 rfl (fun h2 => ?_) (fun h2 => ?_)
  ·skip
   have h2d := (B.nt h2)
   refine R0 ?_
   have hP2 : laws_eqData a b = false := by simp only [laws_eqData, h1, h2, ct, cf]
   exact R3 hP2
  ·skip
   have h2d := (B.nf h2)
   refine R0 ?_
   refine WX.callV rfl rfl rfl rfl rfl (fun _ => rfl) rfl (fun w G bs hI hΓ => f162 w n (by omega) a.keyName K2 M2 (hΓ.get 2 rfl) b.keyName K5 M5 (hΓ.get 5 rfl) ((ok_DataP hoka).2.2.1) ((ok_DataP hokb).2.2.1)) ?_
   intro hq3
   refine R0 ?_
   refine WX.cases 22 rfl (fun h3 => ?_) (fun h3 => ?_)
   ·skip
    have h3d := (B.nt h3)
    refine R0 ?_
    have hP3 : laws_eqData a b = false := by simp only [laws_eqData, h1, h2, h3, ct, cf]
    exact R3 hP3
   ·skip
    have h3d := (B.nf h3)
    refine R0 ?_
    refine WX.cases 27 rfl (fun h4 => ?_) (fun h4 => ?_)
    ·skip
     have h4d := B.nt' h4
     refine R0 ?_
     have hP4 : laws_eqData a b = false := by simp only [laws_eqData, h1, h2, h3, h4, ct, cf]
     exact R3 hP4
    ·skip
     have h4d := B.nf' h4
     refine R0 ?_
     refine WX.cases 32 rfl (fun h5 => ?_) (fun h5 => ?_)
     ·skip
      have h5d := B.nt' h5
      refine R0 ?_
      have hP5 : laws_eqData a b = false := by simp only [laws_eqData, h1, h2, h3, h4, h5, ct, cf]
      exact R3 hP5
     ·skip
      have h5d := B.nf' h5
      refine R0 ?_
      have hP6 : laws_eqData a b = true := by simp only [laws_eqData, h1, h2, h3, h4, h5, ct, cf]
      exact R3 hP6
theorem f70 (w : World) (n : Nat) (hn : n + 0 ≤ 9) (a : Consumer) (K0 : Option Addr) (M0 : Nat) (N0 : RdSl (hp w) K0 M0 a.name.parts) (K1 : Option Addr) (M1 : Nat) (N1 : RdSl (hp w) K1 M1 a.data.name.parts) (K2 : Option Addr) (M2 : Nat) (N2 : RdSl (hp w) K2 M2 a.data.content) (K3 : Option Addr) (M3 : Nat) (N3 : RdSl (hp w) K3 M3 a.data.keyName.parts) (b : Consumer) (K4 : Option Addr) (M4 : Nat) (N4 : RdSl (hp w) K4 M4 b.name.parts) (K5 : Option Addr) (M5 : Nat) (N5 : RdSl (hp w) K5 M5 b.data.name.parts) (K6 : Option Addr) (M6 : Nat) (N6 : RdSl (hp w) K6 M6 b.data.content) (K7 : Option Addr) (M7 : Nat) (N7 : RdSl (hp w) K7 M7 b.data.keyName.parts) (hoka : GoT.ok n a) (hokb : GoT.ok n b) :
  Does Tryz.prog 70 #[.agg #[.int .i64 (a.node), .int .i64 (a.index), .slice K0 ((a.name.parts).length) M0, .int .i64 (a.attempts), .int .i64 (a.wait), .bool a.satisfied, .slice K1 ((a.data.name.parts).length) M1, .slice K2 ((a.data.content).length) M2, .slice K3 ((a.data.keyName.parts).length) M3, .int .i64 (a.data.freshUntil), .int .i64 (a.data.signature)], .agg #[.int .i64 (b.node), .int .i64 (b.index), .slice K4 ((b.name.parts).length) M4, .int .i64 (b.attempts), .int .i64 (b.wait), .bool b.satisfied, .slice K5 ((b.data.name.parts).length) M5, .slice K6 ((b.data.content).length) M6, .slice K7 ((b.data.keyName.parts).length) M7, .int .i64 (b.data.freshUntil), .int .i64 (b.data.signature)]] w emp (fun (rv : Value) (_ : World) => rv = .bool (laws_eqConsumer a b) ∧ True) := by
 have hbP := bd_pos n
 have hbB := bd_big (n := n) (by omega)
 refine WX.enter (tt := tt) (Γ := [(0, MF.rs .stb K0 M0 a.name.parts), (1, MF.rs .stb K1 M1 a.data.name.parts), (2, MF.rs .stb K2 M2 a.data.content), (3, MF.rs .stb K3 M3 a.data.keyName.parts), (4, MF.rs .stb K4 M4 b.name.parts), (5, MF.rs .stb K5 M5 b.data.name.parts), (6, MF.rs .stb K6 M6 b.data.content), (7, MF.rs .stb K7 M7 b.data.keyName.parts)]) Tryz.func70 rfl (by kernel_rfl) rfl (allS_cons rfl N0 (allS_cons rfl N1 (allS_cons rfl N2 (allS_cons rfl N3 (allS_cons rfl N4 (allS_cons rfl N5 (allS_cons rfl N6 (allS_cons rfl N7 allS_nil)))))))) ?_
 refine R0 ?_
 refine WX.cases 9 rfl (fun h1 => ?_) (fun h1 => ?_)
 ·skip
  have h1d := B.nt' h1
  refine R0 ?_
  have hP1 : laws_eqConsumer a b = false := by simp only [laws_eqConsumer, h1, ct, cf]
  exact R3 hP1
 ·skip
  have h1d := B.nf' h1
  refine R0 ?_
  refine WX.cases 14 rfl (fun h2 => ?_) (fun h2 => ?_)
  ·skip
   have h2d := B.nt' h2
   refine R0 ?_
   have hP2 : laws_eqConsumer a b = false := by simp only [laws_eqConsumer, h1, h2, ct, cf]
   exact R3 hP2
  ·skip
   have h2d := B.nf' h2
   refine R0 ?_
   refine WX.callV rfl rfl rfl rfl rfl (fun _ => rfl) rfl (fun w G bs hI hΓ => f162 w n (by omega) a.name K0 M0 (hΓ.get 0 rfl) b.name K4 M4 (hΓ.get 4 rfl) ((ok_Consumer hoka).2.2.1) ((ok_Consumer hokb).2.2.1)) ?_
   intro hq1
   refine R0 ?_
   refine WX.cases 20 rfl (fun h3 => ?_) (fun h3 => ?_)
   ·skip
    have h3d := (B.nt h3)
    refine R0 ?_
    have hP3 : laws_eqConsumer a b = false := by simp only [laws_eqConsumer, h1, h2, h3, ct, cf]
    exact R3 hP3
   ·skip
    have h3d := (B.nf h3)
    refine R0 ?_
    refine WX.cases 25 rfl (fun h4 => ?_) (fun h4 => ?_)
    ·skip
     have h4d := B.nt' h4
     refine R0 ?_
     have hP4 : laws_eqConsumer a b = false := by simp only [laws_eqConsumer, h1, h2, h3, h4, ct, cf]
     exact R3 hP4
    ·skip
     have h4d := B.nf' h4
     refine R0 ?_
     refine WX.cases 30 rfl (fun h5 => ?_) (fun h5 => ?_)
     ·skip
      have h5d := B.nt' h5
      refine R0 ?_
      have hP5 : laws_eqConsumer a b = false := by simp only [laws_eqConsumer, h1, h2, h3, h4, h5, ct, cf]
      exact R3 hP5
     ·skip
      have h5d := B.nf' h5
      refine R0 ?_
      refine WX.see rfl rfl rfl (fun _ hΓ => looks_beq ttOk rfl rfl rfl rfl rfl rfl) ?_
      refine R0 ?_
      refine WX.cases 35 rfl (fun h6 => ?_) (fun h6 => ?_)
      ·skip
       have h6d := (B.nt h6)
       refine R0 ?_
       have hP6 : laws_eqConsumer a b = false := by simp only [laws_eqConsumer, h1, h2, h3, h4, h5, h6, ct, cf]
       exact R3 hP6
      ·skip
       have h6d := (B.nf h6)
       refine R0 ?_
       refine WX.callV rfl rfl rfl rfl rfl (fun _ => rfl) rfl (fun w G bs hI hΓ => f72 w n (by omega) a.data K1 M1 (hΓ.get 1 rfl) K2 M2 (hΓ.get 2 rfl) K3 M3 (hΓ.get 3 rfl) b.data K5 M5 (hΓ.get 5 rfl) K6 M6 (hΓ.get 6 rfl) K7 M7 (hΓ.get 7 rfl) ((ok_Consumer hoka).2.2.2.2.2.2) ((ok_Consumer hokb).2.2.2.2.2.2)) ?_
       intro hq2
       refine R0 ?_
       refine WX.cases 41 rfl (fun h7 => ?_) (fun h7 => ?_)
       ·skip
        have h7d := (B.nt h7)
        refine R0 ?_
        have hP7 : laws_eqConsumer a b = false := by simp only [laws_eqConsumer, h1, h2, h3, h4, h5, h6, h7, ct, cf]
        exact R3 hP7
       ·skip
        have h7d := (B.nf h7)
        refine R0 ?_
        have hP8 : laws_eqConsumer a b = true := by simp only [laws_eqConsumer, h1, h2, h3, h4, h5, h6, h7, ct, cf]
        exact R3 hP8
theorem f256 (w : World) (n : Nat) (hn : n + 0 ≤ 9) (a : Key) (K0 : Option Addr) (M0 : Nat) (N0 : RdSl (hp w) K0 M0 a.name.parts) (b : Key) (K1 : Option Addr) (M1 : Nat) (N1 : RdSl (hp w) K1 M1 b.name.parts) (hoka : GoT.ok n a) (hokb : GoT.ok n b) :
  Does Tryz.prog 256 #[.agg #[.slice K0 ((a.name.parts).length) M0, .int .i64 (a.secret)], .agg #[.slice K1 ((b.name.parts).length) M1, .int .i64 (b.secret)]] w emp (fun (rv : Value) (_ : World) => rv = .bool (laws_eqKey a b) ∧ True) := by
 have hbP := bd_pos n
 have hbB := bd_big (n := n) (by omega)
 refine WX.enter (tt := tt) (Γ := [(0, MF.rs .stb K0 M0 a.name.parts), (1, MF.rs .stb K1 M1 b.name.parts)]) Tryz.func256 rfl (by kernel_rfl) rfl (allS_cons rfl N0 (allS_cons rfl N1 allS_nil)) ?_
 refine R0 ?_
 refine WX.callV rfl rfl rfl rfl rfl (fun _ => rfl) rfl (fun w G bs hI hΓ => f162 w n (by omega) a.name K0 M0 (hΓ.get 0 rfl) b.name K1 M1 (hΓ.get 1 rfl) ((ok_Key hoka).1) ((ok_Key hokb).1)) ?_
 intro hq1
 refine R0 ?_
 refine WX.cases 10 rfl (fun h1 => ?_) (fun h1 => ?_)
 ·skip
  have h1d := (B.nt h1)
  refine R0 ?_
  have hP1 : laws_eqKey a b = false := by simp only [laws_eqKey, h1, ct, cf]
  exact R3 hP1
 ·skip
  have h1d := (B.nf h1)
  refine R0 ?_
  refine WX.cases 15 rfl (fun h2 => ?_) (fun h2 => ?_)
  ·skip
   have h2d := B.nt' h2
   refine R0 ?_
   have hP2 : laws_eqKey a b = false := by simp only [laws_eqKey, h1, h2, ct, cf]
   exact R3 hP2
  ·skip
   have h2d := B.nf' h2
   refine R0 ?_
   have hP3 : laws_eqKey a b = true := by simp only [laws_eqKey, h1, h2, ct, cf]
   exact R3 hP3
theorem f163 (w : World) (n : Nat) (hn : n + 0 ≤ 9) (a : (List Key)) (pa : Option Addr) (ca : Nat) (N0 : RdSl (hp w) pa ca a) (b : (List Key)) (pb : Option Addr) (cb : Nat) (N1 : RdSl (hp w) pb cb b) (hoka : GoT.ok n a) (hokb : GoT.ok n b) :
  Does Tryz.prog 163 #[.slice pa ((a).length) ca, .slice pb ((b).length) cb] w emp (fun (rv : Value) (_ : World) => rv = .bool (laws_eqKeyS a b) ∧ True) := by
 have hbP := bd_pos n
 have hbB := bd_big (n := n) (by omega)
 refine WX.enter (tt := tt) (Γ := [(0, MF.rs .stb pa ca a), (1, MF.rs .stb pb cb b)]) Tryz.func163 rfl (by kernel_rfl) rfl (allS_cons rfl N0 (allS_cons rfl N1 allS_nil)) ?_
 refine R0 ?_
 refine WX.cases 10 rfl (fun h1 => ?_) (fun h1 => ?_)
 ·skip
  have h1d := B.nt' h1
  refine R0 ?_
  have hP1 : laws_eqKeyS a b = false := by simp only [laws_eqKeyS, h1, ct, cf]
  exact R3 hP1
 ·skip
  have h1d := B.nf' h1
  refine R0 ?_
  have r1 : (a).length ≤ bd n := (okl hoka).1
  refine WX.loop (ι := Nat) ⟨fun i => (i ≤ (a).length) ∧ (laws_eqKeyS_L1 b a 0 = laws_eqKeyS_L1 b ((a).drop i) i), fun i => (a).length - i, fun i => [(5, .v (.int .i64 (((i : Nat) : Int)))), (0, .v (.slice pa ((a).length) ca)), (1, .v (.slice pb ((b).length) cb))], fun i => [], fun i => [], fun i => [(0, MF.rs .stb pa ca a), (1, MF.rs .stb pb cb b)]⟩ 0 ⟨(Nat.zero_le _), rfl⟩
   (.cons rfl (.cons rfl (.cons rfl (.nil)))) .nil .nil [0, 1] rfl ?_
  rintro i hpre
  have hpre_ : (i ≤ (a).length) ∧ (laws_eqKeyS_L1 b a 0 = laws_eqKeyS_L1 b ((a).drop i) i) := hpre
  clear hpre
  obtain ⟨v1, v2⟩ := hpre_
  refine R0 ?_
  refine WX.cases 14 rfl (fun h2 => ?_) (fun h2 => ?_)
  ·skip
   have h2d := B.dt h2
   have e1i : i < (a).length := (by omega)
   obtain ⟨e1, e1h⟩ : ∃ e1, (a)[i]? = some e1 := ⟨_, List.getElem?_eq_getElem e1i⟩
   have ok1 : GoT.ok n e1 := (okl hoka).2 _ (List.mem_of_getElem? e1h)
   refine R0 ?_
   refine WX.draw [] mixed ?_
   intro bs G0 hΓ0
   refine DX.takes (fuel := 8) ttOk [(0, true), (1, true)] (by kernel_rfl) rfl ?_
   refine DX.idx 2 0 i ttOk hΓ0 (by kernel_rfl) rfl rfl rfl rfl rfl rfl rfl rfl rfl rfl rfl e1i ?_
   rintro ad1 rfl
   refine DX.ldE 3 0 2 e1 ttOk hΓ0 (by kernel_rfl) rfl rfl rfl rfl rfl rfl rfl rfl e1h (fun _ => rfl) (fun _ => rfl) ?_
   rintro ⟨⟨p1, c1⟩, ⟨⟩⟩
   refine DX.takes (fuel := 4) ttOk [(4, true), (5, true)] (by kernel_rfl) rfl ?_
   have e2i : i < (b).length := (by first | assumption | omega)
   obtain ⟨e2, e2h⟩ : ∃ e2, (b)[i]? = some e2 := ⟨_, List.getElem?_eq_getElem e2i⟩
   have ok2 : GoT.ok n e2 := (okl hokb).2 _ (List.mem_of_getElem? e2h)
   refine DX.idx 6 1 i ttOk hΓ0 (by kernel_rfl) rfl rfl rfl rfl rfl rfl rfl rfl rfl rfl rfl e2i ?_
   rintro ad2 rfl
   refine DX.ldE 7 1 3 e2 ttOk hΓ0 (by kernel_rfl) rfl rfl rfl rfl rfl rfl rfl rfl e2h (fun _ => rfl) (fun _ => rfl) ?_
   rintro ⟨⟨p2, c2⟩, ⟨⟩⟩
   refine DX.callV 8 rfl (by kernel_rfl) rfl rfl rfl rfl rfl rfl (fun _ => rfl) rfl (fun w G bs hI hΓ => f256 w n (by omega) e1 p1 c1 (hΓ.get 2 rfl) e2 p2 c2 (hΓ.get 3 rfl) ok1 ok2) ?_
   intro hq1
   refine DX.takes (fuel := 0) ttOk [(9, true)] (by kernel_rfl) rfl ?_
   refine DX.tail2 [] rfl rfl (by kernel_rfl) ?_
   refine R0 ?_
   refine WX.cases 26 rfl (fun h3 => ?_) (fun h3 => ?_)
   ·skip
    have h3d := (B.nt h3)
    refine R0 ?_
    have hP2 : laws_eqKeyS_L1 b a 0 = (some false) := by rw [v2, drop_get e1h]; simp only [laws_eqKeyS_L1, e2h, h3, ct, cf]
    have hP3 : laws_eqKeyS a b = false := by simp only [laws_eqKeyS, h1, hP2, ct, cf]
    exact R3 hP3
   ·skip
    have h3d := (B.nf h3)
    refine R0 ?_
    refine WX.see rfl rfl rfl (fun _ hΓ => looks_arith rfl rfl rfl rfl (by unfold I64; first | omega | (simp only [List.length_take] at *; omega))) ?_
    refine R0 ?_
    exact WX.iter (i + 1) ⟨(by omega), (by rw [v2, drop_get e1h]; simp only [laws_eqKeyS_L1, e2h, h3, ct, cf])⟩ (by first | (dsimp only; omega) | omega) (.cons rfl (.cons rfl (.cons rfl (.nil)))) .nil .nil [0, 1] rfl
  ·skip
   have h2d := B.df h2
   refine R0 ?_
   have hX1 : laws_eqKeyS_L1 b a 0 = none := by rw [v2, List.drop_eq_nil_of_le (show (a).length ≤ i by omega)]; simp only [laws_eqKeyS_L1, ct, cf]
   have hP4 : laws_eqKeyS a b = true := by simp only [laws_eqKeyS, h1, hX1, ct, cf]
   exact R3 hP4
theorem f317 (w : World) (n : Nat) (hn : n + 0 ≤ 9) (a : Pattern) (pa : Option Addr) (ca : Nat) (N0 : RdSl (hp w) pa ca a.parts) (b : Pattern) (pb : Option Addr) (cb : Nat) (N1 : RdSl (hp w) pb cb b.parts) (hoka : GoT.ok n a) (hokb : GoT.ok n b) :
  Does Tryz.prog 317 #[.agg #[.slice pa ((a.parts).length) ca], .agg #[.slice pb ((b.parts).length) cb]] w emp (fun (rv : Value) (_ : World) => rv = .bool (laws_eqPattern a b) ∧ True) := by
 have hbP := bd_pos n
 have hbB := bd_big (n := n) (by omega)
 refine WX.enter (tt := tt) (Γ := [(0, MF.rs .stb pa ca a.parts), (1, MF.rs .stb pb cb b.parts)]) Tryz.func317 rfl (by kernel_rfl) rfl (allS_cons rfl N0 (allS_cons rfl N1 allS_nil)) ?_
 refine R0 ?_
 refine WX.callV rfl rfl rfl rfl rfl (fun _ => rfl) rfl (fun w G bs hI hΓ => f255 w n (by omega) a.parts pa ca (hΓ.get 0 rfl) b.parts pb cb (hΓ.get 1 rfl) (ok_Pattern hoka) (ok_Pattern hokb)) ?_
 intro hq1
 refine R0 ?_
 refine WX.cases 10 rfl (fun h1 => ?_) (fun h1 => ?_)
 ·skip
  have h1d := (B.nt h1)
  refine R0 ?_
  have hP1 : laws_eqPattern a b = false := by simp only [laws_eqPattern, h1, ct, cf]
  exact R3 hP1
 ·skip
  have h1d := (B.nf h1)
  refine R0 ?_
  have hP2 : laws_eqPattern a b = true := by simp only [laws_eqPattern, h1, ct, cf]
  exact R3 hP2
theorem f257 (w : World) (n : Nat) (hn : n + 0 ≤ 9) (a : Rule) (K0 : Option Addr) (M0 : Nat) (N0 : RdSl (hp w) K0 M0 a.dataPattern.parts) (K1 : Option Addr) (M1 : Nat) (N1 : RdSl (hp w) K1 M1 a.keyPattern.parts) (b : Rule) (K2 : Option Addr) (M2 : Nat) (N2 : RdSl (hp w) K2 M2 b.dataPattern.parts) (K3 : Option Addr) (M3 : Nat) (N3 : RdSl (hp w) K3 M3 b.keyPattern.parts) (hoka : GoT.ok n a) (hokb : GoT.ok n b) :
  Does Tryz.prog 257 #[.agg #[.slice K0 ((a.dataPattern.parts).length) M0, .slice K1 ((a.keyPattern.parts).length) M1], .agg #[.slice K2 ((b.dataPattern.parts).length) M2, .slice K3 ((b.keyPattern.parts).length) M3]] w emp (fun (rv : Value) (_ : World) => rv = .bool (laws_eqRule a b) ∧ True) := by
 have hbP := bd_pos n
 have hbB := bd_big (n := n) (by omega)
 refine WX.enter (tt := tt) (Γ := [(0, MF.rs .stb K0 M0 a.dataPattern.parts), (1, MF.rs .stb K1 M1 a.keyPattern.parts), (2, MF.rs .stb K2 M2 b.dataPattern.parts), (3, MF.rs .stb K3 M3 b.keyPattern.parts)]) Tryz.func257 rfl (by kernel_rfl) rfl (allS_cons rfl N0 (allS_cons rfl N1 (allS_cons rfl N2 (allS_cons rfl N3 allS_nil)))) ?_
 refine R0 ?_
 refine WX.callV rfl rfl rfl rfl rfl (fun _ => rfl) rfl (fun w G bs hI hΓ => f317 w n (by omega) a.dataPattern K0 M0 (hΓ.get 0 rfl) b.dataPattern K2 M2 (hΓ.get 2 rfl) ((ok_Rule hoka).1) ((ok_Rule hokb).1)) ?_
 intro hq1
 refine R0 ?_
 refine WX.cases 10 rfl (fun h1 => ?_) (fun h1 => ?_)
 ·skip
  have h1d := (B.nt h1)
  refine R0 ?_
  have hP1 : laws_eqRule a b = false := by simp only [laws_eqRule, h1, ct, cf]
  exact R3 hP1
 ·skip
  have h1d := (B.nf h1)
  refine R0 ?_
  refine WX.callV rfl rfl rfl rfl rfl (fun _ => rfl) rfl (fun w G bs hI hΓ => f317 w n (by omega) a.keyPattern K1 M1 (hΓ.get 1 rfl) b.keyPattern K3 M3 (hΓ.get 3 rfl) ((ok_Rule hoka).2) ((ok_Rule hokb).2)) ?_
  intro hq2
  refine R0 ?_
  refine WX.cases 16 rfl (fun h2 => ?_) (fun h2 => ?_)
  ·skip
   have h2d := (B.nt h2)
   refine R0 ?_
   have hP2 : laws_eqRule a b = false := by simp only [laws_eqRule, h1, h2, ct, cf]
   exact R3 hP2
  ·skip
   have h2d := (B.nf h2)
   refine R0 ?_
   have hP3 : laws_eqRule a b = true := by simp only [laws_eqRule, h1, h2, ct, cf]
   exact R3 hP3
theorem f164 (w : World) (n : Nat) (hn : n + 0 ≤ 9) (a : (List Rule)) (pa : Option Addr) (ca : Nat) (N0 : RdSl (hp w) pa ca a) (b : (List Rule)) (pb : Option Addr) (cb : Nat) (N1 : RdSl (hp w) pb cb b) (hoka : GoT.ok n a) (hokb : GoT.ok n b) :
  Does Tryz.prog 164 #[.slice pa ((a).length) ca, .slice pb ((b).length) cb] w emp (fun (rv : Value) (_ : World) => rv = .bool (laws_eqRuleS a b) ∧ True) := by
 have hbP := bd_pos n
 have hbB := bd_big (n := n) (by omega)
 refine WX.enter (tt := tt) (Γ := [(0, MF.rs .stb pa ca a), (1, MF.rs .stb pb cb b)]) Tryz.func164 rfl (by kernel_rfl) rfl (allS_cons rfl N0 (allS_cons rfl N1 allS_nil)) ?_
 refine R0 ?_
 refine WX.cases 10 rfl (fun h1 => ?_) (fun h1 => ?_)
 ·skip
  have h1d := B.nt' h1
  refine R0 ?_
  have hP1 : laws_eqRuleS a b = false := by simp only [laws_eqRuleS, h1, ct, cf]
  exact R3 hP1
 ·skip
  have h1d := B.nf' h1
  refine R0 ?_
  have r1 : (a).length ≤ bd n := (okl hoka).1
  refine WX.loop (ι := Nat) ⟨fun i => (i ≤ (a).length) ∧ (laws_eqRuleS_L1 b a 0 = laws_eqRuleS_L1 b ((a).drop i) i), fun i => (a).length - i, fun i => [(5, .v (.int .i64 (((i : Nat) : Int)))), (0, .v (.slice pa ((a).length) ca)), (1, .v (.slice pb ((b).length) cb))], fun i => [], fun i => [], fun i => [(0, MF.rs .stb pa ca a), (1, MF.rs .stb pb cb b)]⟩ 0 ⟨(Nat.zero_le _), rfl⟩
   (.cons rfl (.cons rfl (.cons rfl (.nil)))) .nil .nil [0, 1] rfl ?_
  rintro i hpre
  have hpre_ : (i ≤ (a).length) ∧ (laws_eqRuleS_L1 b a 0 = laws_eqRuleS_L1 b ((a).drop i) i) := hpre
  clear hpre
  obtain ⟨v1, v2⟩ := hpre_
  refine R0 ?_
  refine WX.cases 14 rfl (fun h2 => ?_) (fun h2 => ?_)
  ·skip
   have h2d := B.dt h2
   have e1i : i < (a).length := (by omega)
   obtain ⟨e1, e1h⟩ : ∃ e1, (a)[i]? = some e1 := ⟨_, List.getElem?_eq_getElem e1i⟩
   have ok1 : GoT.ok n e1 := (okl hoka).2 _ (List.mem_of_getElem? e1h)
   refine R0 ?_
   refine WX.draw [] mixed ?_
   intro bs G0 hΓ0
   refine DX.takes (fuel := 8) ttOk [(0, true), (1, true)] (by kernel_rfl) rfl ?_
   refine DX.idx 2 0 i ttOk hΓ0 (by kernel_rfl) rfl rfl rfl rfl rfl rfl rfl rfl rfl rfl rfl e1i ?_
   rintro ad1 rfl
   refine DX.ldE 3 0 2 e1 ttOk hΓ0 (by kernel_rfl) rfl rfl rfl rfl rfl rfl rfl rfl e1h (fun _ => rfl) (fun _ => rfl) ?_
   rintro ⟨⟨p1, c1⟩, ⟨p2, c2⟩⟩
   refine DX.takes (fuel := 4) ttOk [(4, true), (5, true)] (by kernel_rfl) rfl ?_
   have e2i : i < (b).length := (by first | assumption | omega)
   obtain ⟨e2, e2h⟩ : ∃ e2, (b)[i]? = some e2 := ⟨_, List.getElem?_eq_getElem e2i⟩
   have ok2 : GoT.ok n e2 := (okl hokb).2 _ (List.mem_of_getElem? e2h)
   refine DX.idx 6 1 i ttOk hΓ0 (by kernel_rfl) rfl rfl rfl rfl rfl rfl rfl rfl rfl rfl rfl e2i ?_
   rintro ad2 rfl
   refine DX.ldE 7 1 4 e2 ttOk hΓ0 (by kernel_rfl) rfl rfl rfl rfl rfl rfl rfl rfl e2h (fun _ => rfl) (fun _ => rfl) ?_
   rintro ⟨⟨p3, c3⟩, ⟨p4, c4⟩⟩
   refine DX.callV 8 rfl (by kernel_rfl) rfl rfl rfl rfl rfl rfl (fun _ => rfl) rfl (fun w G bs hI hΓ => f257 w n (by omega) e1 p1 c1 (hΓ.get 2 rfl) p2 c2 (hΓ.get 3 rfl) e2 p3 c3 (hΓ.get 4 rfl) p4 c4 (hΓ.get 5 rfl) ok1 ok2) ?_
   intro hq1
   refine DX.takes (fuel := 0) ttOk [(9, true)] (by kernel_rfl) rfl ?_
   refine DX.tail2 [] rfl rfl (by kernel_rfl) ?_
   refine R0 ?_
   refine WX.cases 26 rfl (fun h3 => ?_) (fun h3 => ?_)
   ·skip
    have h3d := (B.nt h3)
    refine R0 ?_
    have hP2 : laws_eqRuleS_L1 b a 0 = (some false) := by rw [v2, drop_get e1h]; simp only [laws_eqRuleS_L1, e2h, h3, ct, cf]
    have hP3 : laws_eqRuleS a b = false := by simp only [laws_eqRuleS, h1, hP2, ct, cf]
    exact R3 hP3
   ·skip
    have h3d := (B.nf h3)
    refine R0 ?_
    refine WX.see rfl rfl rfl (fun _ hΓ => looks_arith rfl rfl rfl rfl (by unfold I64; first | omega | (simp only [List.length_take] at *; omega))) ?_
    refine R0 ?_
    exact WX.iter (i + 1) ⟨(by omega), (by rw [v2, drop_get e1h]; simp only [laws_eqRuleS_L1, e2h, h3, ct, cf])⟩ (by first | (dsimp only; omega) | omega) (.cons rfl (.cons rfl (.cons rfl (.nil)))) .nil .nil [0, 1] rfl
  ·skip
   have h2d := B.df h2
   refine R0 ?_
   have hX1 : laws_eqRuleS_L1 b a 0 = none := by rw [v2, List.drop_eq_nil_of_le (show (a).length ≤ i by omega)]; simp only [laws_eqRuleS_L1, ct, cf]
   have hP4 : laws_eqRuleS a b = true := by simp only [laws_eqRuleS, h1, hX1, ct, cf]
   exact R3 hP4
theorem f165 (w : World) (n : Nat) (hn : n + 0 ≤ 9) (a : (List Name)) (pa : Option Addr) (ca : Nat) (N0 : RdSl (hp w) pa ca a) (b : (List Name)) (pb : Option Addr) (cb : Nat) (N1 : RdSl (hp w) pb cb b) (hoka : GoT.ok n a) (hokb : GoT.ok n b) :
  Does Tryz.prog 165 #[.slice pa ((a).length) ca, .slice pb ((b).length) cb] w emp (fun (rv : Value) (_ : World) => rv = .bool (laws_eqNameS a b) ∧ True) := by
 have hbP := bd_pos n
 have hbB := bd_big (n := n) (by omega)
 refine WX.enter (tt := tt) (Γ := [(0, MF.rs .stb pa ca a), (1, MF.rs .stb pb cb b)]) Tryz.func165 rfl (by kernel_rfl) rfl (allS_cons rfl N0 (allS_cons rfl N1 allS_nil)) ?_
 refine R0 ?_
 refine WX.cases 10 rfl (fun h1 => ?_) (fun h1 => ?_)
 ·skip
  have h1d := B.nt' h1
  refine R0 ?_
  have hP1 : laws_eqNameS a b = false := by simp only [laws_eqNameS, h1, ct, cf]
  exact R3 hP1
 ·skip
  have h1d := B.nf' h1
  refine R0 ?_
  have r1 : (a).length ≤ bd n := (okl hoka).1
  refine WX.loop (ι := Nat) ⟨fun i => (i ≤ (a).length) ∧ (laws_eqNameS_L1 b a 0 = laws_eqNameS_L1 b ((a).drop i) i), fun i => (a).length - i, fun i => [(5, .v (.int .i64 (((i : Nat) : Int)))), (0, .v (.slice pa ((a).length) ca)), (1, .v (.slice pb ((b).length) cb))], fun i => [], fun i => [], fun i => [(0, MF.rs .stb pa ca a), (1, MF.rs .stb pb cb b)]⟩ 0 ⟨(Nat.zero_le _), rfl⟩
   (.cons rfl (.cons rfl (.cons rfl (.nil)))) .nil .nil [0, 1] rfl ?_
  rintro i hpre
  have hpre_ : (i ≤ (a).length) ∧ (laws_eqNameS_L1 b a 0 = laws_eqNameS_L1 b ((a).drop i) i) := hpre
  clear hpre
  obtain ⟨v1, v2⟩ := hpre_
  refine R0 ?_
  refine WX.cases 14 rfl (fun h2 => ?_) (fun h2 => ?_)
  ·skip
   have h2d := B.dt h2
   have e1i : i < (a).length := (by omega)
   obtain ⟨e1, e1h⟩ : ∃ e1, (a)[i]? = some e1 := ⟨_, List.getElem?_eq_getElem e1i⟩
   have ok1 : GoT.ok n e1 := (okl hoka).2 _ (List.mem_of_getElem? e1h)
   refine R0 ?_
   refine WX.draw [] mixed ?_
   intro bs G0 hΓ0
   refine DX.takes (fuel := 8) ttOk [(0, true), (1, true)] (by kernel_rfl) rfl ?_
   refine DX.idx 2 0 i ttOk hΓ0 (by kernel_rfl) rfl rfl rfl rfl rfl rfl rfl rfl rfl rfl rfl e1i ?_
   rintro ad1 rfl
   refine DX.ldE 3 0 2 e1 ttOk hΓ0 (by kernel_rfl) rfl rfl rfl rfl rfl rfl rfl rfl e1h (fun _ => rfl) (fun _ => rfl) ?_
   rintro ⟨p1, c1⟩
   refine DX.takes (fuel := 4) ttOk [(4, true), (5, true)] (by kernel_rfl) rfl ?_
   have e2i : i < (b).length := (by first | assumption | omega)
   obtain ⟨e2, e2h⟩ : ∃ e2, (b)[i]? = some e2 := ⟨_, List.getElem?_eq_getElem e2i⟩
   have ok2 : GoT.ok n e2 := (okl hokb).2 _ (List.mem_of_getElem? e2h)
   refine DX.idx 6 1 i ttOk hΓ0 (by kernel_rfl) rfl rfl rfl rfl rfl rfl rfl rfl rfl rfl rfl e2i ?_
   rintro ad2 rfl
   refine DX.ldE 7 1 3 e2 ttOk hΓ0 (by kernel_rfl) rfl rfl rfl rfl rfl rfl rfl rfl e2h (fun _ => rfl) (fun _ => rfl) ?_
   rintro ⟨p2, c2⟩
   refine DX.callV 8 rfl (by kernel_rfl) rfl rfl rfl rfl rfl rfl (fun _ => rfl) rfl (fun w G bs hI hΓ => f162 w n (by omega) e1 p1 c1 (hΓ.get 2 rfl) e2 p2 c2 (hΓ.get 3 rfl) ok1 ok2) ?_
   intro hq1
   refine DX.takes (fuel := 0) ttOk [(9, true)] (by kernel_rfl) rfl ?_
   refine DX.tail2 [] rfl rfl (by kernel_rfl) ?_
   refine R0 ?_
   refine WX.cases 26 rfl (fun h3 => ?_) (fun h3 => ?_)
   ·skip
    have h3d := (B.nt h3)
    refine R0 ?_
    have hP2 : laws_eqNameS_L1 b a 0 = (some false) := by rw [v2, drop_get e1h]; simp only [laws_eqNameS_L1, e2h, h3, ct, cf]
    have hP3 : laws_eqNameS a b = false := by simp only [laws_eqNameS, h1, hP2, ct, cf]
    exact R3 hP3
   ·skip
    have h3d := (B.nf h3)
    refine R0 ?_
    refine WX.see rfl rfl rfl (fun _ hΓ => looks_arith rfl rfl rfl rfl (by unfold I64; first | omega | (simp only [List.length_take] at *; omega))) ?_
    refine R0 ?_
    exact WX.iter (i + 1) ⟨(by omega), (by rw [v2, drop_get e1h]; simp only [laws_eqNameS_L1, e2h, h3, ct, cf])⟩ (by first | (dsimp only; omega) | omega) (.cons rfl (.cons rfl (.cons rfl (.nil)))) .nil .nil [0, 1] rfl
  ·skip
   have h2d := B.df h2
   refine R0 ?_
   have hX1 : laws_eqNameS_L1 b a 0 = none := by rw [v2, List.drop_eq_nil_of_le (show (a).length ≤ i by omega)]; simp only [laws_eqNameS_L1, ct, cf]
   have hP4 : laws_eqNameS a b = true := by simp only [laws_eqNameS, h1, hX1, ct, cf]
   exact R3 hP4
theorem f166 (w : World) (n : Nat) (hn : n + 0 ≤ 9) (a : (List DataP)) (pa : Option Addr) (ca : Nat) (N0 : RdSl (hp w) pa ca a) (b : (List DataP)) (pb : Option Addr) (cb : Nat) (N1 : RdSl (hp w) pb cb b) (hoka : GoT.ok n a) (hokb : GoT.ok n b) :
  Does Tryz.prog 166 #[.slice pa ((a).length) ca, .slice pb ((b).length) cb] w emp (fun (rv : Value) (_ : World) => rv = .bool (laws_eqDataS a b) ∧ True) := by
 have hbP := bd_pos n
 have hbB := bd_big (n := n) (by omega)
 refine WX.enter (tt := tt) (Γ := [(0, MF.rs .stb pa ca a), (1, MF.rs .stb pb cb b)]) Tryz.func166 rfl (by kernel_rfl) rfl (allS_cons rfl N0 (allS_cons rfl N1 allS_nil)) ?_
 refine R0 ?_
 refine WX.cases 10 rfl (fun h1 => ?_) (fun h1 => ?_)
 ·skip
  have h1d := B.nt' h1
  refine R0 ?_
  have hP1 : laws_eqDataS a b = false := by simp only [laws_eqDataS, h1, ct, cf]
  exact R3 hP1
 ·skip
  have h1d := B.nf' h1
  refine R0 ?_
  have r1 : (a).length ≤ bd n := (okl hoka).1
  refine WX.loop (ι := Nat) ⟨fun i => (i ≤ (a).length) ∧ (laws_eqDataS_L1 b a 0 = laws_eqDataS_L1 b ((a).drop i) i), fun i => (a).length - i, fun i => [(5, .v (.int .i64 (((i : Nat) : Int)))), (0, .v (.slice pa ((a).length) ca)), (1, .v (.slice pb ((b).length) cb))], fun i => [], fun i => [], fun i => [(0, MF.rs .stb pa ca a), (1, MF.rs .stb pb cb b)]⟩ 0 ⟨(Nat.zero_le _), rfl⟩
   (.cons rfl (.cons rfl (.cons rfl (.nil)))) .nil .nil [0, 1] rfl ?_
  rintro i hpre
  have hpre_ : (i ≤ (a).length) ∧ (laws_eqDataS_L1 b a 0 = laws_eqDataS_L1 b ((a).drop i) i) := hpre
  clear hpre
  obtain ⟨v1, v2⟩ := hpre_
  refine R0 ?_
  refine WX.cases 14 rfl (fun h2 => ?_) (fun h2 => ?_)
  ·skip
   have h2d := B.dt h2
   have e1i : i < (a).length := (by omega)
   obtain ⟨e1, e1h⟩ : ∃ e1, (a)[i]? = some e1 := ⟨_, List.getElem?_eq_getElem e1i⟩
   have ok1 : GoT.ok n e1 := (okl hoka).2 _ (List.mem_of_getElem? e1h)
   refine R0 ?_
   refine WX.draw [] mixed ?_
   intro bs G0 hΓ0
   refine DX.takes (fuel := 8) ttOk [(0, true), (1, true)] (by kernel_rfl) rfl ?_
   refine DX.idx 2 0 i ttOk hΓ0 (by kernel_rfl) rfl rfl rfl rfl rfl rfl rfl rfl rfl rfl rfl e1i ?_
   rintro ad1 rfl
   refine DX.ldE 3 0 2 e1 ttOk hΓ0 (by kernel_rfl) rfl rfl rfl rfl rfl rfl rfl rfl e1h (fun _ => rfl) (fun _ => rfl) ?_
   rintro ⟨⟨p1, c1⟩, ⟨p2, c2⟩, ⟨p3, c3⟩, ⟨⟩, ⟨⟩⟩
   refine DX.takes (fuel := 4) ttOk [(4, true), (5, true)] (by kernel_rfl) rfl ?_
   have e2i : i < (b).length := (by first | assumption | omega)
   obtain ⟨e2, e2h⟩ : ∃ e2, (b)[i]? = some e2 := ⟨_, List.getElem?_eq_getElem e2i⟩
   have ok2 : GoT.ok n e2 := (okl hokb).2 _ (List.mem_of_getElem? e2h)
   refine DX.idx 6 1 i ttOk hΓ0 (by kernel_rfl) rfl rfl rfl rfl rfl rfl rfl rfl rfl rfl rfl e2i ?_
   rintro ad2 rfl
   refine DX.ldE 7 1 5 e2 ttOk hΓ0 (by kernel_rfl) rfl rfl rfl rfl rfl rfl rfl rfl e2h (fun _ => rfl) (fun _ => rfl) ?_
   rintro ⟨⟨p4, c4⟩, ⟨p5, c5⟩, ⟨p6, c6⟩, ⟨⟩, ⟨⟩⟩
   refine DX.callV 8 rfl (by kernel_rfl) rfl rfl rfl rfl rfl rfl (fun _ => rfl) rfl (fun w G bs hI hΓ => f72 w n (by omega) e1 p1 c1 (hΓ.get 2 rfl) p2 c2 (hΓ.get 3 rfl) p3 c3 (hΓ.get 4 rfl) e2 p4 c4 (hΓ.get 5 rfl) p5 c5 (hΓ.get 6 rfl) p6 c6 (hΓ.get 7 rfl) ok1 ok2) ?_
   intro hq1
   refine DX.takes (fuel := 0) ttOk [(9, true)] (by kernel_rfl) rfl ?_
   refine DX.tail2 [] rfl rfl (by kernel_rfl) ?_
   refine R0 ?_
   refine WX.cases 26 rfl (fun h3 => ?_) (fun h3 => ?_)
   ·skip
    have h3d := (B.nt h3)
    refine R0 ?_
    have hP2 : laws_eqDataS_L1 b a 0 = (some false) := by rw [v2, drop_get e1h]; simp only [laws_eqDataS_L1, e2h, h3, ct, cf]
    have hP3 : laws_eqDataS a b = false := by simp only [laws_eqDataS, h1, hP2, ct, cf]
    exact R3 hP3
   ·skip
    have h3d := (B.nf h3)
    refine R0 ?_
    refine WX.see rfl rfl rfl (fun _ hΓ => looks_arith rfl rfl rfl rfl (by unfold I64; first | omega | (simp only [List.length_take] at *; omega))) ?_
    refine R0 ?_
    exact WX.iter (i + 1) ⟨(by omega), (by rw [v2, drop_get e1h]; simp only [laws_eqDataS_L1, e2h, h3, ct, cf])⟩ (by first | (dsimp only; omega) | omega) (.cons rfl (.cons rfl (.cons rfl (.nil)))) .nil .nil [0, 1] rfl
  ·skip
   have h2d := B.df h2
   refine R0 ?_
   have hX1 : laws_eqDataS_L1 b a 0 = none := by rw [v2, List.drop_eq_nil_of_le (show (a).length ≤ i by omega)]; simp only [laws_eqDataS_L1, ct, cf]
   have hP4 : laws_eqDataS a b = true := by simp only [laws_eqDataS, h1, hX1, ct, cf]
   exact R3 hP4
theorem f71 (w : World) (n : Nat) (hn : n + 0 ≤ 9) (a : TrustPolicy) (K0 : Option Addr) (M0 : Nat) (N0 : RdSl (hp w) K0 M0 a.keys) (K1 : Option Addr) (M1 : Nat) (N1 : RdSl (hp w) K1 M1 a.rules) (K2 : Option Addr) (M2 : Nat) (N2 : RdSl (hp w) K2 M2 a.anchors) (K3 : Option Addr) (M3 : Nat) (N3 : RdSl (hp w) K3 M3 a.certificates) (b : TrustPolicy) (K4 : Option Addr) (M4 : Nat) (N4 : RdSl (hp w) K4 M4 b.keys) (K5 : Option Addr) (M5 : Nat) (N5 : RdSl (hp w) K5 M5 b.rules) (K6 : Option Addr) (M6 : Nat) (N6 : RdSl (hp w) K6 M6 b.anchors) (K7 : Option Addr) (M7 : Nat) (N7 : RdSl (hp w) K7 M7 b.certificates) (hoka : GoT.ok n a) (hokb : GoT.ok n b) :
  Does Tryz.prog 71 #[.agg #[.slice K0 ((a.keys).length) M0, .slice K1 ((a.rules).length) M1, .slice K2 ((a.anchors).length) M2, .slice K3 ((a.certificates).length) M3], .agg #[.slice K4 ((b.keys).length) M4, .slice K5 ((b.rules).length) M5, .slice K6 ((b.anchors).length) M6, .slice K7 ((b.certificates).length) M7]] w emp (fun (rv : Value) (_ : World) => rv = .bool (laws_eqTrustPolicy a b) ∧ True) := by
 have hbP := bd_pos n
 have hbB := bd_big (n := n) (by omega)
 refine WX.enter (tt := tt) (Γ := [(0, MF.rs .stb K0 M0 a.keys), (1, MF.rs .stb K1 M1 a.rules), (2, MF.rs .stb K2 M2 a.anchors), (3, MF.rs .stb K3 M3 a.certificates), (4, MF.rs .stb K4 M4 b.keys), (5, MF.rs .stb K5 M5 b.rules), (6, MF.rs .stb K6 M6 b.anchors), (7, MF.rs .stb K7 M7 b.certificates)]) Tryz.func71 rfl (by kernel_rfl) rfl (allS_cons rfl N0 (allS_cons rfl N1 (allS_cons rfl N2 (allS_cons rfl N3 (allS_cons rfl N4 (allS_cons rfl N5 (allS_cons rfl N6 (allS_cons rfl N7 allS_nil)))))))) ?_
 refine R0 ?_
 refine WX.callV rfl rfl rfl rfl rfl (fun _ => rfl) rfl (fun w G bs hI hΓ => f163 w n (by omega) a.keys K0 M0 (hΓ.get 0 rfl) b.keys K4 M4 (hΓ.get 4 rfl) ((ok_TrustPolicy hoka).1) ((ok_TrustPolicy hokb).1)) ?_
 intro hq1
 refine R0 ?_
 refine WX.cases 10 rfl (fun h1 => ?_) (fun h1 => ?_)
 ·skip
  have h1d := (B.nt h1)
  refine R0 ?_
  have hP1 : laws_eqTrustPolicy a b = false := by simp only [laws_eqTrustPolicy, h1, ct, cf]
  exact R3 hP1
 ·skip
  have h1d := (B.nf h1)
  refine R0 ?_
  refine WX.callV rfl rfl rfl rfl rfl (fun _ => rfl) rfl (fun w G bs hI hΓ => f164 w n (by omega) a.rules K1 M1 (hΓ.get 1 rfl) b.rules K5 M5 (hΓ.get 5 rfl) ((ok_TrustPolicy hoka).2.1) ((ok_TrustPolicy hokb).2.1)) ?_
  intro hq2
  refine R0 ?_
  refine WX.cases 16 rfl (fun h2 => ?_) (fun h2 => ?_)
  ·skip
   have h2d := (B.nt h2)
   refine R0 ?_
   have hP2 : laws_eqTrustPolicy a b = false := by simp only [laws_eqTrustPolicy, h1, h2, ct, cf]
   exact R3 hP2
  ·skip
   have h2d := (B.nf h2)
   refine R0 ?_
   refine WX.callV rfl rfl rfl rfl rfl (fun _ => rfl) rfl (fun w G bs hI hΓ => f165 w n (by omega) a.anchors K2 M2 (hΓ.get 2 rfl) b.anchors K6 M6 (hΓ.get 6 rfl) ((ok_TrustPolicy hoka).2.2.1) ((ok_TrustPolicy hokb).2.2.1)) ?_
   intro hq3
   refine R0 ?_
   refine WX.cases 22 rfl (fun h3 => ?_) (fun h3 => ?_)
   ·skip
    have h3d := (B.nt h3)
    refine R0 ?_
    have hP3 : laws_eqTrustPolicy a b = false := by simp only [laws_eqTrustPolicy, h1, h2, h3, ct, cf]
    exact R3 hP3
   ·skip
    have h3d := (B.nf h3)
    refine R0 ?_
    refine WX.callV rfl rfl rfl rfl rfl (fun _ => rfl) rfl (fun w G bs hI hΓ => f166 w n (by omega) a.certificates K3 M3 (hΓ.get 3 rfl) b.certificates K7 M7 (hΓ.get 7 rfl) ((ok_TrustPolicy hoka).2.2.2) ((ok_TrustPolicy hokb).2.2.2)) ?_
    intro hq4
    refine R0 ?_
    refine WX.cases 28 rfl (fun h4 => ?_) (fun h4 => ?_)
    ·skip
     have h4d := (B.nt h4)
     refine R0 ?_
     have hP4 : laws_eqTrustPolicy a b = false := by simp only [laws_eqTrustPolicy, h1, h2, h3, h4, ct, cf]
     exact R3 hP4
    ·skip
     have h4d := (B.nf h4)
     refine R0 ?_
     have hP5 : laws_eqTrustPolicy a b = true := by simp only [laws_eqTrustPolicy, h1, h2, h3, h4, ct, cf]
     exact R3 hP5
theorem f354 (w : World) (n : Nat) (hn : n + 0 ≤ 9) (a : Link) (b : Link) (hoka : GoT.ok n a) (hokb : GoT.ok n b) :
  Does Tryz.prog 354 #[.agg #[.int .i64 (a.a), .int .i64 (a.b)], .agg #[.int .i64 (b.a), .int .i64 (b.b)]] w emp (fun (rv : Value) (_ : World) => rv = .bool (laws_eqLink a b) ∧ True) := by
 refine WX.enter (tt := tt) (Γ := []) Tryz.func354 rfl (by kernel_rfl) rfl allS_nil ?_
 refine R0 ?_
 refine WX.cases 9 rfl (fun h1 => ?_) (fun h1 => ?_)
 ·skip
  have h1d := B.nt' h1
  refine R0 ?_
  have hP1 : laws_eqLink a b = false := by simp only [laws_eqLink, h1, ct, cf]
  exact R3 hP1
 ·skip
  have h1d := B.nf' h1
  refine R0 ?_
  refine WX.cases 14 rfl (fun h2 => ?_) (fun h2 => ?_)
  ·skip
   have h2d := B.nt' h2
   refine R0 ?_
   have hP2 : laws_eqLink a b = false := by simp only [laws_eqLink, h1, h2, ct, cf]
   exact R3 hP2
  ·skip
   have h2d := B.nf' h2
   refine R0 ?_
   have hP3 : laws_eqLink a b = true := by simp only [laws_eqLink, h1, h2, ct, cf]
   exact R3 hP3
theorem f293 (w : World) (n : Nat) (hn : n + 0 ≤ 9) (a : (List Link)) (pa : Option Addr) (ca : Nat) (N0 : RdSl (hp w) pa ca a) (b : (List Link)) (pb : Option Addr) (cb : Nat) (N1 : RdSl (hp w) pb cb b) (hoka : GoT.ok n a) (hokb : GoT.ok n b) :
  Does Tryz.prog 293 #[.slice pa ((a).length) ca, .slice pb ((b).length) cb] w emp (fun (rv : Value) (_ : World) => rv = .bool (laws_eqLinkS a b) ∧ True) := by
 have hbP := bd_pos n
 have hbB := bd_big (n := n) (by omega)
 refine WX.enter (tt := tt) (Γ := [(0, MF.rs .stb pa ca a), (1, MF.rs .stb pb cb b)]) Tryz.func293 rfl (by kernel_rfl) rfl (allS_cons rfl N0 (allS_cons rfl N1 allS_nil)) ?_
 refine R0 ?_
 refine WX.cases 10 rfl (fun h1 => ?_) (fun h1 => ?_)
 ·skip
  have h1d := B.nt' h1
  refine R0 ?_
  have hP1 : laws_eqLinkS a b = false := by simp only [laws_eqLinkS, h1, ct, cf]
  exact R3 hP1
 ·skip
  have h1d := B.nf' h1
  refine R0 ?_
  have r1 : (a).length ≤ bd n := (okl hoka).1
  refine WX.loop (ι := Nat) ⟨fun i => (i ≤ (a).length) ∧ (laws_eqLinkS_L1 b a 0 = laws_eqLinkS_L1 b ((a).drop i) i), fun i => (a).length - i, fun i => [(5, .v (.int .i64 (((i : Nat) : Int)))), (0, .v (.slice pa ((a).length) ca)), (1, .v (.slice pb ((b).length) cb))], fun i => [], fun i => [], fun i => [(0, MF.rs .stb pa ca a), (1, MF.rs .stb pb cb b)]⟩ 0 ⟨(Nat.zero_le _), rfl⟩
   (.cons rfl (.cons rfl (.cons rfl (.nil)))) .nil .nil [0, 1] rfl ?_
  rintro i hpre
  have hpre_ : (i ≤ (a).length) ∧ (laws_eqLinkS_L1 b a 0 = laws_eqLinkS_L1 b ((a).drop i) i) := hpre
  clear hpre
  obtain ⟨v1, v2⟩ := hpre_
  refine R0 ?_
  refine WX.cases 14 rfl (fun h2 => ?_) (fun h2 => ?_)
  ·skip
   have h2d := B.dt h2
   have e1i : i < (a).length := (by omega)
   obtain ⟨e1, e1h⟩ : ∃ e1, (a)[i]? = some e1 := ⟨_, List.getElem?_eq_getElem e1i⟩
   have ok1 : GoT.ok n e1 := (okl hoka).2 _ (List.mem_of_getElem? e1h)
   refine R0 ?_
   refine WX.draw [] mixed ?_
   intro bs G0 hΓ0
   refine DX.takes (fuel := 8) ttOk [(0, true), (1, true)] (by kernel_rfl) rfl ?_
   refine DX.idx 2 0 i ttOk hΓ0 (by kernel_rfl) rfl rfl rfl rfl rfl rfl rfl rfl rfl rfl rfl e1i ?_
   rintro ad1 rfl
   refine DX.ldE 3 0 2 e1 ttOk hΓ0 (by kernel_rfl) rfl rfl rfl rfl rfl rfl rfl rfl e1h (fun _ => rfl) (fun _ => rfl) ?_
   rintro ⟨⟨⟩, ⟨⟩⟩
   refine DX.takes (fuel := 4) ttOk [(4, true), (5, true)] (by kernel_rfl) rfl ?_
   have e2i : i < (b).length := (by first | assumption | omega)
   obtain ⟨e2, e2h⟩ : ∃ e2, (b)[i]? = some e2 := ⟨_, List.getElem?_eq_getElem e2i⟩
   have ok2 : GoT.ok n e2 := (okl hokb).2 _ (List.mem_of_getElem? e2h)
   refine DX.idx 6 1 i ttOk hΓ0 (by kernel_rfl) rfl rfl rfl rfl rfl rfl rfl rfl rfl rfl rfl e2i ?_
   rintro ad2 rfl
   refine DX.ldE 7 1 2 e2 ttOk hΓ0 (by kernel_rfl) rfl rfl rfl rfl rfl rfl rfl rfl e2h (fun _ => rfl) (fun _ => rfl) ?_
   rintro ⟨⟨⟩, ⟨⟩⟩
   refine DX.callV 8 rfl (by kernel_rfl) rfl rfl rfl rfl rfl rfl (fun _ => rfl) rfl (fun w G bs hI hΓ => f354 w n (by omega) e1 e2 ok1 ok2) ?_
   intro hq1
   refine DX.takes (fuel := 0) ttOk [(9, true)] (by kernel_rfl) rfl ?_
   refine DX.tail2 [] rfl rfl (by kernel_rfl) ?_
   refine R0 ?_
   refine WX.cases 26 rfl (fun h3 => ?_) (fun h3 => ?_)
   ·skip
    have h3d := (B.nt h3)
    refine R0 ?_
    have hP2 : laws_eqLinkS_L1 b a 0 = (some false) := by rw [v2, drop_get e1h]; simp only [laws_eqLinkS_L1, e2h, h3, ct, cf]
    have hP3 : laws_eqLinkS a b = false := by simp only [laws_eqLinkS, h1, hP2, ct, cf]
    exact R3 hP3
   ·skip
    have h3d := (B.nf h3)
    refine R0 ?_
    refine WX.see rfl rfl rfl (fun _ hΓ => looks_arith rfl rfl rfl rfl (by unfold I64; first | omega | (simp only [List.length_take] at *; omega))) ?_
    refine R0 ?_
    exact WX.iter (i + 1) ⟨(by omega), (by rw [v2, drop_get e1h]; simp only [laws_eqLinkS_L1, e2h, h3, ct, cf])⟩ (by first | (dsimp only; omega) | omega) (.cons rfl (.cons rfl (.cons rfl (.nil)))) .nil .nil [0, 1] rfl
  ·skip
   have h2d := B.df h2
   refine R0 ?_
   have hX1 : laws_eqLinkS_L1 b a 0 = none := by rw [v2, List.drop_eq_nil_of_le (show (a).length ≤ i by omega)]; simp only [laws_eqLinkS_L1, ct, cf]
   have hP4 : laws_eqLinkS a b = true := by simp only [laws_eqLinkS, h1, hX1, ct, cf]
   exact R3 hP4
theorem f203 (w : World) (n : Nat) (hn : n + 0 ≤ 9) (a : Topology) (K0 : Option Addr) (M0 : Nat) (N0 : RdSl (hp w) K0 M0 a.links) (b : Topology) (K1 : Option Addr) (M1 : Nat) (N1 : RdSl (hp w) K1 M1 b.links) (hoka : GoT.ok n a) (hokb : GoT.ok n b) :
  Does Tryz.prog 203 #[.agg #[.int .i64 (a.size), .slice K0 ((a.links).length) M0], .agg #[.int .i64 (b.size), .slice K1 ((b.links).length) M1]] w emp (fun (rv : Value) (_ : World) => rv = .bool (laws_eqTopology a b) ∧ True) := by
 have hbP := bd_pos n
 have hbB := bd_big (n := n) (by omega)
 refine WX.enter (tt := tt) (Γ := [(0, MF.rs .stb K0 M0 a.links), (1, MF.rs .stb K1 M1 b.links)]) Tryz.func203 rfl (by kernel_rfl) rfl (allS_cons rfl N0 (allS_cons rfl N1 allS_nil)) ?_
 refine R0 ?_
 refine WX.cases 9 rfl (fun h1 => ?_) (fun h1 => ?_)
 ·skip
  have h1d := B.nt' h1
  refine R0 ?_
  have hP1 : laws_eqTopology a b = false := by simp only [laws_eqTopology, h1, ct, cf]
  exact R3 hP1
 ·skip
  have h1d := B.nf' h1
  refine R0 ?_
  refine WX.callV rfl rfl rfl rfl rfl (fun _ => rfl) rfl (fun w G bs hI hΓ => f293 w n (by omega) a.links K0 M0 (hΓ.get 0 rfl) b.links K1 M1 (hΓ.get 1 rfl) ((ok_Topology hoka).2) ((ok_Topology hokb).2)) ?_
  intro hq1
  refine R0 ?_
  refine WX.cases 15 rfl (fun h2 => ?_) (fun h2 => ?_)
  ·skip
   have h2d := (B.nt h2)
   refine R0 ?_
   have hP2 : laws_eqTopology a b = false := by simp only [laws_eqTopology, h1, h2, ct, cf]
   exact R3 hP2
  ·skip
   have h2d := (B.nf h2)
   refine R0 ?_
   have hP3 : laws_eqTopology a b = true := by simp only [laws_eqTopology, h1, h2, ct, cf]
   exact R3 hP3
theorem f294 (w : World) (n : Nat) (hn : n + 0 ≤ 9) (a : TableEntry) (K0 : Option Addr) (M0 : Nat) (N0 : RdSl (hp w) K0 M0 a.name.parts) (b : TableEntry) (K1 : Option Addr) (M1 : Nat) (N1 : RdSl (hp w) K1 M1 b.name.parts) (hoka : GoT.ok n a) (hokb : GoT.ok n b) :
  Does Tryz.prog 294 #[.agg #[.slice K0 ((a.name.parts).length) M0, .int .i64 (a.value)], .agg #[.slice K1 ((b.name.parts).length) M1, .int .i64 (b.value)]] w emp (fun (rv : Value) (_ : World) => rv = .bool (laws_eqTableEntry a b) ∧ True) := by
 have hbP := bd_pos n
 have hbB := bd_big (n := n) (by omega)
 refine WX.enter (tt := tt) (Γ := [(0, MF.rs .stb K0 M0 a.name.parts), (1, MF.rs .stb K1 M1 b.name.parts)]) Tryz.func294 rfl (by kernel_rfl) rfl (allS_cons rfl N0 (allS_cons rfl N1 allS_nil)) ?_
 refine R0 ?_
 refine WX.callV rfl rfl rfl rfl rfl (fun _ => rfl) rfl (fun w G bs hI hΓ => f162 w n (by omega) a.name K0 M0 (hΓ.get 0 rfl) b.name K1 M1 (hΓ.get 1 rfl) ((ok_TableEntry hoka).1) ((ok_TableEntry hokb).1)) ?_
 intro hq1
 refine R0 ?_
 refine WX.cases 10 rfl (fun h1 => ?_) (fun h1 => ?_)
 ·skip
  have h1d := (B.nt h1)
  refine R0 ?_
  have hP1 : laws_eqTableEntry a b = false := by simp only [laws_eqTableEntry, h1, ct, cf]
  exact R3 hP1
 ·skip
  have h1d := (B.nf h1)
  refine R0 ?_
  refine WX.cases 15 rfl (fun h2 => ?_) (fun h2 => ?_)
  ·skip
   have h2d := B.nt' h2
   refine R0 ?_
   have hP2 : laws_eqTableEntry a b = false := by simp only [laws_eqTableEntry, h1, h2, ct, cf]
   exact R3 hP2
  ·skip
   have h2d := B.nf' h2
   refine R0 ?_
   have hP3 : laws_eqTableEntry a b = true := by simp only [laws_eqTableEntry, h1, h2, ct, cf]
   exact R3 hP3
theorem f204 (w : World) (n : Nat) (hn : n + 0 ≤ 9) (a : (List TableEntry)) (pa : Option Addr) (ca : Nat) (N0 : RdSl (hp w) pa ca a) (b : (List TableEntry)) (pb : Option Addr) (cb : Nat) (N1 : RdSl (hp w) pb cb b) (hoka : GoT.ok n a) (hokb : GoT.ok n b) :
  Does Tryz.prog 204 #[.slice pa ((a).length) ca, .slice pb ((b).length) cb] w emp (fun (rv : Value) (_ : World) => rv = .bool (laws_eqTableEntryS a b) ∧ True) := by
 have hbP := bd_pos n
 have hbB := bd_big (n := n) (by omega)
 refine WX.enter (tt := tt) (Γ := [(0, MF.rs .stb pa ca a), (1, MF.rs .stb pb cb b)]) Tryz.func204 rfl (by kernel_rfl) rfl (allS_cons rfl N0 (allS_cons rfl N1 allS_nil)) ?_
 refine R0 ?_
 refine WX.cases 10 rfl (fun h1 => ?_) (fun h1 => ?_)
 ·skip
  have h1d := B.nt' h1
  refine R0 ?_
  have hP1 : laws_eqTableEntryS a b = false := by simp only [laws_eqTableEntryS, h1, ct, cf]
  exact R3 hP1
 ·skip
  have h1d := B.nf' h1
  refine R0 ?_
  have r1 : (a).length ≤ bd n := (okl hoka).1
  refine WX.loop (ι := Nat) ⟨fun i => (i ≤ (a).length) ∧ (laws_eqTableEntryS_L1 b a 0 = laws_eqTableEntryS_L1 b ((a).drop i) i), fun i => (a).length - i, fun i => [(5, .v (.int .i64 (((i : Nat) : Int)))), (0, .v (.slice pa ((a).length) ca)), (1, .v (.slice pb ((b).length) cb))], fun i => [], fun i => [], fun i => [(0, MF.rs .stb pa ca a), (1, MF.rs .stb pb cb b)]⟩ 0 ⟨(Nat.zero_le _), rfl⟩
   (.cons rfl (.cons rfl (.cons rfl (.nil)))) .nil .nil [0, 1] rfl ?_
  rintro i hpre
  have hpre_ : (i ≤ (a).length) ∧ (laws_eqTableEntryS_L1 b a 0 = laws_eqTableEntryS_L1 b ((a).drop i) i) := hpre
  clear hpre
  obtain ⟨v1, v2⟩ := hpre_
  refine R0 ?_
  refine WX.cases 14 rfl (fun h2 => ?_) (fun h2 => ?_)
  ·skip
   have h2d := B.dt h2
   have e1i : i < (a).length := (by omega)
   obtain ⟨e1, e1h⟩ : ∃ e1, (a)[i]? = some e1 := ⟨_, List.getElem?_eq_getElem e1i⟩
   have ok1 : GoT.ok n e1 := (okl hoka).2 _ (List.mem_of_getElem? e1h)
   refine R0 ?_
   refine WX.draw [] mixed ?_
   intro bs G0 hΓ0
   refine DX.takes (fuel := 8) ttOk [(0, true), (1, true)] (by kernel_rfl) rfl ?_
   refine DX.idx 2 0 i ttOk hΓ0 (by kernel_rfl) rfl rfl rfl rfl rfl rfl rfl rfl rfl rfl rfl e1i ?_
   rintro ad1 rfl
   refine DX.ldE 3 0 2 e1 ttOk hΓ0 (by kernel_rfl) rfl rfl rfl rfl rfl rfl rfl rfl e1h (fun _ => rfl) (fun _ => rfl) ?_
   rintro ⟨⟨p1, c1⟩, ⟨⟩⟩
   refine DX.takes (fuel := 4) ttOk [(4, true), (5, true)] (by kernel_rfl) rfl ?_
   have e2i : i < (b).length := (by first | assumption | omega)
   obtain ⟨e2, e2h⟩ : ∃ e2, (b)[i]? = some e2 := ⟨_, List.getElem?_eq_getElem e2i⟩
   have ok2 : GoT.ok n e2 := (okl hokb).2 _ (List.mem_of_getElem? e2h)
   refine DX.idx 6 1 i ttOk hΓ0 (by kernel_rfl) rfl rfl rfl rfl rfl rfl rfl rfl rfl rfl rfl e2i ?_
   rintro ad2 rfl
   refine DX.ldE 7 1 3 e2 ttOk hΓ0 (by kernel_rfl) rfl rfl rfl rfl rfl rfl rfl rfl e2h (fun _ => rfl) (fun _ => rfl) ?_
   rintro ⟨⟨p2, c2⟩, ⟨⟩⟩
   refine DX.callV 8 rfl (by kernel_rfl) rfl rfl rfl rfl rfl rfl (fun _ => rfl) rfl (fun w G bs hI hΓ => f294 w n (by omega) e1 p1 c1 (hΓ.get 2 rfl) e2 p2 c2 (hΓ.get 3 rfl) ok1 ok2) ?_
   intro hq1
   refine DX.takes (fuel := 0) ttOk [(9, true)] (by kernel_rfl) rfl ?_
   refine DX.tail2 [] rfl rfl (by kernel_rfl) ?_
   refine R0 ?_
   refine WX.cases 26 rfl (fun h3 => ?_) (fun h3 => ?_)
   ·skip
    have h3d := (B.nt h3)
    refine R0 ?_
    have hP2 : laws_eqTableEntryS_L1 b a 0 = (some false) := by rw [v2, drop_get e1h]; simp only [laws_eqTableEntryS_L1, e2h, h3, ct, cf]
    have hP3 : laws_eqTableEntryS a b = false := by simp only [laws_eqTableEntryS, h1, hP2, ct, cf]
    exact R3 hP3
   ·skip
    have h3d := (B.nf h3)
    refine R0 ?_
    refine WX.see rfl rfl rfl (fun _ hΓ => looks_arith rfl rfl rfl rfl (by unfold I64; first | omega | (simp only [List.length_take] at *; omega))) ?_
    refine R0 ?_
    exact WX.iter (i + 1) ⟨(by omega), (by rw [v2, drop_get e1h]; simp only [laws_eqTableEntryS_L1, e2h, h3, ct, cf])⟩ (by first | (dsimp only; omega) | omega) (.cons rfl (.cons rfl (.cons rfl (.nil)))) .nil .nil [0, 1] rfl
  ·skip
   have h2d := B.df h2
   refine R0 ?_
   have hX1 : laws_eqTableEntryS_L1 b a 0 = none := by rw [v2, List.drop_eq_nil_of_le (show (a).length ≤ i by omega)]; simp only [laws_eqTableEntryS_L1, ct, cf]
   have hP4 : laws_eqTableEntryS a b = true := by simp only [laws_eqTableEntryS, h1, hX1, ct, cf]
   exact R3 hP4
theorem f427 (w : World) (n : Nat) (hn : n + 0 ≤ 9) (a : CacheEntry) (K0 : Option Addr) (M0 : Nat) (N0 : RdSl (hp w) K0 M0 a.data.name.parts) (K1 : Option Addr) (M1 : Nat) (N1 : RdSl (hp w) K1 M1 a.data.content) (K2 : Option Addr) (M2 : Nat) (N2 : RdSl (hp w) K2 M2 a.data.keyName.parts) (b : CacheEntry) (K3 : Option Addr) (M3 : Nat) (N3 : RdSl (hp w) K3 M3 b.data.name.parts) (K4 : Option Addr) (M4 : Nat) (N4 : RdSl (hp w) K4 M4 b.data.content) (K5 : Option Addr) (M5 : Nat) (N5 : RdSl (hp w) K5 M5 b.data.keyName.parts) (hoka : GoT.ok n a) (hokb : GoT.ok n b) :
  Does Tryz.prog 427 #[.agg #[.slice K0 ((a.data.name.parts).length) M0, .slice K1 ((a.data.content).length) M1, .slice K2 ((a.data.keyName.parts).length) M2, .int .i64 (a.data.freshUntil), .int .i64 (a.data.signature), .int .i64 (a.lastUsed)], .agg #[.slice K3 ((b.data.name.parts).length) M3, .slice K4 ((b.data.content).length) M4, .slice K5 ((b.data.keyName.parts).length) M5, .int .i64 (b.data.freshUntil), .int .i64 (b.data.signature), .int .i64 (b.lastUsed)]] w emp (fun (rv : Value) (_ : World) => rv = .bool (laws_eqCacheEntry a b) ∧ True) := by
 have hbP := bd_pos n
 have hbB := bd_big (n := n) (by omega)
 refine WX.enter (tt := tt) (Γ := [(0, MF.rs .stb K0 M0 a.data.name.parts), (1, MF.rs .stb K1 M1 a.data.content), (2, MF.rs .stb K2 M2 a.data.keyName.parts), (3, MF.rs .stb K3 M3 b.data.name.parts), (4, MF.rs .stb K4 M4 b.data.content), (5, MF.rs .stb K5 M5 b.data.keyName.parts)]) Tryz.func427 rfl (by kernel_rfl) rfl (allS_cons rfl N0 (allS_cons rfl N1 (allS_cons rfl N2 (allS_cons rfl N3 (allS_cons rfl N4 (allS_cons rfl N5 allS_nil)))))) ?_
 refine R0 ?_
 refine WX.callV rfl rfl rfl rfl rfl (fun _ => rfl) rfl (fun w G bs hI hΓ => f72 w n (by omega) a.data K0 M0 (hΓ.get 0 rfl) K1 M1 (hΓ.get 1 rfl) K2 M2 (hΓ.get 2 rfl) b.data K3 M3 (hΓ.get 3 rfl) K4 M4 (hΓ.get 4 rfl) K5 M5 (hΓ.get 5 rfl) ((ok_CacheEntry hoka).1) ((ok_CacheEntry hokb).1)) ?_
 intro hq1
 refine R0 ?_
 refine WX.cases 10 rfl (fun h1 => ?_) (fun h1 => ?_)
 ·skip
  have h1d := (B.nt h1)
  refine R0 ?_
  have hP1 : laws_eqCacheEntry a b = false := by simp only [laws_eqCacheEntry, h1, ct, cf]
  exact R3 hP1
 ·skip
  have h1d := (B.nf h1)
  refine R0 ?_
  refine WX.cases 15 rfl (fun h2 => ?_) (fun h2 => ?_)
  ·skip
   have h2d := B.nt' h2
   refine R0 ?_
   have hP2 : laws_eqCacheEntry a b = false := by simp only [laws_eqCacheEntry, h1, h2, ct, cf]
   exact R3 hP2
  ·skip
   have h2d := B.nf' h2
   refine R0 ?_
   have hP3 : laws_eqCacheEntry a b = true := by simp only [laws_eqCacheEntry, h1, h2, ct, cf]
   exact R3 hP3
theorem f403 (w : World) (n : Nat) (hn : n + 0 ≤ 9) (a : (List CacheEntry)) (pa : Option Addr) (ca : Nat) (N0 : RdSl (hp w) pa ca a) (b : (List CacheEntry)) (pb : Option Addr) (cb : Nat) (N1 : RdSl (hp w) pb cb b) (hoka : GoT.ok n a) (hokb : GoT.ok n b) :
  Does Tryz.prog 403 #[.slice pa ((a).length) ca, .slice pb ((b).length) cb] w emp (fun (rv : Value) (_ : World) => rv = .bool (laws_eqCacheEntryS a b) ∧ True) := by
 have hbP := bd_pos n
 have hbB := bd_big (n := n) (by omega)
 refine WX.enter (tt := tt) (Γ := [(0, MF.rs .stb pa ca a), (1, MF.rs .stb pb cb b)]) Tryz.func403 rfl (by kernel_rfl) rfl (allS_cons rfl N0 (allS_cons rfl N1 allS_nil)) ?_
 refine R0 ?_
 refine WX.cases 10 rfl (fun h1 => ?_) (fun h1 => ?_)
 ·skip
  have h1d := B.nt' h1
  refine R0 ?_
  have hP1 : laws_eqCacheEntryS a b = false := by simp only [laws_eqCacheEntryS, h1, ct, cf]
  exact R3 hP1
 ·skip
  have h1d := B.nf' h1
  refine R0 ?_
  have r1 : (a).length ≤ bd n := (okl hoka).1
  refine WX.loop (ι := Nat) ⟨fun i => (i ≤ (a).length) ∧ (laws_eqCacheEntryS_L1 b a 0 = laws_eqCacheEntryS_L1 b ((a).drop i) i), fun i => (a).length - i, fun i => [(5, .v (.int .i64 (((i : Nat) : Int)))), (0, .v (.slice pa ((a).length) ca)), (1, .v (.slice pb ((b).length) cb))], fun i => [], fun i => [], fun i => [(0, MF.rs .stb pa ca a), (1, MF.rs .stb pb cb b)]⟩ 0 ⟨(Nat.zero_le _), rfl⟩
   (.cons rfl (.cons rfl (.cons rfl (.nil)))) .nil .nil [0, 1] rfl ?_
  rintro i hpre
  have hpre_ : (i ≤ (a).length) ∧ (laws_eqCacheEntryS_L1 b a 0 = laws_eqCacheEntryS_L1 b ((a).drop i) i) := hpre
  clear hpre
  obtain ⟨v1, v2⟩ := hpre_
  refine R0 ?_
  refine WX.cases 14 rfl (fun h2 => ?_) (fun h2 => ?_)
  ·skip
   have h2d := B.dt h2
   have e1i : i < (a).length := (by omega)
   obtain ⟨e1, e1h⟩ : ∃ e1, (a)[i]? = some e1 := ⟨_, List.getElem?_eq_getElem e1i⟩
   have ok1 : GoT.ok n e1 := (okl hoka).2 _ (List.mem_of_getElem? e1h)
   refine R0 ?_
   refine WX.draw [] mixed ?_
   intro bs G0 hΓ0
   refine DX.takes (fuel := 8) ttOk [(0, true), (1, true)] (by kernel_rfl) rfl ?_
   refine DX.idx 2 0 i ttOk hΓ0 (by kernel_rfl) rfl rfl rfl rfl rfl rfl rfl rfl rfl rfl rfl e1i ?_
   rintro ad1 rfl
   refine DX.ldE 3 0 2 e1 ttOk hΓ0 (by kernel_rfl) rfl rfl rfl rfl rfl rfl rfl rfl e1h (fun _ => rfl) (fun _ => rfl) ?_
   rintro ⟨⟨⟨p1, c1⟩, ⟨p2, c2⟩, ⟨p3, c3⟩, ⟨⟩, ⟨⟩⟩, ⟨⟩⟩
   refine DX.takes (fuel := 4) ttOk [(4, true), (5, true)] (by kernel_rfl) rfl ?_
   have e2i : i < (b).length := (by first | assumption | omega)
   obtain ⟨e2, e2h⟩ : ∃ e2, (b)[i]? = some e2 := ⟨_, List.getElem?_eq_getElem e2i⟩
   have ok2 : GoT.ok n e2 := (okl hokb).2 _ (List.mem_of_getElem? e2h)
   refine DX.idx 6 1 i ttOk hΓ0 (by kernel_rfl) rfl rfl rfl rfl rfl rfl rfl rfl rfl rfl rfl e2i ?_
   rintro ad2 rfl
   refine DX.ldE 7 1 5 e2 ttOk hΓ0 (by kernel_rfl) rfl rfl rfl rfl rfl rfl rfl rfl e2h (fun _ => rfl) (fun _ => rfl) ?_
   rintro ⟨⟨⟨p4, c4⟩, ⟨p5, c5⟩, ⟨p6, c6⟩, ⟨⟩, ⟨⟩⟩, ⟨⟩⟩
   refine DX.callV 8 rfl (by kernel_rfl) rfl rfl rfl rfl rfl rfl (fun _ => rfl) rfl (fun w G bs hI hΓ => f427 w n (by omega) e1 p1 c1 (hΓ.get 2 rfl) p2 c2 (hΓ.get 3 rfl) p3 c3 (hΓ.get 4 rfl) e2 p4 c4 (hΓ.get 5 rfl) p5 c5 (hΓ.get 6 rfl) p6 c6 (hΓ.get 7 rfl) ok1 ok2) ?_
   intro hq1
   refine DX.takes (fuel := 0) ttOk [(9, true)] (by kernel_rfl) rfl ?_
   refine DX.tail2 [] rfl rfl (by kernel_rfl) ?_
   refine R0 ?_
   refine WX.cases 26 rfl (fun h3 => ?_) (fun h3 => ?_)
   ·skip
    have h3d := (B.nt h3)
    refine R0 ?_
    have hP2 : laws_eqCacheEntryS_L1 b a 0 = (some false) := by rw [v2, drop_get e1h]; simp only [laws_eqCacheEntryS_L1, e2h, h3, ct, cf]
    have hP3 : laws_eqCacheEntryS a b = false := by simp only [laws_eqCacheEntryS, h1, hP2, ct, cf]
    exact R3 hP3
   ·skip
    have h3d := (B.nf h3)
    refine R0 ?_
    refine WX.see rfl rfl rfl (fun _ hΓ => looks_arith rfl rfl rfl rfl (by unfold I64; first | omega | (simp only [List.length_take] at *; omega))) ?_
    refine R0 ?_
    exact WX.iter (i + 1) ⟨(by omega), (by rw [v2, drop_get e1h]; simp only [laws_eqCacheEntryS_L1, e2h, h3, ct, cf])⟩ (by first | (dsimp only; omega) | omega) (.cons rfl (.cons rfl (.cons rfl (.nil)))) .nil .nil [0, 1] rfl
  ·skip
   have h2d := B.df h2
   refine R0 ?_
   have hX1 : laws_eqCacheEntryS_L1 b a 0 = none := by rw [v2, List.drop_eq_nil_of_le (show (a).length ≤ i by omega)]; simp only [laws_eqCacheEntryS_L1, ct, cf]
   have hP4 : laws_eqCacheEntryS a b = true := by simp only [laws_eqCacheEntryS, h1, hX1, ct, cf]
   exact R3 hP4
theorem f355 (w : World) (n : Nat) (hn : n + 0 ≤ 9) (a : ContentStore) (K0 : Option Addr) (M0 : Nat) (N0 : RdSl (hp w) K0 M0 a.entries) (b : ContentStore) (K1 : Option Addr) (M1 : Nat) (N1 : RdSl (hp w) K1 M1 b.entries) (hoka : GoT.ok n a) (hokb : GoT.ok n b) :
  Does Tryz.prog 355 #[.agg #[.int .i64 (a.capacity), .slice K0 ((a.entries).length) M0], .agg #[.int .i64 (b.capacity), .slice K1 ((b.entries).length) M1]] w emp (fun (rv : Value) (_ : World) => rv = .bool (laws_eqContentStore a b) ∧ True) := by
 have hbP := bd_pos n
 have hbB := bd_big (n := n) (by omega)
 refine WX.enter (tt := tt) (Γ := [(0, MF.rs .stb K0 M0 a.entries), (1, MF.rs .stb K1 M1 b.entries)]) Tryz.func355 rfl (by kernel_rfl) rfl (allS_cons rfl N0 (allS_cons rfl N1 allS_nil)) ?_
 refine R0 ?_
 refine WX.cases 9 rfl (fun h1 => ?_) (fun h1 => ?_)
 ·skip
  have h1d := B.nt' h1
  refine R0 ?_
  have hP1 : laws_eqContentStore a b = false := by simp only [laws_eqContentStore, h1, ct, cf]
  exact R3 hP1
 ·skip
  have h1d := B.nf' h1
  refine R0 ?_
  refine WX.callV rfl rfl rfl rfl rfl (fun _ => rfl) rfl (fun w G bs hI hΓ => f403 w n (by omega) a.entries K0 M0 (hΓ.get 0 rfl) b.entries K1 M1 (hΓ.get 1 rfl) ((ok_ContentStore hoka).2) ((ok_ContentStore hokb).2)) ?_
  intro hq1
  refine R0 ?_
  refine WX.cases 15 rfl (fun h2 => ?_) (fun h2 => ?_)
  ·skip
   have h2d := (B.nt h2)
   refine R0 ?_
   have hP2 : laws_eqContentStore a b = false := by simp only [laws_eqContentStore, h1, h2, ct, cf]
   exact R3 hP2
  ·skip
   have h2d := (B.nf h2)
   refine R0 ?_
   have hP3 : laws_eqContentStore a b = true := by simp only [laws_eqContentStore, h1, h2, ct, cf]
   exact R3 hP3
theorem f439 (w : World) (n : Nat) (hn : n + 0 ≤ 9) (a : Requester) (b : Requester) (hoka : GoT.ok n a) (hokb : GoT.ok n b) :
  Does Tryz.prog 439 #[.agg #[.int .i64 (a.face), .int .i64 (a.nonce), .int .i64 (a.expiry)], .agg #[.int .i64 (b.face), .int .i64 (b.nonce), .int .i64 (b.expiry)]] w emp (fun (rv : Value) (_ : World) => rv = .bool (laws_eqRequester a b) ∧ True) := by
 refine WX.enter (tt := tt) (Γ := []) Tryz.func439 rfl (by kernel_rfl) rfl allS_nil ?_
 refine R0 ?_
 refine WX.cases 9 rfl (fun h1 => ?_) (fun h1 => ?_)
 ·skip
  have h1d := B.nt' h1
  refine R0 ?_
  have hP1 : laws_eqRequester a b = false := by simp only [laws_eqRequester, h1, ct, cf]
  exact R3 hP1
 ·skip
  have h1d := B.nf' h1
  refine R0 ?_
  refine WX.cases 14 rfl (fun h2 => ?_) (fun h2 => ?_)
  ·skip
   have h2d := B.nt' h2
   refine R0 ?_
   have hP2 : laws_eqRequester a b = false := by simp only [laws_eqRequester, h1, h2, ct, cf]
   exact R3 hP2
  ·skip
   have h2d := B.nf' h2
   refine R0 ?_
   refine WX.cases 19 rfl (fun h3 => ?_) (fun h3 => ?_)
   ·skip
    have h3d := B.nt' h3
    refine R0 ?_
    have hP3 : laws_eqRequester a b = false := by simp only [laws_eqRequester, h1, h2, h3, ct, cf]
    exact R3 hP3
   ·skip
    have h3d := B.nf' h3
    refine R0 ?_
    have hP4 : laws_eqRequester a b = true := by simp only [laws_eqRequester, h1, h2, h3, ct, cf]
    exact R3 hP4
theorem f428 (w : World) (n : Nat) (hn : n + 0 ≤ 9) (a : (List Requester)) (pa : Option Addr) (ca : Nat) (N0 : RdSl (hp w) pa ca a) (b : (List Requester)) (pb : Option Addr) (cb : Nat) (N1 : RdSl (hp w) pb cb b) (hoka : GoT.ok n a) (hokb : GoT.ok n b) :
  Does Tryz.prog 428 #[.slice pa ((a).length) ca, .slice pb ((b).length) cb] w emp (fun (rv : Value) (_ : World) => rv = .bool (laws_eqRequesterS a b) ∧ True) := by
 have hbP := bd_pos n
 have hbB := bd_big (n := n) (by omega)
 refine WX.enter (tt := tt) (Γ := [(0, MF.rs .stb pa ca a), (1, MF.rs .stb pb cb b)]) Tryz.func428 rfl (by kernel_rfl) rfl (allS_cons rfl N0 (allS_cons rfl N1 allS_nil)) ?_
 refine R0 ?_
 refine WX.cases 10 rfl (fun h1 => ?_) (fun h1 => ?_)
 ·skip
  have h1d := B.nt' h1
  refine R0 ?_
  have hP1 : laws_eqRequesterS a b = false := by simp only [laws_eqRequesterS, h1, ct, cf]
  exact R3 hP1
 ·skip
  have h1d := B.nf' h1
  refine R0 ?_
  have r1 : (a).length ≤ bd n := (okl hoka).1
  refine WX.loop (ι := Nat) ⟨fun i => (i ≤ (a).length) ∧ (laws_eqRequesterS_L1 b a 0 = laws_eqRequesterS_L1 b ((a).drop i) i), fun i => (a).length - i, fun i => [(5, .v (.int .i64 (((i : Nat) : Int)))), (0, .v (.slice pa ((a).length) ca)), (1, .v (.slice pb ((b).length) cb))], fun i => [], fun i => [], fun i => [(0, MF.rs .stb pa ca a), (1, MF.rs .stb pb cb b)]⟩ 0 ⟨(Nat.zero_le _), rfl⟩
   (.cons rfl (.cons rfl (.cons rfl (.nil)))) .nil .nil [0, 1] rfl ?_
  rintro i hpre
  have hpre_ : (i ≤ (a).length) ∧ (laws_eqRequesterS_L1 b a 0 = laws_eqRequesterS_L1 b ((a).drop i) i) := hpre
  clear hpre
  obtain ⟨v1, v2⟩ := hpre_
  refine R0 ?_
  refine WX.cases 14 rfl (fun h2 => ?_) (fun h2 => ?_)
  ·skip
   have h2d := B.dt h2
   have e1i : i < (a).length := (by omega)
   obtain ⟨e1, e1h⟩ : ∃ e1, (a)[i]? = some e1 := ⟨_, List.getElem?_eq_getElem e1i⟩
   have ok1 : GoT.ok n e1 := (okl hoka).2 _ (List.mem_of_getElem? e1h)
   refine R0 ?_
   refine WX.draw [] mixed ?_
   intro bs G0 hΓ0
   refine DX.takes (fuel := 8) ttOk [(0, true), (1, true)] (by kernel_rfl) rfl ?_
   refine DX.idx 2 0 i ttOk hΓ0 (by kernel_rfl) rfl rfl rfl rfl rfl rfl rfl rfl rfl rfl rfl e1i ?_
   rintro ad1 rfl
   refine DX.ldE 3 0 2 e1 ttOk hΓ0 (by kernel_rfl) rfl rfl rfl rfl rfl rfl rfl rfl e1h (fun _ => rfl) (fun _ => rfl) ?_
   rintro ⟨⟨⟩, ⟨⟩, ⟨⟩⟩
   refine DX.takes (fuel := 4) ttOk [(4, true), (5, true)] (by kernel_rfl) rfl ?_
   have e2i : i < (b).length := (by first | assumption | omega)
   obtain ⟨e2, e2h⟩ : ∃ e2, (b)[i]? = some e2 := ⟨_, List.getElem?_eq_getElem e2i⟩
   have ok2 : GoT.ok n e2 := (okl hokb).2 _ (List.mem_of_getElem? e2h)
   refine DX.idx 6 1 i ttOk hΓ0 (by kernel_rfl) rfl rfl rfl rfl rfl rfl rfl rfl rfl rfl rfl e2i ?_
   rintro ad2 rfl
   refine DX.ldE 7 1 2 e2 ttOk hΓ0 (by kernel_rfl) rfl rfl rfl rfl rfl rfl rfl rfl e2h (fun _ => rfl) (fun _ => rfl) ?_
   rintro ⟨⟨⟩, ⟨⟩, ⟨⟩⟩
   refine DX.callV 8 rfl (by kernel_rfl) rfl rfl rfl rfl rfl rfl (fun _ => rfl) rfl (fun w G bs hI hΓ => f439 w n (by omega) e1 e2 ok1 ok2) ?_
   intro hq1
   refine DX.takes (fuel := 0) ttOk [(9, true)] (by kernel_rfl) rfl ?_
   refine DX.tail2 [] rfl rfl (by kernel_rfl) ?_
   refine R0 ?_
   refine WX.cases 26 rfl (fun h3 => ?_) (fun h3 => ?_)
   ·skip
    have h3d := (B.nt h3)
    refine R0 ?_
    have hP2 : laws_eqRequesterS_L1 b a 0 = (some false) := by rw [v2, drop_get e1h]; simp only [laws_eqRequesterS_L1, e2h, h3, ct, cf]
    have hP3 : laws_eqRequesterS a b = false := by simp only [laws_eqRequesterS, h1, hP2, ct, cf]
    exact R3 hP3
   ·skip
    have h3d := (B.nf h3)
    refine R0 ?_
    refine WX.see rfl rfl rfl (fun _ hΓ => looks_arith rfl rfl rfl rfl (by unfold I64; first | omega | (simp only [List.length_take] at *; omega))) ?_
    refine R0 ?_
    exact WX.iter (i + 1) ⟨(by omega), (by rw [v2, drop_get e1h]; simp only [laws_eqRequesterS_L1, e2h, h3, ct, cf])⟩ (by first | (dsimp only; omega) | omega) (.cons rfl (.cons rfl (.cons rfl (.nil)))) .nil .nil [0, 1] rfl
  ·skip
   have h2d := B.df h2
   refine R0 ?_
   have hX1 : laws_eqRequesterS_L1 b a 0 = none := by rw [v2, List.drop_eq_nil_of_le (show (a).length ≤ i by omega)]; simp only [laws_eqRequesterS_L1, ct, cf]
   have hP4 : laws_eqRequesterS a b = true := by simp only [laws_eqRequesterS, h1, hX1, ct, cf]
   exact R3 hP4
theorem f404 (w : World) (n : Nat) (hn : n + 0 ≤ 9) (a : PendingInterest) (K0 : Option Addr) (M0 : Nat) (N0 : RdSl (hp w) K0 M0 a.name.parts) (K1 : Option Addr) (M1 : Nat) (N1 : RdSl (hp w) K1 M1 a.requesters) (b : PendingInterest) (K2 : Option Addr) (M2 : Nat) (N2 : RdSl (hp w) K2 M2 b.name.parts) (K3 : Option Addr) (M3 : Nat) (N3 : RdSl (hp w) K3 M3 b.requesters) (hoka : GoT.ok n a) (hokb : GoT.ok n b) :
  Does Tryz.prog 404 #[.agg #[.slice K0 ((a.name.parts).length) M0, .slice K1 ((a.requesters).length) M1, .int .i64 (a.lastSent)], .agg #[.slice K2 ((b.name.parts).length) M2, .slice K3 ((b.requesters).length) M3, .int .i64 (b.lastSent)]] w emp (fun (rv : Value) (_ : World) => rv = .bool (laws_eqPendingInterest a b) ∧ True) := by
 have hbP := bd_pos n
 have hbB := bd_big (n := n) (by omega)
 refine WX.enter (tt := tt) (Γ := [(0, MF.rs .stb K0 M0 a.name.parts), (1, MF.rs .stb K1 M1 a.requesters), (2, MF.rs .stb K2 M2 b.name.parts), (3, MF.rs .stb K3 M3 b.requesters)]) Tryz.func404 rfl (by kernel_rfl) rfl (allS_cons rfl N0 (allS_cons rfl N1 (allS_cons rfl N2 (allS_cons rfl N3 allS_nil)))) ?_
 refine R0 ?_
 refine WX.callV rfl rfl rfl rfl rfl (fun _ => rfl) rfl (fun w G bs hI hΓ => f162 w n (by omega) a.name K0 M0 (hΓ.get 0 rfl) b.name K2 M2 (hΓ.get 2 rfl) ((ok_PendingInterest hoka).1) ((ok_PendingInterest hokb).1)) ?_
 intro hq1
 refine R0 ?_
 refine WX.cases 10 rfl (fun h1 => ?_) (fun h1 => ?_)
 ·skip
  have h1d := (B.nt h1)
  refine R0 ?_
  have hP1 : laws_eqPendingInterest a b = false := by simp only [laws_eqPendingInterest, h1, ct, cf]
  exact R3 hP1
 ·skip
  have h1d := (B.nf h1)
  refine R0 ?_
  refine WX.callV rfl rfl rfl rfl rfl (fun _ => rfl) rfl (fun w G bs hI hΓ => f428 w n (by omega) a.requesters K1 M1 (hΓ.get 1 rfl) b.requesters K3 M3 (hΓ.get 3 rfl) ((ok_PendingInterest hoka).2.1) ((ok_PendingInterest hokb).2.1)) ?_
  intro hq2
  refine R0 ?_
  refine WX.cases 16 rfl (fun h2 => ?_) (fun h2 => ?_)
  ·skip
   have h2d := (B.nt h2)
   refine R0 ?_
   have hP2 : laws_eqPendingInterest a b = false := by simp only [laws_eqPendingInterest, h1, h2, ct, cf]
   exact R3 hP2
  ·skip
   have h2d := (B.nf h2)
   refine R0 ?_
   refine WX.cases 21 rfl (fun h3 => ?_) (fun h3 => ?_)
   ·skip
    have h3d := B.nt' h3
    refine R0 ?_
    have hP3 : laws_eqPendingInterest a b = false := by simp only [laws_eqPendingInterest, h1, h2, h3, ct, cf]
    exact R3 hP3
   ·skip
    have h3d := B.nf' h3
    refine R0 ?_
    have hP4 : laws_eqPendingInterest a b = true := by simp only [laws_eqPendingInterest, h1, h2, h3, ct, cf]
    exact R3 hP4
theorem f356 (w : World) (n : Nat) (hn : n + 0 ≤ 9) (a : (List PendingInterest)) (pa : Option Addr) (ca : Nat) (N0 : RdSl (hp w) pa ca a) (b : (List PendingInterest)) (pb : Option Addr) (cb : Nat) (N1 : RdSl (hp w) pb cb b) (hoka : GoT.ok n a) (hokb : GoT.ok n b) :
  Does Tryz.prog 356 #[.slice pa ((a).length) ca, .slice pb ((b).length) cb] w emp (fun (rv : Value) (_ : World) => rv = .bool (laws_eqPendingInterestS a b) ∧ True) := by
 have hbP := bd_pos n
 have hbB := bd_big (n := n) (by omega)
 refine WX.enter (tt := tt) (Γ := [(0, MF.rs .stb pa ca a), (1, MF.rs .stb pb cb b)]) Tryz.func356 rfl (by kernel_rfl) rfl (allS_cons rfl N0 (allS_cons rfl N1 allS_nil)) ?_
 refine R0 ?_
 refine WX.cases 10 rfl (fun h1 => ?_) (fun h1 => ?_)
 ·skip
  have h1d := B.nt' h1
  refine R0 ?_
  have hP1 : laws_eqPendingInterestS a b = false := by simp only [laws_eqPendingInterestS, h1, ct, cf]
  exact R3 hP1
 ·skip
  have h1d := B.nf' h1
  refine R0 ?_
  have r1 : (a).length ≤ bd n := (okl hoka).1
  refine WX.loop (ι := Nat) ⟨fun i => (i ≤ (a).length) ∧ (laws_eqPendingInterestS_L1 b a 0 = laws_eqPendingInterestS_L1 b ((a).drop i) i), fun i => (a).length - i, fun i => [(5, .v (.int .i64 (((i : Nat) : Int)))), (0, .v (.slice pa ((a).length) ca)), (1, .v (.slice pb ((b).length) cb))], fun i => [], fun i => [], fun i => [(0, MF.rs .stb pa ca a), (1, MF.rs .stb pb cb b)]⟩ 0 ⟨(Nat.zero_le _), rfl⟩
   (.cons rfl (.cons rfl (.cons rfl (.nil)))) .nil .nil [0, 1] rfl ?_
  rintro i hpre
  have hpre_ : (i ≤ (a).length) ∧ (laws_eqPendingInterestS_L1 b a 0 = laws_eqPendingInterestS_L1 b ((a).drop i) i) := hpre
  clear hpre
  obtain ⟨v1, v2⟩ := hpre_
  refine R0 ?_
  refine WX.cases 14 rfl (fun h2 => ?_) (fun h2 => ?_)
  ·skip
   have h2d := B.dt h2
   have e1i : i < (a).length := (by omega)
   obtain ⟨e1, e1h⟩ : ∃ e1, (a)[i]? = some e1 := ⟨_, List.getElem?_eq_getElem e1i⟩
   have ok1 : GoT.ok n e1 := (okl hoka).2 _ (List.mem_of_getElem? e1h)
   refine R0 ?_
   refine WX.draw [] mixed ?_
   intro bs G0 hΓ0
   refine DX.takes (fuel := 8) ttOk [(0, true), (1, true)] (by kernel_rfl) rfl ?_
   refine DX.idx 2 0 i ttOk hΓ0 (by kernel_rfl) rfl rfl rfl rfl rfl rfl rfl rfl rfl rfl rfl e1i ?_
   rintro ad1 rfl
   refine DX.ldE 3 0 2 e1 ttOk hΓ0 (by kernel_rfl) rfl rfl rfl rfl rfl rfl rfl rfl e1h (fun _ => rfl) (fun _ => rfl) ?_
   rintro ⟨⟨p1, c1⟩, ⟨p2, c2⟩, ⟨⟩⟩
   refine DX.takes (fuel := 4) ttOk [(4, true), (5, true)] (by kernel_rfl) rfl ?_
   have e2i : i < (b).length := (by first | assumption | omega)
   obtain ⟨e2, e2h⟩ : ∃ e2, (b)[i]? = some e2 := ⟨_, List.getElem?_eq_getElem e2i⟩
   have ok2 : GoT.ok n e2 := (okl hokb).2 _ (List.mem_of_getElem? e2h)
   refine DX.idx 6 1 i ttOk hΓ0 (by kernel_rfl) rfl rfl rfl rfl rfl rfl rfl rfl rfl rfl rfl e2i ?_
   rintro ad2 rfl
   refine DX.ldE 7 1 4 e2 ttOk hΓ0 (by kernel_rfl) rfl rfl rfl rfl rfl rfl rfl rfl e2h (fun _ => rfl) (fun _ => rfl) ?_
   rintro ⟨⟨p3, c3⟩, ⟨p4, c4⟩, ⟨⟩⟩
   refine DX.callV 8 rfl (by kernel_rfl) rfl rfl rfl rfl rfl rfl (fun _ => rfl) rfl (fun w G bs hI hΓ => f404 w n (by omega) e1 p1 c1 (hΓ.get 2 rfl) p2 c2 (hΓ.get 3 rfl) e2 p3 c3 (hΓ.get 4 rfl) p4 c4 (hΓ.get 5 rfl) ok1 ok2) ?_
   intro hq1
   refine DX.takes (fuel := 0) ttOk [(9, true)] (by kernel_rfl) rfl ?_
   refine DX.tail2 [] rfl rfl (by kernel_rfl) ?_
   refine R0 ?_
   refine WX.cases 26 rfl (fun h3 => ?_) (fun h3 => ?_)
   ·skip
    have h3d := (B.nt h3)
    refine R0 ?_
    have hP2 : laws_eqPendingInterestS_L1 b a 0 = (some false) := by rw [v2, drop_get e1h]; simp only [laws_eqPendingInterestS_L1, e2h, h3, ct, cf]
    have hP3 : laws_eqPendingInterestS a b = false := by simp only [laws_eqPendingInterestS, h1, hP2, ct, cf]
    exact R3 hP3
   ·skip
    have h3d := (B.nf h3)
    refine R0 ?_
    refine WX.see rfl rfl rfl (fun _ hΓ => looks_arith rfl rfl rfl rfl (by unfold I64; first | omega | (simp only [List.length_take] at *; omega))) ?_
    refine R0 ?_
    exact WX.iter (i + 1) ⟨(by omega), (by rw [v2, drop_get e1h]; simp only [laws_eqPendingInterestS_L1, e2h, h3, ct, cf])⟩ (by first | (dsimp only; omega) | omega) (.cons rfl (.cons rfl (.cons rfl (.nil)))) .nil .nil [0, 1] rfl
  ·skip
   have h2d := B.df h2
   refine R0 ?_
   have hX1 : laws_eqPendingInterestS_L1 b a 0 = none := by rw [v2, List.drop_eq_nil_of_le (show (a).length ≤ i by omega)]; simp only [laws_eqPendingInterestS_L1, ct, cf]
   have hP4 : laws_eqPendingInterestS a b = true := by simp only [laws_eqPendingInterestS, h1, hX1, ct, cf]
   exact R3 hP4
theorem f405 (w : World) (n : Nat) (hn : n + 0 ≤ 9) (a : SeenNonce) (K0 : Option Addr) (M0 : Nat) (N0 : RdSl (hp w) K0 M0 a.name.parts) (b : SeenNonce) (K1 : Option Addr) (M1 : Nat) (N1 : RdSl (hp w) K1 M1 b.name.parts) (hoka : GoT.ok n a) (hokb : GoT.ok n b) :
  Does Tryz.prog 405 #[.agg #[.slice K0 ((a.name.parts).length) M0, .int .i64 (a.nonce)], .agg #[.slice K1 ((b.name.parts).length) M1, .int .i64 (b.nonce)]] w emp (fun (rv : Value) (_ : World) => rv = .bool (laws_eqSeenNonce a b) ∧ True) := by
 have hbP := bd_pos n
 have hbB := bd_big (n := n) (by omega)
 refine WX.enter (tt := tt) (Γ := [(0, MF.rs .stb K0 M0 a.name.parts), (1, MF.rs .stb K1 M1 b.name.parts)]) Tryz.func405 rfl (by kernel_rfl) rfl (allS_cons rfl N0 (allS_cons rfl N1 allS_nil)) ?_
 refine R0 ?_
 refine WX.callV rfl rfl rfl rfl rfl (fun _ => rfl) rfl (fun w G bs hI hΓ => f162 w n (by omega) a.name K0 M0 (hΓ.get 0 rfl) b.name K1 M1 (hΓ.get 1 rfl) ((ok_SeenNonce hoka).1) ((ok_SeenNonce hokb).1)) ?_
 intro hq1
 refine R0 ?_
 refine WX.cases 10 rfl (fun h1 => ?_) (fun h1 => ?_)
 ·skip
  have h1d := (B.nt h1)
  refine R0 ?_
  have hP1 : laws_eqSeenNonce a b = false := by simp only [laws_eqSeenNonce, h1, ct, cf]
  exact R3 hP1
 ·skip
  have h1d := (B.nf h1)
  refine R0 ?_
  refine WX.cases 15 rfl (fun h2 => ?_) (fun h2 => ?_)
  ·skip
   have h2d := B.nt' h2
   refine R0 ?_
   have hP2 : laws_eqSeenNonce a b = false := by simp only [laws_eqSeenNonce, h1, h2, ct, cf]
   exact R3 hP2
  ·skip
   have h2d := B.nf' h2
   refine R0 ?_
   have hP3 : laws_eqSeenNonce a b = true := by simp only [laws_eqSeenNonce, h1, h2, ct, cf]
   exact R3 hP3
theorem f357 (w : World) (n : Nat) (hn : n + 0 ≤ 9) (a : (List SeenNonce)) (pa : Option Addr) (ca : Nat) (N0 : RdSl (hp w) pa ca a) (b : (List SeenNonce)) (pb : Option Addr) (cb : Nat) (N1 : RdSl (hp w) pb cb b) (hoka : GoT.ok n a) (hokb : GoT.ok n b) :
  Does Tryz.prog 357 #[.slice pa ((a).length) ca, .slice pb ((b).length) cb] w emp (fun (rv : Value) (_ : World) => rv = .bool (laws_eqSeenNonceS a b) ∧ True) := by
 have hbP := bd_pos n
 have hbB := bd_big (n := n) (by omega)
 refine WX.enter (tt := tt) (Γ := [(0, MF.rs .stb pa ca a), (1, MF.rs .stb pb cb b)]) Tryz.func357 rfl (by kernel_rfl) rfl (allS_cons rfl N0 (allS_cons rfl N1 allS_nil)) ?_
 refine R0 ?_
 refine WX.cases 10 rfl (fun h1 => ?_) (fun h1 => ?_)
 ·skip
  have h1d := B.nt' h1
  refine R0 ?_
  have hP1 : laws_eqSeenNonceS a b = false := by simp only [laws_eqSeenNonceS, h1, ct, cf]
  exact R3 hP1
 ·skip
  have h1d := B.nf' h1
  refine R0 ?_
  have r1 : (a).length ≤ bd n := (okl hoka).1
  refine WX.loop (ι := Nat) ⟨fun i => (i ≤ (a).length) ∧ (laws_eqSeenNonceS_L1 b a 0 = laws_eqSeenNonceS_L1 b ((a).drop i) i), fun i => (a).length - i, fun i => [(5, .v (.int .i64 (((i : Nat) : Int)))), (0, .v (.slice pa ((a).length) ca)), (1, .v (.slice pb ((b).length) cb))], fun i => [], fun i => [], fun i => [(0, MF.rs .stb pa ca a), (1, MF.rs .stb pb cb b)]⟩ 0 ⟨(Nat.zero_le _), rfl⟩
   (.cons rfl (.cons rfl (.cons rfl (.nil)))) .nil .nil [0, 1] rfl ?_
  rintro i hpre
  have hpre_ : (i ≤ (a).length) ∧ (laws_eqSeenNonceS_L1 b a 0 = laws_eqSeenNonceS_L1 b ((a).drop i) i) := hpre
  clear hpre
  obtain ⟨v1, v2⟩ := hpre_
  refine R0 ?_
  refine WX.cases 14 rfl (fun h2 => ?_) (fun h2 => ?_)
  ·skip
   have h2d := B.dt h2
   have e1i : i < (a).length := (by omega)
   obtain ⟨e1, e1h⟩ : ∃ e1, (a)[i]? = some e1 := ⟨_, List.getElem?_eq_getElem e1i⟩
   have ok1 : GoT.ok n e1 := (okl hoka).2 _ (List.mem_of_getElem? e1h)
   refine R0 ?_
   refine WX.draw [] mixed ?_
   intro bs G0 hΓ0
   refine DX.takes (fuel := 8) ttOk [(0, true), (1, true)] (by kernel_rfl) rfl ?_
   refine DX.idx 2 0 i ttOk hΓ0 (by kernel_rfl) rfl rfl rfl rfl rfl rfl rfl rfl rfl rfl rfl e1i ?_
   rintro ad1 rfl
   refine DX.ldE 3 0 2 e1 ttOk hΓ0 (by kernel_rfl) rfl rfl rfl rfl rfl rfl rfl rfl e1h (fun _ => rfl) (fun _ => rfl) ?_
   rintro ⟨⟨p1, c1⟩, ⟨⟩⟩
   refine DX.takes (fuel := 4) ttOk [(4, true), (5, true)] (by kernel_rfl) rfl ?_
   have e2i : i < (b).length := (by first | assumption | omega)
   obtain ⟨e2, e2h⟩ : ∃ e2, (b)[i]? = some e2 := ⟨_, List.getElem?_eq_getElem e2i⟩
   have ok2 : GoT.ok n e2 := (okl hokb).2 _ (List.mem_of_getElem? e2h)
   refine DX.idx 6 1 i ttOk hΓ0 (by kernel_rfl) rfl rfl rfl rfl rfl rfl rfl rfl rfl rfl rfl e2i ?_
   rintro ad2 rfl
   refine DX.ldE 7 1 3 e2 ttOk hΓ0 (by kernel_rfl) rfl rfl rfl rfl rfl rfl rfl rfl e2h (fun _ => rfl) (fun _ => rfl) ?_
   rintro ⟨⟨p2, c2⟩, ⟨⟩⟩
   refine DX.callV 8 rfl (by kernel_rfl) rfl rfl rfl rfl rfl rfl (fun _ => rfl) rfl (fun w G bs hI hΓ => f405 w n (by omega) e1 p1 c1 (hΓ.get 2 rfl) e2 p2 c2 (hΓ.get 3 rfl) ok1 ok2) ?_
   intro hq1
   refine DX.takes (fuel := 0) ttOk [(9, true)] (by kernel_rfl) rfl ?_
   refine DX.tail2 [] rfl rfl (by kernel_rfl) ?_
   refine R0 ?_
   refine WX.cases 26 rfl (fun h3 => ?_) (fun h3 => ?_)
   ·skip
    have h3d := (B.nt h3)
    refine R0 ?_
    have hP2 : laws_eqSeenNonceS_L1 b a 0 = (some false) := by rw [v2, drop_get e1h]; simp only [laws_eqSeenNonceS_L1, e2h, h3, ct, cf]
    have hP3 : laws_eqSeenNonceS a b = false := by simp only [laws_eqSeenNonceS, h1, hP2, ct, cf]
    exact R3 hP3
   ·skip
    have h3d := (B.nf h3)
    refine R0 ?_
    refine WX.see rfl rfl rfl (fun _ hΓ => looks_arith rfl rfl rfl rfl (by unfold I64; first | omega | (simp only [List.length_take] at *; omega))) ?_
    refine R0 ?_
    exact WX.iter (i + 1) ⟨(by omega), (by rw [v2, drop_get e1h]; simp only [laws_eqSeenNonceS_L1, e2h, h3, ct, cf])⟩ (by first | (dsimp only; omega) | omega) (.cons rfl (.cons rfl (.cons rfl (.nil)))) .nil .nil [0, 1] rfl
  ·skip
   have h2d := B.df h2
   refine R0 ?_
   have hX1 : laws_eqSeenNonceS_L1 b a 0 = none := by rw [v2, List.drop_eq_nil_of_le (show (a).length ≤ i by omega)]; simp only [laws_eqSeenNonceS_L1, ct, cf]
   have hP4 : laws_eqSeenNonceS a b = true := by simp only [laws_eqSeenNonceS, h1, hX1, ct, cf]
   exact R3 hP4
theorem f406 (w : World) (n : Nat) (hn : n + 0 ≤ 9) (a : Route) (K0 : Option Addr) (M0 : Nat) (N0 : RdSl (hp w) K0 M0 a.pfx.parts) (b : Route) (K1 : Option Addr) (M1 : Nat) (N1 : RdSl (hp w) K1 M1 b.pfx.parts) (hoka : GoT.ok n a) (hokb : GoT.ok n b) :
  Does Tryz.prog 406 #[.agg #[.slice K0 ((a.pfx.parts).length) M0, .int .i64 (a.face), .int .i64 (a.cost)], .agg #[.slice K1 ((b.pfx.parts).length) M1, .int .i64 (b.face), .int .i64 (b.cost)]] w emp (fun (rv : Value) (_ : World) => rv = .bool (laws_eqRoute a b) ∧ True) := by
 have hbP := bd_pos n
 have hbB := bd_big (n := n) (by omega)
 refine WX.enter (tt := tt) (Γ := [(0, MF.rs .stb K0 M0 a.pfx.parts), (1, MF.rs .stb K1 M1 b.pfx.parts)]) Tryz.func406 rfl (by kernel_rfl) rfl (allS_cons rfl N0 (allS_cons rfl N1 allS_nil)) ?_
 refine R0 ?_
 refine WX.callV rfl rfl rfl rfl rfl (fun _ => rfl) rfl (fun w G bs hI hΓ => f162 w n (by omega) a.pfx K0 M0 (hΓ.get 0 rfl) b.pfx K1 M1 (hΓ.get 1 rfl) ((ok_Route hoka).1) ((ok_Route hokb).1)) ?_
 intro hq1
 refine R0 ?_
 refine WX.cases 10 rfl (fun h1 => ?_) (fun h1 => ?_)
 ·skip
  have h1d := (B.nt h1)
  refine R0 ?_
  have hP1 : laws_eqRoute a b = false := by simp only [laws_eqRoute, h1, ct, cf]
  exact R3 hP1
 ·skip
  have h1d := (B.nf h1)
  refine R0 ?_
  refine WX.cases 15 rfl (fun h2 => ?_) (fun h2 => ?_)
  ·skip
   have h2d := B.nt' h2
   refine R0 ?_
   have hP2 : laws_eqRoute a b = false := by simp only [laws_eqRoute, h1, h2, ct, cf]
   exact R3 hP2
  ·skip
   have h2d := B.nf' h2
   refine R0 ?_
   refine WX.cases 20 rfl (fun h3 => ?_) (fun h3 => ?_)
   ·skip
    have h3d := B.nt' h3
    refine R0 ?_
    have hP3 : laws_eqRoute a b = false := by simp only [laws_eqRoute, h1, h2, h3, ct, cf]
    exact R3 hP3
   ·skip
    have h3d := B.nf' h3
    refine R0 ?_
    have hP4 : laws_eqRoute a b = true := by simp only [laws_eqRoute, h1, h2, h3, ct, cf]
    exact R3 hP4
theorem f358 (w : World) (n : Nat) (hn : n + 0 ≤ 9) (a : (List Route)) (pa : Option Addr) (ca : Nat) (N0 : RdSl (hp w) pa ca a) (b : (List Route)) (pb : Option Addr) (cb : Nat) (N1 : RdSl (hp w) pb cb b) (hoka : GoT.ok n a) (hokb : GoT.ok n b) :
  Does Tryz.prog 358 #[.slice pa ((a).length) ca, .slice pb ((b).length) cb] w emp (fun (rv : Value) (_ : World) => rv = .bool (laws_eqRouteS a b) ∧ True) := by
 have hbP := bd_pos n
 have hbB := bd_big (n := n) (by omega)
 refine WX.enter (tt := tt) (Γ := [(0, MF.rs .stb pa ca a), (1, MF.rs .stb pb cb b)]) Tryz.func358 rfl (by kernel_rfl) rfl (allS_cons rfl N0 (allS_cons rfl N1 allS_nil)) ?_
 refine R0 ?_
 refine WX.cases 10 rfl (fun h1 => ?_) (fun h1 => ?_)
 ·skip
  have h1d := B.nt' h1
  refine R0 ?_
  have hP1 : laws_eqRouteS a b = false := by simp only [laws_eqRouteS, h1, ct, cf]
  exact R3 hP1
 ·skip
  have h1d := B.nf' h1
  refine R0 ?_
  have r1 : (a).length ≤ bd n := (okl hoka).1
  refine WX.loop (ι := Nat) ⟨fun i => (i ≤ (a).length) ∧ (laws_eqRouteS_L1 b a 0 = laws_eqRouteS_L1 b ((a).drop i) i), fun i => (a).length - i, fun i => [(5, .v (.int .i64 (((i : Nat) : Int)))), (0, .v (.slice pa ((a).length) ca)), (1, .v (.slice pb ((b).length) cb))], fun i => [], fun i => [], fun i => [(0, MF.rs .stb pa ca a), (1, MF.rs .stb pb cb b)]⟩ 0 ⟨(Nat.zero_le _), rfl⟩
   (.cons rfl (.cons rfl (.cons rfl (.nil)))) .nil .nil [0, 1] rfl ?_
  rintro i hpre
  have hpre_ : (i ≤ (a).length) ∧ (laws_eqRouteS_L1 b a 0 = laws_eqRouteS_L1 b ((a).drop i) i) := hpre
  clear hpre
  obtain ⟨v1, v2⟩ := hpre_
  refine R0 ?_
  refine WX.cases 14 rfl (fun h2 => ?_) (fun h2 => ?_)
  ·skip
   have h2d := B.dt h2
   have e1i : i < (a).length := (by omega)
   obtain ⟨e1, e1h⟩ : ∃ e1, (a)[i]? = some e1 := ⟨_, List.getElem?_eq_getElem e1i⟩
   have ok1 : GoT.ok n e1 := (okl hoka).2 _ (List.mem_of_getElem? e1h)
   refine R0 ?_
   refine WX.draw [] mixed ?_
   intro bs G0 hΓ0
   refine DX.takes (fuel := 8) ttOk [(0, true), (1, true)] (by kernel_rfl) rfl ?_
   refine DX.idx 2 0 i ttOk hΓ0 (by kernel_rfl) rfl rfl rfl rfl rfl rfl rfl rfl rfl rfl rfl e1i ?_
   rintro ad1 rfl
   refine DX.ldE 3 0 2 e1 ttOk hΓ0 (by kernel_rfl) rfl rfl rfl rfl rfl rfl rfl rfl e1h (fun _ => rfl) (fun _ => rfl) ?_
   rintro ⟨⟨p1, c1⟩, ⟨⟩, ⟨⟩⟩
   refine DX.takes (fuel := 4) ttOk [(4, true), (5, true)] (by kernel_rfl) rfl ?_
   have e2i : i < (b).length := (by first | assumption | omega)
   obtain ⟨e2, e2h⟩ : ∃ e2, (b)[i]? = some e2 := ⟨_, List.getElem?_eq_getElem e2i⟩
   have ok2 : GoT.ok n e2 := (okl hokb).2 _ (List.mem_of_getElem? e2h)
   refine DX.idx 6 1 i ttOk hΓ0 (by kernel_rfl) rfl rfl rfl rfl rfl rfl rfl rfl rfl rfl rfl e2i ?_
   rintro ad2 rfl
   refine DX.ldE 7 1 3 e2 ttOk hΓ0 (by kernel_rfl) rfl rfl rfl rfl rfl rfl rfl rfl e2h (fun _ => rfl) (fun _ => rfl) ?_
   rintro ⟨⟨p2, c2⟩, ⟨⟩, ⟨⟩⟩
   refine DX.callV 8 rfl (by kernel_rfl) rfl rfl rfl rfl rfl rfl (fun _ => rfl) rfl (fun w G bs hI hΓ => f406 w n (by omega) e1 p1 c1 (hΓ.get 2 rfl) e2 p2 c2 (hΓ.get 3 rfl) ok1 ok2) ?_
   intro hq1
   refine DX.takes (fuel := 0) ttOk [(9, true)] (by kernel_rfl) rfl ?_
   refine DX.tail2 [] rfl rfl (by kernel_rfl) ?_
   refine R0 ?_
   refine WX.cases 26 rfl (fun h3 => ?_) (fun h3 => ?_)
   ·skip
    have h3d := (B.nt h3)
    refine R0 ?_
    have hP2 : laws_eqRouteS_L1 b a 0 = (some false) := by rw [v2, drop_get e1h]; simp only [laws_eqRouteS_L1, e2h, h3, ct, cf]
    have hP3 : laws_eqRouteS a b = false := by simp only [laws_eqRouteS, h1, hP2, ct, cf]
    exact R3 hP3
   ·skip
    have h3d := (B.nf h3)
    refine R0 ?_
    refine WX.see rfl rfl rfl (fun _ hΓ => looks_arith rfl rfl rfl rfl (by unfold I64; first | omega | (simp only [List.length_take] at *; omega))) ?_
    refine R0 ?_
    exact WX.iter (i + 1) ⟨(by omega), (by rw [v2, drop_get e1h]; simp only [laws_eqRouteS_L1, e2h, h3, ct, cf])⟩ (by first | (dsimp only; omega) | omega) (.cons rfl (.cons rfl (.cons rfl (.nil)))) .nil .nil [0, 1] rfl
  ·skip
   have h2d := B.df h2
   refine R0 ?_
   have hX1 : laws_eqRouteS_L1 b a 0 = none := by rw [v2, List.drop_eq_nil_of_le (show (a).length ≤ i by omega)]; simp only [laws_eqRouteS_L1, ct, cf]
   have hP4 : laws_eqRouteS a b = true := by simp only [laws_eqRouteS, h1, hX1, ct, cf]
   exact R3 hP4
theorem f407 (w : World) (n : Nat) (hn : n + 0 ≤ 9) (a : Measurement) (K0 : Option Addr) (M0 : Nat) (N0 : RdSl (hp w) K0 M0 a.pfx.parts) (b : Measurement) (K1 : Option Addr) (M1 : Nat) (N1 : RdSl (hp w) K1 M1 b.pfx.parts) (hoka : GoT.ok n a) (hokb : GoT.ok n b) :
  Does Tryz.prog 407 #[.agg #[.slice K0 ((a.pfx.parts).length) M0, .int .i64 (a.face), .int .i64 (a.failures)], .agg #[.slice K1 ((b.pfx.parts).length) M1, .int .i64 (b.face), .int .i64 (b.failures)]] w emp (fun (rv : Value) (_ : World) => rv = .bool (laws_eqMeasurement a b) ∧ True) := by
 have hbP := bd_pos n
 have hbB := bd_big (n := n) (by omega)
 refine WX.enter (tt := tt) (Γ := [(0, MF.rs .stb K0 M0 a.pfx.parts), (1, MF.rs .stb K1 M1 b.pfx.parts)]) Tryz.func407 rfl (by kernel_rfl) rfl (allS_cons rfl N0 (allS_cons rfl N1 allS_nil)) ?_
 refine R0 ?_
 refine WX.callV rfl rfl rfl rfl rfl (fun _ => rfl) rfl (fun w G bs hI hΓ => f162 w n (by omega) a.pfx K0 M0 (hΓ.get 0 rfl) b.pfx K1 M1 (hΓ.get 1 rfl) ((ok_Measurement hoka).1) ((ok_Measurement hokb).1)) ?_
 intro hq1
 refine R0 ?_
 refine WX.cases 10 rfl (fun h1 => ?_) (fun h1 => ?_)
 ·skip
  have h1d := (B.nt h1)
  refine R0 ?_
  have hP1 : laws_eqMeasurement a b = false := by simp only [laws_eqMeasurement, h1, ct, cf]
  exact R3 hP1
 ·skip
  have h1d := (B.nf h1)
  refine R0 ?_
  refine WX.cases 15 rfl (fun h2 => ?_) (fun h2 => ?_)
  ·skip
   have h2d := B.nt' h2
   refine R0 ?_
   have hP2 : laws_eqMeasurement a b = false := by simp only [laws_eqMeasurement, h1, h2, ct, cf]
   exact R3 hP2
  ·skip
   have h2d := B.nf' h2
   refine R0 ?_
   refine WX.cases 20 rfl (fun h3 => ?_) (fun h3 => ?_)
   ·skip
    have h3d := B.nt' h3
    refine R0 ?_
    have hP3 : laws_eqMeasurement a b = false := by simp only [laws_eqMeasurement, h1, h2, h3, ct, cf]
    exact R3 hP3
   ·skip
    have h3d := B.nf' h3
    refine R0 ?_
    have hP4 : laws_eqMeasurement a b = true := by simp only [laws_eqMeasurement, h1, h2, h3, ct, cf]
    exact R3 hP4
theorem f359 (w : World) (n : Nat) (hn : n + 0 ≤ 9) (a : (List Measurement)) (pa : Option Addr) (ca : Nat) (N0 : RdSl (hp w) pa ca a) (b : (List Measurement)) (pb : Option Addr) (cb : Nat) (N1 : RdSl (hp w) pb cb b) (hoka : GoT.ok n a) (hokb : GoT.ok n b) :
  Does Tryz.prog 359 #[.slice pa ((a).length) ca, .slice pb ((b).length) cb] w emp (fun (rv : Value) (_ : World) => rv = .bool (laws_eqMeasurementS a b) ∧ True) := by
 have hbP := bd_pos n
 have hbB := bd_big (n := n) (by omega)
 refine WX.enter (tt := tt) (Γ := [(0, MF.rs .stb pa ca a), (1, MF.rs .stb pb cb b)]) Tryz.func359 rfl (by kernel_rfl) rfl (allS_cons rfl N0 (allS_cons rfl N1 allS_nil)) ?_
 refine R0 ?_
 refine WX.cases 10 rfl (fun h1 => ?_) (fun h1 => ?_)
 ·skip
  have h1d := B.nt' h1
  refine R0 ?_
  have hP1 : laws_eqMeasurementS a b = false := by simp only [laws_eqMeasurementS, h1, ct, cf]
  exact R3 hP1
 ·skip
  have h1d := B.nf' h1
  refine R0 ?_
  have r1 : (a).length ≤ bd n := (okl hoka).1
  refine WX.loop (ι := Nat) ⟨fun i => (i ≤ (a).length) ∧ (laws_eqMeasurementS_L1 b a 0 = laws_eqMeasurementS_L1 b ((a).drop i) i), fun i => (a).length - i, fun i => [(5, .v (.int .i64 (((i : Nat) : Int)))), (0, .v (.slice pa ((a).length) ca)), (1, .v (.slice pb ((b).length) cb))], fun i => [], fun i => [], fun i => [(0, MF.rs .stb pa ca a), (1, MF.rs .stb pb cb b)]⟩ 0 ⟨(Nat.zero_le _), rfl⟩
   (.cons rfl (.cons rfl (.cons rfl (.nil)))) .nil .nil [0, 1] rfl ?_
  rintro i hpre
  have hpre_ : (i ≤ (a).length) ∧ (laws_eqMeasurementS_L1 b a 0 = laws_eqMeasurementS_L1 b ((a).drop i) i) := hpre
  clear hpre
  obtain ⟨v1, v2⟩ := hpre_
  refine R0 ?_
  refine WX.cases 14 rfl (fun h2 => ?_) (fun h2 => ?_)
  ·skip
   have h2d := B.dt h2
   have e1i : i < (a).length := (by omega)
   obtain ⟨e1, e1h⟩ : ∃ e1, (a)[i]? = some e1 := ⟨_, List.getElem?_eq_getElem e1i⟩
   have ok1 : GoT.ok n e1 := (okl hoka).2 _ (List.mem_of_getElem? e1h)
   refine R0 ?_
   refine WX.draw [] mixed ?_
   intro bs G0 hΓ0
   refine DX.takes (fuel := 8) ttOk [(0, true), (1, true)] (by kernel_rfl) rfl ?_
   refine DX.idx 2 0 i ttOk hΓ0 (by kernel_rfl) rfl rfl rfl rfl rfl rfl rfl rfl rfl rfl rfl e1i ?_
   rintro ad1 rfl
   refine DX.ldE 3 0 2 e1 ttOk hΓ0 (by kernel_rfl) rfl rfl rfl rfl rfl rfl rfl rfl e1h (fun _ => rfl) (fun _ => rfl) ?_
   rintro ⟨⟨p1, c1⟩, ⟨⟩, ⟨⟩⟩
   refine DX.takes (fuel := 4) ttOk [(4, true), (5, true)] (by kernel_rfl) rfl ?_
   have e2i : i < (b).length := (by first | assumption | omega)
   obtain ⟨e2, e2h⟩ : ∃ e2, (b)[i]? = some e2 := ⟨_, List.getElem?_eq_getElem e2i⟩
   have ok2 : GoT.ok n e2 := (okl hokb).2 _ (List.mem_of_getElem? e2h)
   refine DX.idx 6 1 i ttOk hΓ0 (by kernel_rfl) rfl rfl rfl rfl rfl rfl rfl rfl rfl rfl rfl e2i ?_
   rintro ad2 rfl
   refine DX.ldE 7 1 3 e2 ttOk hΓ0 (by kernel_rfl) rfl rfl rfl rfl rfl rfl rfl rfl e2h (fun _ => rfl) (fun _ => rfl) ?_
   rintro ⟨⟨p2, c2⟩, ⟨⟩, ⟨⟩⟩
   refine DX.callV 8 rfl (by kernel_rfl) rfl rfl rfl rfl rfl rfl (fun _ => rfl) rfl (fun w G bs hI hΓ => f407 w n (by omega) e1 p1 c1 (hΓ.get 2 rfl) e2 p2 c2 (hΓ.get 3 rfl) ok1 ok2) ?_
   intro hq1
   refine DX.takes (fuel := 0) ttOk [(9, true)] (by kernel_rfl) rfl ?_
   refine DX.tail2 [] rfl rfl (by kernel_rfl) ?_
   refine R0 ?_
   refine WX.cases 26 rfl (fun h3 => ?_) (fun h3 => ?_)
   ·skip
    have h3d := (B.nt h3)
    refine R0 ?_
    have hP2 : laws_eqMeasurementS_L1 b a 0 = (some false) := by rw [v2, drop_get e1h]; simp only [laws_eqMeasurementS_L1, e2h, h3, ct, cf]
    have hP3 : laws_eqMeasurementS a b = false := by simp only [laws_eqMeasurementS, h1, hP2, ct, cf]
    exact R3 hP3
   ·skip
    have h3d := (B.nf h3)
    refine R0 ?_
    refine WX.see rfl rfl rfl (fun _ hΓ => looks_arith rfl rfl rfl rfl (by unfold I64; first | omega | (simp only [List.length_take] at *; omega))) ?_
    refine R0 ?_
    exact WX.iter (i + 1) ⟨(by omega), (by rw [v2, drop_get e1h]; simp only [laws_eqMeasurementS_L1, e2h, h3, ct, cf])⟩ (by first | (dsimp only; omega) | omega) (.cons rfl (.cons rfl (.cons rfl (.nil)))) .nil .nil [0, 1] rfl
  ·skip
   have h2d := B.df h2
   refine R0 ?_
   have hX1 : laws_eqMeasurementS_L1 b a 0 = none := by rw [v2, List.drop_eq_nil_of_le (show (a).length ≤ i by omega)]; simp only [laws_eqMeasurementS_L1, ct, cf]
   have hP4 : laws_eqMeasurementS a b = true := by simp only [laws_eqMeasurementS, h1, hX1, ct, cf]
   exact R3 hP4
theorem f295 (w : World) (n : Nat) (hn : n + 0 ≤ 9) (a : NodeP) (K0 : Option Addr) (M0 : Nat) (N0 : RdSl (hp w) K0 M0 a.locl) (K1 : Option Addr) (M1 : Nat) (N1 : RdSl (hp w) K1 M1 a.cache.entries) (K2 : Option Addr) (M2 : Nat) (N2 : RdSl (hp w) K2 M2 a.pending) (K3 : Option Addr) (M3 : Nat) (N3 : RdSl (hp w) K3 M3 a.seen) (K4 : Option Addr) (M4 : Nat) (N4 : RdSl (hp w) K4 M4 a.routes) (K5 : Option Addr) (M5 : Nat) (N5 : RdSl (hp w) K5 M5 a.measurements) (b : NodeP) (K6 : Option Addr) (M6 : Nat) (N6 : RdSl (hp w) K6 M6 b.locl) (K7 : Option Addr) (M7 : Nat) (N7 : RdSl (hp w) K7 M7 b.cache.entries) (K8 : Option Addr) (M8 : Nat) (N8 : RdSl (hp w) K8 M8 b.pending) (K9 : Option Addr) (M9 : Nat) (N9 : RdSl (hp w) K9 M9 b.seen) (K10 : Option Addr) (M10 : Nat) (N10 : RdSl (hp w) K10 M10 b.routes) (K11 : Option Addr) (M11 : Nat) (N11 : RdSl (hp w) K11 M11 b.measurements) (hoka : GoT.ok n a) (hokb : GoT.ok n b) :
  Does Tryz.prog 295 #[.agg #[.slice K0 ((a.locl).length) M0, .int .i64 (a.cache.capacity), .slice K1 ((a.cache.entries).length) M1, .slice K2 ((a.pending).length) M2, .slice K3 ((a.seen).length) M3, .slice K4 ((a.routes).length) M4, .slice K5 ((a.measurements).length) M5, .int .i64 (a.dropped)], .agg #[.slice K6 ((b.locl).length) M6, .int .i64 (b.cache.capacity), .slice K7 ((b.cache.entries).length) M7, .slice K8 ((b.pending).length) M8, .slice K9 ((b.seen).length) M9, .slice K10 ((b.routes).length) M10, .slice K11 ((b.measurements).length) M11, .int .i64 (b.dropped)]] w emp (fun (rv : Value) (_ : World) => rv = .bool (laws_eqNode a b) ∧ True) := by
 have hbP := bd_pos n
 have hbB := bd_big (n := n) (by omega)
 refine WX.enter (tt := tt) (Γ := [(0, MF.rs .stb K0 M0 a.locl), (1, MF.rs .stb K1 M1 a.cache.entries), (2, MF.rs .stb K2 M2 a.pending), (3, MF.rs .stb K3 M3 a.seen), (4, MF.rs .stb K4 M4 a.routes), (5, MF.rs .stb K5 M5 a.measurements), (6, MF.rs .stb K6 M6 b.locl), (7, MF.rs .stb K7 M7 b.cache.entries), (8, MF.rs .stb K8 M8 b.pending), (9, MF.rs .stb K9 M9 b.seen), (10, MF.rs .stb K10 M10 b.routes), (11, MF.rs .stb K11 M11 b.measurements)]) Tryz.func295 rfl (by kernel_rfl) rfl (allS_cons rfl N0 (allS_cons rfl N1 (allS_cons rfl N2 (allS_cons rfl N3 (allS_cons rfl N4 (allS_cons rfl N5 (allS_cons rfl N6 (allS_cons rfl N7 (allS_cons rfl N8 (allS_cons rfl N9 (allS_cons rfl N10 (allS_cons rfl N11 allS_nil)))))))))))) ?_
 refine R0 ?_
 refine WX.callV rfl rfl rfl rfl rfl (fun _ => rfl) rfl (fun w G bs hI hΓ => f166 w n (by omega) a.locl K0 M0 (hΓ.get 0 rfl) b.locl K6 M6 (hΓ.get 6 rfl) ((ok_NodeP hoka).1) ((ok_NodeP hokb).1)) ?_
 intro hq1
 refine R0 ?_
 refine WX.cases 10 rfl (fun h1 => ?_) (fun h1 => ?_)
 ·skip
  have h1d := (B.nt h1)
  refine R0 ?_
  have hP1 : laws_eqNode a b = false := by simp only [laws_eqNode, h1, ct, cf]
  exact R3 hP1
 ·skip
  have h1d := (B.nf h1)
  refine R0 ?_
  refine WX.callV rfl rfl rfl rfl rfl (fun _ => rfl) rfl (fun w G bs hI hΓ => f355 w n (by omega) a.cache K1 M1 (hΓ.get 1 rfl) b.cache K7 M7 (hΓ.get 7 rfl) ((ok_NodeP hoka).2.1) ((ok_NodeP hokb).2.1)) ?_
  intro hq2
  refine R0 ?_
  refine WX.cases 16 rfl (fun h2 => ?_) (fun h2 => ?_)
  ·skip
   have h2d := (B.nt h2)
   refine R0 ?_
   have hP2 : laws_eqNode a b = false := by simp only [laws_eqNode, h1, h2, ct, cf]
   exact R3 hP2
  ·skip
   have h2d := (B.nf h2)
   refine R0 ?_
   refine WX.callV rfl rfl rfl rfl rfl (fun _ => rfl) rfl (fun w G bs hI hΓ => f356 w n (by omega) a.pending K2 M2 (hΓ.get 2 rfl) b.pending K8 M8 (hΓ.get 8 rfl) ((ok_NodeP hoka).2.2.1) ((ok_NodeP hokb).2.2.1)) ?_
   intro hq3
   refine R0 ?_
   refine WX.cases 22 rfl (fun h3 => ?_) (fun h3 => ?_)
   ·skip
    have h3d := (B.nt h3)
    refine R0 ?_
    have hP3 : laws_eqNode a b = false := by simp only [laws_eqNode, h1, h2, h3, ct, cf]
    exact R3 hP3
   ·skip
    have h3d := (B.nf h3)
    refine R0 ?_
    refine WX.callV rfl rfl rfl rfl rfl (fun _ => rfl) rfl (fun w G bs hI hΓ => f357 w n (by omega) a.seen K3 M3 (hΓ.get 3 rfl) b.seen K9 M9 (hΓ.get 9 rfl) ((ok_NodeP hoka).2.2.2.1) ((ok_NodeP hokb).2.2.2.1)) ?_
    intro hq4
    refine R0 ?_
    refine WX.cases 28 rfl (fun h4 => ?_) (fun h4 => ?_)
    ·skip
     have h4d := (B.nt h4)
     refine R0 ?_
     have hP4 : laws_eqNode a b = false := by simp only [laws_eqNode, h1, h2, h3, h4, ct, cf]
     exact R3 hP4
    ·skip
     have h4d := (B.nf h4)
     refine R0 ?_
     refine WX.callV rfl rfl rfl rfl rfl (fun _ => rfl) rfl (fun w G bs hI hΓ => f358 w n (by omega) a.routes K4 M4 (hΓ.get 4 rfl) b.routes K10 M10 (hΓ.get 10 rfl) ((ok_NodeP hoka).2.2.2.2.1) ((ok_NodeP hokb).2.2.2.2.1)) ?_
     intro hq5
     refine R0 ?_
     refine WX.cases 34 rfl (fun h5 => ?_) (fun h5 => ?_)
     ·skip
      have h5d := (B.nt h5)
      refine R0 ?_
      have hP5 : laws_eqNode a b = false := by simp only [laws_eqNode, h1, h2, h3, h4, h5, ct, cf]
      exact R3 hP5
     ·skip
      have h5d := (B.nf h5)
      refine R0 ?_
      refine WX.callV rfl rfl rfl rfl rfl (fun _ => rfl) rfl (fun w G bs hI hΓ => f359 w n (by omega) a.measurements K5 M5 (hΓ.get 5 rfl) b.measurements K11 M11 (hΓ.get 11 rfl) ((ok_NodeP hoka).2.2.2.2.2.1) ((ok_NodeP hokb).2.2.2.2.2.1)) ?_
      intro hq6
      refine R0 ?_
      refine WX.cases 40 rfl (fun h6 => ?_) (fun h6 => ?_)
      ·skip
       have h6d := (B.nt h6)
       refine R0 ?_
       have hP6 : laws_eqNode a b = false := by simp only [laws_eqNode, h1, h2, h3, h4, h5, h6, ct, cf]
       exact R3 hP6
      ·skip
       have h6d := (B.nf h6)
       refine R0 ?_
       refine WX.cases 45 rfl (fun h7 => ?_) (fun h7 => ?_)
       ·skip
        have h7d := B.nt' h7
        refine R0 ?_
        have hP7 : laws_eqNode a b = false := by simp only [laws_eqNode, h1, h2, h3, h4, h5, h6, h7, ct, cf]
        exact R3 hP7
       ·skip
        have h7d := B.nf' h7
        refine R0 ?_
        have hP8 : laws_eqNode a b = true := by simp only [laws_eqNode, h1, h2, h3, h4, h5, h6, h7, ct, cf]
        exact R3 hP8
theorem f205 (w : World) (n : Nat) (hn : n + 0 ≤ 9) (a : (List NodeP)) (pa : Option Addr) (ca : Nat) (N0 : RdSl (hp w) pa ca a) (b : (List NodeP)) (pb : Option Addr) (cb : Nat) (N1 : RdSl (hp w) pb cb b) (hoka : GoT.ok n a) (hokb : GoT.ok n b) :
  Does Tryz.prog 205 #[.slice pa ((a).length) ca, .slice pb ((b).length) cb] w emp (fun (rv : Value) (_ : World) => rv = .bool (laws_eqNodeS a b) ∧ True) := by
 have hbP := bd_pos n
 have hbB := bd_big (n := n) (by omega)
 refine WX.enter (tt := tt) (Γ := [(0, MF.rs .stb pa ca a), (1, MF.rs .stb pb cb b)]) Tryz.func205 rfl (by kernel_rfl) rfl (allS_cons rfl N0 (allS_cons rfl N1 allS_nil)) ?_
 refine R0 ?_
 refine WX.cases 10 rfl (fun h1 => ?_) (fun h1 => ?_)
 ·skip
  have h1d := B.nt' h1
  refine R0 ?_
  have hP1 : laws_eqNodeS a b = false := by simp only [laws_eqNodeS, h1, ct, cf]
  exact R3 hP1
 ·skip
  have h1d := B.nf' h1
  refine R0 ?_
  have r1 : (a).length ≤ bd n := (okl hoka).1
  refine WX.loop (ι := Nat) ⟨fun i => (i ≤ (a).length) ∧ (laws_eqNodeS_L1 b a 0 = laws_eqNodeS_L1 b ((a).drop i) i), fun i => (a).length - i, fun i => [(5, .v (.int .i64 (((i : Nat) : Int)))), (0, .v (.slice pa ((a).length) ca)), (1, .v (.slice pb ((b).length) cb))], fun i => [], fun i => [], fun i => [(0, MF.rs .stb pa ca a), (1, MF.rs .stb pb cb b)]⟩ 0 ⟨(Nat.zero_le _), rfl⟩
   (.cons rfl (.cons rfl (.cons rfl (.nil)))) .nil .nil [0, 1] rfl ?_
  rintro i hpre
  have hpre_ : (i ≤ (a).length) ∧ (laws_eqNodeS_L1 b a 0 = laws_eqNodeS_L1 b ((a).drop i) i) := hpre
  clear hpre
  obtain ⟨v1, v2⟩ := hpre_
  refine R0 ?_
  refine WX.cases 14 rfl (fun h2 => ?_) (fun h2 => ?_)
  ·skip
   have h2d := B.dt h2
   have e1i : i < (a).length := (by omega)
   obtain ⟨e1, e1h⟩ : ∃ e1, (a)[i]? = some e1 := ⟨_, List.getElem?_eq_getElem e1i⟩
   have ok1 : GoT.ok n e1 := (okl hoka).2 _ (List.mem_of_getElem? e1h)
   refine R0 ?_
   refine WX.draw [] mixed ?_
   intro bs G0 hΓ0
   refine DX.takes (fuel := 8) ttOk [(0, true), (1, true)] (by kernel_rfl) rfl ?_
   refine DX.idx 2 0 i ttOk hΓ0 (by kernel_rfl) rfl rfl rfl rfl rfl rfl rfl rfl rfl rfl rfl e1i ?_
   rintro ad1 rfl
   refine DX.ldE 3 0 2 e1 ttOk hΓ0 (by kernel_rfl) rfl rfl rfl rfl rfl rfl rfl rfl e1h (fun _ => rfl) (fun _ => rfl) ?_
   rintro ⟨⟨p1, c1⟩, ⟨⟨⟩, ⟨p2, c2⟩⟩, ⟨p3, c3⟩, ⟨p4, c4⟩, ⟨p5, c5⟩, ⟨p6, c6⟩, ⟨⟩⟩
   refine DX.takes (fuel := 4) ttOk [(4, true), (5, true)] (by kernel_rfl) rfl ?_
   have e2i : i < (b).length := (by first | assumption | omega)
   obtain ⟨e2, e2h⟩ : ∃ e2, (b)[i]? = some e2 := ⟨_, List.getElem?_eq_getElem e2i⟩
   have ok2 : GoT.ok n e2 := (okl hokb).2 _ (List.mem_of_getElem? e2h)
   refine DX.idx 6 1 i ttOk hΓ0 (by kernel_rfl) rfl rfl rfl rfl rfl rfl rfl rfl rfl rfl rfl e2i ?_
   rintro ad2 rfl
   refine DX.ldE 7 1 8 e2 ttOk hΓ0 (by kernel_rfl) rfl rfl rfl rfl rfl rfl rfl rfl e2h (fun _ => rfl) (fun _ => rfl) ?_
   rintro ⟨⟨p7, c7⟩, ⟨⟨⟩, ⟨p8, c8⟩⟩, ⟨p9, c9⟩, ⟨p10, c10⟩, ⟨p11, c11⟩, ⟨p12, c12⟩, ⟨⟩⟩
   refine DX.callV 8 rfl (by kernel_rfl) rfl rfl rfl rfl rfl rfl (fun _ => rfl) rfl (fun w G bs hI hΓ => f295 w n (by omega) e1 p1 c1 (hΓ.get 2 rfl) p2 c2 (hΓ.get 3 rfl) p3 c3 (hΓ.get 4 rfl) p4 c4 (hΓ.get 5 rfl) p5 c5 (hΓ.get 6 rfl) p6 c6 (hΓ.get 7 rfl) e2 p7 c7 (hΓ.get 8 rfl) p8 c8 (hΓ.get 9 rfl) p9 c9 (hΓ.get 10 rfl) p10 c10 (hΓ.get 11 rfl) p11 c11 (hΓ.get 12 rfl) p12 c12 (hΓ.get 13 rfl) ok1 ok2) ?_
   intro hq1
   refine DX.takes (fuel := 0) ttOk [(9, true)] (by kernel_rfl) rfl ?_
   refine DX.tail2 [] rfl rfl (by kernel_rfl) ?_
   refine R0 ?_
   refine WX.cases 26 rfl (fun h3 => ?_) (fun h3 => ?_)
   ·skip
    have h3d := (B.nt h3)
    refine R0 ?_
    have hP2 : laws_eqNodeS_L1 b a 0 = (some false) := by rw [v2, drop_get e1h]; simp only [laws_eqNodeS_L1, e2h, h3, ct, cf]
    have hP3 : laws_eqNodeS a b = false := by simp only [laws_eqNodeS, h1, hP2, ct, cf]
    exact R3 hP3
   ·skip
    have h3d := (B.nf h3)
    refine R0 ?_
    refine WX.see rfl rfl rfl (fun _ hΓ => looks_arith rfl rfl rfl rfl (by unfold I64; first | omega | (simp only [List.length_take] at *; omega))) ?_
    refine R0 ?_
    exact WX.iter (i + 1) ⟨(by omega), (by rw [v2, drop_get e1h]; simp only [laws_eqNodeS_L1, e2h, h3, ct, cf])⟩ (by first | (dsimp only; omega) | omega) (.cons rfl (.cons rfl (.cons rfl (.nil)))) .nil .nil [0, 1] rfl
  ·skip
   have h2d := B.df h2
   refine R0 ?_
   have hX1 : laws_eqNodeS_L1 b a 0 = none := by rw [v2, List.drop_eq_nil_of_le (show (a).length ≤ i by omega)]; simp only [laws_eqNodeS_L1, ct, cf]
   have hP4 : laws_eqNodeS a b = true := by simp only [laws_eqNodeS, h1, hX1, ct, cf]
   exact R3 hP4
theorem f206 (w : World) (n : Nat) (hn : n + 0 ≤ 9) (a : (List Int)) (pa : Option Addr) (ca : Nat) (N0 : RdSl (hp w) pa ca a) (b : (List Int)) (pb : Option Addr) (cb : Nat) (N1 : RdSl (hp w) pb cb b) (hoka : GoT.ok n a) (hokb : GoT.ok n b) :
  Does Tryz.prog 206 #[.slice pa ((a).length) ca, .slice pb ((b).length) cb] w emp (fun (rv : Value) (_ : World) => rv = .bool (laws_eqIntS a b) ∧ True) := by
 have hbP := bd_pos n
 have hbB := bd_big (n := n) (by omega)
 refine WX.enter (tt := tt) (Γ := [(0, MF.rs .stb pa ca a), (1, MF.rs .stb pb cb b)]) Tryz.func206 rfl (by kernel_rfl) rfl (allS_cons rfl N0 (allS_cons rfl N1 allS_nil)) ?_
 refine R0 ?_
 refine WX.cases 10 rfl (fun h1 => ?_) (fun h1 => ?_)
 ·skip
  have h1d := B.nt' h1
  refine R0 ?_
  have hP1 : laws_eqIntS a b = false := by simp only [laws_eqIntS, h1, ct, cf]
  exact R3 hP1
 ·skip
  have h1d := B.nf' h1
  refine R0 ?_
  have r1 : (a).length ≤ bd n := (okl hoka).1
  refine WX.loop (ι := Nat) ⟨fun i => (i ≤ (a).length) ∧ (laws_eqIntS_L1 b a 0 = laws_eqIntS_L1 b ((a).drop i) i), fun i => (a).length - i, fun i => [(5, .v (.int .i64 (((i : Nat) : Int)))), (0, .v (.slice pa ((a).length) ca)), (1, .v (.slice pb ((b).length) cb))], fun i => [], fun i => [], fun i => [(0, MF.rs .stb pa ca a), (1, MF.rs .stb pb cb b)]⟩ 0 ⟨(Nat.zero_le _), rfl⟩
   (.cons rfl (.cons rfl (.cons rfl (.nil)))) .nil .nil [0, 1] rfl ?_
  rintro i hpre
  have hpre_ : (i ≤ (a).length) ∧ (laws_eqIntS_L1 b a 0 = laws_eqIntS_L1 b ((a).drop i) i) := hpre
  clear hpre
  obtain ⟨v1, v2⟩ := hpre_
  refine R0 ?_
  refine WX.cases 14 rfl (fun h2 => ?_) (fun h2 => ?_)
  ·skip
   have h2d := B.dt h2
   have e1i : i < (a).length := (by omega)
   obtain ⟨e1, e1h⟩ : ∃ e1, (a)[i]? = some e1 := ⟨_, List.getElem?_eq_getElem e1i⟩
   have ok1 : GoT.ok n e1 := (okl hoka).2 _ (List.mem_of_getElem? e1h)
   refine R0 ?_
   refine WX.draw [] mixed ?_
   intro bs G0 hΓ0
   refine DX.takes (fuel := 7) ttOk [(0, true), (1, true)] (by kernel_rfl) rfl ?_
   refine DX.idx 2 0 i ttOk hΓ0 (by kernel_rfl) rfl rfl rfl rfl rfl rfl rfl rfl rfl rfl rfl e1i ?_
   rintro ad1 rfl
   refine DX.ldE 3 0 2 e1 ttOk hΓ0 (by kernel_rfl) rfl rfl rfl rfl rfl rfl rfl rfl e1h (fun _ => rfl) (fun _ => rfl) ?_
   rintro ⟨⟩
   refine DX.takes (fuel := 3) ttOk [(4, true), (5, true)] (by kernel_rfl) rfl ?_
   have e2i : i < (b).length := (by first | assumption | omega)
   obtain ⟨e2, e2h⟩ : ∃ e2, (b)[i]? = some e2 := ⟨_, List.getElem?_eq_getElem e2i⟩
   have ok2 : GoT.ok n e2 := (okl hokb).2 _ (List.mem_of_getElem? e2h)
   refine DX.idx 6 1 i ttOk hΓ0 (by kernel_rfl) rfl rfl rfl rfl rfl rfl rfl rfl rfl rfl rfl e2i ?_
   rintro ad2 rfl
   refine DX.ldE 7 1 2 e2 ttOk hΓ0 (by kernel_rfl) rfl rfl rfl rfl rfl rfl rfl rfl e2h (fun _ => rfl) (fun _ => rfl) ?_
   rintro ⟨⟩
   refine DX.takes (fuel := 0) ttOk [(8, true)] (by kernel_rfl) rfl ?_
   refine DX.tail2 [] rfl rfl (by kernel_rfl) ?_
   refine R0 ?_
   refine WX.cases 25 rfl (fun h3 => ?_) (fun h3 => ?_)
   ·skip
    have h3d := B.nt' h3
    refine R0 ?_
    have hP2 : laws_eqIntS_L1 b a 0 = (some false) := by rw [v2, drop_get e1h]; simp only [laws_eqIntS_L1, e2h, h3, ct, cf]
    have hP3 : laws_eqIntS a b = false := by simp only [laws_eqIntS, h1, hP2, ct, cf]
    exact R3 hP3
   ·skip
    have h3d := B.nf' h3
    refine R0 ?_
    refine WX.see rfl rfl rfl (fun _ hΓ => looks_arith rfl rfl rfl rfl (by unfold I64; first | omega | (simp only [List.length_take] at *; omega))) ?_
    refine R0 ?_
    exact WX.iter (i + 1) ⟨(by omega), (by rw [v2, drop_get e1h]; simp only [laws_eqIntS_L1, e2h, h3, ct, cf])⟩ (by first | (dsimp only; omega) | omega) (.cons rfl (.cons rfl (.cons rfl (.nil)))) .nil .nil [0, 1] rfl
  ·skip
   have h2d := B.df h2
   refine R0 ?_
   have hX1 : laws_eqIntS_L1 b a 0 = none := by rw [v2, List.drop_eq_nil_of_le (show (a).length ≤ i by omega)]; simp only [laws_eqIntS_L1, ct, cf]
   have hP4 : laws_eqIntS a b = true := by simp only [laws_eqIntS, h1, hX1, ct, cf]
   exact R3 hP4
theorem f360 (w : World) (n : Nat) (hn : n + 0 ≤ 9) (a : Interest) (K0 : Option Addr) (M0 : Nat) (N0 : RdSl (hp w) K0 M0 a.name.parts) (b : Interest) (K1 : Option Addr) (M1 : Nat) (N1 : RdSl (hp w) K1 M1 b.name.parts) (hoka : GoT.ok n a) (hokb : GoT.ok n b) :
  Does Tryz.prog 360 #[.agg #[.slice K0 ((a.name.parts).length) M0, .int .i64 (a.nonce), .int .i64 (a.hopLimit), .int .i64 (a.lifetime)], .agg #[.slice K1 ((b.name.parts).length) M1, .int .i64 (b.nonce), .int .i64 (b.hopLimit), .int .i64 (b.lifetime)]] w emp (fun (rv : Value) (_ : World) => rv = .bool (laws_eqInterest a b) ∧ True) := by
 have hbP := bd_pos n
 have hbB := bd_big (n := n) (by omega)
 refine WX.enter (tt := tt) (Γ := [(0, MF.rs .stb K0 M0 a.name.parts), (1, MF.rs .stb K1 M1 b.name.parts)]) Tryz.func360 rfl (by kernel_rfl) rfl (allS_cons rfl N0 (allS_cons rfl N1 allS_nil)) ?_
 refine R0 ?_
 refine WX.callV rfl rfl rfl rfl rfl (fun _ => rfl) rfl (fun w G bs hI hΓ => f162 w n (by omega) a.name K0 M0 (hΓ.get 0 rfl) b.name K1 M1 (hΓ.get 1 rfl) ((ok_Interest hoka).1) ((ok_Interest hokb).1)) ?_
 intro hq1
 refine R0 ?_
 refine WX.cases 10 rfl (fun h1 => ?_) (fun h1 => ?_)
 ·skip
  have h1d := (B.nt h1)
  refine R0 ?_
  have hP1 : laws_eqInterest a b = false := by simp only [laws_eqInterest, h1, ct, cf]
  exact R3 hP1
 ·skip
  have h1d := (B.nf h1)
  refine R0 ?_
  refine WX.cases 15 rfl (fun h2 => ?_) (fun h2 => ?_)
  ·skip
   have h2d := B.nt' h2
   refine R0 ?_
   have hP2 : laws_eqInterest a b = false := by simp only [laws_eqInterest, h1, h2, ct, cf]
   exact R3 hP2
  ·skip
   have h2d := B.nf' h2
   refine R0 ?_
   refine WX.cases 20 rfl (fun h3 => ?_) (fun h3 => ?_)
   ·skip
    have h3d := B.nt' h3
    refine R0 ?_
    have hP3 : laws_eqInterest a b = false := by simp only [laws_eqInterest, h1, h2, h3, ct, cf]
    exact R3 hP3
   ·skip
    have h3d := B.nf' h3
    refine R0 ?_
    refine WX.cases 25 rfl (fun h4 => ?_) (fun h4 => ?_)
    ·skip
     have h4d := B.nt' h4
     refine R0 ?_
     have hP4 : laws_eqInterest a b = false := by simp only [laws_eqInterest, h1, h2, h3, h4, ct, cf]
     exact R3 hP4
    ·skip
     have h4d := B.nf' h4
     refine R0 ?_
     have hP5 : laws_eqInterest a b = true := by simp only [laws_eqInterest, h1, h2, h3, h4, ct, cf]
     exact R3 hP5
theorem f296 (w : World) (n : Nat) (hn : n + 0 ≤ 9) (a : PacketInFlight) (K0 : Option Addr) (M0 : Nat) (N0 : RdSl (hp w) K0 M0 a.interest.name.parts) (K1 : Option Addr) (M1 : Nat) (N1 : RdSl (hp w) K1 M1 a.data.name.parts) (K2 : Option Addr) (M2 : Nat) (N2 : RdSl (hp w) K2 M2 a.data.content) (K3 : Option Addr) (M3 : Nat) (N3 : RdSl (hp w) K3 M3 a.data.keyName.parts) (b : PacketInFlight) (K4 : Option Addr) (M4 : Nat) (N4 : RdSl (hp w) K4 M4 b.interest.name.parts) (K5 : Option Addr) (M5 : Nat) (N5 : RdSl (hp w) K5 M5 b.data.name.parts) (K6 : Option Addr) (M6 : Nat) (N6 : RdSl (hp w) K6 M6 b.data.content) (K7 : Option Addr) (M7 : Nat) (N7 : RdSl (hp w) K7 M7 b.data.keyName.parts) (hoka : GoT.ok n a) (hokb : GoT.ok n b) :
  Does Tryz.prog 296 #[.agg #[.int .i64 (a.to), .int .i64 (a.face), .bool a.isInterest, .slice K0 ((a.interest.name.parts).length) M0, .int .i64 (a.interest.nonce), .int .i64 (a.interest.hopLimit), .int .i64 (a.interest.lifetime), .slice K1 ((a.data.name.parts).length) M1, .slice K2 ((a.data.content).length) M2, .slice K3 ((a.data.keyName.parts).length) M3, .int .i64 (a.data.freshUntil), .int .i64 (a.data.signature)], .agg #[.int .i64 (b.to), .int .i64 (b.face), .bool b.isInterest, .slice K4 ((b.interest.name.parts).length) M4, .int .i64 (b.interest.nonce), .int .i64 (b.interest.hopLimit), .int .i64 (b.interest.lifetime), .slice K5 ((b.data.name.parts).length) M5, .slice K6 ((b.data.content).length) M6, .slice K7 ((b.data.keyName.parts).length) M7, .int .i64 (b.data.freshUntil), .int .i64 (b.data.signature)]] w emp (fun (rv : Value) (_ : World) => rv = .bool (laws_eqPacketInFlight a b) ∧ True) := by
 have hbP := bd_pos n
 have hbB := bd_big (n := n) (by omega)
 refine WX.enter (tt := tt) (Γ := [(0, MF.rs .stb K0 M0 a.interest.name.parts), (1, MF.rs .stb K1 M1 a.data.name.parts), (2, MF.rs .stb K2 M2 a.data.content), (3, MF.rs .stb K3 M3 a.data.keyName.parts), (4, MF.rs .stb K4 M4 b.interest.name.parts), (5, MF.rs .stb K5 M5 b.data.name.parts), (6, MF.rs .stb K6 M6 b.data.content), (7, MF.rs .stb K7 M7 b.data.keyName.parts)]) Tryz.func296 rfl (by kernel_rfl) rfl (allS_cons rfl N0 (allS_cons rfl N1 (allS_cons rfl N2 (allS_cons rfl N3 (allS_cons rfl N4 (allS_cons rfl N5 (allS_cons rfl N6 (allS_cons rfl N7 allS_nil)))))))) ?_
 refine R0 ?_
 refine WX.cases 9 rfl (fun h1 => ?_) (fun h1 => ?_)
 ·skip
  have h1d := B.nt' h1
  refine R0 ?_
  have hP1 : laws_eqPacketInFlight a b = false := by simp only [laws_eqPacketInFlight, h1, ct, cf]
  exact R3 hP1
 ·skip
  have h1d := B.nf' h1
  refine R0 ?_
  refine WX.cases 14 rfl (fun h2 => ?_) (fun h2 => ?_)
  ·skip
   have h2d := B.nt' h2
   refine R0 ?_
   have hP2 : laws_eqPacketInFlight a b = false := by simp only [laws_eqPacketInFlight, h1, h2, ct, cf]
   exact R3 hP2
  ·skip
   have h2d := B.nf' h2
   refine R0 ?_
   refine WX.see rfl rfl rfl (fun _ hΓ => looks_beq ttOk rfl rfl rfl rfl rfl rfl) ?_
   refine R0 ?_
   refine WX.cases 19 rfl (fun h3 => ?_) (fun h3 => ?_)
   ·skip
    have h3d := (B.nt h3)
    refine R0 ?_
    have hP3 : laws_eqPacketInFlight a b = false := by simp only [laws_eqPacketInFlight, h1, h2, h3, ct, cf]
    exact R3 hP3
   ·skip
    have h3d := (B.nf h3)
    refine R0 ?_
    refine WX.callV rfl rfl rfl rfl rfl (fun _ => rfl) rfl (fun w G bs hI hΓ => f360 w n (by omega) a.interest K0 M0 (hΓ.get 0 rfl) b.interest K4 M4 (hΓ.get 4 rfl) ((ok_PacketInFlight hoka).2.2.2.1) ((ok_PacketInFlight hokb).2.2.2.1)) ?_
    intro hq1
    refine R0 ?_
    refine WX.cases 25 rfl (fun h4 => ?_) (fun h4 => ?_)
    ·skip
     have h4d := (B.nt h4)
     refine R0 ?_
     have hP4 : laws_eqPacketInFlight a b = false := by simp only [laws_eqPacketInFlight, h1, h2, h3, h4, ct, cf]
     exact R3 hP4
    ·skip
     have h4d := (B.nf h4)
     refine R0 ?_
     refine WX.callV rfl rfl rfl rfl rfl (fun _ => rfl) rfl (fun w G bs hI hΓ => f72 w n (by omega) a.data K1 M1 (hΓ.get 1 rfl) K2 M2 (hΓ.get 2 rfl) K3 M3 (hΓ.get 3 rfl) b.data K5 M5 (hΓ.get 5 rfl) K6 M6 (hΓ.get 6 rfl) K7 M7 (hΓ.get 7 rfl) ((ok_PacketInFlight hoka).2.2.2.2) ((ok_PacketInFlight hokb).2.2.2.2)) ?_
     intro hq2
     refine R0 ?_
     refine WX.cases 31 rfl (fun h5 => ?_) (fun h5 => ?_)
     ·skip
      have h5d := (B.nt h5)
      refine R0 ?_
      have hP5 : laws_eqPacketInFlight a b = false := by simp only [laws_eqPacketInFlight, h1, h2, h3, h4, h5, ct, cf]
      exact R3 hP5
     ·skip
      have h5d := (B.nf h5)
      refine R0 ?_
      have hP6 : laws_eqPacketInFlight a b = true := by simp only [laws_eqPacketInFlight, h1, h2, h3, h4, h5, ct, cf]
      exact R3 hP6
theorem f207 (w : World) (n : Nat) (hn : n + 0 ≤ 9) (a : (List PacketInFlight)) (pa : Option Addr) (ca : Nat) (N0 : RdSl (hp w) pa ca a) (b : (List PacketInFlight)) (pb : Option Addr) (cb : Nat) (N1 : RdSl (hp w) pb cb b) (hoka : GoT.ok n a) (hokb : GoT.ok n b) :
  Does Tryz.prog 207 #[.slice pa ((a).length) ca, .slice pb ((b).length) cb] w emp (fun (rv : Value) (_ : World) => rv = .bool (laws_eqPacketInFlightS a b) ∧ True) := by
 have hbP := bd_pos n
 have hbB := bd_big (n := n) (by omega)
 refine WX.enter (tt := tt) (Γ := [(0, MF.rs .stb pa ca a), (1, MF.rs .stb pb cb b)]) Tryz.func207 rfl (by kernel_rfl) rfl (allS_cons rfl N0 (allS_cons rfl N1 allS_nil)) ?_
 refine R0 ?_
 refine WX.cases 10 rfl (fun h1 => ?_) (fun h1 => ?_)
 ·skip
  have h1d := B.nt' h1
  refine R0 ?_
  have hP1 : laws_eqPacketInFlightS a b = false := by simp only [laws_eqPacketInFlightS, h1, ct, cf]
  exact R3 hP1
 ·skip
  have h1d := B.nf' h1
  refine R0 ?_
  have r1 : (a).length ≤ bd n := (okl hoka).1
  refine WX.loop (ι := Nat) ⟨fun i => (i ≤ (a).length) ∧ (laws_eqPacketInFlightS_L1 b a 0 = laws_eqPacketInFlightS_L1 b ((a).drop i) i), fun i => (a).length - i, fun i => [(5, .v (.int .i64 (((i : Nat) : Int)))), (0, .v (.slice pa ((a).length) ca)), (1, .v (.slice pb ((b).length) cb))], fun i => [], fun i => [], fun i => [(0, MF.rs .stb pa ca a), (1, MF.rs .stb pb cb b)]⟩ 0 ⟨(Nat.zero_le _), rfl⟩
   (.cons rfl (.cons rfl (.cons rfl (.nil)))) .nil .nil [0, 1] rfl ?_
  rintro i hpre
  have hpre_ : (i ≤ (a).length) ∧ (laws_eqPacketInFlightS_L1 b a 0 = laws_eqPacketInFlightS_L1 b ((a).drop i) i) := hpre
  clear hpre
  obtain ⟨v1, v2⟩ := hpre_
  refine R0 ?_
  refine WX.cases 14 rfl (fun h2 => ?_) (fun h2 => ?_)
  ·skip
   have h2d := B.dt h2
   have e1i : i < (a).length := (by omega)
   obtain ⟨e1, e1h⟩ : ∃ e1, (a)[i]? = some e1 := ⟨_, List.getElem?_eq_getElem e1i⟩
   have ok1 : GoT.ok n e1 := (okl hoka).2 _ (List.mem_of_getElem? e1h)
   refine R0 ?_
   refine WX.draw [] mixed ?_
   intro bs G0 hΓ0
   refine DX.takes (fuel := 8) ttOk [(0, true), (1, true)] (by kernel_rfl) rfl ?_
   refine DX.idx 2 0 i ttOk hΓ0 (by kernel_rfl) rfl rfl rfl rfl rfl rfl rfl rfl rfl rfl rfl e1i ?_
   rintro ad1 rfl
   refine DX.ldE 3 0 2 e1 ttOk hΓ0 (by kernel_rfl) rfl rfl rfl rfl rfl rfl rfl rfl e1h (fun _ => rfl) (fun _ => rfl) ?_
   rintro ⟨⟨⟩, ⟨⟩, ⟨⟩, ⟨⟨p1, c1⟩, ⟨⟩, ⟨⟩, ⟨⟩⟩, ⟨⟨p2, c2⟩, ⟨p3, c3⟩, ⟨p4, c4⟩, ⟨⟩, ⟨⟩⟩⟩
   refine DX.takes (fuel := 4) ttOk [(4, true), (5, true)] (by kernel_rfl) rfl ?_
   have e2i : i < (b).length := (by first | assumption | omega)
   obtain ⟨e2, e2h⟩ : ∃ e2, (b)[i]? = some e2 := ⟨_, List.getElem?_eq_getElem e2i⟩
   have ok2 : GoT.ok n e2 := (okl hokb).2 _ (List.mem_of_getElem? e2h)
   refine DX.idx 6 1 i ttOk hΓ0 (by kernel_rfl) rfl rfl rfl rfl rfl rfl rfl rfl rfl rfl rfl e2i ?_
   rintro ad2 rfl
   refine DX.ldE 7 1 6 e2 ttOk hΓ0 (by kernel_rfl) rfl rfl rfl rfl rfl rfl rfl rfl e2h (fun _ => rfl) (fun _ => rfl) ?_
   rintro ⟨⟨⟩, ⟨⟩, ⟨⟩, ⟨⟨p5, c5⟩, ⟨⟩, ⟨⟩, ⟨⟩⟩, ⟨⟨p6, c6⟩, ⟨p7, c7⟩, ⟨p8, c8⟩, ⟨⟩, ⟨⟩⟩⟩
   refine DX.callV 8 rfl (by kernel_rfl) rfl rfl rfl rfl rfl rfl (fun _ => rfl) rfl (fun w G bs hI hΓ => f296 w n (by omega) e1 p1 c1 (hΓ.get 2 rfl) p2 c2 (hΓ.get 3 rfl) p3 c3 (hΓ.get 4 rfl) p4 c4 (hΓ.get 5 rfl) e2 p5 c5 (hΓ.get 6 rfl) p6 c6 (hΓ.get 7 rfl) p7 c7 (hΓ.get 8 rfl) p8 c8 (hΓ.get 9 rfl) ok1 ok2) ?_
   intro hq1
   refine DX.takes (fuel := 0) ttOk [(9, true)] (by kernel_rfl) rfl ?_
   refine DX.tail2 [] rfl rfl (by kernel_rfl) ?_
   refine R0 ?_
   refine WX.cases 26 rfl (fun h3 => ?_) (fun h3 => ?_)
   ·skip
    have h3d := (B.nt h3)
    refine R0 ?_
    have hP2 : laws_eqPacketInFlightS_L1 b a 0 = (some false) := by rw [v2, drop_get e1h]; simp only [laws_eqPacketInFlightS_L1, e2h, h3, ct, cf]
    have hP3 : laws_eqPacketInFlightS a b = false := by simp only [laws_eqPacketInFlightS, h1, hP2, ct, cf]
    exact R3 hP3
   ·skip
    have h3d := (B.nf h3)
    refine R0 ?_
    refine WX.see rfl rfl rfl (fun _ hΓ => looks_arith rfl rfl rfl rfl (by unfold I64; first | omega | (simp only [List.length_take] at *; omega))) ?_
    refine R0 ?_
    exact WX.iter (i + 1) ⟨(by omega), (by rw [v2, drop_get e1h]; simp only [laws_eqPacketInFlightS_L1, e2h, h3, ct, cf])⟩ (by first | (dsimp only; omega) | omega) (.cons rfl (.cons rfl (.cons rfl (.nil)))) .nil .nil [0, 1] rfl
  ·skip
   have h2d := B.df h2
   refine R0 ?_
   have hX1 : laws_eqPacketInFlightS_L1 b a 0 = none := by rw [v2, List.drop_eq_nil_of_le (show (a).length ≤ i by omega)]; simp only [laws_eqPacketInFlightS_L1, ct, cf]
   have hP4 : laws_eqPacketInFlightS a b = true := by simp only [laws_eqPacketInFlightS, h1, hX1, ct, cf]
   exact R3 hP4
theorem f208 (w : World) (n : Nat) (hn : n + 0 ≤ 9) (a : (List Consumer)) (pa : Option Addr) (ca : Nat) (N0 : RdSl (hp w) pa ca a) (b : (List Consumer)) (pb : Option Addr) (cb : Nat) (N1 : RdSl (hp w) pb cb b) (hoka : GoT.ok n a) (hokb : GoT.ok n b) :
  Does Tryz.prog 208 #[.slice pa ((a).length) ca, .slice pb ((b).length) cb] w emp (fun (rv : Value) (_ : World) => rv = .bool (laws_eqConsumerS a b) ∧ True) := by
 have hbP := bd_pos n
 have hbB := bd_big (n := n) (by omega)
 refine WX.enter (tt := tt) (Γ := [(0, MF.rs .stb pa ca a), (1, MF.rs .stb pb cb b)]) Tryz.func208 rfl (by kernel_rfl) rfl (allS_cons rfl N0 (allS_cons rfl N1 allS_nil)) ?_
 refine R0 ?_
 refine WX.cases 10 rfl (fun h1 => ?_) (fun h1 => ?_)
 ·skip
  have h1d := B.nt' h1
  refine R0 ?_
  have hP1 : laws_eqConsumerS a b = false := by simp only [laws_eqConsumerS, h1, ct, cf]
  exact R3 hP1
 ·skip
  have h1d := B.nf' h1
  refine R0 ?_
  have r1 : (a).length ≤ bd n := (okl hoka).1
  refine WX.loop (ι := Nat) ⟨fun i => (i ≤ (a).length) ∧ (laws_eqConsumerS_L1 b a 0 = laws_eqConsumerS_L1 b ((a).drop i) i), fun i => (a).length - i, fun i => [(5, .v (.int .i64 (((i : Nat) : Int)))), (0, .v (.slice pa ((a).length) ca)), (1, .v (.slice pb ((b).length) cb))], fun i => [], fun i => [], fun i => [(0, MF.rs .stb pa ca a), (1, MF.rs .stb pb cb b)]⟩ 0 ⟨(Nat.zero_le _), rfl⟩
   (.cons rfl (.cons rfl (.cons rfl (.nil)))) .nil .nil [0, 1] rfl ?_
  rintro i hpre
  have hpre_ : (i ≤ (a).length) ∧ (laws_eqConsumerS_L1 b a 0 = laws_eqConsumerS_L1 b ((a).drop i) i) := hpre
  clear hpre
  obtain ⟨v1, v2⟩ := hpre_
  refine R0 ?_
  refine WX.cases 14 rfl (fun h2 => ?_) (fun h2 => ?_)
  ·skip
   have h2d := B.dt h2
   have e1i : i < (a).length := (by omega)
   obtain ⟨e1, e1h⟩ : ∃ e1, (a)[i]? = some e1 := ⟨_, List.getElem?_eq_getElem e1i⟩
   have ok1 : GoT.ok n e1 := (okl hoka).2 _ (List.mem_of_getElem? e1h)
   refine R0 ?_
   refine WX.draw [] mixed ?_
   intro bs G0 hΓ0
   refine DX.takes (fuel := 8) ttOk [(0, true), (1, true)] (by kernel_rfl) rfl ?_
   refine DX.idx 2 0 i ttOk hΓ0 (by kernel_rfl) rfl rfl rfl rfl rfl rfl rfl rfl rfl rfl rfl e1i ?_
   rintro ad1 rfl
   refine DX.ldE 3 0 2 e1 ttOk hΓ0 (by kernel_rfl) rfl rfl rfl rfl rfl rfl rfl rfl e1h (fun _ => rfl) (fun _ => rfl) ?_
   rintro ⟨⟨⟩, ⟨⟩, ⟨p1, c1⟩, ⟨⟩, ⟨⟩, ⟨⟩, ⟨⟨p2, c2⟩, ⟨p3, c3⟩, ⟨p4, c4⟩, ⟨⟩, ⟨⟩⟩⟩
   refine DX.takes (fuel := 4) ttOk [(4, true), (5, true)] (by kernel_rfl) rfl ?_
   have e2i : i < (b).length := (by first | assumption | omega)
   obtain ⟨e2, e2h⟩ : ∃ e2, (b)[i]? = some e2 := ⟨_, List.getElem?_eq_getElem e2i⟩
   have ok2 : GoT.ok n e2 := (okl hokb).2 _ (List.mem_of_getElem? e2h)
   refine DX.idx 6 1 i ttOk hΓ0 (by kernel_rfl) rfl rfl rfl rfl rfl rfl rfl rfl rfl rfl rfl e2i ?_
   rintro ad2 rfl
   refine DX.ldE 7 1 6 e2 ttOk hΓ0 (by kernel_rfl) rfl rfl rfl rfl rfl rfl rfl rfl e2h (fun _ => rfl) (fun _ => rfl) ?_
   rintro ⟨⟨⟩, ⟨⟩, ⟨p5, c5⟩, ⟨⟩, ⟨⟩, ⟨⟩, ⟨⟨p6, c6⟩, ⟨p7, c7⟩, ⟨p8, c8⟩, ⟨⟩, ⟨⟩⟩⟩
   refine DX.callV 8 rfl (by kernel_rfl) rfl rfl rfl rfl rfl rfl (fun _ => rfl) rfl (fun w G bs hI hΓ => f70 w n (by omega) e1 p1 c1 (hΓ.get 2 rfl) p2 c2 (hΓ.get 3 rfl) p3 c3 (hΓ.get 4 rfl) p4 c4 (hΓ.get 5 rfl) e2 p5 c5 (hΓ.get 6 rfl) p6 c6 (hΓ.get 7 rfl) p7 c7 (hΓ.get 8 rfl) p8 c8 (hΓ.get 9 rfl) ok1 ok2) ?_
   intro hq1
   refine DX.takes (fuel := 0) ttOk [(9, true)] (by kernel_rfl) rfl ?_
   refine DX.tail2 [] rfl rfl (by kernel_rfl) ?_
   refine R0 ?_
   refine WX.cases 26 rfl (fun h3 => ?_) (fun h3 => ?_)
   ·skip
    have h3d := (B.nt h3)
    refine R0 ?_
    have hP2 : laws_eqConsumerS_L1 b a 0 = (some false) := by rw [v2, drop_get e1h]; simp only [laws_eqConsumerS_L1, e2h, h3, ct, cf]
    have hP3 : laws_eqConsumerS a b = false := by simp only [laws_eqConsumerS, h1, hP2, ct, cf]
    exact R3 hP3
   ·skip
    have h3d := (B.nf h3)
    refine R0 ?_
    refine WX.see rfl rfl rfl (fun _ hΓ => looks_arith rfl rfl rfl rfl (by unfold I64; first | omega | (simp only [List.length_take] at *; omega))) ?_
    refine R0 ?_
    exact WX.iter (i + 1) ⟨(by omega), (by rw [v2, drop_get e1h]; simp only [laws_eqConsumerS_L1, e2h, h3, ct, cf])⟩ (by first | (dsimp only; omega) | omega) (.cons rfl (.cons rfl (.cons rfl (.nil)))) .nil .nil [0, 1] rfl
  ·skip
   have h2d := B.df h2
   refine R0 ?_
   have hX1 : laws_eqConsumerS_L1 b a 0 = none := by rw [v2, List.drop_eq_nil_of_le (show (a).length ≤ i by omega)]; simp only [laws_eqConsumerS_L1, ct, cf]
   have hP4 : laws_eqConsumerS a b = true := by simp only [laws_eqConsumerS, h1, hX1, ct, cf]
   exact R3 hP4
theorem f81 (w : World) (n : Nat) (hn : n + 0 ≤ 9) (a : Network) (K0 : Option Addr) (M0 : Nat) (N0 : RdSl (hp w) K0 M0 a.topology.links) (K1 : Option Addr) (M1 : Nat) (N1 : RdSl (hp w) K1 M1 a.trust.keys) (K2 : Option Addr) (M2 : Nat) (N2 : RdSl (hp w) K2 M2 a.trust.rules) (K3 : Option Addr) (M3 : Nat) (N3 : RdSl (hp w) K3 M3 a.trust.anchors) (K4 : Option Addr) (M4 : Nat) (N4 : RdSl (hp w) K4 M4 a.trust.certificates) (K5 : Option Addr) (M5 : Nat) (N5 : RdSl (hp w) K5 M5 a.producers) (K6 : Option Addr) (M6 : Nat) (N6 : RdSl (hp w) K6 M6 a.nodes) (K7 : Option Addr) (M7 : Nat) (N7 : RdSl (hp w) K7 M7 a.failedLinks) (K8 : Option Addr) (M8 : Nat) (N8 : RdSl (hp w) K8 M8 a.inFlight) (K9 : Option Addr) (M9 : Nat) (N9 : RdSl (hp w) K9 M9 a.consumers) (b : Network) (K10 : Option Addr) (M10 : Nat) (N10 : RdSl (hp w) K10 M10 b.topology.links) (K11 : Option Addr) (M11 : Nat) (N11 : RdSl (hp w) K11 M11 b.trust.keys) (K12 : Option Addr) (M12 : Nat) (N12 : RdSl (hp w) K12 M12 b.trust.rules) (K13 : Option Addr) (M13 : Nat) (N13 : RdSl (hp w) K13 M13 b.trust.anchors) (K14 : Option Addr) (M14 : Nat) (N14 : RdSl (hp w) K14 M14 b.trust.certificates) (K15 : Option Addr) (M15 : Nat) (N15 : RdSl (hp w) K15 M15 b.producers) (K16 : Option Addr) (M16 : Nat) (N16 : RdSl (hp w) K16 M16 b.nodes) (K17 : Option Addr) (M17 : Nat) (N17 : RdSl (hp w) K17 M17 b.failedLinks) (K18 : Option Addr) (M18 : Nat) (N18 : RdSl (hp w) K18 M18 b.inFlight) (K19 : Option Addr) (M19 : Nat) (N19 : RdSl (hp w) K19 M19 b.consumers) (hoka : GoT.ok n a) (hokb : GoT.ok n b) :
  Does Tryz.prog 81 #[.agg #[.int .i64 (a.topology.size), .slice K0 ((a.topology.links).length) M0, .slice K1 ((a.trust.keys).length) M1, .slice K2 ((a.trust.rules).length) M2, .slice K3 ((a.trust.anchors).length) M3, .slice K4 ((a.trust.certificates).length) M4, .slice K5 ((a.producers).length) M5, .slice K6 ((a.nodes).length) M6, .int .i64 (a.downNodes), .slice K7 ((a.failedLinks).length) M7, .slice K8 ((a.inFlight).length) M8, .slice K9 ((a.consumers).length) M9, .int .i64 (a.now), .int .i64 (a.dropped)], .agg #[.int .i64 (b.topology.size), .slice K10 ((b.topology.links).length) M10, .slice K11 ((b.trust.keys).length) M11, .slice K12 ((b.trust.rules).length) M12, .slice K13 ((b.trust.anchors).length) M13, .slice K14 ((b.trust.certificates).length) M14, .slice K15 ((b.producers).length) M15, .slice K16 ((b.nodes).length) M16, .int .i64 (b.downNodes), .slice K17 ((b.failedLinks).length) M17, .slice K18 ((b.inFlight).length) M18, .slice K19 ((b.consumers).length) M19, .int .i64 (b.now), .int .i64 (b.dropped)]] w emp (fun (rv : Value) (_ : World) => rv = .bool (laws_eqNetwork a b) ∧ True) := by
 have hbP := bd_pos n
 have hbB := bd_big (n := n) (by omega)
 refine WX.enter (tt := tt) (Γ := [(0, MF.rs .stb K0 M0 a.topology.links), (1, MF.rs .stb K1 M1 a.trust.keys), (2, MF.rs .stb K2 M2 a.trust.rules), (3, MF.rs .stb K3 M3 a.trust.anchors), (4, MF.rs .stb K4 M4 a.trust.certificates), (5, MF.rs .stb K5 M5 a.producers), (6, MF.rs .stb K6 M6 a.nodes), (7, MF.rs .stb K7 M7 a.failedLinks), (8, MF.rs .stb K8 M8 a.inFlight), (9, MF.rs .stb K9 M9 a.consumers), (10, MF.rs .stb K10 M10 b.topology.links), (11, MF.rs .stb K11 M11 b.trust.keys), (12, MF.rs .stb K12 M12 b.trust.rules), (13, MF.rs .stb K13 M13 b.trust.anchors), (14, MF.rs .stb K14 M14 b.trust.certificates), (15, MF.rs .stb K15 M15 b.producers), (16, MF.rs .stb K16 M16 b.nodes), (17, MF.rs .stb K17 M17 b.failedLinks), (18, MF.rs .stb K18 M18 b.inFlight), (19, MF.rs .stb K19 M19 b.consumers)]) Tryz.func81 rfl (by kernel_rfl) rfl (allS_cons rfl N0 (allS_cons rfl N1 (allS_cons rfl N2 (allS_cons rfl N3 (allS_cons rfl N4 (allS_cons rfl N5 (allS_cons rfl N6 (allS_cons rfl N7 (allS_cons rfl N8 (allS_cons rfl N9 (allS_cons rfl N10 (allS_cons rfl N11 (allS_cons rfl N12 (allS_cons rfl N13 (allS_cons rfl N14 (allS_cons rfl N15 (allS_cons rfl N16 (allS_cons rfl N17 (allS_cons rfl N18 (allS_cons rfl N19 allS_nil)))))))))))))))))))) ?_
 refine R0 ?_
 refine WX.callV rfl rfl rfl rfl rfl (fun _ => rfl) rfl (fun w G bs hI hΓ => f203 w n (by omega) a.topology K0 M0 (hΓ.get 0 rfl) b.topology K10 M10 (hΓ.get 10 rfl) ((ok_Network hoka).1) ((ok_Network hokb).1)) ?_
 intro hq1
 refine R0 ?_
 refine WX.cases 10 rfl (fun h1 => ?_) (fun h1 => ?_)
 ·skip
  have h1d := (B.nt h1)
  refine R0 ?_
  have hP1 : laws_eqNetwork a b = false := by simp only [laws_eqNetwork, h1, ct, cf]
  exact R3 hP1
 ·skip
  have h1d := (B.nf h1)
  refine R0 ?_
  refine WX.callV rfl rfl rfl rfl rfl (fun _ => rfl) rfl (fun w G bs hI hΓ => f71 w n (by omega) a.trust K1 M1 (hΓ.get 1 rfl) K2 M2 (hΓ.get 2 rfl) K3 M3 (hΓ.get 3 rfl) K4 M4 (hΓ.get 4 rfl) b.trust K11 M11 (hΓ.get 11 rfl) K12 M12 (hΓ.get 12 rfl) K13 M13 (hΓ.get 13 rfl) K14 M14 (hΓ.get 14 rfl) ((ok_Network hoka).2.1) ((ok_Network hokb).2.1)) ?_
  intro hq2
  refine R0 ?_
  refine WX.cases 16 rfl (fun h2 => ?_) (fun h2 => ?_)
  ·skip
   have h2d := (B.nt h2)
   refine R0 ?_
   have hP2 : laws_eqNetwork a b = false := by simp only [laws_eqNetwork, h1, h2, ct, cf]
   exact R3 hP2
  ·skip
   have h2d := (B.nf h2)
   refine R0 ?_
   refine WX.callV rfl rfl rfl rfl rfl (fun _ => rfl) rfl (fun w G bs hI hΓ => f204 w n (by omega) a.producers K5 M5 (hΓ.get 5 rfl) b.producers K15 M15 (hΓ.get 15 rfl) ((ok_Network hoka).2.2.1) ((ok_Network hokb).2.2.1)) ?_
   intro hq3
   refine R0 ?_
   refine WX.cases 22 rfl (fun h3 => ?_) (fun h3 => ?_)
   ·skip
    have h3d := (B.nt h3)
    refine R0 ?_
    have hP3 : laws_eqNetwork a b = false := by simp only [laws_eqNetwork, h1, h2, h3, ct, cf]
    exact R3 hP3
   ·skip
    have h3d := (B.nf h3)
    refine R0 ?_
    refine WX.callV rfl rfl rfl rfl rfl (fun _ => rfl) rfl (fun w G bs hI hΓ => f205 w n (by omega) a.nodes K6 M6 (hΓ.get 6 rfl) b.nodes K16 M16 (hΓ.get 16 rfl) ((ok_Network hoka).2.2.2.1) ((ok_Network hokb).2.2.2.1)) ?_
    intro hq4
    refine R0 ?_
    refine WX.cases 28 rfl (fun h4 => ?_) (fun h4 => ?_)
    ·skip
     have h4d := (B.nt h4)
     refine R0 ?_
     have hP4 : laws_eqNetwork a b = false := by simp only [laws_eqNetwork, h1, h2, h3, h4, ct, cf]
     exact R3 hP4
    ·skip
     have h4d := (B.nf h4)
     refine R0 ?_
     refine WX.cases 33 rfl (fun h5 => ?_) (fun h5 => ?_)
     ·skip
      have h5d := B.nt' h5
      refine R0 ?_
      have hP5 : laws_eqNetwork a b = false := by simp only [laws_eqNetwork, h1, h2, h3, h4, h5, ct, cf]
      exact R3 hP5
     ·skip
      have h5d := B.nf' h5
      refine R0 ?_
      refine WX.callV rfl rfl rfl rfl rfl (fun _ => rfl) rfl (fun w G bs hI hΓ => f206 w n (by omega) a.failedLinks K7 M7 (hΓ.get 7 rfl) b.failedLinks K17 M17 (hΓ.get 17 rfl) ((ok_Network hoka).2.2.2.2.2.1) ((ok_Network hokb).2.2.2.2.2.1)) ?_
      intro hq5
      refine R0 ?_
      refine WX.cases 39 rfl (fun h6 => ?_) (fun h6 => ?_)
      ·skip
       have h6d := (B.nt h6)
       refine R0 ?_
       have hP6 : laws_eqNetwork a b = false := by simp only [laws_eqNetwork, h1, h2, h3, h4, h5, h6, ct, cf]
       exact R3 hP6
      ·skip
       have h6d := (B.nf h6)
       refine R0 ?_
       refine WX.callV rfl rfl rfl rfl rfl (fun _ => rfl) rfl (fun w G bs hI hΓ => f207 w n (by omega) a.inFlight K8 M8 (hΓ.get 8 rfl) b.inFlight K18 M18 (hΓ.get 18 rfl) ((ok_Network hoka).2.2.2.2.2.2.1) ((ok_Network hokb).2.2.2.2.2.2.1)) ?_
       intro hq6
       refine R0 ?_
       refine WX.cases 45 rfl (fun h7 => ?_) (fun h7 => ?_)
       ·skip
        have h7d := (B.nt h7)
        refine R0 ?_
        have hP7 : laws_eqNetwork a b = false := by simp only [laws_eqNetwork, h1, h2, h3, h4, h5, h6, h7, ct, cf]
        exact R3 hP7
       ·skip
        have h7d := (B.nf h7)
        refine R0 ?_
        refine WX.callV rfl rfl rfl rfl rfl (fun _ => rfl) rfl (fun w G bs hI hΓ => f208 w n (by omega) a.consumers K9 M9 (hΓ.get 9 rfl) b.consumers K19 M19 (hΓ.get 19 rfl) ((ok_Network hoka).2.2.2.2.2.2.2.1) ((ok_Network hokb).2.2.2.2.2.2.2.1)) ?_
        intro hq7
        refine R0 ?_
        refine WX.cases 51 rfl (fun h8 => ?_) (fun h8 => ?_)
        ·skip
         have h8d := (B.nt h8)
         refine R0 ?_
         have hP8 : laws_eqNetwork a b = false := by simp only [laws_eqNetwork, h1, h2, h3, h4, h5, h6, h7, h8, ct, cf]
         exact R3 hP8
        ·skip
         have h8d := (B.nf h8)
         refine R0 ?_
         refine WX.cases 56 rfl (fun h9 => ?_) (fun h9 => ?_)
         ·skip
          have h9d := B.nt' h9
          refine R0 ?_
          have hP9 : laws_eqNetwork a b = false := by simp only [laws_eqNetwork, h1, h2, h3, h4, h5, h6, h7, h8, h9, ct, cf]
          exact R3 hP9
         ·skip
          have h9d := B.nf' h9
          refine R0 ?_
          refine WX.cases 61 rfl (fun h10 => ?_) (fun h10 => ?_)
          ·skip
           have h10d := B.nt' h10
           refine R0 ?_
           have hP10 : laws_eqNetwork a b = false := by simp only [laws_eqNetwork, h1, h2, h3, h4, h5, h6, h7, h8, h9, h10, ct, cf]
           exact R3 hP10
          ·skip
           have h10d := B.nf' h10
           refine R0 ?_
           have hP11 : laws_eqNetwork a b = true := by simp only [laws_eqNetwork, h1, h2, h3, h4, h5, h6, h7, h8, h9, h10, ct, cf]
           exact R3 hP11
end Go.Proofs.YtdimfabadjfkiaaGreat

namespace Go.Stp
set_option linter.unusedVariables false
set_option linter.unusedSimpArgs false
def laws_toStringS_L1 : List Str → Nat → (List Str) → (List Str)
  | [], i, out => ((out) : List Str)
  | e1 :: rest_, i, out =>
    match (out)[i]? with
      | none => default
      | some e2 =>
        laws_toStringS_L1 rest_ (i + 1) (((out.set i e1)) : List Str)
def laws_toStringS (a : (List Str)) : (List Str) :=
  match laws_toStringS_L1 a 0 ((List.replicate ((a).length) (⟨#[]⟩ : Str)) : List Str) with
    | out =>
      out
def laws_toName (a : Name) : Name :=
  (Name.mk (laws_toStringS a.parts))
def laws_toByteS_L1 : List UInt8 → Nat → (List UInt8) → (List UInt8)
  | [], i, out => ((out) : List UInt8)
  | e1 :: rest_, i, out =>
    match (out)[i]? with
      | none => default
      | some e2 =>
        laws_toByteS_L1 rest_ (i + 1) (((out.set i e1)) : List UInt8)
def laws_toByteS (a : (List UInt8)) : (List UInt8) :=
  match laws_toByteS_L1 a 0 ((List.replicate ((a).length) (0 : UInt8)) : List UInt8) with
    | out =>
      out
def laws_toData (a : DataP) : DataP :=
  (DataP.mk (laws_toName a.name) (laws_toByteS a.content) (laws_toName a.keyName) a.freshUntil a.signature)
def laws_toConsumer (a : Consumer) : Consumer :=
  (Consumer.mk a.node a.index (laws_toName a.name) a.attempts a.wait a.satisfied (laws_toData a.data))
def laws_toKey (a : Key) : Key :=
  (Key.mk (laws_toName a.name) a.secret)
def laws_toKeyS_L1 : List Key → Nat → (List Key) → (List Key)
  | [], i, out => ((out) : List Key)
  | e1 :: rest_, i, out =>
    match (out)[i]? with
      | none => default
      | some e2 =>
        laws_toKeyS_L1 rest_ (i + 1) (((out.set i (laws_toKey e1))) : List Key)
def laws_toKeyS (a : (List Key)) : (List Key) :=
  match laws_toKeyS_L1 a 0 ((List.replicate ((a).length) (Key.mk (Name.mk ([])) 0)) : List Key) with
    | out =>
      out
def laws_toPattern (a : Pattern) : Pattern :=
  (Pattern.mk (laws_toStringS a.parts))
def laws_toRule (a : Rule) : Rule :=
  (Rule.mk (laws_toPattern a.dataPattern) (laws_toPattern a.keyPattern))
def laws_toRuleS_L1 : List Rule → Nat → (List Rule) → (List Rule)
  | [], i, out => ((out) : List Rule)
  | e1 :: rest_, i, out =>
    match (out)[i]? with
      | none => default
      | some e2 =>
        laws_toRuleS_L1 rest_ (i + 1) (((out.set i (laws_toRule e1))) : List Rule)
def laws_toRuleS (a : (List Rule)) : (List Rule) :=
  match laws_toRuleS_L1 a 0 ((List.replicate ((a).length) (Rule.mk (Pattern.mk ([])) (Pattern.mk ([])))) : List Rule) with
    | out =>
      out
def laws_toNameS_L1 : List Name → Nat → (List Name) → (List Name)
  | [], i, out => ((out) : List Name)
  | e1 :: rest_, i, out =>
    match (out)[i]? with
      | none => default
      | some e2 =>
        laws_toNameS_L1 rest_ (i + 1) (((out.set i (laws_toName e1))) : List Name)
def laws_toNameS (a : (List Name)) : (List Name) :=
  match laws_toNameS_L1 a 0 ((List.replicate ((a).length) (Name.mk ([]))) : List Name) with
    | out =>
      out
def laws_toDataS_L1 : List DataP → Nat → (List DataP) → (List DataP)
  | [], i, out => ((out) : List DataP)
  | e1 :: rest_, i, out =>
    match (out)[i]? with
      | none => default
      | some e2 =>
        laws_toDataS_L1 rest_ (i + 1) (((out.set i (laws_toData e1))) : List DataP)
def laws_toDataS (a : (List DataP)) : (List DataP) :=
  match laws_toDataS_L1 a 0 ((List.replicate ((a).length) (DataP.mk (Name.mk ([])) ([]) (Name.mk ([])) 0 0)) : List DataP) with
    | out =>
      out
def laws_toTrustPolicy (a : TrustPolicy) : TrustPolicy :=
  (TrustPolicy.mk (laws_toKeyS a.keys) (laws_toRuleS a.rules) (laws_toNameS a.anchors) (laws_toDataS a.certificates))
def laws_toLink (a : Link) : Link :=
  a
def laws_toLinkS_L1 : List Link → Nat → (List Link) → (List Link)
  | [], i, out => ((out) : List Link)
  | e1 :: rest_, i, out =>
    match (out)[i]? with
      | none => default
      | some e2 =>
        laws_toLinkS_L1 rest_ (i + 1) (((out.set i (laws_toLink e1))) : List Link)
def laws_toLinkS (a : (List Link)) : (List Link) :=
  match laws_toLinkS_L1 a 0 ((List.replicate ((a).length) (Link.mk 0 0)) : List Link) with
    | out =>
      out
def laws_toTopology (a : Topology) : Topology :=
  (Topology.mk a.size (laws_toLinkS a.links))
def laws_toTableEntry (a : TableEntry) : TableEntry :=
  (TableEntry.mk (laws_toName a.name) a.value)
def laws_toTableEntryS_L1 : List TableEntry → Nat → (List TableEntry) → (List TableEntry)
  | [], i, out => ((out) : List TableEntry)
  | e1 :: rest_, i, out =>
    match (out)[i]? with
      | none => default
      | some e2 =>
        laws_toTableEntryS_L1 rest_ (i + 1) (((out.set i (laws_toTableEntry e1))) : List TableEntry)
def laws_toTableEntryS (a : (List TableEntry)) : (List TableEntry) :=
  match laws_toTableEntryS_L1 a 0 ((List.replicate ((a).length) (TableEntry.mk (Name.mk ([])) 0)) : List TableEntry) with
    | out =>
      out
def laws_toCacheEntry (a : CacheEntry) : CacheEntry :=
  (CacheEntry.mk (laws_toData a.data) a.lastUsed)
def laws_toCacheEntryS_L1 : List CacheEntry → Nat → (List CacheEntry) → (List CacheEntry)
  | [], i, out => ((out) : List CacheEntry)
  | e1 :: rest_, i, out =>
    match (out)[i]? with
      | none => default
      | some e2 =>
        laws_toCacheEntryS_L1 rest_ (i + 1) (((out.set i (laws_toCacheEntry e1))) : List CacheEntry)
def laws_toCacheEntryS (a : (List CacheEntry)) : (List CacheEntry) :=
  match laws_toCacheEntryS_L1 a 0 ((List.replicate ((a).length) (CacheEntry.mk (DataP.mk (Name.mk ([])) ([]) (Name.mk ([])) 0 0) 0)) : List CacheEntry) with
    | out =>
      out
def laws_toContentStore (a : ContentStore) : ContentStore :=
  (ContentStore.mk a.capacity (laws_toCacheEntryS a.entries))
def laws_toRequester (a : Requester) : Requester :=
  a
def laws_toRequesterS_L1 : List Requester → Nat → (List Requester) → (List Requester)
  | [], i, out => ((out) : List Requester)
  | e1 :: rest_, i, out =>
    match (out)[i]? with
      | none => default
      | some e2 =>
        laws_toRequesterS_L1 rest_ (i + 1) (((out.set i (laws_toRequester e1))) : List Requester)
def laws_toRequesterS (a : (List Requester)) : (List Requester) :=
  match laws_toRequesterS_L1 a 0 ((List.replicate ((a).length) (Requester.mk 0 0 0)) : List Requester) with
    | out =>
      out
def laws_toPendingInterest (a : PendingInterest) : PendingInterest :=
  (PendingInterest.mk (laws_toName a.name) (laws_toRequesterS a.requesters) a.lastSent)
def laws_toPendingInterestS_L1 : List PendingInterest → Nat → (List PendingInterest) → (List PendingInterest)
  | [], i, out => ((out) : List PendingInterest)
  | e1 :: rest_, i, out =>
    match (out)[i]? with
      | none => default
      | some e2 =>
        laws_toPendingInterestS_L1 rest_ (i + 1) (((out.set i (laws_toPendingInterest e1))) : List PendingInterest)
def laws_toPendingInterestS (a : (List PendingInterest)) : (List PendingInterest) :=
  match laws_toPendingInterestS_L1 a 0 ((List.replicate ((a).length) (PendingInterest.mk (Name.mk ([])) ([]) 0)) : List PendingInterest) with
    | out =>
      out
def laws_toSeenNonce (a : SeenNonce) : SeenNonce :=
  (SeenNonce.mk (laws_toName a.name) a.nonce)
def laws_toSeenNonceS_L1 : List SeenNonce → Nat → (List SeenNonce) → (List SeenNonce)
  | [], i, out => ((out) : List SeenNonce)
  | e1 :: rest_, i, out =>
    match (out)[i]? with
      | none => default
      | some e2 =>
        laws_toSeenNonceS_L1 rest_ (i + 1) (((out.set i (laws_toSeenNonce e1))) : List SeenNonce)
def laws_toSeenNonceS (a : (List SeenNonce)) : (List SeenNonce) :=
  match laws_toSeenNonceS_L1 a 0 ((List.replicate ((a).length) (SeenNonce.mk (Name.mk ([])) 0)) : List SeenNonce) with
    | out =>
      out
def laws_toRoute (a : Route) : Route :=
  (Route.mk (laws_toName a.pfx) a.face a.cost)
def laws_toRouteS_L1 : List Route → Nat → (List Route) → (List Route)
  | [], i, out => ((out) : List Route)
  | e1 :: rest_, i, out =>
    match (out)[i]? with
      | none => default
      | some e2 =>
        laws_toRouteS_L1 rest_ (i + 1) (((out.set i (laws_toRoute e1))) : List Route)
def laws_toRouteS (a : (List Route)) : (List Route) :=
  match laws_toRouteS_L1 a 0 ((List.replicate ((a).length) (Route.mk (Name.mk ([])) 0 0)) : List Route) with
    | out =>
      out
def laws_toMeasurement (a : Measurement) : Measurement :=
  (Measurement.mk (laws_toName a.pfx) a.face a.failures)
def laws_toMeasurementS_L1 : List Measurement → Nat → (List Measurement) → (List Measurement)
  | [], i, out => ((out) : List Measurement)
  | e1 :: rest_, i, out =>
    match (out)[i]? with
      | none => default
      | some e2 =>
        laws_toMeasurementS_L1 rest_ (i + 1) (((out.set i (laws_toMeasurement e1))) : List Measurement)
def laws_toMeasurementS (a : (List Measurement)) : (List Measurement) :=
  match laws_toMeasurementS_L1 a 0 ((List.replicate ((a).length) (Measurement.mk (Name.mk ([])) 0 0)) : List Measurement) with
    | out =>
      out
def laws_toNode (a : NodeP) : NodeP :=
  (NodeP.mk (laws_toDataS a.locl) (laws_toContentStore a.cache) (laws_toPendingInterestS a.pending) (laws_toSeenNonceS a.seen) (laws_toRouteS a.routes) (laws_toMeasurementS a.measurements) a.dropped)
def laws_toNodeS_L1 : List NodeP → Nat → (List NodeP) → (List NodeP)
  | [], i, out => ((out) : List NodeP)
  | e1 :: rest_, i, out =>
    match (out)[i]? with
      | none => default
      | some e2 =>
        laws_toNodeS_L1 rest_ (i + 1) (((out.set i (laws_toNode e1))) : List NodeP)
def laws_toNodeS (a : (List NodeP)) : (List NodeP) :=
  match laws_toNodeS_L1 a 0 ((List.replicate ((a).length) (NodeP.mk ([]) (ContentStore.mk 0 ([])) ([]) ([]) ([]) ([]) 0)) : List NodeP) with
    | out =>
      out
def laws_toIntS_L1 : List Int → Nat → (List Int) → (List Int)
  | [], i, out => ((out) : List Int)
  | e1 :: rest_, i, out =>
    match (out)[i]? with
      | none => default
      | some e2 =>
        laws_toIntS_L1 rest_ (i + 1) (((out.set i e1)) : List Int)
def laws_toIntS (a : (List Int)) : (List Int) :=
  match laws_toIntS_L1 a 0 ((List.replicate ((a).length) 0) : List Int) with
    | out =>
      out
def laws_toInterest (a : Interest) : Interest :=
  (Interest.mk (laws_toName a.name) a.nonce a.hopLimit a.lifetime)
def laws_toPacketInFlight (a : PacketInFlight) : PacketInFlight :=
  (PacketInFlight.mk a.to a.face a.isInterest (laws_toInterest a.interest) (laws_toData a.data))
def laws_toPacketInFlightS_L1 : List PacketInFlight → Nat → (List PacketInFlight) → (List PacketInFlight)
  | [], i, out => ((out) : List PacketInFlight)
  | e1 :: rest_, i, out =>
    match (out)[i]? with
      | none => default
      | some e2 =>
        laws_toPacketInFlightS_L1 rest_ (i + 1) (((out.set i (laws_toPacketInFlight e1))) : List PacketInFlight)
def laws_toPacketInFlightS (a : (List PacketInFlight)) : (List PacketInFlight) :=
  match laws_toPacketInFlightS_L1 a 0 ((List.replicate ((a).length) (PacketInFlight.mk 0 0 false (Interest.mk (Name.mk ([])) 0 0 0) (DataP.mk (Name.mk ([])) ([]) (Name.mk ([])) 0 0))) : List PacketInFlight) with
    | out =>
      out
def laws_toConsumerS_L1 : List Consumer → Nat → (List Consumer) → (List Consumer)
  | [], i, out => ((out) : List Consumer)
  | e1 :: rest_, i, out =>
    match (out)[i]? with
      | none => default
      | some e2 =>
        laws_toConsumerS_L1 rest_ (i + 1) (((out.set i (laws_toConsumer e1))) : List Consumer)
def laws_toConsumerS (a : (List Consumer)) : (List Consumer) :=
  match laws_toConsumerS_L1 a 0 ((List.replicate ((a).length) (Consumer.mk 0 0 (Name.mk ([])) 0 0 false (DataP.mk (Name.mk ([])) ([]) (Name.mk ([])) 0 0))) : List Consumer) with
    | out =>
      out
def laws_toNetwork (a : Network) : Network :=
  (Network.mk (laws_toTopology a.topology) (laws_toTrustPolicy a.trust) (laws_toTableEntryS a.producers) (laws_toNodeS a.nodes) a.downNodes (laws_toIntS a.failedLinks) (laws_toPacketInFlightS a.inFlight) (laws_toConsumerS a.consumers) a.now a.dropped)
end Go.Stp

