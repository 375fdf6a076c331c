/-
  What the proof of one law needs: rules of the program logic, functions as Lean functions, contracts. No condition but what each says. Written by a program (pack.py) out of my own texts.
-/
import Derived.Test.YtfffongneoegbaaGreatKEqualNetworks3
namespace Go.Proofs.YtfffongneoegbaaGreat
open Go.Stp
set_option linter.unusedVariables false
set_option linter.unusedSimpArgs false
theorem f197 (w : World) (n : Nat) (hn : n + 0 ≤ 9) (a : (List Str)) (pa : Option Addr) (ca : Nat) (hpa : RdSl (hp w) pa ca a) (b : (List Str)) (pb : Option Addr) (cb : Nat) (hpb : RdSl (hp w) pb cb b) (hoka : GoT.ok n a) (hokb : GoT.ok n b) :
    Does Tryz.prog 197 #[.slice pa ((a).length) ca, .slice pb ((b).length) cb] w emp (fun (rv : Value) (_ : World) => rv = .bool (laws_eqStringS a b) ∧ True) := by
  have hbP := bd_pos n
  have hbB := bd_big (n := n) (by omega)
  refine WX.enter (tt := tt) (Γ := [(0, MF.rs .stb pa ca a), (1, MF.rs .stb pb cb b)]) Tryz.func197 rfl (by kernel_rfl) rfl (allS_cons rfl hpa (allS_cons rfl hpb allS_nil)) ?_
  refine WX.run ttOk rfl ?_
  refine WX.cases 10 rfl (fun h1 => ?_) (fun h1 => ?_)
  · skip
    have h1d := B.nt' h1
    refine WX.run ttOk rfl ?_
    have hP1 : laws_eqStringS a b = false := by simp only [laws_eqStringS, h1, cond_true, cond_false]
    refine WX.ret ttOk rfl ?_
    intro w1 G bs hI hΓ
    rw [hP1]
    exact ⟨rfl, trivial⟩
  · skip
    have h1d := B.nf' h1
    refine WX.run ttOk rfl ?_
    have r1 : (a).length ≤ bd n := (okl hoka).1
    refine WX.loop (ι := Nat) ⟨fun i => (i ≤ (a).length) ∧ (laws_eqStringS_L1 b a 0 = laws_eqStringS_L1 b ((a).drop i) i), fun i => (a).length - i, fun i => [(5, .v (.int .i64 (((i : Nat) : Int)))), (0, .v (.slice pa ((a).length) ca)), (1, .v (.slice pb ((b).length) cb))], fun i => [], fun i => [], fun i => [(0, MF.rs .stb pa ca a), (1, MF.rs .stb pb cb b)]⟩ 0 ⟨(Nat.zero_le _), rfl⟩
      (.cons rfl (.cons rfl (.cons rfl (.nil)))) .nil .nil [0, 1] rfl ?_
    rintro i hpre
    have hpre_ : (i ≤ (a).length) ∧ (laws_eqStringS_L1 b a 0 = laws_eqStringS_L1 b ((a).drop i) i) := hpre
    clear hpre
    obtain ⟨v1, v2⟩ := hpre_
    refine WX.run ttOk rfl ?_
    refine WX.cases 14 rfl (fun h2 => ?_) (fun h2 => ?_)
    · skip
      have h2d := B.dt h2
      have e1i : i < (a).length := (by omega)
      obtain ⟨e1, e1h⟩ : ∃ e1, (a)[i]? = some e1 := ⟨_, List.getElem?_eq_getElem e1i⟩
      have ok1 : GoT.ok n e1 := (okl hoka).2 _ (List.mem_of_getElem? e1h)
      refine WX.run ttOk rfl ?_
      refine WX.draw [] mixed ?_
      intro bs G0 hΓ0
      refine DX.takes (fuel := 7) ttOk [(0, true), (1, true)] (by kernel_rfl) rfl ?_
      refine DX.idx 2 0 i ttOk hΓ0 (by kernel_rfl) rfl rfl rfl rfl rfl rfl rfl rfl rfl rfl rfl e1i ?_
      rintro ad1 rfl
      refine DX.ldE 3 0 2 e1 ttOk hΓ0 (by kernel_rfl) rfl rfl rfl rfl rfl rfl rfl rfl e1h (fun _ => rfl) (fun _ => rfl) ?_
      rintro ⟨⟩
      refine DX.takes (fuel := 3) ttOk [(4, true), (5, true)] (by kernel_rfl) rfl ?_
      have e2i : i < (b).length := (by first | assumption | omega)
      obtain ⟨e2, e2h⟩ : ∃ e2, (b)[i]? = some e2 := ⟨_, List.getElem?_eq_getElem e2i⟩
      have ok2 : GoT.ok n e2 := (okl hokb).2 _ (List.mem_of_getElem? e2h)
      refine DX.idx 6 1 i ttOk hΓ0 (by kernel_rfl) rfl rfl rfl rfl rfl rfl rfl rfl rfl rfl rfl e2i ?_
      rintro ad2 rfl
      refine DX.ldE 7 1 2 e2 ttOk hΓ0 (by kernel_rfl) rfl rfl rfl rfl rfl rfl rfl rfl e2h (fun _ => rfl) (fun _ => rfl) ?_
      rintro ⟨⟩
      refine DX.takes (fuel := 0) ttOk [(8, true)] (by kernel_rfl) rfl ?_
      refine DX.tail2 [] rfl rfl (by kernel_rfl) ?_
      refine WX.run ttOk rfl ?_
      refine WX.cases 25 rfl (fun h3 => ?_) (fun h3 => ?_)
      · skip
        have h3d := B.ef (B.nt h3)
        refine WX.run ttOk rfl ?_
        have hP2 : laws_eqStringS_L1 b a 0 = (some false) := by rw [v2, drop_get e1h]; simp only [laws_eqStringS_L1, e2h, h3, cond_true, cond_false]
        have hP3 : laws_eqStringS a b = false := by simp only [laws_eqStringS, h1, hP2, cond_true, cond_false]
        refine WX.ret ttOk rfl ?_
        intro w1 G bs hI hΓ
        rw [hP3]
        exact ⟨rfl, trivial⟩
      · skip
        have h3d := B.et (B.nf h3)
        refine WX.run ttOk rfl ?_
        refine WX.see rfl rfl rfl (fun _ hΓ => looks_arith rfl rfl rfl rfl (by unfold I64; first | omega | (dsimp only; omega))) ?_
        refine WX.run ttOk rfl ?_
        exact WX.iter (i + 1) ⟨(by omega), (by rw [v2, drop_get e1h]; simp only [laws_eqStringS_L1, e2h, h3, cond_true, cond_false])⟩ (by dsimp only; omega) (.cons rfl (.cons rfl (.cons rfl (.nil)))) .nil .nil [0, 1] rfl
    · skip
      have h2d := B.df h2
      refine WX.run ttOk rfl ?_
      have hX1 : laws_eqStringS_L1 b a 0 = none := by rw [v2, List.drop_eq_nil_of_le (show (a).length ≤ i by omega)]; simp only [laws_eqStringS_L1, cond_true, cond_false]
      have hP4 : laws_eqStringS a b = true := by simp only [laws_eqStringS, h1, hX1, cond_true, cond_false]
      refine WX.ret ttOk rfl ?_
      intro w1 G bs hI hΓ
      rw [hP4]
      exact ⟨rfl, trivial⟩
theorem f74 (w : World) (n : Nat) (hn : n + 0 ≤ 9) (a : Name) (pa : Option Addr) (ca : Nat) (hpa : RdSl (hp w) pa ca a.parts) (b : Name) (pb : Option Addr) (cb : Nat) (hpb : RdSl (hp w) pb cb b.parts) (hoka : GoT.ok n a) (hokb : GoT.ok n b) :
    Does Tryz.prog 74 #[.agg #[.slice pa ((a.parts).length) ca], .agg #[.slice pb ((b.parts).length) cb]] w emp (fun (rv : Value) (_ : World) => rv = .bool (laws_eqName a b) ∧ True) := by
  have hbP := bd_pos n
  have hbB := bd_big (n := n) (by omega)
  refine WX.enter (tt := tt) (Γ := [(0, MF.rs .stb pa ca a.parts), (1, MF.rs .stb pb cb b.parts)]) Tryz.func74 rfl (by kernel_rfl) rfl (allS_cons rfl hpa (allS_cons rfl hpb allS_nil)) ?_
  refine WX.run ttOk rfl ?_
  refine WX.callV rfl rfl rfl rfl rfl (fun _ => rfl) rfl (fun w G bs hI hΓ => f197 w n (by omega) a.parts pa ca (hΓ.get 0 rfl) b.parts pb cb (hΓ.get 1 rfl) (ok_Name hoka) (ok_Name hokb)) ?_
  intro hq1
  refine WX.run ttOk rfl ?_
  refine WX.cases 10 rfl (fun h1 => ?_) (fun h1 => ?_)
  · skip
    have h1d := (B.nt h1)
    refine WX.run ttOk rfl ?_
    have hP1 : laws_eqName a b = false := by simp only [laws_eqName, h1, cond_true, cond_false]
    refine WX.ret ttOk rfl ?_
    intro w1 G bs hI hΓ
    rw [hP1]
    exact ⟨rfl, trivial⟩
  · skip
    have h1d := (B.nf h1)
    refine WX.run ttOk rfl ?_
    have hP2 : laws_eqName a b = true := by simp only [laws_eqName, h1, cond_true, cond_false]
    refine WX.ret ttOk rfl ?_
    intro w1 G bs hI hΓ
    rw [hP2]
    exact ⟨rfl, trivial⟩
theorem f248 (w : World) (n : Nat) (hn : n + 0 ≤ 9) (a : TableEntry) (paName : Option Addr) (caName : Nat) (hpaName : RdSl (hp w) paName caName a.name.parts) (b : TableEntry) (pbName : Option Addr) (cbName : Nat) (hpbName : RdSl (hp w) pbName cbName b.name.parts) (hoka : GoT.ok n a) (hokb : GoT.ok n b) :
    Does Tryz.prog 248 #[.agg #[.slice paName ((a.name.parts).length) caName, .int .i64 (a.value)], .agg #[.slice pbName ((b.name.parts).length) cbName, .int .i64 (b.value)]] w emp (fun (rv : Value) (_ : World) => rv = .bool (laws_eqTableEntry a b) ∧ True) := by
  have hbP := bd_pos n
  have hbB := bd_big (n := n) (by omega)
  refine WX.enter (tt := tt) (Γ := [(0, MF.rs .stb paName caName a.name.parts), (1, MF.rs .stb pbName cbName b.name.parts)]) Tryz.func248 rfl (by kernel_rfl) rfl (allS_cons rfl hpaName (allS_cons rfl hpbName allS_nil)) ?_
  refine WX.run ttOk rfl ?_
  refine WX.callV rfl rfl rfl rfl rfl (fun _ => rfl) rfl (fun w G bs hI hΓ => f74 w n (by omega) a.name paName caName (hΓ.get 0 rfl) b.name pbName cbName (hΓ.get 1 rfl) ((ok_TableEntry hoka).1) ((ok_TableEntry hokb).1)) ?_
  intro hq1
  refine WX.run ttOk rfl ?_
  refine WX.cases 10 rfl (fun h1 => ?_) (fun h1 => ?_)
  · skip
    have h1d := (B.nt h1)
    refine WX.run ttOk rfl ?_
    have hP1 : laws_eqTableEntry a b = false := by simp only [laws_eqTableEntry, h1, cond_true, cond_false]
    refine WX.ret ttOk rfl ?_
    intro w1 G bs hI hΓ
    rw [hP1]
    exact ⟨rfl, trivial⟩
  · skip
    have h1d := (B.nf h1)
    refine WX.run ttOk rfl ?_
    refine WX.cases 15 rfl (fun h2 => ?_) (fun h2 => ?_)
    · skip
      have h2d := B.nt' h2
      refine WX.run ttOk rfl ?_
      have hP2 : laws_eqTableEntry a b = false := by simp only [laws_eqTableEntry, h1, h2, cond_true, cond_false]
      refine WX.ret ttOk rfl ?_
      intro w1 G bs hI hΓ
      rw [hP2]
      exact ⟨rfl, trivial⟩
    · skip
      have h2d := B.nf' h2
      refine WX.run ttOk rfl ?_
      have hP3 : laws_eqTableEntry a b = true := by simp only [laws_eqTableEntry, h1, h2, cond_true, cond_false]
      refine WX.ret ttOk rfl ?_
      intro w1 G bs hI hΓ
      rw [hP3]
      exact ⟨rfl, trivial⟩
theorem f141 (w : World) (n : Nat) (hn : n + 0 ≤ 9) (a : (List TableEntry)) (pa : Option Addr) (ca : Nat) (hpa : RdSl (hp w) pa ca a) (b : (List TableEntry)) (pb : Option Addr) (cb : Nat) (hpb : RdSl (hp w) pb cb b) (hoka : GoT.ok n a) (hokb : GoT.ok n b) :
    Does Tryz.prog 141 #[.slice pa ((a).length) ca, .slice pb ((b).length) cb] w emp (fun (rv : Value) (_ : World) => rv = .bool (laws_eqTableEntryS a b) ∧ True) := by
  have hbP := bd_pos n
  have hbB := bd_big (n := n) (by omega)
  refine WX.enter (tt := tt) (Γ := [(0, MF.rs .stb pa ca a), (1, MF.rs .stb pb cb b)]) Tryz.func141 rfl (by kernel_rfl) rfl (allS_cons rfl hpa (allS_cons rfl hpb allS_nil)) ?_
  refine WX.run ttOk rfl ?_
  refine WX.cases 10 rfl (fun h1 => ?_) (fun h1 => ?_)
  · skip
    have h1d := B.nt' h1
    refine WX.run ttOk rfl ?_
    have hP1 : laws_eqTableEntryS a b = false := by simp only [laws_eqTableEntryS, h1, cond_true, cond_false]
    refine WX.ret ttOk rfl ?_
    intro w1 G bs hI hΓ
    rw [hP1]
    exact ⟨rfl, trivial⟩
  · skip
    have h1d := B.nf' h1
    refine WX.run ttOk rfl ?_
    have r1 : (a).length ≤ bd n := (okl hoka).1
    refine WX.loop (ι := Nat) ⟨fun i => (i ≤ (a).length) ∧ (laws_eqTableEntryS_L1 b a 0 = laws_eqTableEntryS_L1 b ((a).drop i) i), fun i => (a).length - i, fun i => [(5, .v (.int .i64 (((i : Nat) : Int)))), (0, .v (.slice pa ((a).length) ca)), (1, .v (.slice pb ((b).length) cb))], fun i => [], fun i => [], fun i => [(0, MF.rs .stb pa ca a), (1, MF.rs .stb pb cb b)]⟩ 0 ⟨(Nat.zero_le _), rfl⟩
      (.cons rfl (.cons rfl (.cons rfl (.nil)))) .nil .nil [0, 1] rfl ?_
    rintro i hpre
    have hpre_ : (i ≤ (a).length) ∧ (laws_eqTableEntryS_L1 b a 0 = laws_eqTableEntryS_L1 b ((a).drop i) i) := hpre
    clear hpre
    obtain ⟨v1, v2⟩ := hpre_
    refine WX.run ttOk rfl ?_
    refine WX.cases 14 rfl (fun h2 => ?_) (fun h2 => ?_)
    · skip
      have h2d := B.dt h2
      have e1i : i < (a).length := (by omega)
      obtain ⟨e1, e1h⟩ : ∃ e1, (a)[i]? = some e1 := ⟨_, List.getElem?_eq_getElem e1i⟩
      have ok1 : GoT.ok n e1 := (okl hoka).2 _ (List.mem_of_getElem? e1h)
      refine WX.run ttOk rfl ?_
      refine WX.draw [] mixed ?_
      intro bs G0 hΓ0
      refine DX.takes (fuel := 8) ttOk [(0, true), (1, true)] (by kernel_rfl) rfl ?_
      refine DX.idx 2 0 i ttOk hΓ0 (by kernel_rfl) rfl rfl rfl rfl rfl rfl rfl rfl rfl rfl rfl e1i ?_
      rintro ad1 rfl
      refine DX.ldE 3 0 2 e1 ttOk hΓ0 (by kernel_rfl) rfl rfl rfl rfl rfl rfl rfl rfl e1h (fun _ => rfl) (fun _ => rfl) ?_
      rintro ⟨⟨p1, c1⟩, ⟨⟩⟩
      refine DX.takes (fuel := 4) ttOk [(4, true), (5, true)] (by kernel_rfl) rfl ?_
      have e2i : i < (b).length := (by first | assumption | omega)
      obtain ⟨e2, e2h⟩ : ∃ e2, (b)[i]? = some e2 := ⟨_, List.getElem?_eq_getElem e2i⟩
      have ok2 : GoT.ok n e2 := (okl hokb).2 _ (List.mem_of_getElem? e2h)
      refine DX.idx 6 1 i ttOk hΓ0 (by kernel_rfl) rfl rfl rfl rfl rfl rfl rfl rfl rfl rfl rfl e2i ?_
      rintro ad2 rfl
      refine DX.ldE 7 1 3 e2 ttOk hΓ0 (by kernel_rfl) rfl rfl rfl rfl rfl rfl rfl rfl e2h (fun _ => rfl) (fun _ => rfl) ?_
      rintro ⟨⟨p2, c2⟩, ⟨⟩⟩
      refine DX.callV 8 rfl (by kernel_rfl) rfl rfl rfl rfl rfl rfl (fun _ => rfl) rfl (fun w G bs hI hΓ => f248 w n (by omega) e1 p1 c1 (hΓ.get 2 rfl) e2 p2 c2 (hΓ.get 3 rfl) ok1 ok2) ?_
      intro hq1
      refine DX.takes (fuel := 0) ttOk [(9, true)] (by kernel_rfl) rfl ?_
      refine DX.tail2 [] rfl rfl (by kernel_rfl) ?_
      refine WX.run ttOk rfl ?_
      refine WX.cases 26 rfl (fun h3 => ?_) (fun h3 => ?_)
      · skip
        have h3d := (B.nt h3)
        refine WX.run ttOk rfl ?_
        have hP2 : laws_eqTableEntryS_L1 b a 0 = (some false) := by rw [v2, drop_get e1h]; simp only [laws_eqTableEntryS_L1, e2h, h3, cond_true, cond_false]
        have hP3 : laws_eqTableEntryS a b = false := by simp only [laws_eqTableEntryS, h1, hP2, cond_true, cond_false]
        refine WX.ret ttOk rfl ?_
        intro w1 G bs hI hΓ
        rw [hP3]
        exact ⟨rfl, trivial⟩
      · skip
        have h3d := (B.nf h3)
        refine WX.run ttOk rfl ?_
        refine WX.see rfl rfl rfl (fun _ hΓ => looks_arith rfl rfl rfl rfl (by unfold I64; first | omega | (dsimp only; omega))) ?_
        refine WX.run ttOk rfl ?_
        exact WX.iter (i + 1) ⟨(by omega), (by rw [v2, drop_get e1h]; simp only [laws_eqTableEntryS_L1, e2h, h3, cond_true, cond_false])⟩ (by dsimp only; omega) (.cons rfl (.cons rfl (.cons rfl (.nil)))) .nil .nil [0, 1] rfl
    · skip
      have h2d := B.df h2
      refine WX.run ttOk rfl ?_
      have hX1 : laws_eqTableEntryS_L1 b a 0 = none := by rw [v2, List.drop_eq_nil_of_le (show (a).length ≤ i by omega)]; simp only [laws_eqTableEntryS_L1, cond_true, cond_false]
      have hP4 : laws_eqTableEntryS a b = true := by simp only [laws_eqTableEntryS, h1, hX1, cond_true, cond_false]
      refine WX.ret ttOk rfl ?_
      intro w1 G bs hI hΓ
      rw [hP4]
      exact ⟨rfl, trivial⟩
theorem f24 (w : World) (n : Nat) (hn : n + 0 ≤ 9) (a : (List UInt8)) (pa : Option Addr) (ca : Nat) (hpa : RdSl (hp w) pa ca a) (b : (List UInt8)) (pb : Option Addr) (cb : Nat) (hpb : RdSl (hp w) pb cb b) (hoka : GoT.ok n a) (hokb : GoT.ok n b) :
    Does Tryz.prog 24 #[.slice pa ((a).length) ca, .slice pb ((b).length) cb] w emp (fun (rv : Value) (_ : World) => rv = .bool (laws_eqByteS a b) ∧ True) := by
  have hbP := bd_pos n
  have hbB := bd_big (n := n) (by omega)
  refine WX.enter (tt := tt) (Γ := [(0, MF.rs .stb pa ca a), (1, MF.rs .stb pb cb b)]) Tryz.func24 rfl (by kernel_rfl) rfl (allS_cons rfl hpa (allS_cons rfl hpb allS_nil)) ?_
  refine WX.run ttOk rfl ?_
  refine WX.cases 10 rfl (fun h1 => ?_) (fun h1 => ?_)
  · skip
    have h1d := B.nt' h1
    refine WX.run ttOk rfl ?_
    have hP1 : laws_eqByteS a b = false := by simp only [laws_eqByteS, h1, cond_true, cond_false]
    refine WX.ret ttOk rfl ?_
    intro w1 G bs hI hΓ
    rw [hP1]
    exact ⟨rfl, trivial⟩
  · skip
    have h1d := B.nf' h1
    refine WX.run ttOk rfl ?_
    have r1 : (a).length ≤ bd n := (okl hoka).1
    refine WX.loop (ι := Nat) ⟨fun i => (i ≤ (a).length) ∧ (laws_eqByteS_L1 b a 0 = laws_eqByteS_L1 b ((a).drop i) i), fun i => (a).length - i, fun i => [(5, .v (.int .i64 (((i : Nat) : Int)))), (0, .v (.slice pa ((a).length) ca)), (1, .v (.slice pb ((b).length) cb))], fun i => [], fun i => [], fun i => [(0, MF.rs .stb pa ca a), (1, MF.rs .stb pb cb b)]⟩ 0 ⟨(Nat.zero_le _), rfl⟩
      (.cons rfl (.cons rfl (.cons rfl (.nil)))) .nil .nil [0, 1] rfl ?_
    rintro i hpre
    have hpre_ : (i ≤ (a).length) ∧ (laws_eqByteS_L1 b a 0 = laws_eqByteS_L1 b ((a).drop i) i) := hpre
    clear hpre
    obtain ⟨v1, v2⟩ := hpre_
    refine WX.run ttOk rfl ?_
    refine WX.cases 14 rfl (fun h2 => ?_) (fun h2 => ?_)
    · skip
      have h2d := B.dt h2
      have e1i : i < (a).length := (by omega)
      obtain ⟨e1, e1h⟩ : ∃ e1, (a)[i]? = some e1 := ⟨_, List.getElem?_eq_getElem e1i⟩
      refine WX.run ttOk rfl ?_
      refine WX.draw [] mixed ?_
      intro bs G0 hΓ0
      refine DX.takes (fuel := 7) ttOk [(0, true), (1, true)] (by kernel_rfl) rfl ?_
      refine DX.idx 2 0 i ttOk hΓ0 (by kernel_rfl) rfl rfl rfl rfl rfl rfl rfl rfl rfl rfl rfl e1i ?_
      rintro ad1 rfl
      refine DX.ldE 3 0 2 e1 ttOk hΓ0 (by kernel_rfl) rfl rfl rfl rfl rfl rfl rfl rfl e1h (fun _ => rfl) (fun _ => rfl) ?_
      rintro ⟨⟩
      refine DX.takes (fuel := 3) ttOk [(4, true), (5, true)] (by kernel_rfl) rfl ?_
      have e2i : i < (b).length := (by first | assumption | omega)
      obtain ⟨e2, e2h⟩ : ∃ e2, (b)[i]? = some e2 := ⟨_, List.getElem?_eq_getElem e2i⟩
      refine DX.idx 6 1 i ttOk hΓ0 (by kernel_rfl) rfl rfl rfl rfl rfl rfl rfl rfl rfl rfl rfl e2i ?_
      rintro ad2 rfl
      refine DX.ldE 7 1 2 e2 ttOk hΓ0 (by kernel_rfl) rfl rfl rfl rfl rfl rfl rfl rfl e2h (fun _ => rfl) (fun _ => rfl) ?_
      rintro ⟨⟩
      refine DX.takes (fuel := 0) ttOk [(8, true)] (by kernel_rfl) rfl ?_
      refine DX.tail2 [] rfl rfl (by kernel_rfl) ?_
      refine WX.run ttOk rfl ?_
      refine WX.cases 25 rfl (fun h3 => ?_) (fun h3 => ?_)
      · skip
        have h3d := B.nt' h3
        refine WX.run ttOk rfl ?_
        have hP2 : laws_eqByteS_L1 b a 0 = (some false) := by rw [v2, drop_get e1h]; simp only [laws_eqByteS_L1, e2h, h3, cond_true, cond_false]
        have hP3 : laws_eqByteS a b = false := by simp only [laws_eqByteS, h1, hP2, cond_true, cond_false]
        refine WX.ret ttOk rfl ?_
        intro w1 G bs hI hΓ
        rw [hP3]
        exact ⟨rfl, trivial⟩
      · skip
        have h3d := B.nf' h3
        refine WX.run ttOk rfl ?_
        refine WX.see rfl rfl rfl (fun _ hΓ => looks_arith rfl rfl rfl rfl (by unfold I64; first | omega | (dsimp only; omega))) ?_
        refine WX.run ttOk rfl ?_
        exact WX.iter (i + 1) ⟨(by omega), (by rw [v2, drop_get e1h]; simp only [laws_eqByteS_L1, e2h, h3, cond_true, cond_false])⟩ (by dsimp only; omega) (.cons rfl (.cons rfl (.cons rfl (.nil)))) .nil .nil [0, 1] rfl
    · skip
      have h2d := B.df h2
      refine WX.run ttOk rfl ?_
      have hX1 : laws_eqByteS_L1 b a 0 = none := by rw [v2, List.drop_eq_nil_of_le (show (a).length ≤ i by omega)]; simp only [laws_eqByteS_L1, cond_true, cond_false]
      have hP4 : laws_eqByteS a b = true := by simp only [laws_eqByteS, h1, hX1, cond_true, cond_false]
      refine WX.ret ttOk rfl ?_
      intro w1 G bs hI hΓ
      rw [hP4]
      exact ⟨rfl, trivial⟩
theorem f38 (w : World) (n : Nat) (hn : n + 0 ≤ 9) (a : DataP) (paName : Option Addr) (caName : Nat) (hpaName : RdSl (hp w) paName caName a.name.parts) (paContent : Option Addr) (caContent : Nat) (hpaContent : RdSl (hp w) paContent caContent a.content) (paKeyName : Option Addr) (caKeyName : Nat) (hpaKeyName : RdSl (hp w) paKeyName caKeyName a.keyName.parts) (b : DataP) (pbName : Option Addr) (cbName : Nat) (hpbName : RdSl (hp w) pbName cbName b.name.parts) (pbContent : Option Addr) (cbContent : Nat) (hpbContent : RdSl (hp w) pbContent cbContent b.content) (pbKeyName : Option Addr) (cbKeyName : Nat) (hpbKeyName : RdSl (hp w) pbKeyName cbKeyName b.keyName.parts) (hoka : GoT.ok n a) (hokb : GoT.ok n b) :
    Does Tryz.prog 38 #[.agg #[.slice paName ((a.name.parts).length) caName, .slice paContent ((a.content).length) caContent, .slice paKeyName ((a.keyName.parts).length) caKeyName, .int .i64 (a.freshUntil), .int .i64 (a.signature)], .agg #[.slice pbName ((b.name.parts).length) cbName, .slice pbContent ((b.content).length) cbContent, .slice pbKeyName ((b.keyName.parts).length) cbKeyName, .int .i64 (b.freshUntil), .int .i64 (b.signature)]] w emp (fun (rv : Value) (_ : World) => rv = .bool (laws_eqData a b) ∧ True) := by
  have hbP := bd_pos n
  have hbB := bd_big (n := n) (by omega)
  refine WX.enter (tt := tt) (Γ := [(0, MF.rs .stb paName caName a.name.parts), (1, MF.rs .stb paContent caContent a.content), (2, MF.rs .stb paKeyName caKeyName a.keyName.parts), (3, MF.rs .stb pbName cbName b.name.parts), (4, MF.rs .stb pbContent cbContent b.content), (5, MF.rs .stb pbKeyName cbKeyName b.keyName.parts)]) Tryz.func38 rfl (by kernel_rfl) rfl (allS_cons rfl hpaName (allS_cons rfl hpaContent (allS_cons rfl hpaKeyName (allS_cons rfl hpbName (allS_cons rfl hpbContent (allS_cons rfl hpbKeyName allS_nil)))))) ?_
  refine WX.run ttOk rfl ?_
  refine WX.callV rfl rfl rfl rfl rfl (fun _ => rfl) rfl (fun w G bs hI hΓ => f74 w n (by omega) a.name paName caName (hΓ.get 0 rfl) b.name pbName cbName (hΓ.get 3 rfl) ((ok_DataP hoka).1) ((ok_DataP hokb).1)) ?_
  intro hq1
  refine WX.run ttOk rfl ?_
  refine WX.cases 10 rfl (fun h1 => ?_) (fun h1 => ?_)
  · skip
    have h1d := (B.nt h1)
    refine WX.run ttOk rfl ?_
    have hP1 : laws_eqData a b = false := by simp only [laws_eqData, h1, cond_true, cond_false]
    refine WX.ret ttOk rfl ?_
    intro w1 G bs hI hΓ
    rw [hP1]
    exact ⟨rfl, trivial⟩
  · skip
    have h1d := (B.nf h1)
    refine WX.run ttOk rfl ?_
    refine WX.callV rfl rfl rfl rfl rfl (fun _ => rfl) rfl (fun w G bs hI hΓ => f24 w n (by omega) a.content paContent caContent (hΓ.get 1 rfl) b.content pbContent cbContent (hΓ.get 4 rfl) ((ok_DataP hoka).2.1) ((ok_DataP hokb).2.1)) ?_
    intro hq2
    refine WX.run ttOk rfl ?_
    refine WX.cases 16 rfl (fun h2 => ?_) (fun h2 => ?_)
    · skip
      have h2d := (B.nt h2)
      refine WX.run ttOk rfl ?_
      have hP2 : laws_eqData a b = false := by simp only [laws_eqData, h1, h2, cond_true, cond_false]
      refine WX.ret ttOk rfl ?_
      intro w1 G bs hI hΓ
      rw [hP2]
      exact ⟨rfl, trivial⟩
    · skip
      have h2d := (B.nf h2)
      refine WX.run ttOk rfl ?_
      refine WX.callV rfl rfl rfl rfl rfl (fun _ => rfl) rfl (fun w G bs hI hΓ => f74 w n (by omega) a.keyName paKeyName caKeyName (hΓ.get 2 rfl) b.keyName pbKeyName cbKeyName (hΓ.get 5 rfl) ((ok_DataP hoka).2.2.1) ((ok_DataP hokb).2.2.1)) ?_
      intro hq3
      refine WX.run ttOk rfl ?_
      refine WX.cases 22 rfl (fun h3 => ?_) (fun h3 => ?_)
      · skip
        have h3d := (B.nt h3)
        refine WX.run ttOk rfl ?_
        have hP3 : laws_eqData a b = false := by simp only [laws_eqData, h1, h2, h3, cond_true, cond_false]
        refine WX.ret ttOk rfl ?_
        intro w1 G bs hI hΓ
        rw [hP3]
        exact ⟨rfl, trivial⟩
      · skip
        have h3d := (B.nf h3)
        refine WX.run ttOk rfl ?_
        refine WX.cases 27 rfl (fun h4 => ?_) (fun h4 => ?_)
        · skip
          have h4d := B.nt' h4
          refine WX.run ttOk rfl ?_
          have hP4 : laws_eqData a b = false := by simp only [laws_eqData, h1, h2, h3, h4, cond_true, cond_false]
          refine WX.ret ttOk rfl ?_
          intro w1 G bs hI hΓ
          rw [hP4]
          exact ⟨rfl, trivial⟩
        · skip
          have h4d := B.nf' h4
          refine WX.run ttOk rfl ?_
          refine WX.cases 32 rfl (fun h5 => ?_) (fun h5 => ?_)
          · skip
            have h5d := B.nt' h5
            refine WX.run ttOk rfl ?_
            have hP5 : laws_eqData a b = false := by simp only [laws_eqData, h1, h2, h3, h4, h5, cond_true, cond_false]
            refine WX.ret ttOk rfl ?_
            intro w1 G bs hI hΓ
            rw [hP5]
            exact ⟨rfl, trivial⟩
          · skip
            have h5d := B.nf' h5
            refine WX.run ttOk rfl ?_
            have hP6 : laws_eqData a b = true := by simp only [laws_eqData, h1, h2, h3, h4, h5, cond_true, cond_false]
            refine WX.ret ttOk rfl ?_
            intro w1 G bs hI hΓ
            rw [hP6]
            exact ⟨rfl, trivial⟩
theorem f36 (w : World) (n : Nat) (hn : n + 0 ≤ 9) (a : Consumer) (paName : Option Addr) (caName : Nat) (hpaName : RdSl (hp w) paName caName a.name.parts) (paDataName : Option Addr) (caDataName : Nat) (hpaDataName : RdSl (hp w) paDataName caDataName a.data.name.parts) (paDataContent : Option Addr) (caDataContent : Nat) (hpaDataContent : RdSl (hp w) paDataContent caDataContent a.data.content) (paDataKeyName : Option Addr) (caDataKeyName : Nat) (hpaDataKeyName : RdSl (hp w) paDataKeyName caDataKeyName a.data.keyName.parts) (b : Consumer) (pbName : Option Addr) (cbName : Nat) (hpbName : RdSl (hp w) pbName cbName b.name.parts) (pbDataName : Option Addr) (cbDataName : Nat) (hpbDataName : RdSl (hp w) pbDataName cbDataName b.data.name.parts) (pbDataContent : Option Addr) (cbDataContent : Nat) (hpbDataContent : RdSl (hp w) pbDataContent cbDataContent b.data.content) (pbDataKeyName : Option Addr) (cbDataKeyName : Nat) (hpbDataKeyName : RdSl (hp w) pbDataKeyName cbDataKeyName b.data.keyName.parts) (hoka : GoT.ok n a) (hokb : GoT.ok n b) :
    Does Tryz.prog 36 #[.agg #[.int .i64 (a.node), .int .i64 (a.index), .slice paName ((a.name.parts).length) caName, .int .i64 (a.attempts), .int .i64 (a.wait), .bool a.satisfied, .slice paDataName ((a.data.name.parts).length) caDataName, .slice paDataContent ((a.data.content).length) caDataContent, .slice paDataKeyName ((a.data.keyName.parts).length) caDataKeyName, .int .i64 (a.data.freshUntil), .int .i64 (a.data.signature)], .agg #[.int .i64 (b.node), .int .i64 (b.index), .slice pbName ((b.name.parts).length) cbName, .int .i64 (b.attempts), .int .i64 (b.wait), .bool b.satisfied, .slice pbDataName ((b.data.name.parts).length) cbDataName, .slice pbDataContent ((b.data.content).length) cbDataContent, .slice pbDataKeyName ((b.data.keyName.parts).length) cbDataKeyName, .int .i64 (b.data.freshUntil), .int .i64 (b.data.signature)]] w emp (fun (rv : Value) (_ : World) => rv = .bool (laws_eqConsumer a b) ∧ True) := by
  have hbP := bd_pos n
  have hbB := bd_big (n := n) (by omega)
  refine WX.enter (tt := tt) (Γ := [(0, MF.rs .stb paName caName a.name.parts), (1, MF.rs .stb paDataName caDataName a.data.name.parts), (2, MF.rs .stb paDataContent caDataContent a.data.content), (3, MF.rs .stb paDataKeyName caDataKeyName a.data.keyName.parts), (4, MF.rs .stb pbName cbName b.name.parts), (5, MF.rs .stb pbDataName cbDataName b.data.name.parts), (6, MF.rs .stb pbDataContent cbDataContent b.data.content), (7, MF.rs .stb pbDataKeyName cbDataKeyName b.data.keyName.parts)]) Tryz.func36 rfl (by kernel_rfl) rfl (allS_cons rfl hpaName (allS_cons rfl hpaDataName (allS_cons rfl hpaDataContent (allS_cons rfl hpaDataKeyName (allS_cons rfl hpbName (allS_cons rfl hpbDataName (allS_cons rfl hpbDataContent (allS_cons rfl hpbDataKeyName allS_nil)))))))) ?_
  refine WX.run ttOk rfl ?_
  refine WX.cases 9 rfl (fun h1 => ?_) (fun h1 => ?_)
  · skip
    have h1d := B.nt' h1
    refine WX.run ttOk rfl ?_
    have hP1 : laws_eqConsumer a b = false := by simp only [laws_eqConsumer, h1, cond_true, cond_false]
    refine WX.ret ttOk rfl ?_
    intro w1 G bs hI hΓ
    rw [hP1]
    exact ⟨rfl, trivial⟩
  · skip
    have h1d := B.nf' h1
    refine WX.run ttOk rfl ?_
    refine WX.cases 14 rfl (fun h2 => ?_) (fun h2 => ?_)
    · skip
      have h2d := B.nt' h2
      refine WX.run ttOk rfl ?_
      have hP2 : laws_eqConsumer a b = false := by simp only [laws_eqConsumer, h1, h2, cond_true, cond_false]
      refine WX.ret ttOk rfl ?_
      intro w1 G bs hI hΓ
      rw [hP2]
      exact ⟨rfl, trivial⟩
    · skip
      have h2d := B.nf' h2
      refine WX.run ttOk rfl ?_
      refine WX.callV rfl rfl rfl rfl rfl (fun _ => rfl) rfl (fun w G bs hI hΓ => f74 w n (by omega) a.name paName caName (hΓ.get 0 rfl) b.name pbName cbName (hΓ.get 4 rfl) ((ok_Consumer hoka).2.2.1) ((ok_Consumer hokb).2.2.1)) ?_
      intro hq1
      refine WX.run ttOk rfl ?_
      refine WX.cases 20 rfl (fun h3 => ?_) (fun h3 => ?_)
      · skip
        have h3d := (B.nt h3)
        refine WX.run ttOk rfl ?_
        have hP3 : laws_eqConsumer a b = false := by simp only [laws_eqConsumer, h1, h2, h3, cond_true, cond_false]
        refine WX.ret ttOk rfl ?_
        intro w1 G bs hI hΓ
        rw [hP3]
        exact ⟨rfl, trivial⟩
      · skip
        have h3d := (B.nf h3)
        refine WX.run ttOk rfl ?_
        refine WX.cases 25 rfl (fun h4 => ?_) (fun h4 => ?_)
        · skip
          have h4d := B.nt' h4
          refine WX.run ttOk rfl ?_
          have hP4 : laws_eqConsumer a b = false := by simp only [laws_eqConsumer, h1, h2, h3, h4, cond_true, cond_false]
          refine WX.ret ttOk rfl ?_
          intro w1 G bs hI hΓ
          rw [hP4]
          exact ⟨rfl, trivial⟩
        · skip
          have h4d := B.nf' h4
          refine WX.run ttOk rfl ?_
          refine WX.cases 30 rfl (fun h5 => ?_) (fun h5 => ?_)
          · skip
            have h5d := B.nt' h5
            refine WX.run ttOk rfl ?_
            have hP5 : laws_eqConsumer a b = false := by simp only [laws_eqConsumer, h1, h2, h3, h4, h5, cond_true, cond_false]
            refine WX.ret ttOk rfl ?_
            intro w1 G bs hI hΓ
            rw [hP5]
            exact ⟨rfl, trivial⟩
          · skip
            have h5d := B.nf' h5
            refine WX.run ttOk rfl ?_
            refine WX.see rfl rfl rfl (fun _ hΓ => looks_beq ttOk rfl rfl rfl rfl rfl rfl) ?_
            refine WX.run ttOk rfl ?_
            refine WX.cases 35 rfl (fun h6 => ?_) (fun h6 => ?_)
            · skip
              have h6d := (B.nt h6)
              refine WX.run ttOk rfl ?_
              have hP6 : laws_eqConsumer a b = false := by simp only [laws_eqConsumer, h1, h2, h3, h4, h5, h6, cond_true, cond_false]
              refine WX.ret ttOk rfl ?_
              intro w1 G bs hI hΓ
              rw [hP6]
              exact ⟨rfl, trivial⟩
            · skip
              have h6d := (B.nf h6)
              refine WX.run ttOk rfl ?_
              refine WX.callV rfl rfl rfl rfl rfl (fun _ => rfl) rfl (fun w G bs hI hΓ => f38 w n (by omega) a.data paDataName caDataName (hΓ.get 1 rfl) paDataContent caDataContent (hΓ.get 2 rfl) paDataKeyName caDataKeyName (hΓ.get 3 rfl) b.data pbDataName cbDataName (hΓ.get 5 rfl) pbDataContent cbDataContent (hΓ.get 6 rfl) pbDataKeyName cbDataKeyName (hΓ.get 7 rfl) ((ok_Consumer hoka).2.2.2.2.2.2) ((ok_Consumer hokb).2.2.2.2.2.2)) ?_
              intro hq2
              refine WX.run ttOk rfl ?_
              refine WX.cases 41 rfl (fun h7 => ?_) (fun h7 => ?_)
              · skip
                have h7d := (B.nt h7)
                refine WX.run ttOk rfl ?_
                have hP7 : laws_eqConsumer a b = false := by simp only [laws_eqConsumer, h1, h2, h3, h4, h5, h6, h7, cond_true, cond_false]
                refine WX.ret ttOk rfl ?_
                intro w1 G bs hI hΓ
                rw [hP7]
                exact ⟨rfl, trivial⟩
              · skip
                have h7d := (B.nf h7)
                refine WX.run ttOk rfl ?_
                have hP8 : laws_eqConsumer a b = true := by simp only [laws_eqConsumer, h1, h2, h3, h4, h5, h6, h7, cond_true, cond_false]
                refine WX.ret ttOk rfl ?_
                intro w1 G bs hI hΓ
                rw [hP8]
                exact ⟨rfl, trivial⟩
theorem f213 (w : World) (n : Nat) (hn : n + 0 ≤ 9) (a : Key) (paName : Option Addr) (caName : Nat) (hpaName : RdSl (hp w) paName caName a.name.parts) (b : Key) (pbName : Option Addr) (cbName : Nat) (hpbName : RdSl (hp w) pbName cbName b.name.parts) (hoka : GoT.ok n a) (hokb : GoT.ok n b) :
    Does Tryz.prog 213 #[.agg #[.slice paName ((a.name.parts).length) caName, .int .i64 (a.secret)], .agg #[.slice pbName ((b.name.parts).length) cbName, .int .i64 (b.secret)]] w emp (fun (rv : Value) (_ : World) => rv = .bool (laws_eqKey a b) ∧ True) := by
  have hbP := bd_pos n
  have hbB := bd_big (n := n) (by omega)
  refine WX.enter (tt := tt) (Γ := [(0, MF.rs .stb paName caName a.name.parts), (1, MF.rs .stb pbName cbName b.name.parts)]) Tryz.func213 rfl (by kernel_rfl) rfl (allS_cons rfl hpaName (allS_cons rfl hpbName allS_nil)) ?_
  refine WX.run ttOk rfl ?_
  refine WX.callV rfl rfl rfl rfl rfl (fun _ => rfl) rfl (fun w G bs hI hΓ => f74 w n (by omega) a.name paName caName (hΓ.get 0 rfl) b.name pbName cbName (hΓ.get 1 rfl) ((ok_Key hoka).1) ((ok_Key hokb).1)) ?_
  intro hq1
  refine WX.run ttOk rfl ?_
  refine WX.cases 10 rfl (fun h1 => ?_) (fun h1 => ?_)
  · skip
    have h1d := (B.nt h1)
    refine WX.run ttOk rfl ?_
    have hP1 : laws_eqKey a b = false := by simp only [laws_eqKey, h1, cond_true, cond_false]
    refine WX.ret ttOk rfl ?_
    intro w1 G bs hI hΓ
    rw [hP1]
    exact ⟨rfl, trivial⟩
  · skip
    have h1d := (B.nf h1)
    refine WX.run ttOk rfl ?_
    refine WX.cases 15 rfl (fun h2 => ?_) (fun h2 => ?_)
    · skip
      have h2d := B.nt' h2
      refine WX.run ttOk rfl ?_
      have hP2 : laws_eqKey a b = false := by simp only [laws_eqKey, h1, h2, cond_true, cond_false]
      refine WX.ret ttOk rfl ?_
      intro w1 G bs hI hΓ
      rw [hP2]
      exact ⟨rfl, trivial⟩
    · skip
      have h2d := B.nf' h2
      refine WX.run ttOk rfl ?_
      have hP3 : laws_eqKey a b = true := by simp only [laws_eqKey, h1, h2, cond_true, cond_false]
      refine WX.ret ttOk rfl ?_
      intro w1 G bs hI hΓ
      rw [hP3]
      exact ⟨rfl, trivial⟩
theorem f103 (w : World) (n : Nat) (hn : n + 0 ≤ 9) (a : (List Key)) (pa : Option Addr) (ca : Nat) (hpa : RdSl (hp w) pa ca a) (b : (List Key)) (pb : Option Addr) (cb : Nat) (hpb : RdSl (hp w) pb cb b) (hoka : GoT.ok n a) (hokb : GoT.ok n b) :
    Does Tryz.prog 103 #[.slice pa ((a).length) ca, .slice pb ((b).length) cb] w emp (fun (rv : Value) (_ : World) => rv = .bool (laws_eqKeyS a b) ∧ True) := by
  have hbP := bd_pos n
  have hbB := bd_big (n := n) (by omega)
  refine WX.enter (tt := tt) (Γ := [(0, MF.rs .stb pa ca a), (1, MF.rs .stb pb cb b)]) Tryz.func103 rfl (by kernel_rfl) rfl (allS_cons rfl hpa (allS_cons rfl hpb allS_nil)) ?_
  refine WX.run ttOk rfl ?_
  refine WX.cases 10 rfl (fun h1 => ?_) (fun h1 => ?_)
  · skip
    have h1d := B.nt' h1
    refine WX.run ttOk rfl ?_
    have hP1 : laws_eqKeyS a b = false := by simp only [laws_eqKeyS, h1, cond_true, cond_false]
    refine WX.ret ttOk rfl ?_
    intro w1 G bs hI hΓ
    rw [hP1]
    exact ⟨rfl, trivial⟩
  · skip
    have h1d := B.nf' h1
    refine WX.run ttOk rfl ?_
    have r1 : (a).length ≤ bd n := (okl hoka).1
    refine WX.loop (ι := Nat) ⟨fun i => (i ≤ (a).length) ∧ (laws_eqKeyS_L1 b a 0 = laws_eqKeyS_L1 b ((a).drop i) i), fun i => (a).length - i, fun i => [(5, .v (.int .i64 (((i : Nat) : Int)))), (0, .v (.slice pa ((a).length) ca)), (1, .v (.slice pb ((b).length) cb))], fun i => [], fun i => [], fun i => [(0, MF.rs .stb pa ca a), (1, MF.rs .stb pb cb b)]⟩ 0 ⟨(Nat.zero_le _), rfl⟩
      (.cons rfl (.cons rfl (.cons rfl (.nil)))) .nil .nil [0, 1] rfl ?_
    rintro i hpre
    have hpre_ : (i ≤ (a).length) ∧ (laws_eqKeyS_L1 b a 0 = laws_eqKeyS_L1 b ((a).drop i) i) := hpre
    clear hpre
    obtain ⟨v1, v2⟩ := hpre_
    refine WX.run ttOk rfl ?_
    refine WX.cases 14 rfl (fun h2 => ?_) (fun h2 => ?_)
    · skip
      have h2d := B.dt h2
      have e1i : i < (a).length := (by omega)
      obtain ⟨e1, e1h⟩ : ∃ e1, (a)[i]? = some e1 := ⟨_, List.getElem?_eq_getElem e1i⟩
      have ok1 : GoT.ok n e1 := (okl hoka).2 _ (List.mem_of_getElem? e1h)
      refine WX.run ttOk rfl ?_
      refine WX.draw [] mixed ?_
      intro bs G0 hΓ0
      refine DX.takes (fuel := 8) ttOk [(0, true), (1, true)] (by kernel_rfl) rfl ?_
      refine DX.idx 2 0 i ttOk hΓ0 (by kernel_rfl) rfl rfl rfl rfl rfl rfl rfl rfl rfl rfl rfl e1i ?_
      rintro ad1 rfl
      refine DX.ldE 3 0 2 e1 ttOk hΓ0 (by kernel_rfl) rfl rfl rfl rfl rfl rfl rfl rfl e1h (fun _ => rfl) (fun _ => rfl) ?_
      rintro ⟨⟨p1, c1⟩, ⟨⟩⟩
      refine DX.takes (fuel := 4) ttOk [(4, true), (5, true)] (by kernel_rfl) rfl ?_
      have e2i : i < (b).length := (by first | assumption | omega)
      obtain ⟨e2, e2h⟩ : ∃ e2, (b)[i]? = some e2 := ⟨_, List.getElem?_eq_getElem e2i⟩
      have ok2 : GoT.ok n e2 := (okl hokb).2 _ (List.mem_of_getElem? e2h)
      refine DX.idx 6 1 i ttOk hΓ0 (by kernel_rfl) rfl rfl rfl rfl rfl rfl rfl rfl rfl rfl rfl e2i ?_
      rintro ad2 rfl
      refine DX.ldE 7 1 3 e2 ttOk hΓ0 (by kernel_rfl) rfl rfl rfl rfl rfl rfl rfl rfl e2h (fun _ => rfl) (fun _ => rfl) ?_
      rintro ⟨⟨p2, c2⟩, ⟨⟩⟩
      refine DX.callV 8 rfl (by kernel_rfl) rfl rfl rfl rfl rfl rfl (fun _ => rfl) rfl (fun w G bs hI hΓ => f213 w n (by omega) e1 p1 c1 (hΓ.get 2 rfl) e2 p2 c2 (hΓ.get 3 rfl) ok1 ok2) ?_
      intro hq1
      refine DX.takes (fuel := 0) ttOk [(9, true)] (by kernel_rfl) rfl ?_
      refine DX.tail2 [] rfl rfl (by kernel_rfl) ?_
      refine WX.run ttOk rfl ?_
      refine WX.cases 26 rfl (fun h3 => ?_) (fun h3 => ?_)
      · skip
        have h3d := (B.nt h3)
        refine WX.run ttOk rfl ?_
        have hP2 : laws_eqKeyS_L1 b a 0 = (some false) := by rw [v2, drop_get e1h]; simp only [laws_eqKeyS_L1, e2h, h3, cond_true, cond_false]
        have hP3 : laws_eqKeyS a b = false := by simp only [laws_eqKeyS, h1, hP2, cond_true, cond_false]
        refine WX.ret ttOk rfl ?_
        intro w1 G bs hI hΓ
        rw [hP3]
        exact ⟨rfl, trivial⟩
      · skip
        have h3d := (B.nf h3)
        refine WX.run ttOk rfl ?_
        refine WX.see rfl rfl rfl (fun _ hΓ => looks_arith rfl rfl rfl rfl (by unfold I64; first | omega | (dsimp only; omega))) ?_
        refine WX.run ttOk rfl ?_
        exact WX.iter (i + 1) ⟨(by omega), (by rw [v2, drop_get e1h]; simp only [laws_eqKeyS_L1, e2h, h3, cond_true, cond_false])⟩ (by dsimp only; omega) (.cons rfl (.cons rfl (.cons rfl (.nil)))) .nil .nil [0, 1] rfl
    · skip
      have h2d := B.df h2
      refine WX.run ttOk rfl ?_
      have hX1 : laws_eqKeyS_L1 b a 0 = none := by rw [v2, List.drop_eq_nil_of_le (show (a).length ≤ i by omega)]; simp only [laws_eqKeyS_L1, cond_true, cond_false]
      have hP4 : laws_eqKeyS a b = true := by simp only [laws_eqKeyS, h1, hX1, cond_true, cond_false]
      refine WX.ret ttOk rfl ?_
      intro w1 G bs hI hΓ
      rw [hP4]
      exact ⟨rfl, trivial⟩
theorem f312 (w : World) (n : Nat) (hn : n + 0 ≤ 9) (a : Pattern) (pa : Option Addr) (ca : Nat) (hpa : RdSl (hp w) pa ca a.parts) (b : Pattern) (pb : Option Addr) (cb : Nat) (hpb : RdSl (hp w) pb cb b.parts) (hoka : GoT.ok n a) (hokb : GoT.ok n b) :
    Does Tryz.prog 312 #[.agg #[.slice pa ((a.parts).length) ca], .agg #[.slice pb ((b.parts).length) cb]] w emp (fun (rv : Value) (_ : World) => rv = .bool (laws_eqPattern a b) ∧ True) := by
  have hbP := bd_pos n
  have hbB := bd_big (n := n) (by omega)
  refine WX.enter (tt := tt) (Γ := [(0, MF.rs .stb pa ca a.parts), (1, MF.rs .stb pb cb b.parts)]) Tryz.func312 rfl (by kernel_rfl) rfl (allS_cons rfl hpa (allS_cons rfl hpb allS_nil)) ?_
  refine WX.run ttOk rfl ?_
  refine WX.callV rfl rfl rfl rfl rfl (fun _ => rfl) rfl (fun w G bs hI hΓ => f197 w n (by omega) a.parts pa ca (hΓ.get 0 rfl) b.parts pb cb (hΓ.get 1 rfl) (ok_Pattern hoka) (ok_Pattern hokb)) ?_
  intro hq1
  refine WX.run ttOk rfl ?_
  refine WX.cases 10 rfl (fun h1 => ?_) (fun h1 => ?_)
  · skip
    have h1d := (B.nt h1)
    refine WX.run ttOk rfl ?_
    have hP1 : laws_eqPattern a b = false := by simp only [laws_eqPattern, h1, cond_true, cond_false]
    refine WX.ret ttOk rfl ?_
    intro w1 G bs hI hΓ
    rw [hP1]
    exact ⟨rfl, trivial⟩
  · skip
    have h1d := (B.nf h1)
    refine WX.run ttOk rfl ?_
    have hP2 : laws_eqPattern a b = true := by simp only [laws_eqPattern, h1, cond_true, cond_false]
    refine WX.ret ttOk rfl ?_
    intro w1 G bs hI hΓ
    rw [hP2]
    exact ⟨rfl, trivial⟩
theorem f214 (w : World) (n : Nat) (hn : n + 0 ≤ 9) (a : Rule) (paDataPattern : Option Addr) (caDataPattern : Nat) (hpaDataPattern : RdSl (hp w) paDataPattern caDataPattern a.dataPattern.parts) (paKeyPattern : Option Addr) (caKeyPattern : Nat) (hpaKeyPattern : RdSl (hp w) paKeyPattern caKeyPattern a.keyPattern.parts) (b : Rule) (pbDataPattern : Option Addr) (cbDataPattern : Nat) (hpbDataPattern : RdSl (hp w) pbDataPattern cbDataPattern b.dataPattern.parts) (pbKeyPattern : Option Addr) (cbKeyPattern : Nat) (hpbKeyPattern : RdSl (hp w) pbKeyPattern cbKeyPattern b.keyPattern.parts) (hoka : GoT.ok n a) (hokb : GoT.ok n b) :
    Does Tryz.prog 214 #[.agg #[.slice paDataPattern ((a.dataPattern.parts).length) caDataPattern, .slice paKeyPattern ((a.keyPattern.parts).length) caKeyPattern], .agg #[.slice pbDataPattern ((b.dataPattern.parts).length) cbDataPattern, .slice pbKeyPattern ((b.keyPattern.parts).length) cbKeyPattern]] w emp (fun (rv : Value) (_ : World) => rv = .bool (laws_eqRule a b) ∧ True) := by
  have hbP := bd_pos n
  have hbB := bd_big (n := n) (by omega)
  refine WX.enter (tt := tt) (Γ := [(0, MF.rs .stb paDataPattern caDataPattern a.dataPattern.parts), (1, MF.rs .stb paKeyPattern caKeyPattern a.keyPattern.parts), (2, MF.rs .stb pbDataPattern cbDataPattern b.dataPattern.parts), (3, MF.rs .stb pbKeyPattern cbKeyPattern b.keyPattern.parts)]) Tryz.func214 rfl (by kernel_rfl) rfl (allS_cons rfl hpaDataPattern (allS_cons rfl hpaKeyPattern (allS_cons rfl hpbDataPattern (allS_cons rfl hpbKeyPattern allS_nil)))) ?_
  refine WX.run ttOk rfl ?_
  refine WX.callV rfl rfl rfl rfl rfl (fun _ => rfl) rfl (fun w G bs hI hΓ => f312 w n (by omega) a.dataPattern paDataPattern caDataPattern (hΓ.get 0 rfl) b.dataPattern pbDataPattern cbDataPattern (hΓ.get 2 rfl) ((ok_Rule hoka).1) ((ok_Rule hokb).1)) ?_
  intro hq1
  refine WX.run ttOk rfl ?_
  refine WX.cases 10 rfl (fun h1 => ?_) (fun h1 => ?_)
  · skip
    have h1d := (B.nt h1)
    refine WX.run ttOk rfl ?_
    have hP1 : laws_eqRule a b = false := by simp only [laws_eqRule, h1, cond_true, cond_false]
    refine WX.ret ttOk rfl ?_
    intro w1 G bs hI hΓ
    rw [hP1]
    exact ⟨rfl, trivial⟩
  · skip
    have h1d := (B.nf h1)
    refine WX.run ttOk rfl ?_
    refine WX.callV rfl rfl rfl rfl rfl (fun _ => rfl) rfl (fun w G bs hI hΓ => f312 w n (by omega) a.keyPattern paKeyPattern caKeyPattern (hΓ.get 1 rfl) b.keyPattern pbKeyPattern cbKeyPattern (hΓ.get 3 rfl) ((ok_Rule hoka).2) ((ok_Rule hokb).2)) ?_
    intro hq2
    refine WX.run ttOk rfl ?_
    refine WX.cases 16 rfl (fun h2 => ?_) (fun h2 => ?_)
    · skip
      have h2d := (B.nt h2)
      refine WX.run ttOk rfl ?_
      have hP2 : laws_eqRule a b = false := by simp only [laws_eqRule, h1, h2, cond_true, cond_false]
      refine WX.ret ttOk rfl ?_
      intro w1 G bs hI hΓ
      rw [hP2]
      exact ⟨rfl, trivial⟩
    · skip
      have h2d := (B.nf h2)
      refine WX.run ttOk rfl ?_
      have hP3 : laws_eqRule a b = true := by simp only [laws_eqRule, h1, h2, cond_true, cond_false]
      refine WX.ret ttOk rfl ?_
      intro w1 G bs hI hΓ
      rw [hP3]
      exact ⟨rfl, trivial⟩
theorem f104 (w : World) (n : Nat) (hn : n + 0 ≤ 9) (a : (List Rule)) (pa : Option Addr) (ca : Nat) (hpa : RdSl (hp w) pa ca a) (b : (List Rule)) (pb : Option Addr) (cb : Nat) (hpb : RdSl (hp w) pb cb b) (hoka : GoT.ok n a) (hokb : GoT.ok n b) :
    Does Tryz.prog 104 #[.slice pa ((a).length) ca, .slice pb ((b).length) cb] w emp (fun (rv : Value) (_ : World) => rv = .bool (laws_eqRuleS a b) ∧ True) := by
  have hbP := bd_pos n
  have hbB := bd_big (n := n) (by omega)
  refine WX.enter (tt := tt) (Γ := [(0, MF.rs .stb pa ca a), (1, MF.rs .stb pb cb b)]) Tryz.func104 rfl (by kernel_rfl) rfl (allS_cons rfl hpa (allS_cons rfl hpb allS_nil)) ?_
  refine WX.run ttOk rfl ?_
  refine WX.cases 10 rfl (fun h1 => ?_) (fun h1 => ?_)
  · skip
    have h1d := B.nt' h1
    refine WX.run ttOk rfl ?_
    have hP1 : laws_eqRuleS a b = false := by simp only [laws_eqRuleS, h1, cond_true, cond_false]
    refine WX.ret ttOk rfl ?_
    intro w1 G bs hI hΓ
    rw [hP1]
    exact ⟨rfl, trivial⟩
  · skip
    have h1d := B.nf' h1
    refine WX.run ttOk rfl ?_
    have r1 : (a).length ≤ bd n := (okl hoka).1
    refine WX.loop (ι := Nat) ⟨fun i => (i ≤ (a).length) ∧ (laws_eqRuleS_L1 b a 0 = laws_eqRuleS_L1 b ((a).drop i) i), fun i => (a).length - i, fun i => [(5, .v (.int .i64 (((i : Nat) : Int)))), (0, .v (.slice pa ((a).length) ca)), (1, .v (.slice pb ((b).length) cb))], fun i => [], fun i => [], fun i => [(0, MF.rs .stb pa ca a), (1, MF.rs .stb pb cb b)]⟩ 0 ⟨(Nat.zero_le _), rfl⟩
      (.cons rfl (.cons rfl (.cons rfl (.nil)))) .nil .nil [0, 1] rfl ?_
    rintro i hpre
    have hpre_ : (i ≤ (a).length) ∧ (laws_eqRuleS_L1 b a 0 = laws_eqRuleS_L1 b ((a).drop i) i) := hpre
    clear hpre
    obtain ⟨v1, v2⟩ := hpre_
    refine WX.run ttOk rfl ?_
    refine WX.cases 14 rfl (fun h2 => ?_) (fun h2 => ?_)
    · skip
      have h2d := B.dt h2
      have e1i : i < (a).length := (by omega)
      obtain ⟨e1, e1h⟩ : ∃ e1, (a)[i]? = some e1 := ⟨_, List.getElem?_eq_getElem e1i⟩
      have ok1 : GoT.ok n e1 := (okl hoka).2 _ (List.mem_of_getElem? e1h)
      refine WX.run ttOk rfl ?_
      refine WX.draw [] mixed ?_
      intro bs G0 hΓ0
      refine DX.takes (fuel := 8) ttOk [(0, true), (1, true)] (by kernel_rfl) rfl ?_
      refine DX.idx 2 0 i ttOk hΓ0 (by kernel_rfl) rfl rfl rfl rfl rfl rfl rfl rfl rfl rfl rfl e1i ?_
      rintro ad1 rfl
      refine DX.ldE 3 0 2 e1 ttOk hΓ0 (by kernel_rfl) rfl rfl rfl rfl rfl rfl rfl rfl e1h (fun _ => rfl) (fun _ => rfl) ?_
      rintro ⟨⟨p1, c1⟩, ⟨p2, c2⟩⟩
      refine DX.takes (fuel := 4) ttOk [(4, true), (5, true)] (by kernel_rfl) rfl ?_
      have e2i : i < (b).length := (by first | assumption | omega)
      obtain ⟨e2, e2h⟩ : ∃ e2, (b)[i]? = some e2 := ⟨_, List.getElem?_eq_getElem e2i⟩
      have ok2 : GoT.ok n e2 := (okl hokb).2 _ (List.mem_of_getElem? e2h)
      refine DX.idx 6 1 i ttOk hΓ0 (by kernel_rfl) rfl rfl rfl rfl rfl rfl rfl rfl rfl rfl rfl e2i ?_
      rintro ad2 rfl
      refine DX.ldE 7 1 4 e2 ttOk hΓ0 (by kernel_rfl) rfl rfl rfl rfl rfl rfl rfl rfl e2h (fun _ => rfl) (fun _ => rfl) ?_
      rintro ⟨⟨p3, c3⟩, ⟨p4, c4⟩⟩
      refine DX.callV 8 rfl (by kernel_rfl) rfl rfl rfl rfl rfl rfl (fun _ => rfl) rfl (fun w G bs hI hΓ => f214 w n (by omega) e1 p1 c1 (hΓ.get 2 rfl) p2 c2 (hΓ.get 3 rfl) e2 p3 c3 (hΓ.get 4 rfl) p4 c4 (hΓ.get 5 rfl) ok1 ok2) ?_
      intro hq1
      refine DX.takes (fuel := 0) ttOk [(9, true)] (by kernel_rfl) rfl ?_
      refine DX.tail2 [] rfl rfl (by kernel_rfl) ?_
      refine WX.run ttOk rfl ?_
      refine WX.cases 26 rfl (fun h3 => ?_) (fun h3 => ?_)
      · skip
        have h3d := (B.nt h3)
        refine WX.run ttOk rfl ?_
        have hP2 : laws_eqRuleS_L1 b a 0 = (some false) := by rw [v2, drop_get e1h]; simp only [laws_eqRuleS_L1, e2h, h3, cond_true, cond_false]
        have hP3 : laws_eqRuleS a b = false := by simp only [laws_eqRuleS, h1, hP2, cond_true, cond_false]
        refine WX.ret ttOk rfl ?_
        intro w1 G bs hI hΓ
        rw [hP3]
        exact ⟨rfl, trivial⟩
      · skip
        have h3d := (B.nf h3)
        refine WX.run ttOk rfl ?_
        refine WX.see rfl rfl rfl (fun _ hΓ => looks_arith rfl rfl rfl rfl (by unfold I64; first | omega | (dsimp only; omega))) ?_
        refine WX.run ttOk rfl ?_
        exact WX.iter (i + 1) ⟨(by omega), (by rw [v2, drop_get e1h]; simp only [laws_eqRuleS_L1, e2h, h3, cond_true, cond_false])⟩ (by dsimp only; omega) (.cons rfl (.cons rfl (.cons rfl (.nil)))) .nil .nil [0, 1] rfl
    · skip
      have h2d := B.df h2
      refine WX.run ttOk rfl ?_
      have hX1 : laws_eqRuleS_L1 b a 0 = none := by rw [v2, List.drop_eq_nil_of_le (show (a).length ≤ i by omega)]; simp only [laws_eqRuleS_L1, cond_true, cond_false]
      have hP4 : laws_eqRuleS a b = true := by simp only [laws_eqRuleS, h1, hX1, cond_true, cond_false]
      refine WX.ret ttOk rfl ?_
      intro w1 G bs hI hΓ
      rw [hP4]
      exact ⟨rfl, trivial⟩
theorem f105 (w : World) (n : Nat) (hn : n + 0 ≤ 9) (a : (List Name)) (pa : Option Addr) (ca : Nat) (hpa : RdSl (hp w) pa ca a) (b : (List Name)) (pb : Option Addr) (cb : Nat) (hpb : RdSl (hp w) pb cb b) (hoka : GoT.ok n a) (hokb : GoT.ok n b) :
    Does Tryz.prog 105 #[.slice pa ((a).length) ca, .slice pb ((b).length) cb] w emp (fun (rv : Value) (_ : World) => rv = .bool (laws_eqNameS a b) ∧ True) := by
  have hbP := bd_pos n
  have hbB := bd_big (n := n) (by omega)
  refine WX.enter (tt := tt) (Γ := [(0, MF.rs .stb pa ca a), (1, MF.rs .stb pb cb b)]) Tryz.func105 rfl (by kernel_rfl) rfl (allS_cons rfl hpa (allS_cons rfl hpb allS_nil)) ?_
  refine WX.run ttOk rfl ?_
  refine WX.cases 10 rfl (fun h1 => ?_) (fun h1 => ?_)
  · skip
    have h1d := B.nt' h1
    refine WX.run ttOk rfl ?_
    have hP1 : laws_eqNameS a b = false := by simp only [laws_eqNameS, h1, cond_true, cond_false]
    refine WX.ret ttOk rfl ?_
    intro w1 G bs hI hΓ
    rw [hP1]
    exact ⟨rfl, trivial⟩
  · skip
    have h1d := B.nf' h1
    refine WX.run ttOk rfl ?_
    have r1 : (a).length ≤ bd n := (okl hoka).1
    refine WX.loop (ι := Nat) ⟨fun i => (i ≤ (a).length) ∧ (laws_eqNameS_L1 b a 0 = laws_eqNameS_L1 b ((a).drop i) i), fun i => (a).length - i, fun i => [(5, .v (.int .i64 (((i : Nat) : Int)))), (0, .v (.slice pa ((a).length) ca)), (1, .v (.slice pb ((b).length) cb))], fun i => [], fun i => [], fun i => [(0, MF.rs .stb pa ca a), (1, MF.rs .stb pb cb b)]⟩ 0 ⟨(Nat.zero_le _), rfl⟩
      (.cons rfl (.cons rfl (.cons rfl (.nil)))) .nil .nil [0, 1] rfl ?_
    rintro i hpre
    have hpre_ : (i ≤ (a).length) ∧ (laws_eqNameS_L1 b a 0 = laws_eqNameS_L1 b ((a).drop i) i) := hpre
    clear hpre
    obtain ⟨v1, v2⟩ := hpre_
    refine WX.run ttOk rfl ?_
    refine WX.cases 14 rfl (fun h2 => ?_) (fun h2 => ?_)
    · skip
      have h2d := B.dt h2
      have e1i : i < (a).length := (by omega)
      obtain ⟨e1, e1h⟩ : ∃ e1, (a)[i]? = some e1 := ⟨_, List.getElem?_eq_getElem e1i⟩
      have ok1 : GoT.ok n e1 := (okl hoka).2 _ (List.mem_of_getElem? e1h)
      refine WX.run ttOk rfl ?_
      refine WX.draw [] mixed ?_
      intro bs G0 hΓ0
      refine DX.takes (fuel := 8) ttOk [(0, true), (1, true)] (by kernel_rfl) rfl ?_
      refine DX.idx 2 0 i ttOk hΓ0 (by kernel_rfl) rfl rfl rfl rfl rfl rfl rfl rfl rfl rfl rfl e1i ?_
      rintro ad1 rfl
      refine DX.ldE 3 0 2 e1 ttOk hΓ0 (by kernel_rfl) rfl rfl rfl rfl rfl rfl rfl rfl e1h (fun _ => rfl) (fun _ => rfl) ?_
      rintro ⟨p1, c1⟩
      refine DX.takes (fuel := 4) ttOk [(4, true), (5, true)] (by kernel_rfl) rfl ?_
      have e2i : i < (b).length := (by first | assumption | omega)
      obtain ⟨e2, e2h⟩ : ∃ e2, (b)[i]? = some e2 := ⟨_, List.getElem?_eq_getElem e2i⟩
      have ok2 : GoT.ok n e2 := (okl hokb).2 _ (List.mem_of_getElem? e2h)
      refine DX.idx 6 1 i ttOk hΓ0 (by kernel_rfl) rfl rfl rfl rfl rfl rfl rfl rfl rfl rfl rfl e2i ?_
      rintro ad2 rfl
      refine DX.ldE 7 1 3 e2 ttOk hΓ0 (by kernel_rfl) rfl rfl rfl rfl rfl rfl rfl rfl e2h (fun _ => rfl) (fun _ => rfl) ?_
      rintro ⟨p2, c2⟩
      refine DX.callV 8 rfl (by kernel_rfl) rfl rfl rfl rfl rfl rfl (fun _ => rfl) rfl (fun w G bs hI hΓ => f74 w n (by omega) e1 p1 c1 (hΓ.get 2 rfl) e2 p2 c2 (hΓ.get 3 rfl) ok1 ok2) ?_
      intro hq1
      refine DX.takes (fuel := 0) ttOk [(9, true)] (by kernel_rfl) rfl ?_
      refine DX.tail2 [] rfl rfl (by kernel_rfl) ?_
      refine WX.run ttOk rfl ?_
      refine WX.cases 26 rfl (fun h3 => ?_) (fun h3 => ?_)
      · skip
        have h3d := (B.nt h3)
        refine WX.run ttOk rfl ?_
        have hP2 : laws_eqNameS_L1 b a 0 = (some false) := by rw [v2, drop_get e1h]; simp only [laws_eqNameS_L1, e2h, h3, cond_true, cond_false]
        have hP3 : laws_eqNameS a b = false := by simp only [laws_eqNameS, h1, hP2, cond_true, cond_false]
        refine WX.ret ttOk rfl ?_
        intro w1 G bs hI hΓ
        rw [hP3]
        exact ⟨rfl, trivial⟩
      · skip
        have h3d := (B.nf h3)
        refine WX.run ttOk rfl ?_
        refine WX.see rfl rfl rfl (fun _ hΓ => looks_arith rfl rfl rfl rfl (by unfold I64; first | omega | (dsimp only; omega))) ?_
        refine WX.run ttOk rfl ?_
        exact WX.iter (i + 1) ⟨(by omega), (by rw [v2, drop_get e1h]; simp only [laws_eqNameS_L1, e2h, h3, cond_true, cond_false])⟩ (by dsimp only; omega) (.cons rfl (.cons rfl (.cons rfl (.nil)))) .nil .nil [0, 1] rfl
    · skip
      have h2d := B.df h2
      refine WX.run ttOk rfl ?_
      have hX1 : laws_eqNameS_L1 b a 0 = none := by rw [v2, List.drop_eq_nil_of_le (show (a).length ≤ i by omega)]; simp only [laws_eqNameS_L1, cond_true, cond_false]
      have hP4 : laws_eqNameS a b = true := by simp only [laws_eqNameS, h1, hX1, cond_true, cond_false]
      refine WX.ret ttOk rfl ?_
      intro w1 G bs hI hΓ
      rw [hP4]
      exact ⟨rfl, trivial⟩
theorem f106 (w : World) (n : Nat) (hn : n + 0 ≤ 9) (a : (List DataP)) (pa : Option Addr) (ca : Nat) (hpa : RdSl (hp w) pa ca a) (b : (List DataP)) (pb : Option Addr) (cb : Nat) (hpb : RdSl (hp w) pb cb b) (hoka : GoT.ok n a) (hokb : GoT.ok n b) :
    Does Tryz.prog 106 #[.slice pa ((a).length) ca, .slice pb ((b).length) cb] w emp (fun (rv : Value) (_ : World) => rv = .bool (laws_eqDataS a b) ∧ True) := by
  have hbP := bd_pos n
  have hbB := bd_big (n := n) (by omega)
  refine WX.enter (tt := tt) (Γ := [(0, MF.rs .stb pa ca a), (1, MF.rs .stb pb cb b)]) Tryz.func106 rfl (by kernel_rfl) rfl (allS_cons rfl hpa (allS_cons rfl hpb allS_nil)) ?_
  refine WX.run ttOk rfl ?_
  refine WX.cases 10 rfl (fun h1 => ?_) (fun h1 => ?_)
  · skip
    have h1d := B.nt' h1
    refine WX.run ttOk rfl ?_
    have hP1 : laws_eqDataS a b = false := by simp only [laws_eqDataS, h1, cond_true, cond_false]
    refine WX.ret ttOk rfl ?_
    intro w1 G bs hI hΓ
    rw [hP1]
    exact ⟨rfl, trivial⟩
  · skip
    have h1d := B.nf' h1
    refine WX.run ttOk rfl ?_
    have r1 : (a).length ≤ bd n := (okl hoka).1
    refine WX.loop (ι := Nat) ⟨fun i => (i ≤ (a).length) ∧ (laws_eqDataS_L1 b a 0 = laws_eqDataS_L1 b ((a).drop i) i), fun i => (a).length - i, fun i => [(5, .v (.int .i64 (((i : Nat) : Int)))), (0, .v (.slice pa ((a).length) ca)), (1, .v (.slice pb ((b).length) cb))], fun i => [], fun i => [], fun i => [(0, MF.rs .stb pa ca a), (1, MF.rs .stb pb cb b)]⟩ 0 ⟨(Nat.zero_le _), rfl⟩
      (.cons rfl (.cons rfl (.cons rfl (.nil)))) .nil .nil [0, 1] rfl ?_
    rintro i hpre
    have hpre_ : (i ≤ (a).length) ∧ (laws_eqDataS_L1 b a 0 = laws_eqDataS_L1 b ((a).drop i) i) := hpre
    clear hpre
    obtain ⟨v1, v2⟩ := hpre_
    refine WX.run ttOk rfl ?_
    refine WX.cases 14 rfl (fun h2 => ?_) (fun h2 => ?_)
    · skip
      have h2d := B.dt h2
      have e1i : i < (a).length := (by omega)
      obtain ⟨e1, e1h⟩ : ∃ e1, (a)[i]? = some e1 := ⟨_, List.getElem?_eq_getElem e1i⟩
      have ok1 : GoT.ok n e1 := (okl hoka).2 _ (List.mem_of_getElem? e1h)
      refine WX.run ttOk rfl ?_
      refine WX.draw [] mixed ?_
      intro bs G0 hΓ0
      refine DX.takes (fuel := 8) ttOk [(0, true), (1, true)] (by kernel_rfl) rfl ?_
      refine DX.idx 2 0 i ttOk hΓ0 (by kernel_rfl) rfl rfl rfl rfl rfl rfl rfl rfl rfl rfl rfl e1i ?_
      rintro ad1 rfl
      refine DX.ldE 3 0 2 e1 ttOk hΓ0 (by kernel_rfl) rfl rfl rfl rfl rfl rfl rfl rfl e1h (fun _ => rfl) (fun _ => rfl) ?_
      rintro ⟨⟨p1, c1⟩, ⟨p2, c2⟩, ⟨p3, c3⟩, ⟨⟩, ⟨⟩⟩
      refine DX.takes (fuel := 4) ttOk [(4, true), (5, true)] (by kernel_rfl) rfl ?_
      have e2i : i < (b).length := (by first | assumption | omega)
      obtain ⟨e2, e2h⟩ : ∃ e2, (b)[i]? = some e2 := ⟨_, List.getElem?_eq_getElem e2i⟩
      have ok2 : GoT.ok n e2 := (okl hokb).2 _ (List.mem_of_getElem? e2h)
      refine DX.idx 6 1 i ttOk hΓ0 (by kernel_rfl) rfl rfl rfl rfl rfl rfl rfl rfl rfl rfl rfl e2i ?_
      rintro ad2 rfl
      refine DX.ldE 7 1 5 e2 ttOk hΓ0 (by kernel_rfl) rfl rfl rfl rfl rfl rfl rfl rfl e2h (fun _ => rfl) (fun _ => rfl) ?_
      rintro ⟨⟨p4, c4⟩, ⟨p5, c5⟩, ⟨p6, c6⟩, ⟨⟩, ⟨⟩⟩
      refine DX.callV 8 rfl (by kernel_rfl) rfl rfl rfl rfl rfl rfl (fun _ => rfl) rfl (fun w G bs hI hΓ => f38 w n (by omega) e1 p1 c1 (hΓ.get 2 rfl) p2 c2 (hΓ.get 3 rfl) p3 c3 (hΓ.get 4 rfl) e2 p4 c4 (hΓ.get 5 rfl) p5 c5 (hΓ.get 6 rfl) p6 c6 (hΓ.get 7 rfl) ok1 ok2) ?_
      intro hq1
      refine DX.takes (fuel := 0) ttOk [(9, true)] (by kernel_rfl) rfl ?_
      refine DX.tail2 [] rfl rfl (by kernel_rfl) ?_
      refine WX.run ttOk rfl ?_
      refine WX.cases 26 rfl (fun h3 => ?_) (fun h3 => ?_)
      · skip
        have h3d := (B.nt h3)
        refine WX.run ttOk rfl ?_
        have hP2 : laws_eqDataS_L1 b a 0 = (some false) := by rw [v2, drop_get e1h]; simp only [laws_eqDataS_L1, e2h, h3, cond_true, cond_false]
        have hP3 : laws_eqDataS a b = false := by simp only [laws_eqDataS, h1, hP2, cond_true, cond_false]
        refine WX.ret ttOk rfl ?_
        intro w1 G bs hI hΓ
        rw [hP3]
        exact ⟨rfl, trivial⟩
      · skip
        have h3d := (B.nf h3)
        refine WX.run ttOk rfl ?_
        refine WX.see rfl rfl rfl (fun _ hΓ => looks_arith rfl rfl rfl rfl (by unfold I64; first | omega | (dsimp only; omega))) ?_
        refine WX.run ttOk rfl ?_
        exact WX.iter (i + 1) ⟨(by omega), (by rw [v2, drop_get e1h]; simp only [laws_eqDataS_L1, e2h, h3, cond_true, cond_false])⟩ (by dsimp only; omega) (.cons rfl (.cons rfl (.cons rfl (.nil)))) .nil .nil [0, 1] rfl
    · skip
      have h2d := B.df h2
      refine WX.run ttOk rfl ?_
      have hX1 : laws_eqDataS_L1 b a 0 = none := by rw [v2, List.drop_eq_nil_of_le (show (a).length ≤ i by omega)]; simp only [laws_eqDataS_L1, cond_true, cond_false]
      have hP4 : laws_eqDataS a b = true := by simp only [laws_eqDataS, h1, hX1, cond_true, cond_false]
      refine WX.ret ttOk rfl ?_
      intro w1 G bs hI hΓ
      rw [hP4]
      exact ⟨rfl, trivial⟩
theorem f37 (w : World) (n : Nat) (hn : n + 0 ≤ 9) (a : TrustPolicy) (paKeys : Option Addr) (caKeys : Nat) (hpaKeys : RdSl (hp w) paKeys caKeys a.keys) (paRules : Option Addr) (caRules : Nat) (hpaRules : RdSl (hp w) paRules caRules a.rules) (paAnchors : Option Addr) (caAnchors : Nat) (hpaAnchors : RdSl (hp w) paAnchors caAnchors a.anchors) (paCertificates : Option Addr) (caCertificates : Nat) (hpaCertificates : RdSl (hp w) paCertificates caCertificates a.certificates) (b : TrustPolicy) (pbKeys : Option Addr) (cbKeys : Nat) (hpbKeys : RdSl (hp w) pbKeys cbKeys b.keys) (pbRules : Option Addr) (cbRules : Nat) (hpbRules : RdSl (hp w) pbRules cbRules b.rules) (pbAnchors : Option Addr) (cbAnchors : Nat) (hpbAnchors : RdSl (hp w) pbAnchors cbAnchors b.anchors) (pbCertificates : Option Addr) (cbCertificates : Nat) (hpbCertificates : RdSl (hp w) pbCertificates cbCertificates b.certificates) (hoka : GoT.ok n a) (hokb : GoT.ok n b) :
    Does Tryz.prog 37 #[.agg #[.slice paKeys ((a.keys).length) caKeys, .slice paRules ((a.rules).length) caRules, .slice paAnchors ((a.anchors).length) caAnchors, .slice paCertificates ((a.certificates).length) caCertificates], .agg #[.slice pbKeys ((b.keys).length) cbKeys, .slice pbRules ((b.rules).length) cbRules, .slice pbAnchors ((b.anchors).length) cbAnchors, .slice pbCertificates ((b.certificates).length) cbCertificates]] w emp (fun (rv : Value) (_ : World) => rv = .bool (laws_eqTrustPolicy a b) ∧ True) := by
  have hbP := bd_pos n
  have hbB := bd_big (n := n) (by omega)
  refine WX.enter (tt := tt) (Γ := [(0, MF.rs .stb paKeys caKeys a.keys), (1, MF.rs .stb paRules caRules a.rules), (2, MF.rs .stb paAnchors caAnchors a.anchors), (3, MF.rs .stb paCertificates caCertificates a.certificates), (4, MF.rs .stb pbKeys cbKeys b.keys), (5, MF.rs .stb pbRules cbRules b.rules), (6, MF.rs .stb pbAnchors cbAnchors b.anchors), (7, MF.rs .stb pbCertificates cbCertificates b.certificates)]) Tryz.func37 rfl (by kernel_rfl) rfl (allS_cons rfl hpaKeys (allS_cons rfl hpaRules (allS_cons rfl hpaAnchors (allS_cons rfl hpaCertificates (allS_cons rfl hpbKeys (allS_cons rfl hpbRules (allS_cons rfl hpbAnchors (allS_cons rfl hpbCertificates allS_nil)))))))) ?_
  refine WX.run ttOk rfl ?_
  refine WX.callV rfl rfl rfl rfl rfl (fun _ => rfl) rfl (fun w G bs hI hΓ => f103 w n (by omega) a.keys paKeys caKeys (hΓ.get 0 rfl) b.keys pbKeys cbKeys (hΓ.get 4 rfl) ((ok_TrustPolicy hoka).1) ((ok_TrustPolicy hokb).1)) ?_
  intro hq1
  refine WX.run ttOk rfl ?_
  refine WX.cases 10 rfl (fun h1 => ?_) (fun h1 => ?_)
  · skip
    have h1d := (B.nt h1)
    refine WX.run ttOk rfl ?_
    have hP1 : laws_eqTrustPolicy a b = false := by simp only [laws_eqTrustPolicy, h1, cond_true, cond_false]
    refine WX.ret ttOk rfl ?_
    intro w1 G bs hI hΓ
    rw [hP1]
    exact ⟨rfl, trivial⟩
  · skip
    have h1d := (B.nf h1)
    refine WX.run ttOk rfl ?_
    refine WX.callV rfl rfl rfl rfl rfl (fun _ => rfl) rfl (fun w G bs hI hΓ => f104 w n (by omega) a.rules paRules caRules (hΓ.get 1 rfl) b.rules pbRules cbRules (hΓ.get 5 rfl) ((ok_TrustPolicy hoka).2.1) ((ok_TrustPolicy hokb).2.1)) ?_
    intro hq2
    refine WX.run ttOk rfl ?_
    refine WX.cases 16 rfl (fun h2 => ?_) (fun h2 => ?_)
    · skip
      have h2d := (B.nt h2)
      refine WX.run ttOk rfl ?_
      have hP2 : laws_eqTrustPolicy a b = false := by simp only [laws_eqTrustPolicy, h1, h2, cond_true, cond_false]
      refine WX.ret ttOk rfl ?_
      intro w1 G bs hI hΓ
      rw [hP2]
      exact ⟨rfl, trivial⟩
    · skip
      have h2d := (B.nf h2)
      refine WX.run ttOk rfl ?_
      refine WX.callV rfl rfl rfl rfl rfl (fun _ => rfl) rfl (fun w G bs hI hΓ => f105 w n (by omega) a.anchors paAnchors caAnchors (hΓ.get 2 rfl) b.anchors pbAnchors cbAnchors (hΓ.get 6 rfl) ((ok_TrustPolicy hoka).2.2.1) ((ok_TrustPolicy hokb).2.2.1)) ?_
      intro hq3
      refine WX.run ttOk rfl ?_
      refine WX.cases 22 rfl (fun h3 => ?_) (fun h3 => ?_)
      · skip
        have h3d := (B.nt h3)
        refine WX.run ttOk rfl ?_
        have hP3 : laws_eqTrustPolicy a b = false := by simp only [laws_eqTrustPolicy, h1, h2, h3, cond_true, cond_false]
        refine WX.ret ttOk rfl ?_
        intro w1 G bs hI hΓ
        rw [hP3]
        exact ⟨rfl, trivial⟩
      · skip
        have h3d := (B.nf h3)
        refine WX.run ttOk rfl ?_
        refine WX.callV rfl rfl rfl rfl rfl (fun _ => rfl) rfl (fun w G bs hI hΓ => f106 w n (by omega) a.certificates paCertificates caCertificates (hΓ.get 3 rfl) b.certificates pbCertificates cbCertificates (hΓ.get 7 rfl) ((ok_TrustPolicy hoka).2.2.2) ((ok_TrustPolicy hokb).2.2.2)) ?_
        intro hq4
        refine WX.run ttOk rfl ?_
        refine WX.cases 28 rfl (fun h4 => ?_) (fun h4 => ?_)
        · skip
          have h4d := (B.nt h4)
          refine WX.run ttOk rfl ?_
          have hP4 : laws_eqTrustPolicy a b = false := by simp only [laws_eqTrustPolicy, h1, h2, h3, h4, cond_true, cond_false]
          refine WX.ret ttOk rfl ?_
          intro w1 G bs hI hΓ
          rw [hP4]
          exact ⟨rfl, trivial⟩
        · skip
          have h4d := (B.nf h4)
          refine WX.run ttOk rfl ?_
          have hP5 : laws_eqTrustPolicy a b = true := by simp only [laws_eqTrustPolicy, h1, h2, h3, h4, cond_true, cond_false]
          refine WX.ret ttOk rfl ?_
          intro w1 G bs hI hΓ
          rw [hP5]
          exact ⟨rfl, trivial⟩
theorem f255 (w : World) (n : Nat) (hn : n + 0 ≤ 9) (a : Link) (b : Link) (hoka : GoT.ok n a) (hokb : GoT.ok n b) :
    Does Tryz.prog 255 #[.agg #[.int .i64 (a.a), .int .i64 (a.b)], .agg #[.int .i64 (b.a), .int .i64 (b.b)]] w emp (fun (rv : Value) (_ : World) => rv = .bool (laws_eqLink a b) ∧ True) := by
  refine WX.enter (tt := tt) (Γ := []) Tryz.func255 rfl (by kernel_rfl) rfl allS_nil ?_
  refine WX.run ttOk rfl ?_
  refine WX.cases 9 rfl (fun h1 => ?_) (fun h1 => ?_)
  · skip
    have h1d := B.nt' h1
    refine WX.run ttOk rfl ?_
    have hP1 : laws_eqLink a b = false := by simp only [laws_eqLink, h1, cond_true, cond_false]
    refine WX.ret ttOk rfl ?_
    intro w1 G bs hI hΓ
    rw [hP1]
    exact ⟨rfl, trivial⟩
  · skip
    have h1d := B.nf' h1
    refine WX.run ttOk rfl ?_
    refine WX.cases 14 rfl (fun h2 => ?_) (fun h2 => ?_)
    · skip
      have h2d := B.nt' h2
      refine WX.run ttOk rfl ?_
      have hP2 : laws_eqLink a b = false := by simp only [laws_eqLink, h1, h2, cond_true, cond_false]
      refine WX.ret ttOk rfl ?_
      intro w1 G bs hI hΓ
      rw [hP2]
      exact ⟨rfl, trivial⟩
    · skip
      have h2d := B.nf' h2
      refine WX.run ttOk rfl ?_
      have hP3 : laws_eqLink a b = true := by simp only [laws_eqLink, h1, h2, cond_true, cond_false]
      refine WX.ret ttOk rfl ?_
      intro w1 G bs hI hΓ
      rw [hP3]
      exact ⟨rfl, trivial⟩
theorem f148 (w : World) (n : Nat) (hn : n + 0 ≤ 9) (a : (List Link)) (pa : Option Addr) (ca : Nat) (hpa : RdSl (hp w) pa ca a) (b : (List Link)) (pb : Option Addr) (cb : Nat) (hpb : RdSl (hp w) pb cb b) (hoka : GoT.ok n a) (hokb : GoT.ok n b) :
    Does Tryz.prog 148 #[.slice pa ((a).length) ca, .slice pb ((b).length) cb] w emp (fun (rv : Value) (_ : World) => rv = .bool (laws_eqLinkS a b) ∧ True) := by
  have hbP := bd_pos n
  have hbB := bd_big (n := n) (by omega)
  refine WX.enter (tt := tt) (Γ := [(0, MF.rs .stb pa ca a), (1, MF.rs .stb pb cb b)]) Tryz.func148 rfl (by kernel_rfl) rfl (allS_cons rfl hpa (allS_cons rfl hpb allS_nil)) ?_
  refine WX.run ttOk rfl ?_
  refine WX.cases 10 rfl (fun h1 => ?_) (fun h1 => ?_)
  · skip
    have h1d := B.nt' h1
    refine WX.run ttOk rfl ?_
    have hP1 : laws_eqLinkS a b = false := by simp only [laws_eqLinkS, h1, cond_true, cond_false]
    refine WX.ret ttOk rfl ?_
    intro w1 G bs hI hΓ
    rw [hP1]
    exact ⟨rfl, trivial⟩
  · skip
    have h1d := B.nf' h1
    refine WX.run ttOk rfl ?_
    have r1 : (a).length ≤ bd n := (okl hoka).1
    refine WX.loop (ι := Nat) ⟨fun i => (i ≤ (a).length) ∧ (laws_eqLinkS_L1 b a 0 = laws_eqLinkS_L1 b ((a).drop i) i), fun i => (a).length - i, fun i => [(5, .v (.int .i64 (((i : Nat) : Int)))), (0, .v (.slice pa ((a).length) ca)), (1, .v (.slice pb ((b).length) cb))], fun i => [], fun i => [], fun i => [(0, MF.rs .stb pa ca a), (1, MF.rs .stb pb cb b)]⟩ 0 ⟨(Nat.zero_le _), rfl⟩
      (.cons rfl (.cons rfl (.cons rfl (.nil)))) .nil .nil [0, 1] rfl ?_
    rintro i hpre
    have hpre_ : (i ≤ (a).length) ∧ (laws_eqLinkS_L1 b a 0 = laws_eqLinkS_L1 b ((a).drop i) i) := hpre
    clear hpre
    obtain ⟨v1, v2⟩ := hpre_
    refine WX.run ttOk rfl ?_
    refine WX.cases 14 rfl (fun h2 => ?_) (fun h2 => ?_)
    · skip
      have h2d := B.dt h2
      have e1i : i < (a).length := (by omega)
      obtain ⟨e1, e1h⟩ : ∃ e1, (a)[i]? = some e1 := ⟨_, List.getElem?_eq_getElem e1i⟩
      have ok1 : GoT.ok n e1 := (okl hoka).2 _ (List.mem_of_getElem? e1h)
      refine WX.run ttOk rfl ?_
      refine WX.draw [] mixed ?_
      intro bs G0 hΓ0
      refine DX.takes (fuel := 8) ttOk [(0, true), (1, true)] (by kernel_rfl) rfl ?_
      refine DX.idx 2 0 i ttOk hΓ0 (by kernel_rfl) rfl rfl rfl rfl rfl rfl rfl rfl rfl rfl rfl e1i ?_
      rintro ad1 rfl
      refine DX.ldE 3 0 2 e1 ttOk hΓ0 (by kernel_rfl) rfl rfl rfl rfl rfl rfl rfl rfl e1h (fun _ => rfl) (fun _ => rfl) ?_
      rintro ⟨⟨⟩, ⟨⟩⟩
      refine DX.takes (fuel := 4) ttOk [(4, true), (5, true)] (by kernel_rfl) rfl ?_
      have e2i : i < (b).length := (by first | assumption | omega)
      obtain ⟨e2, e2h⟩ : ∃ e2, (b)[i]? = some e2 := ⟨_, List.getElem?_eq_getElem e2i⟩
      have ok2 : GoT.ok n e2 := (okl hokb).2 _ (List.mem_of_getElem? e2h)
      refine DX.idx 6 1 i ttOk hΓ0 (by kernel_rfl) rfl rfl rfl rfl rfl rfl rfl rfl rfl rfl rfl e2i ?_
      rintro ad2 rfl
      refine DX.ldE 7 1 2 e2 ttOk hΓ0 (by kernel_rfl) rfl rfl rfl rfl rfl rfl rfl rfl e2h (fun _ => rfl) (fun _ => rfl) ?_
      rintro ⟨⟨⟩, ⟨⟩⟩
      refine DX.callV 8 rfl (by kernel_rfl) rfl rfl rfl rfl rfl rfl (fun _ => rfl) rfl (fun w G bs hI hΓ => f255 w n (by omega) e1 e2 ok1 ok2) ?_
      intro hq1
      refine DX.takes (fuel := 0) ttOk [(9, true)] (by kernel_rfl) rfl ?_
      refine DX.tail2 [] rfl rfl (by kernel_rfl) ?_
      refine WX.run ttOk rfl ?_
      refine WX.cases 26 rfl (fun h3 => ?_) (fun h3 => ?_)
      · skip
        have h3d := (B.nt h3)
        refine WX.run ttOk rfl ?_
        have hP2 : laws_eqLinkS_L1 b a 0 = (some false) := by rw [v2, drop_get e1h]; simp only [laws_eqLinkS_L1, e2h, h3, cond_true, cond_false]
        have hP3 : laws_eqLinkS a b = false := by simp only [laws_eqLinkS, h1, hP2, cond_true, cond_false]
        refine WX.ret ttOk rfl ?_
        intro w1 G bs hI hΓ
        rw [hP3]
        exact ⟨rfl, trivial⟩
      · skip
        have h3d := (B.nf h3)
        refine WX.run ttOk rfl ?_
        refine WX.see rfl rfl rfl (fun _ hΓ => looks_arith rfl rfl rfl rfl (by unfold I64; first | omega | (dsimp only; omega))) ?_
        refine WX.run ttOk rfl ?_
        exact WX.iter (i + 1) ⟨(by omega), (by rw [v2, drop_get e1h]; simp only [laws_eqLinkS_L1, e2h, h3, cond_true, cond_false])⟩ (by dsimp only; omega) (.cons rfl (.cons rfl (.cons rfl (.nil)))) .nil .nil [0, 1] rfl
    · skip
      have h2d := B.df h2
      refine WX.run ttOk rfl ?_
      have hX1 : laws_eqLinkS_L1 b a 0 = none := by rw [v2, List.drop_eq_nil_of_le (show (a).length ≤ i by omega)]; simp only [laws_eqLinkS_L1, cond_true, cond_false]
      have hP4 : laws_eqLinkS a b = true := by simp only [laws_eqLinkS, h1, hX1, cond_true, cond_false]
      refine WX.ret ttOk rfl ?_
      intro w1 G bs hI hΓ
      rw [hP4]
      exact ⟨rfl, trivial⟩
theorem f50 (w : World) (n : Nat) (hn : n + 0 ≤ 9) (a : Topology) (paLinks : Option Addr) (caLinks : Nat) (hpaLinks : RdSl (hp w) paLinks caLinks a.links) (b : Topology) (pbLinks : Option Addr) (cbLinks : Nat) (hpbLinks : RdSl (hp w) pbLinks cbLinks b.links) (hoka : GoT.ok n a) (hokb : GoT.ok n b) :
    Does Tryz.prog 50 #[.agg #[.int .i64 (a.size), .slice paLinks ((a.links).length) caLinks], .agg #[.int .i64 (b.size), .slice pbLinks ((b.links).length) cbLinks]] w emp (fun (rv : Value) (_ : World) => rv = .bool (laws_eqTopology a b) ∧ True) := by
  have hbP := bd_pos n
  have hbB := bd_big (n := n) (by omega)
  refine WX.enter (tt := tt) (Γ := [(0, MF.rs .stb paLinks caLinks a.links), (1, MF.rs .stb pbLinks cbLinks b.links)]) Tryz.func50 rfl (by kernel_rfl) rfl (allS_cons rfl hpaLinks (allS_cons rfl hpbLinks allS_nil)) ?_
  refine WX.run ttOk rfl ?_
  refine WX.cases 9 rfl (fun h1 => ?_) (fun h1 => ?_)
  · skip
    have h1d := B.nt' h1
    refine WX.run ttOk rfl ?_
    have hP1 : laws_eqTopology a b = false := by simp only [laws_eqTopology, h1, cond_true, cond_false]
    refine WX.ret ttOk rfl ?_
    intro w1 G bs hI hΓ
    rw [hP1]
    exact ⟨rfl, trivial⟩
  · skip
    have h1d := B.nf' h1
    refine WX.run ttOk rfl ?_
    refine WX.callV rfl rfl rfl rfl rfl (fun _ => rfl) rfl (fun w G bs hI hΓ => f148 w n (by omega) a.links paLinks caLinks (hΓ.get 0 rfl) b.links pbLinks cbLinks (hΓ.get 1 rfl) ((ok_Topology hoka).2) ((ok_Topology hokb).2)) ?_
    intro hq1
    refine WX.run ttOk rfl ?_
    refine WX.cases 15 rfl (fun h2 => ?_) (fun h2 => ?_)
    · skip
      have h2d := (B.nt h2)
      refine WX.run ttOk rfl ?_
      have hP2 : laws_eqTopology a b = false := by simp only [laws_eqTopology, h1, h2, cond_true, cond_false]
      refine WX.ret ttOk rfl ?_
      intro w1 G bs hI hΓ
      rw [hP2]
      exact ⟨rfl, trivial⟩
    · skip
      have h2d := (B.nf h2)
      refine WX.run ttOk rfl ?_
      have hP3 : laws_eqTopology a b = true := by simp only [laws_eqTopology, h1, h2, cond_true, cond_false]
      refine WX.ret ttOk rfl ?_
      intro w1 G bs hI hΓ
      rw [hP3]
      exact ⟨rfl, trivial⟩
theorem f433 (w : World) (n : Nat) (hn : n + 0 ≤ 9) (a : CacheEntry) (paDataName : Option Addr) (caDataName : Nat) (hpaDataName : RdSl (hp w) paDataName caDataName a.data.name.parts) (paDataContent : Option Addr) (caDataContent : Nat) (hpaDataContent : RdSl (hp w) paDataContent caDataContent a.data.content) (paDataKeyName : Option Addr) (caDataKeyName : Nat) (hpaDataKeyName : RdSl (hp w) paDataKeyName caDataKeyName a.data.keyName.parts) (b : CacheEntry) (pbDataName : Option Addr) (cbDataName : Nat) (hpbDataName : RdSl (hp w) pbDataName cbDataName b.data.name.parts) (pbDataContent : Option Addr) (cbDataContent : Nat) (hpbDataContent : RdSl (hp w) pbDataContent cbDataContent b.data.content) (pbDataKeyName : Option Addr) (cbDataKeyName : Nat) (hpbDataKeyName : RdSl (hp w) pbDataKeyName cbDataKeyName b.data.keyName.parts) (hoka : GoT.ok n a) (hokb : GoT.ok n b) :
    Does Tryz.prog 433 #[.agg #[.slice paDataName ((a.data.name.parts).length) caDataName, .slice paDataContent ((a.data.content).length) caDataContent, .slice paDataKeyName ((a.data.keyName.parts).length) caDataKeyName, .int .i64 (a.data.freshUntil), .int .i64 (a.data.signature), .int .i64 (a.lastUsed)], .agg #[.slice pbDataName ((b.data.name.parts).length) cbDataName, .slice pbDataContent ((b.data.content).length) cbDataContent, .slice pbDataKeyName ((b.data.keyName.parts).length) cbDataKeyName, .int .i64 (b.data.freshUntil), .int .i64 (b.data.signature), .int .i64 (b.lastUsed)]] w emp (fun (rv : Value) (_ : World) => rv = .bool (laws_eqCacheEntry a b) ∧ True) := by
  have hbP := bd_pos n
  have hbB := bd_big (n := n) (by omega)
  refine WX.enter (tt := tt) (Γ := [(0, MF.rs .stb paDataName caDataName a.data.name.parts), (1, MF.rs .stb paDataContent caDataContent a.data.content), (2, MF.rs .stb paDataKeyName caDataKeyName a.data.keyName.parts), (3, MF.rs .stb pbDataName cbDataName b.data.name.parts), (4, MF.rs .stb pbDataContent cbDataContent b.data.content), (5, MF.rs .stb pbDataKeyName cbDataKeyName b.data.keyName.parts)]) Tryz.func433 rfl (by kernel_rfl) rfl (allS_cons rfl hpaDataName (allS_cons rfl hpaDataContent (allS_cons rfl hpaDataKeyName (allS_cons rfl hpbDataName (allS_cons rfl hpbDataContent (allS_cons rfl hpbDataKeyName allS_nil)))))) ?_
  refine WX.run ttOk rfl ?_
  refine WX.callV rfl rfl rfl rfl rfl (fun _ => rfl) rfl (fun w G bs hI hΓ => f38 w n (by omega) a.data paDataName caDataName (hΓ.get 0 rfl) paDataContent caDataContent (hΓ.get 1 rfl) paDataKeyName caDataKeyName (hΓ.get 2 rfl) b.data pbDataName cbDataName (hΓ.get 3 rfl) pbDataContent cbDataContent (hΓ.get 4 rfl) pbDataKeyName cbDataKeyName (hΓ.get 5 rfl) ((ok_CacheEntry hoka).1) ((ok_CacheEntry hokb).1)) ?_
  intro hq1
  refine WX.run ttOk rfl ?_
  refine WX.cases 10 rfl (fun h1 => ?_) (fun h1 => ?_)
  · skip
    have h1d := (B.nt h1)
    refine WX.run ttOk rfl ?_
    have hP1 : laws_eqCacheEntry a b = false := by simp only [laws_eqCacheEntry, h1, cond_true, cond_false]
    refine WX.ret ttOk rfl ?_
    intro w1 G bs hI hΓ
    rw [hP1]
    exact ⟨rfl, trivial⟩
  · skip
    have h1d := (B.nf h1)
    refine WX.run ttOk rfl ?_
    refine WX.cases 15 rfl (fun h2 => ?_) (fun h2 => ?_)
    · skip
      have h2d := B.nt' h2
      refine WX.run ttOk rfl ?_
      have hP2 : laws_eqCacheEntry a b = false := by simp only [laws_eqCacheEntry, h1, h2, cond_true, cond_false]
      refine WX.ret ttOk rfl ?_
      intro w1 G bs hI hΓ
      rw [hP2]
      exact ⟨rfl, trivial⟩
    · skip
      have h2d := B.nf' h2
      refine WX.run ttOk rfl ?_
      have hP3 : laws_eqCacheEntry a b = true := by simp only [laws_eqCacheEntry, h1, h2, cond_true, cond_false]
      refine WX.ret ttOk rfl ?_
      intro w1 G bs hI hΓ
      rw [hP3]
      exact ⟨rfl, trivial⟩
theorem f395 (w : World) (n : Nat) (hn : n + 0 ≤ 9) (a : (List CacheEntry)) (pa : Option Addr) (ca : Nat) (hpa : RdSl (hp w) pa ca a) (b : (List CacheEntry)) (pb : Option Addr) (cb : Nat) (hpb : RdSl (hp w) pb cb b) (hoka : GoT.ok n a) (hokb : GoT.ok n b) :
    Does Tryz.prog 395 #[.slice pa ((a).length) ca, .slice pb ((b).length) cb] w emp (fun (rv : Value) (_ : World) => rv = .bool (laws_eqCacheEntryS a b) ∧ True) := by
  have hbP := bd_pos n
  have hbB := bd_big (n := n) (by omega)
  refine WX.enter (tt := tt) (Γ := [(0, MF.rs .stb pa ca a), (1, MF.rs .stb pb cb b)]) Tryz.func395 rfl (by kernel_rfl) rfl (allS_cons rfl hpa (allS_cons rfl hpb allS_nil)) ?_
  refine WX.run ttOk rfl ?_
  refine WX.cases 10 rfl (fun h1 => ?_) (fun h1 => ?_)
  · skip
    have h1d := B.nt' h1
    refine WX.run ttOk rfl ?_
    have hP1 : laws_eqCacheEntryS a b = false := by simp only [laws_eqCacheEntryS, h1, cond_true, cond_false]
    refine WX.ret ttOk rfl ?_
    intro w1 G bs hI hΓ
    rw [hP1]
    exact ⟨rfl, trivial⟩
  · skip
    have h1d := B.nf' h1
    refine WX.run ttOk rfl ?_
    have r1 : (a).length ≤ bd n := (okl hoka).1
    refine WX.loop (ι := Nat) ⟨fun i => (i ≤ (a).length) ∧ (laws_eqCacheEntryS_L1 b a 0 = laws_eqCacheEntryS_L1 b ((a).drop i) i), fun i => (a).length - i, fun i => [(5, .v (.int .i64 (((i : Nat) : Int)))), (0, .v (.slice pa ((a).length) ca)), (1, .v (.slice pb ((b).length) cb))], fun i => [], fun i => [], fun i => [(0, MF.rs .stb pa ca a), (1, MF.rs .stb pb cb b)]⟩ 0 ⟨(Nat.zero_le _), rfl⟩
      (.cons rfl (.cons rfl (.cons rfl (.nil)))) .nil .nil [0, 1] rfl ?_
    rintro i hpre
    have hpre_ : (i ≤ (a).length) ∧ (laws_eqCacheEntryS_L1 b a 0 = laws_eqCacheEntryS_L1 b ((a).drop i) i) := hpre
    clear hpre
    obtain ⟨v1, v2⟩ := hpre_
    refine WX.run ttOk rfl ?_
    refine WX.cases 14 rfl (fun h2 => ?_) (fun h2 => ?_)
    · skip
      have h2d := B.dt h2
      have e1i : i < (a).length := (by omega)
      obtain ⟨e1, e1h⟩ : ∃ e1, (a)[i]? = some e1 := ⟨_, List.getElem?_eq_getElem e1i⟩
      have ok1 : GoT.ok n e1 := (okl hoka).2 _ (List.mem_of_getElem? e1h)
      refine WX.run ttOk rfl ?_
      refine WX.draw [] mixed ?_
      intro bs G0 hΓ0
      refine DX.takes (fuel := 8) ttOk [(0, true), (1, true)] (by kernel_rfl) rfl ?_
      refine DX.idx 2 0 i ttOk hΓ0 (by kernel_rfl) rfl rfl rfl rfl rfl rfl rfl rfl rfl rfl rfl e1i ?_
      rintro ad1 rfl
      refine DX.ldE 3 0 2 e1 ttOk hΓ0 (by kernel_rfl) rfl rfl rfl rfl rfl rfl rfl rfl e1h (fun _ => rfl) (fun _ => rfl) ?_
      rintro ⟨⟨⟨p1, c1⟩, ⟨p2, c2⟩, ⟨p3, c3⟩, ⟨⟩, ⟨⟩⟩, ⟨⟩⟩
      refine DX.takes (fuel := 4) ttOk [(4, true), (5, true)] (by kernel_rfl) rfl ?_
      have e2i : i < (b).length := (by first | assumption | omega)
      obtain ⟨e2, e2h⟩ : ∃ e2, (b)[i]? = some e2 := ⟨_, List.getElem?_eq_getElem e2i⟩
      have ok2 : GoT.ok n e2 := (okl hokb).2 _ (List.mem_of_getElem? e2h)
      refine DX.idx 6 1 i ttOk hΓ0 (by kernel_rfl) rfl rfl rfl rfl rfl rfl rfl rfl rfl rfl rfl e2i ?_
      rintro ad2 rfl
      refine DX.ldE 7 1 5 e2 ttOk hΓ0 (by kernel_rfl) rfl rfl rfl rfl rfl rfl rfl rfl e2h (fun _ => rfl) (fun _ => rfl) ?_
      rintro ⟨⟨⟨p4, c4⟩, ⟨p5, c5⟩, ⟨p6, c6⟩, ⟨⟩, ⟨⟩⟩, ⟨⟩⟩
      refine DX.callV 8 rfl (by kernel_rfl) rfl rfl rfl rfl rfl rfl (fun _ => rfl) rfl (fun w G bs hI hΓ => f433 w n (by omega) e1 p1 c1 (hΓ.get 2 rfl) p2 c2 (hΓ.get 3 rfl) p3 c3 (hΓ.get 4 rfl) e2 p4 c4 (hΓ.get 5 rfl) p5 c5 (hΓ.get 6 rfl) p6 c6 (hΓ.get 7 rfl) ok1 ok2) ?_
      intro hq1
      refine DX.takes (fuel := 0) ttOk [(9, true)] (by kernel_rfl) rfl ?_
      refine DX.tail2 [] rfl rfl (by kernel_rfl) ?_
      refine WX.run ttOk rfl ?_
      refine WX.cases 26 rfl (fun h3 => ?_) (fun h3 => ?_)
      · skip
        have h3d := (B.nt h3)
        refine WX.run ttOk rfl ?_
        have hP2 : laws_eqCacheEntryS_L1 b a 0 = (some false) := by rw [v2, drop_get e1h]; simp only [laws_eqCacheEntryS_L1, e2h, h3, cond_true, cond_false]
        have hP3 : laws_eqCacheEntryS a b = false := by simp only [laws_eqCacheEntryS, h1, hP2, cond_true, cond_false]
        refine WX.ret ttOk rfl ?_
        intro w1 G bs hI hΓ
        rw [hP3]
        exact ⟨rfl, trivial⟩
      · skip
        have h3d := (B.nf h3)
        refine WX.run ttOk rfl ?_
        refine WX.see rfl rfl rfl (fun _ hΓ => looks_arith rfl rfl rfl rfl (by unfold I64; first | omega | (dsimp only; omega))) ?_
        refine WX.run ttOk rfl ?_
        exact WX.iter (i + 1) ⟨(by omega), (by rw [v2, drop_get e1h]; simp only [laws_eqCacheEntryS_L1, e2h, h3, cond_true, cond_false])⟩ (by dsimp only; omega) (.cons rfl (.cons rfl (.cons rfl (.nil)))) .nil .nil [0, 1] rfl
    · skip
      have h2d := B.df h2
      refine WX.run ttOk rfl ?_
      have hX1 : laws_eqCacheEntryS_L1 b a 0 = none := by rw [v2, List.drop_eq_nil_of_le (show (a).length ≤ i by omega)]; simp only [laws_eqCacheEntryS_L1, cond_true, cond_false]
      have hP4 : laws_eqCacheEntryS a b = true := by simp only [laws_eqCacheEntryS, h1, hX1, cond_true, cond_false]
      refine WX.ret ttOk rfl ?_
      intro w1 G bs hI hΓ
      rw [hP4]
      exact ⟨rfl, trivial⟩
theorem f338 (w : World) (n : Nat) (hn : n + 0 ≤ 9) (a : ContentStore) (paEntries : Option Addr) (caEntries : Nat) (hpaEntries : RdSl (hp w) paEntries caEntries a.entries) (b : ContentStore) (pbEntries : Option Addr) (cbEntries : Nat) (hpbEntries : RdSl (hp w) pbEntries cbEntries b.entries) (hoka : GoT.ok n a) (hokb : GoT.ok n b) :
    Does Tryz.prog 338 #[.agg #[.int .i64 (a.capacity), .slice paEntries ((a.entries).length) caEntries], .agg #[.int .i64 (b.capacity), .slice pbEntries ((b.entries).length) cbEntries]] w emp (fun (rv : Value) (_ : World) => rv = .bool (laws_eqContentStore a b) ∧ True) := by
  have hbP := bd_pos n
  have hbB := bd_big (n := n) (by omega)
  refine WX.enter (tt := tt) (Γ := [(0, MF.rs .stb paEntries caEntries a.entries), (1, MF.rs .stb pbEntries cbEntries b.entries)]) Tryz.func338 rfl (by kernel_rfl) rfl (allS_cons rfl hpaEntries (allS_cons rfl hpbEntries allS_nil)) ?_
  refine WX.run ttOk rfl ?_
  refine WX.cases 9 rfl (fun h1 => ?_) (fun h1 => ?_)
  · skip
    have h1d := B.nt' h1
    refine WX.run ttOk rfl ?_
    have hP1 : laws_eqContentStore a b = false := by simp only [laws_eqContentStore, h1, cond_true, cond_false]
    refine WX.ret ttOk rfl ?_
    intro w1 G bs hI hΓ
    rw [hP1]
    exact ⟨rfl, trivial⟩
  · skip
    have h1d := B.nf' h1
    refine WX.run ttOk rfl ?_
    refine WX.callV rfl rfl rfl rfl rfl (fun _ => rfl) rfl (fun w G bs hI hΓ => f395 w n (by omega) a.entries paEntries caEntries (hΓ.get 0 rfl) b.entries pbEntries cbEntries (hΓ.get 1 rfl) ((ok_ContentStore hoka).2) ((ok_ContentStore hokb).2)) ?_
    intro hq1
    refine WX.run ttOk rfl ?_
    refine WX.cases 15 rfl (fun h2 => ?_) (fun h2 => ?_)
    · skip
      have h2d := (B.nt h2)
      refine WX.run ttOk rfl ?_
      have hP2 : laws_eqContentStore a b = false := by simp only [laws_eqContentStore, h1, h2, cond_true, cond_false]
      refine WX.ret ttOk rfl ?_
      intro w1 G bs hI hΓ
      rw [hP2]
      exact ⟨rfl, trivial⟩
    · skip
      have h2d := (B.nf h2)
      refine WX.run ttOk rfl ?_
      have hP3 : laws_eqContentStore a b = true := by simp only [laws_eqContentStore, h1, h2, cond_true, cond_false]
      refine WX.ret ttOk rfl ?_
      intro w1 G bs hI hΓ
      rw [hP3]
      exact ⟨rfl, trivial⟩
theorem f446 (w : World) (n : Nat) (hn : n + 0 ≤ 9) (a : Requester) (b : Requester) (hoka : GoT.ok n a) (hokb : GoT.ok n b) :
    Does Tryz.prog 446 #[.agg #[.int .i64 (a.face), .int .i64 (a.nonce), .int .i64 (a.expiry)], .agg #[.int .i64 (b.face), .int .i64 (b.nonce), .int .i64 (b.expiry)]] w emp (fun (rv : Value) (_ : World) => rv = .bool (laws_eqRequester a b) ∧ True) := by
  refine WX.enter (tt := tt) (Γ := []) Tryz.func446 rfl (by kernel_rfl) rfl allS_nil ?_
  refine WX.run ttOk rfl ?_
  refine WX.cases 9 rfl (fun h1 => ?_) (fun h1 => ?_)
  · skip
    have h1d := B.nt' h1
    refine WX.run ttOk rfl ?_
    have hP1 : laws_eqRequester a b = false := by simp only [laws_eqRequester, h1, cond_true, cond_false]
    refine WX.ret ttOk rfl ?_
    intro w1 G bs hI hΓ
    rw [hP1]
    exact ⟨rfl, trivial⟩
  · skip
    have h1d := B.nf' h1
    refine WX.run ttOk rfl ?_
    refine WX.cases 14 rfl (fun h2 => ?_) (fun h2 => ?_)
    · skip
      have h2d := B.nt' h2
      refine WX.run ttOk rfl ?_
      have hP2 : laws_eqRequester a b = false := by simp only [laws_eqRequester, h1, h2, cond_true, cond_false]
      refine WX.ret ttOk rfl ?_
      intro w1 G bs hI hΓ
      rw [hP2]
      exact ⟨rfl, trivial⟩
    · skip
      have h2d := B.nf' h2
      refine WX.run ttOk rfl ?_
      refine WX.cases 19 rfl (fun h3 => ?_) (fun h3 => ?_)
      · skip
        have h3d := B.nt' h3
        refine WX.run ttOk rfl ?_
        have hP3 : laws_eqRequester a b = false := by simp only [laws_eqRequester, h1, h2, h3, cond_true, cond_false]
        refine WX.ret ttOk rfl ?_
        intro w1 G bs hI hΓ
        rw [hP3]
        exact ⟨rfl, trivial⟩
      · skip
        have h3d := B.nf' h3
        refine WX.run ttOk rfl ?_
        have hP4 : laws_eqRequester a b = true := by simp only [laws_eqRequester, h1, h2, h3, cond_true, cond_false]
        refine WX.ret ttOk rfl ?_
        intro w1 G bs hI hΓ
        rw [hP4]
        exact ⟨rfl, trivial⟩
theorem f434 (w : World) (n : Nat) (hn : n + 0 ≤ 9) (a : (List Requester)) (pa : Option Addr) (ca : Nat) (hpa : RdSl (hp w) pa ca a) (b : (List Requester)) (pb : Option Addr) (cb : Nat) (hpb : RdSl (hp w) pb cb b) (hoka : GoT.ok n a) (hokb : GoT.ok n b) :
    Does Tryz.prog 434 #[.slice pa ((a).length) ca, .slice pb ((b).length) cb] w emp (fun (rv : Value) (_ : World) => rv = .bool (laws_eqRequesterS a b) ∧ True) := by
  have hbP := bd_pos n
  have hbB := bd_big (n := n) (by omega)
  refine WX.enter (tt := tt) (Γ := [(0, MF.rs .stb pa ca a), (1, MF.rs .stb pb cb b)]) Tryz.func434 rfl (by kernel_rfl) rfl (allS_cons rfl hpa (allS_cons rfl hpb allS_nil)) ?_
  refine WX.run ttOk rfl ?_
  refine WX.cases 10 rfl (fun h1 => ?_) (fun h1 => ?_)
  · skip
    have h1d := B.nt' h1
    refine WX.run ttOk rfl ?_
    have hP1 : laws_eqRequesterS a b = false := by simp only [laws_eqRequesterS, h1, cond_true, cond_false]
    refine WX.ret ttOk rfl ?_
    intro w1 G bs hI hΓ
    rw [hP1]
    exact ⟨rfl, trivial⟩
  · skip
    have h1d := B.nf' h1
    refine WX.run ttOk rfl ?_
    have r1 : (a).length ≤ bd n := (okl hoka).1
    refine WX.loop (ι := Nat) ⟨fun i => (i ≤ (a).length) ∧ (laws_eqRequesterS_L1 b a 0 = laws_eqRequesterS_L1 b ((a).drop i) i), fun i => (a).length - i, fun i => [(5, .v (.int .i64 (((i : Nat) : Int)))), (0, .v (.slice pa ((a).length) ca)), (1, .v (.slice pb ((b).length) cb))], fun i => [], fun i => [], fun i => [(0, MF.rs .stb pa ca a), (1, MF.rs .stb pb cb b)]⟩ 0 ⟨(Nat.zero_le _), rfl⟩
      (.cons rfl (.cons rfl (.cons rfl (.nil)))) .nil .nil [0, 1] rfl ?_
    rintro i hpre
    have hpre_ : (i ≤ (a).length) ∧ (laws_eqRequesterS_L1 b a 0 = laws_eqRequesterS_L1 b ((a).drop i) i) := hpre
    clear hpre
    obtain ⟨v1, v2⟩ := hpre_
    refine WX.run ttOk rfl ?_
    refine WX.cases 14 rfl (fun h2 => ?_) (fun h2 => ?_)
    · skip
      have h2d := B.dt h2
      have e1i : i < (a).length := (by omega)
      obtain ⟨e1, e1h⟩ : ∃ e1, (a)[i]? = some e1 := ⟨_, List.getElem?_eq_getElem e1i⟩
      have ok1 : GoT.ok n e1 := (okl hoka).2 _ (List.mem_of_getElem? e1h)
      refine WX.run ttOk rfl ?_
      refine WX.draw [] mixed ?_
      intro bs G0 hΓ0
      refine DX.takes (fuel := 8) ttOk [(0, true), (1, true)] (by kernel_rfl) rfl ?_
      refine DX.idx 2 0 i ttOk hΓ0 (by kernel_rfl) rfl rfl rfl rfl rfl rfl rfl rfl rfl rfl rfl e1i ?_
      rintro ad1 rfl
      refine DX.ldE 3 0 2 e1 ttOk hΓ0 (by kernel_rfl) rfl rfl rfl rfl rfl rfl rfl rfl e1h (fun _ => rfl) (fun _ => rfl) ?_
      rintro ⟨⟨⟩, ⟨⟩, ⟨⟩⟩
      refine DX.takes (fuel := 4) ttOk [(4, true), (5, true)] (by kernel_rfl) rfl ?_
      have e2i : i < (b).length := (by first | assumption | omega)
      obtain ⟨e2, e2h⟩ : ∃ e2, (b)[i]? = some e2 := ⟨_, List.getElem?_eq_getElem e2i⟩
      have ok2 : GoT.ok n e2 := (okl hokb).2 _ (List.mem_of_getElem? e2h)
      refine DX.idx 6 1 i ttOk hΓ0 (by kernel_rfl) rfl rfl rfl rfl rfl rfl rfl rfl rfl rfl rfl e2i ?_
      rintro ad2 rfl
      refine DX.ldE 7 1 2 e2 ttOk hΓ0 (by kernel_rfl) rfl rfl rfl rfl rfl rfl rfl rfl e2h (fun _ => rfl) (fun _ => rfl) ?_
      rintro ⟨⟨⟩, ⟨⟩, ⟨⟩⟩
      refine DX.callV 8 rfl (by kernel_rfl) rfl rfl rfl rfl rfl rfl (fun _ => rfl) rfl (fun w G bs hI hΓ => f446 w n (by omega) e1 e2 ok1 ok2) ?_
      intro hq1
      refine DX.takes (fuel := 0) ttOk [(9, true)] (by kernel_rfl) rfl ?_
      refine DX.tail2 [] rfl rfl (by kernel_rfl) ?_
      refine WX.run ttOk rfl ?_
      refine WX.cases 26 rfl (fun h3 => ?_) (fun h3 => ?_)
      · skip
        have h3d := (B.nt h3)
        refine WX.run ttOk rfl ?_
        have hP2 : laws_eqRequesterS_L1 b a 0 = (some false) := by rw [v2, drop_get e1h]; simp only [laws_eqRequesterS_L1, e2h, h3, cond_true, cond_false]
        have hP3 : laws_eqRequesterS a b = false := by simp only [laws_eqRequesterS, h1, hP2, cond_true, cond_false]
        refine WX.ret ttOk rfl ?_
        intro w1 G bs hI hΓ
        rw [hP3]
        exact ⟨rfl, trivial⟩
      · skip
        have h3d := (B.nf h3)
        refine WX.run ttOk rfl ?_
        refine WX.see rfl rfl rfl (fun _ hΓ => looks_arith rfl rfl rfl rfl (by unfold I64; first | omega | (dsimp only; omega))) ?_
        refine WX.run ttOk rfl ?_
        exact WX.iter (i + 1) ⟨(by omega), (by rw [v2, drop_get e1h]; simp only [laws_eqRequesterS_L1, e2h, h3, cond_true, cond_false])⟩ (by dsimp only; omega) (.cons rfl (.cons rfl (.cons rfl (.nil)))) .nil .nil [0, 1] rfl
    · skip
      have h2d := B.df h2
      refine WX.run ttOk rfl ?_
      have hX1 : laws_eqRequesterS_L1 b a 0 = none := by rw [v2, List.drop_eq_nil_of_le (show (a).length ≤ i by omega)]; simp only [laws_eqRequesterS_L1, cond_true, cond_false]
      have hP4 : laws_eqRequesterS a b = true := by simp only [laws_eqRequesterS, h1, hX1, cond_true, cond_false]
      refine WX.ret ttOk rfl ?_
      intro w1 G bs hI hΓ
      rw [hP4]
      exact ⟨rfl, trivial⟩
theorem f396 (w : World) (n : Nat) (hn : n + 0 ≤ 9) (a : PendingInterest) (paName : Option Addr) (caName : Nat) (hpaName : RdSl (hp w) paName caName a.name.parts) (paRequesters : Option Addr) (caRequesters : Nat) (hpaRequesters : RdSl (hp w) paRequesters caRequesters a.requesters) (b : PendingInterest) (pbName : Option Addr) (cbName : Nat) (hpbName : RdSl (hp w) pbName cbName b.name.parts) (pbRequesters : Option Addr) (cbRequesters : Nat) (hpbRequesters : RdSl (hp w) pbRequesters cbRequesters b.requesters) (hoka : GoT.ok n a) (hokb : GoT.ok n b) :
    Does Tryz.prog 396 #[.agg #[.slice paName ((a.name.parts).length) caName, .slice paRequesters ((a.requesters).length) caRequesters, .int .i64 (a.lastSent)], .agg #[.slice pbName ((b.name.parts).length) cbName, .slice pbRequesters ((b.requesters).length) cbRequesters, .int .i64 (b.lastSent)]] w emp (fun (rv : Value) (_ : World) => rv = .bool (laws_eqPendingInterest a b) ∧ True) := by
  have hbP := bd_pos n
  have hbB := bd_big (n := n) (by omega)
  refine WX.enter (tt := tt) (Γ := [(0, MF.rs .stb paName caName a.name.parts), (1, MF.rs .stb paRequesters caRequesters a.requesters), (2, MF.rs .stb pbName cbName b.name.parts), (3, MF.rs .stb pbRequesters cbRequesters b.requesters)]) Tryz.func396 rfl (by kernel_rfl) rfl (allS_cons rfl hpaName (allS_cons rfl hpaRequesters (allS_cons rfl hpbName (allS_cons rfl hpbRequesters allS_nil)))) ?_
  refine WX.run ttOk rfl ?_
  refine WX.callV rfl rfl rfl rfl rfl (fun _ => rfl) rfl (fun w G bs hI hΓ => f74 w n (by omega) a.name paName caName (hΓ.get 0 rfl) b.name pbName cbName (hΓ.get 2 rfl) ((ok_PendingInterest hoka).1) ((ok_PendingInterest hokb).1)) ?_
  intro hq1
  refine WX.run ttOk rfl ?_
  refine WX.cases 10 rfl (fun h1 => ?_) (fun h1 => ?_)
  · skip
    have h1d := (B.nt h1)
    refine WX.run ttOk rfl ?_
    have hP1 : laws_eqPendingInterest a b = false := by simp only [laws_eqPendingInterest, h1, cond_true, cond_false]
    refine WX.ret ttOk rfl ?_
    intro w1 G bs hI hΓ
    rw [hP1]
    exact ⟨rfl, trivial⟩
  · skip
    have h1d := (B.nf h1)
    refine WX.run ttOk rfl ?_
    refine WX.callV rfl rfl rfl rfl rfl (fun _ => rfl) rfl (fun w G bs hI hΓ => f434 w n (by omega) a.requesters paRequesters caRequesters (hΓ.get 1 rfl) b.requesters pbRequesters cbRequesters (hΓ.get 3 rfl) ((ok_PendingInterest hoka).2.1) ((ok_PendingInterest hokb).2.1)) ?_
    intro hq2
    refine WX.run ttOk rfl ?_
    refine WX.cases 16 rfl (fun h2 => ?_) (fun h2 => ?_)
    · skip
      have h2d := (B.nt h2)
      refine WX.run ttOk rfl ?_
      have hP2 : laws_eqPendingInterest a b = false := by simp only [laws_eqPendingInterest, h1, h2, cond_true, cond_false]
      refine WX.ret ttOk rfl ?_
      intro w1 G bs hI hΓ
      rw [hP2]
      exact ⟨rfl, trivial⟩
    · skip
      have h2d := (B.nf h2)
      refine WX.run ttOk rfl ?_
      refine WX.cases 21 rfl (fun h3 => ?_) (fun h3 => ?_)
      · skip
        have h3d := B.nt' h3
        refine WX.run ttOk rfl ?_
        have hP3 : laws_eqPendingInterest a b = false := by simp only [laws_eqPendingInterest, h1, h2, h3, cond_true, cond_false]
        refine WX.ret ttOk rfl ?_
        intro w1 G bs hI hΓ
        rw [hP3]
        exact ⟨rfl, trivial⟩
      · skip
        have h3d := B.nf' h3
        refine WX.run ttOk rfl ?_
        have hP4 : laws_eqPendingInterest a b = true := by simp only [laws_eqPendingInterest, h1, h2, h3, cond_true, cond_false]
        refine WX.ret ttOk rfl ?_
        intro w1 G bs hI hΓ
        rw [hP4]
        exact ⟨rfl, trivial⟩
theorem f339 (w : World) (n : Nat) (hn : n + 0 ≤ 9) (a : (List PendingInterest)) (pa : Option Addr) (ca : Nat) (hpa : RdSl (hp w) pa ca a) (b : (List PendingInterest)) (pb : Option Addr) (cb : Nat) (hpb : RdSl (hp w) pb cb b) (hoka : GoT.ok n a) (hokb : GoT.ok n b) :
    Does Tryz.prog 339 #[.slice pa ((a).length) ca, .slice pb ((b).length) cb] w emp (fun (rv : Value) (_ : World) => rv = .bool (laws_eqPendingInterestS a b) ∧ True) := by
  have hbP := bd_pos n
  have hbB := bd_big (n := n) (by omega)
  refine WX.enter (tt := tt) (Γ := [(0, MF.rs .stb pa ca a), (1, MF.rs .stb pb cb b)]) Tryz.func339 rfl (by kernel_rfl) rfl (allS_cons rfl hpa (allS_cons rfl hpb allS_nil)) ?_
  refine WX.run ttOk rfl ?_
  refine WX.cases 10 rfl (fun h1 => ?_) (fun h1 => ?_)
  · skip
    have h1d := B.nt' h1
    refine WX.run ttOk rfl ?_
    have hP1 : laws_eqPendingInterestS a b = false := by simp only [laws_eqPendingInterestS, h1, cond_true, cond_false]
    refine WX.ret ttOk rfl ?_
    intro w1 G bs hI hΓ
    rw [hP1]
    exact ⟨rfl, trivial⟩
  · skip
    have h1d := B.nf' h1
    refine WX.run ttOk rfl ?_
    have r1 : (a).length ≤ bd n := (okl hoka).1
    refine WX.loop (ι := Nat) ⟨fun i => (i ≤ (a).length) ∧ (laws_eqPendingInterestS_L1 b a 0 = laws_eqPendingInterestS_L1 b ((a).drop i) i), fun i => (a).length - i, fun i => [(5, .v (.int .i64 (((i : Nat) : Int)))), (0, .v (.slice pa ((a).length) ca)), (1, .v (.slice pb ((b).length) cb))], fun i => [], fun i => [], fun i => [(0, MF.rs .stb pa ca a), (1, MF.rs .stb pb cb b)]⟩ 0 ⟨(Nat.zero_le _), rfl⟩
      (.cons rfl (.cons rfl (.cons rfl (.nil)))) .nil .nil [0, 1] rfl ?_
    rintro i hpre
    have hpre_ : (i ≤ (a).length) ∧ (laws_eqPendingInterestS_L1 b a 0 = laws_eqPendingInterestS_L1 b ((a).drop i) i) := hpre
    clear hpre
    obtain ⟨v1, v2⟩ := hpre_
    refine WX.run ttOk rfl ?_
    refine WX.cases 14 rfl (fun h2 => ?_) (fun h2 => ?_)
    · skip
      have h2d := B.dt h2
      have e1i : i < (a).length := (by omega)
      obtain ⟨e1, e1h⟩ : ∃ e1, (a)[i]? = some e1 := ⟨_, List.getElem?_eq_getElem e1i⟩
      have ok1 : GoT.ok n e1 := (okl hoka).2 _ (List.mem_of_getElem? e1h)
      refine WX.run ttOk rfl ?_
      refine WX.draw [] mixed ?_
      intro bs G0 hΓ0
      refine DX.takes (fuel := 8) ttOk [(0, true), (1, true)] (by kernel_rfl) rfl ?_
      refine DX.idx 2 0 i ttOk hΓ0 (by kernel_rfl) rfl rfl rfl rfl rfl rfl rfl rfl rfl rfl rfl e1i ?_
      rintro ad1 rfl
      refine DX.ldE 3 0 2 e1 ttOk hΓ0 (by kernel_rfl) rfl rfl rfl rfl rfl rfl rfl rfl e1h (fun _ => rfl) (fun _ => rfl) ?_
      rintro ⟨⟨p1, c1⟩, ⟨p2, c2⟩, ⟨⟩⟩
      refine DX.takes (fuel := 4) ttOk [(4, true), (5, true)] (by kernel_rfl) rfl ?_
      have e2i : i < (b).length := (by first | assumption | omega)
      obtain ⟨e2, e2h⟩ : ∃ e2, (b)[i]? = some e2 := ⟨_, List.getElem?_eq_getElem e2i⟩
      have ok2 : GoT.ok n e2 := (okl hokb).2 _ (List.mem_of_getElem? e2h)
      refine DX.idx 6 1 i ttOk hΓ0 (by kernel_rfl) rfl rfl rfl rfl rfl rfl rfl rfl rfl rfl rfl e2i ?_
      rintro ad2 rfl
      refine DX.ldE 7 1 4 e2 ttOk hΓ0 (by kernel_rfl) rfl rfl rfl rfl rfl rfl rfl rfl e2h (fun _ => rfl) (fun _ => rfl) ?_
      rintro ⟨⟨p3, c3⟩, ⟨p4, c4⟩, ⟨⟩⟩
      refine DX.callV 8 rfl (by kernel_rfl) rfl rfl rfl rfl rfl rfl (fun _ => rfl) rfl (fun w G bs hI hΓ => f396 w n (by omega) e1 p1 c1 (hΓ.get 2 rfl) p2 c2 (hΓ.get 3 rfl) e2 p3 c3 (hΓ.get 4 rfl) p4 c4 (hΓ.get 5 rfl) ok1 ok2) ?_
      intro hq1
      refine DX.takes (fuel := 0) ttOk [(9, true)] (by kernel_rfl) rfl ?_
      refine DX.tail2 [] rfl rfl (by kernel_rfl) ?_
      refine WX.run ttOk rfl ?_
      refine WX.cases 26 rfl (fun h3 => ?_) (fun h3 => ?_)
      · skip
        have h3d := (B.nt h3)
        refine WX.run ttOk rfl ?_
        have hP2 : laws_eqPendingInterestS_L1 b a 0 = (some false) := by rw [v2, drop_get e1h]; simp only [laws_eqPendingInterestS_L1, e2h, h3, cond_true, cond_false]
        have hP3 : laws_eqPendingInterestS a b = false := by simp only [laws_eqPendingInterestS, h1, hP2, cond_true, cond_false]
        refine WX.ret ttOk rfl ?_
        intro w1 G bs hI hΓ
        rw [hP3]
        exact ⟨rfl, trivial⟩
      · skip
        have h3d := (B.nf h3)
        refine WX.run ttOk rfl ?_
        refine WX.see rfl rfl rfl (fun _ hΓ => looks_arith rfl rfl rfl rfl (by unfold I64; first | omega | (dsimp only; omega))) ?_
        refine WX.run ttOk rfl ?_
        exact WX.iter (i + 1) ⟨(by omega), (by rw [v2, drop_get e1h]; simp only [laws_eqPendingInterestS_L1, e2h, h3, cond_true, cond_false])⟩ (by dsimp only; omega) (.cons rfl (.cons rfl (.cons rfl (.nil)))) .nil .nil [0, 1] rfl
    · skip
      have h2d := B.df h2
      refine WX.run ttOk rfl ?_
      have hX1 : laws_eqPendingInterestS_L1 b a 0 = none := by rw [v2, List.drop_eq_nil_of_le (show (a).length ≤ i by omega)]; simp only [laws_eqPendingInterestS_L1, cond_true, cond_false]
      have hP4 : laws_eqPendingInterestS a b = true := by simp only [laws_eqPendingInterestS, h1, hX1, cond_true, cond_false]
      refine WX.ret ttOk rfl ?_
      intro w1 G bs hI hΓ
      rw [hP4]
      exact ⟨rfl, trivial⟩
theorem f397 (w : World) (n : Nat) (hn : n + 0 ≤ 9) (a : SeenNonce) (paName : Option Addr) (caName : Nat) (hpaName : RdSl (hp w) paName caName a.name.parts) (b : SeenNonce) (pbName : Option Addr) (cbName : Nat) (hpbName : RdSl (hp w) pbName cbName b.name.parts) (hoka : GoT.ok n a) (hokb : GoT.ok n b) :
    Does Tryz.prog 397 #[.agg #[.slice paName ((a.name.parts).length) caName, .int .i64 (a.nonce)], .agg #[.slice pbName ((b.name.parts).length) cbName, .int .i64 (b.nonce)]] w emp (fun (rv : Value) (_ : World) => rv = .bool (laws_eqSeenNonce a b) ∧ True) := by
  have hbP := bd_pos n
  have hbB := bd_big (n := n) (by omega)
  refine WX.enter (tt := tt) (Γ := [(0, MF.rs .stb paName caName a.name.parts), (1, MF.rs .stb pbName cbName b.name.parts)]) Tryz.func397 rfl (by kernel_rfl) rfl (allS_cons rfl hpaName (allS_cons rfl hpbName allS_nil)) ?_
  refine WX.run ttOk rfl ?_
  refine WX.callV rfl rfl rfl rfl rfl (fun _ => rfl) rfl (fun w G bs hI hΓ => f74 w n (by omega) a.name paName caName (hΓ.get 0 rfl) b.name pbName cbName (hΓ.get 1 rfl) ((ok_SeenNonce hoka).1) ((ok_SeenNonce hokb).1)) ?_
  intro hq1
  refine WX.run ttOk rfl ?_
  refine WX.cases 10 rfl (fun h1 => ?_) (fun h1 => ?_)
  · skip
    have h1d := (B.nt h1)
    refine WX.run ttOk rfl ?_
    have hP1 : laws_eqSeenNonce a b = false := by simp only [laws_eqSeenNonce, h1, cond_true, cond_false]
    refine WX.ret ttOk rfl ?_
    intro w1 G bs hI hΓ
    rw [hP1]
    exact ⟨rfl, trivial⟩
  · skip
    have h1d := (B.nf h1)
    refine WX.run ttOk rfl ?_
    refine WX.cases 15 rfl (fun h2 => ?_) (fun h2 => ?_)
    · skip
      have h2d := B.nt' h2
      refine WX.run ttOk rfl ?_
      have hP2 : laws_eqSeenNonce a b = false := by simp only [laws_eqSeenNonce, h1, h2, cond_true, cond_false]
      refine WX.ret ttOk rfl ?_
      intro w1 G bs hI hΓ
      rw [hP2]
      exact ⟨rfl, trivial⟩
    · skip
      have h2d := B.nf' h2
      refine WX.run ttOk rfl ?_
      have hP3 : laws_eqSeenNonce a b = true := by simp only [laws_eqSeenNonce, h1, h2, cond_true, cond_false]
      refine WX.ret ttOk rfl ?_
      intro w1 G bs hI hΓ
      rw [hP3]
      exact ⟨rfl, trivial⟩
theorem f340 (w : World) (n : Nat) (hn : n + 0 ≤ 9) (a : (List SeenNonce)) (pa : Option Addr) (ca : Nat) (hpa : RdSl (hp w) pa ca a) (b : (List SeenNonce)) (pb : Option Addr) (cb : Nat) (hpb : RdSl (hp w) pb cb b) (hoka : GoT.ok n a) (hokb : GoT.ok n b) :
    Does Tryz.prog 340 #[.slice pa ((a).length) ca, .slice pb ((b).length) cb] w emp (fun (rv : Value) (_ : World) => rv = .bool (laws_eqSeenNonceS a b) ∧ True) := by
  have hbP := bd_pos n
  have hbB := bd_big (n := n) (by omega)
  refine WX.enter (tt := tt) (Γ := [(0, MF.rs .stb pa ca a), (1, MF.rs .stb pb cb b)]) Tryz.func340 rfl (by kernel_rfl) rfl (allS_cons rfl hpa (allS_cons rfl hpb allS_nil)) ?_
  refine WX.run ttOk rfl ?_
  refine WX.cases 10 rfl (fun h1 => ?_) (fun h1 => ?_)
  · skip
    have h1d := B.nt' h1
    refine WX.run ttOk rfl ?_
    have hP1 : laws_eqSeenNonceS a b = false := by simp only [laws_eqSeenNonceS, h1, cond_true, cond_false]
    refine WX.ret ttOk rfl ?_
    intro w1 G bs hI hΓ
    rw [hP1]
    exact ⟨rfl, trivial⟩
  · skip
    have h1d := B.nf' h1
    refine WX.run ttOk rfl ?_
    have r1 : (a).length ≤ bd n := (okl hoka).1
    refine WX.loop (ι := Nat) ⟨fun i => (i ≤ (a).length) ∧ (laws_eqSeenNonceS_L1 b a 0 = laws_eqSeenNonceS_L1 b ((a).drop i) i), fun i => (a).length - i, fun i => [(5, .v (.int .i64 (((i : Nat) : Int)))), (0, .v (.slice pa ((a).length) ca)), (1, .v (.slice pb ((b).length) cb))], fun i => [], fun i => [], fun i => [(0, MF.rs .stb pa ca a), (1, MF.rs .stb pb cb b)]⟩ 0 ⟨(Nat.zero_le _), rfl⟩
      (.cons rfl (.cons rfl (.cons rfl (.nil)))) .nil .nil [0, 1] rfl ?_
    rintro i hpre
    have hpre_ : (i ≤ (a).length) ∧ (laws_eqSeenNonceS_L1 b a 0 = laws_eqSeenNonceS_L1 b ((a).drop i) i) := hpre
    clear hpre
    obtain ⟨v1, v2⟩ := hpre_
    refine WX.run ttOk rfl ?_
    refine WX.cases 14 rfl (fun h2 => ?_) (fun h2 => ?_)
    · skip
      have h2d := B.dt h2
      have e1i : i < (a).length := (by omega)
      obtain ⟨e1, e1h⟩ : ∃ e1, (a)[i]? = some e1 := ⟨_, List.getElem?_eq_getElem e1i⟩
      have ok1 : GoT.ok n e1 := (okl hoka).2 _ (List.mem_of_getElem? e1h)
      refine WX.run ttOk rfl ?_
      refine WX.draw [] mixed ?_
      intro bs G0 hΓ0
      refine DX.takes (fuel := 8) ttOk [(0, true), (1, true)] (by kernel_rfl) rfl ?_
      refine DX.idx 2 0 i ttOk hΓ0 (by kernel_rfl) rfl rfl rfl rfl rfl rfl rfl rfl rfl rfl rfl e1i ?_
      rintro ad1 rfl
      refine DX.ldE 3 0 2 e1 ttOk hΓ0 (by kernel_rfl) rfl rfl rfl rfl rfl rfl rfl rfl e1h (fun _ => rfl) (fun _ => rfl) ?_
      rintro ⟨⟨p1, c1⟩, ⟨⟩⟩
      refine DX.takes (fuel := 4) ttOk [(4, true), (5, true)] (by kernel_rfl) rfl ?_
      have e2i : i < (b).length := (by first | assumption | omega)
      obtain ⟨e2, e2h⟩ : ∃ e2, (b)[i]? = some e2 := ⟨_, List.getElem?_eq_getElem e2i⟩
      have ok2 : GoT.ok n e2 := (okl hokb).2 _ (List.mem_of_getElem? e2h)
      refine DX.idx 6 1 i ttOk hΓ0 (by kernel_rfl) rfl rfl rfl rfl rfl rfl rfl rfl rfl rfl rfl e2i ?_
      rintro ad2 rfl
      refine DX.ldE 7 1 3 e2 ttOk hΓ0 (by kernel_rfl) rfl rfl rfl rfl rfl rfl rfl rfl e2h (fun _ => rfl) (fun _ => rfl) ?_
      rintro ⟨⟨p2, c2⟩, ⟨⟩⟩
      refine DX.callV 8 rfl (by kernel_rfl) rfl rfl rfl rfl rfl rfl (fun _ => rfl) rfl (fun w G bs hI hΓ => f397 w n (by omega) e1 p1 c1 (hΓ.get 2 rfl) e2 p2 c2 (hΓ.get 3 rfl) ok1 ok2) ?_
      intro hq1
      refine DX.takes (fuel := 0) ttOk [(9, true)] (by kernel_rfl) rfl ?_
      refine DX.tail2 [] rfl rfl (by kernel_rfl) ?_
      refine WX.run ttOk rfl ?_
      refine WX.cases 26 rfl (fun h3 => ?_) (fun h3 => ?_)
      · skip
        have h3d := (B.nt h3)
        refine WX.run ttOk rfl ?_
        have hP2 : laws_eqSeenNonceS_L1 b a 0 = (some false) := by rw [v2, drop_get e1h]; simp only [laws_eqSeenNonceS_L1, e2h, h3, cond_true, cond_false]
        have hP3 : laws_eqSeenNonceS a b = false := by simp only [laws_eqSeenNonceS, h1, hP2, cond_true, cond_false]
        refine WX.ret ttOk rfl ?_
        intro w1 G bs hI hΓ
        rw [hP3]
        exact ⟨rfl, trivial⟩
      · skip
        have h3d := (B.nf h3)
        refine WX.run ttOk rfl ?_
        refine WX.see rfl rfl rfl (fun _ hΓ => looks_arith rfl rfl rfl rfl (by unfold I64; first | omega | (dsimp only; omega))) ?_
        refine WX.run ttOk rfl ?_
        exact WX.iter (i + 1) ⟨(by omega), (by rw [v2, drop_get e1h]; simp only [laws_eqSeenNonceS_L1, e2h, h3, cond_true, cond_false])⟩ (by dsimp only; omega) (.cons rfl (.cons rfl (.cons rfl (.nil)))) .nil .nil [0, 1] rfl
    · skip
      have h2d := B.df h2
      refine WX.run ttOk rfl ?_
      have hX1 : laws_eqSeenNonceS_L1 b a 0 = none := by rw [v2, List.drop_eq_nil_of_le (show (a).length ≤ i by omega)]; simp only [laws_eqSeenNonceS_L1, cond_true, cond_false]
      have hP4 : laws_eqSeenNonceS a b = true := by simp only [laws_eqSeenNonceS, h1, hX1, cond_true, cond_false]
      refine WX.ret ttOk rfl ?_
      intro w1 G bs hI hΓ
      rw [hP4]
      exact ⟨rfl, trivial⟩
theorem f398 (w : World) (n : Nat) (hn : n + 0 ≤ 9) (a : Route) (paPrefix : Option Addr) (caPrefix : Nat) (hpaPrefix : RdSl (hp w) paPrefix caPrefix a.pfx.parts) (b : Route) (pbPrefix : Option Addr) (cbPrefix : Nat) (hpbPrefix : RdSl (hp w) pbPrefix cbPrefix b.pfx.parts) (hoka : GoT.ok n a) (hokb : GoT.ok n b) :
    Does Tryz.prog 398 #[.agg #[.slice paPrefix ((a.pfx.parts).length) caPrefix, .int .i64 (a.face), .int .i64 (a.cost)], .agg #[.slice pbPrefix ((b.pfx.parts).length) cbPrefix, .int .i64 (b.face), .int .i64 (b.cost)]] w emp (fun (rv : Value) (_ : World) => rv = .bool (laws_eqRoute a b) ∧ True) := by
  have hbP := bd_pos n
  have hbB := bd_big (n := n) (by omega)
  refine WX.enter (tt := tt) (Γ := [(0, MF.rs .stb paPrefix caPrefix a.pfx.parts), (1, MF.rs .stb pbPrefix cbPrefix b.pfx.parts)]) Tryz.func398 rfl (by kernel_rfl) rfl (allS_cons rfl hpaPrefix (allS_cons rfl hpbPrefix allS_nil)) ?_
  refine WX.run ttOk rfl ?_
  refine WX.callV rfl rfl rfl rfl rfl (fun _ => rfl) rfl (fun w G bs hI hΓ => f74 w n (by omega) a.pfx paPrefix caPrefix (hΓ.get 0 rfl) b.pfx pbPrefix cbPrefix (hΓ.get 1 rfl) ((ok_Route hoka).1) ((ok_Route hokb).1)) ?_
  intro hq1
  refine WX.run ttOk rfl ?_
  refine WX.cases 10 rfl (fun h1 => ?_) (fun h1 => ?_)
  · skip
    have h1d := (B.nt h1)
    refine WX.run ttOk rfl ?_
    have hP1 : laws_eqRoute a b = false := by simp only [laws_eqRoute, h1, cond_true, cond_false]
    refine WX.ret ttOk rfl ?_
    intro w1 G bs hI hΓ
    rw [hP1]
    exact ⟨rfl, trivial⟩
  · skip
    have h1d := (B.nf h1)
    refine WX.run ttOk rfl ?_
    refine WX.cases 15 rfl (fun h2 => ?_) (fun h2 => ?_)
    · skip
      have h2d := B.nt' h2
      refine WX.run ttOk rfl ?_
      have hP2 : laws_eqRoute a b = false := by simp only [laws_eqRoute, h1, h2, cond_true, cond_false]
      refine WX.ret ttOk rfl ?_
      intro w1 G bs hI hΓ
      rw [hP2]
      exact ⟨rfl, trivial⟩
    · skip
      have h2d := B.nf' h2
      refine WX.run ttOk rfl ?_
      refine WX.cases 20 rfl (fun h3 => ?_) (fun h3 => ?_)
      · skip
        have h3d := B.nt' h3
        refine WX.run ttOk rfl ?_
        have hP3 : laws_eqRoute a b = false := by simp only [laws_eqRoute, h1, h2, h3, cond_true, cond_false]
        refine WX.ret ttOk rfl ?_
        intro w1 G bs hI hΓ
        rw [hP3]
        exact ⟨rfl, trivial⟩
      · skip
        have h3d := B.nf' h3
        refine WX.run ttOk rfl ?_
        have hP4 : laws_eqRoute a b = true := by simp only [laws_eqRoute, h1, h2, h3, cond_true, cond_false]
        refine WX.ret ttOk rfl ?_
        intro w1 G bs hI hΓ
        rw [hP4]
        exact ⟨rfl, trivial⟩
theorem f341 (w : World) (n : Nat) (hn : n + 0 ≤ 9) (a : (List Route)) (pa : Option Addr) (ca : Nat) (hpa : RdSl (hp w) pa ca a) (b : (List Route)) (pb : Option Addr) (cb : Nat) (hpb : RdSl (hp w) pb cb b) (hoka : GoT.ok n a) (hokb : GoT.ok n b) :
    Does Tryz.prog 341 #[.slice pa ((a).length) ca, .slice pb ((b).length) cb] w emp (fun (rv : Value) (_ : World) => rv = .bool (laws_eqRouteS a b) ∧ True) := by
  have hbP := bd_pos n
  have hbB := bd_big (n := n) (by omega)
  refine WX.enter (tt := tt) (Γ := [(0, MF.rs .stb pa ca a), (1, MF.rs .stb pb cb b)]) Tryz.func341 rfl (by kernel_rfl) rfl (allS_cons rfl hpa (allS_cons rfl hpb allS_nil)) ?_
  refine WX.run ttOk rfl ?_
  refine WX.cases 10 rfl (fun h1 => ?_) (fun h1 => ?_)
  · skip
    have h1d := B.nt' h1
    refine WX.run ttOk rfl ?_
    have hP1 : laws_eqRouteS a b = false := by simp only [laws_eqRouteS, h1, cond_true, cond_false]
    refine WX.ret ttOk rfl ?_
    intro w1 G bs hI hΓ
    rw [hP1]
    exact ⟨rfl, trivial⟩
  · skip
    have h1d := B.nf' h1
    refine WX.run ttOk rfl ?_
    have r1 : (a).length ≤ bd n := (okl hoka).1
    refine WX.loop (ι := Nat) ⟨fun i => (i ≤ (a).length) ∧ (laws_eqRouteS_L1 b a 0 = laws_eqRouteS_L1 b ((a).drop i) i), fun i => (a).length - i, fun i => [(5, .v (.int .i64 (((i : Nat) : Int)))), (0, .v (.slice pa ((a).length) ca)), (1, .v (.slice pb ((b).length) cb))], fun i => [], fun i => [], fun i => [(0, MF.rs .stb pa ca a), (1, MF.rs .stb pb cb b)]⟩ 0 ⟨(Nat.zero_le _), rfl⟩
      (.cons rfl (.cons rfl (.cons rfl (.nil)))) .nil .nil [0, 1] rfl ?_
    rintro i hpre
    have hpre_ : (i ≤ (a).length) ∧ (laws_eqRouteS_L1 b a 0 = laws_eqRouteS_L1 b ((a).drop i) i) := hpre
    clear hpre
    obtain ⟨v1, v2⟩ := hpre_
    refine WX.run ttOk rfl ?_
    refine WX.cases 14 rfl (fun h2 => ?_) (fun h2 => ?_)
    · skip
      have h2d := B.dt h2
      have e1i : i < (a).length := (by omega)
      obtain ⟨e1, e1h⟩ : ∃ e1, (a)[i]? = some e1 := ⟨_, List.getElem?_eq_getElem e1i⟩
      have ok1 : GoT.ok n e1 := (okl hoka).2 _ (List.mem_of_getElem? e1h)
      refine WX.run ttOk rfl ?_
      refine WX.draw [] mixed ?_
      intro bs G0 hΓ0
      refine DX.takes (fuel := 8) ttOk [(0, true), (1, true)] (by kernel_rfl) rfl ?_
      refine DX.idx 2 0 i ttOk hΓ0 (by kernel_rfl) rfl rfl rfl rfl rfl rfl rfl rfl rfl rfl rfl e1i ?_
      rintro ad1 rfl
      refine DX.ldE 3 0 2 e1 ttOk hΓ0 (by kernel_rfl) rfl rfl rfl rfl rfl rfl rfl rfl e1h (fun _ => rfl) (fun _ => rfl) ?_
      rintro ⟨⟨p1, c1⟩, ⟨⟩, ⟨⟩⟩
      refine DX.takes (fuel := 4) ttOk [(4, true), (5, true)] (by kernel_rfl) rfl ?_
      have e2i : i < (b).length := (by first | assumption | omega)
      obtain ⟨e2, e2h⟩ : ∃ e2, (b)[i]? = some e2 := ⟨_, List.getElem?_eq_getElem e2i⟩
      have ok2 : GoT.ok n e2 := (okl hokb).2 _ (List.mem_of_getElem? e2h)
      refine DX.idx 6 1 i ttOk hΓ0 (by kernel_rfl) rfl rfl rfl rfl rfl rfl rfl rfl rfl rfl rfl e2i ?_
      rintro ad2 rfl
      refine DX.ldE 7 1 3 e2 ttOk hΓ0 (by kernel_rfl) rfl rfl rfl rfl rfl rfl rfl rfl e2h (fun _ => rfl) (fun _ => rfl) ?_
      rintro ⟨⟨p2, c2⟩, ⟨⟩, ⟨⟩⟩
      refine DX.callV 8 rfl (by kernel_rfl) rfl rfl rfl rfl rfl rfl (fun _ => rfl) rfl (fun w G bs hI hΓ => f398 w n (by omega) e1 p1 c1 (hΓ.get 2 rfl) e2 p2 c2 (hΓ.get 3 rfl) ok1 ok2) ?_
      intro hq1
      refine DX.takes (fuel := 0) ttOk [(9, true)] (by kernel_rfl) rfl ?_
      refine DX.tail2 [] rfl rfl (by kernel_rfl) ?_
      refine WX.run ttOk rfl ?_
      refine WX.cases 26 rfl (fun h3 => ?_) (fun h3 => ?_)
      · skip
        have h3d := (B.nt h3)
        refine WX.run ttOk rfl ?_
        have hP2 : laws_eqRouteS_L1 b a 0 = (some false) := by rw [v2, drop_get e1h]; simp only [laws_eqRouteS_L1, e2h, h3, cond_true, cond_false]
        have hP3 : laws_eqRouteS a b = false := by simp only [laws_eqRouteS, h1, hP2, cond_true, cond_false]
        refine WX.ret ttOk rfl ?_
        intro w1 G bs hI hΓ
        rw [hP3]
        exact ⟨rfl, trivial⟩
      · skip
        have h3d := (B.nf h3)
        refine WX.run ttOk rfl ?_
        refine WX.see rfl rfl rfl (fun _ hΓ => looks_arith rfl rfl rfl rfl (by unfold I64; first | omega | (dsimp only; omega))) ?_
        refine WX.run ttOk rfl ?_
        exact WX.iter (i + 1) ⟨(by omega), (by rw [v2, drop_get e1h]; simp only [laws_eqRouteS_L1, e2h, h3, cond_true, cond_false])⟩ (by dsimp only; omega) (.cons rfl (.cons rfl (.cons rfl (.nil)))) .nil .nil [0, 1] rfl
    · skip
      have h2d := B.df h2
      refine WX.run ttOk rfl ?_
      have hX1 : laws_eqRouteS_L1 b a 0 = none := by rw [v2, List.drop_eq_nil_of_le (show (a).length ≤ i by omega)]; simp only [laws_eqRouteS_L1, cond_true, cond_false]
      have hP4 : laws_eqRouteS a b = true := by simp only [laws_eqRouteS, h1, hX1, cond_true, cond_false]
      refine WX.ret ttOk rfl ?_
      intro w1 G bs hI hΓ
      rw [hP4]
      exact ⟨rfl, trivial⟩
theorem f399 (w : World) (n : Nat) (hn : n + 0 ≤ 9) (a : Measurement) (paPrefix : Option Addr) (caPrefix : Nat) (hpaPrefix : RdSl (hp w) paPrefix caPrefix a.pfx.parts) (b : Measurement) (pbPrefix : Option Addr) (cbPrefix : Nat) (hpbPrefix : RdSl (hp w) pbPrefix cbPrefix b.pfx.parts) (hoka : GoT.ok n a) (hokb : GoT.ok n b) :
    Does Tryz.prog 399 #[.agg #[.slice paPrefix ((a.pfx.parts).length) caPrefix, .int .i64 (a.face), .int .i64 (a.failures)], .agg #[.slice pbPrefix ((b.pfx.parts).length) cbPrefix, .int .i64 (b.face), .int .i64 (b.failures)]] w emp (fun (rv : Value) (_ : World) => rv = .bool (laws_eqMeasurement a b) ∧ True) := by
  have hbP := bd_pos n
  have hbB := bd_big (n := n) (by omega)
  refine WX.enter (tt := tt) (Γ := [(0, MF.rs .stb paPrefix caPrefix a.pfx.parts), (1, MF.rs .stb pbPrefix cbPrefix b.pfx.parts)]) Tryz.func399 rfl (by kernel_rfl) rfl (allS_cons rfl hpaPrefix (allS_cons rfl hpbPrefix allS_nil)) ?_
  refine WX.run ttOk rfl ?_
  refine WX.callV rfl rfl rfl rfl rfl (fun _ => rfl) rfl (fun w G bs hI hΓ => f74 w n (by omega) a.pfx paPrefix caPrefix (hΓ.get 0 rfl) b.pfx pbPrefix cbPrefix (hΓ.get 1 rfl) ((ok_Measurement hoka).1) ((ok_Measurement hokb).1)) ?_
  intro hq1
  refine WX.run ttOk rfl ?_
  refine WX.cases 10 rfl (fun h1 => ?_) (fun h1 => ?_)
  · skip
    have h1d := (B.nt h1)
    refine WX.run ttOk rfl ?_
    have hP1 : laws_eqMeasurement a b = false := by simp only [laws_eqMeasurement, h1, cond_true, cond_false]
    refine WX.ret ttOk rfl ?_
    intro w1 G bs hI hΓ
    rw [hP1]
    exact ⟨rfl, trivial⟩
  · skip
    have h1d := (B.nf h1)
    refine WX.run ttOk rfl ?_
    refine WX.cases 15 rfl (fun h2 => ?_) (fun h2 => ?_)
    · skip
      have h2d := B.nt' h2
      refine WX.run ttOk rfl ?_
      have hP2 : laws_eqMeasurement a b = false := by simp only [laws_eqMeasurement, h1, h2, cond_true, cond_false]
      refine WX.ret ttOk rfl ?_
      intro w1 G bs hI hΓ
      rw [hP2]
      exact ⟨rfl, trivial⟩
    · skip
      have h2d := B.nf' h2
      refine WX.run ttOk rfl ?_
      refine WX.cases 20 rfl (fun h3 => ?_) (fun h3 => ?_)
      · skip
        have h3d := B.nt' h3
        refine WX.run ttOk rfl ?_
        have hP3 : laws_eqMeasurement a b = false := by simp only [laws_eqMeasurement, h1, h2, h3, cond_true, cond_false]
        refine WX.ret ttOk rfl ?_
        intro w1 G bs hI hΓ
        rw [hP3]
        exact ⟨rfl, trivial⟩
      · skip
        have h3d := B.nf' h3
        refine WX.run ttOk rfl ?_
        have hP4 : laws_eqMeasurement a b = true := by simp only [laws_eqMeasurement, h1, h2, h3, cond_true, cond_false]
        refine WX.ret ttOk rfl ?_
        intro w1 G bs hI hΓ
        rw [hP4]
        exact ⟨rfl, trivial⟩
theorem f342 (w : World) (n : Nat) (hn : n + 0 ≤ 9) (a : (List Measurement)) (pa : Option Addr) (ca : Nat) (hpa : RdSl (hp w) pa ca a) (b : (List Measurement)) (pb : Option Addr) (cb : Nat) (hpb : RdSl (hp w) pb cb b) (hoka : GoT.ok n a) (hokb : GoT.ok n b) :
    Does Tryz.prog 342 #[.slice pa ((a).length) ca, .slice pb ((b).length) cb] w emp (fun (rv : Value) (_ : World) => rv = .bool (laws_eqMeasurementS a b) ∧ True) := by
  have hbP := bd_pos n
  have hbB := bd_big (n := n) (by omega)
  refine WX.enter (tt := tt) (Γ := [(0, MF.rs .stb pa ca a), (1, MF.rs .stb pb cb b)]) Tryz.func342 rfl (by kernel_rfl) rfl (allS_cons rfl hpa (allS_cons rfl hpb allS_nil)) ?_
  refine WX.run ttOk rfl ?_
  refine WX.cases 10 rfl (fun h1 => ?_) (fun h1 => ?_)
  · skip
    have h1d := B.nt' h1
    refine WX.run ttOk rfl ?_
    have hP1 : laws_eqMeasurementS a b = false := by simp only [laws_eqMeasurementS, h1, cond_true, cond_false]
    refine WX.ret ttOk rfl ?_
    intro w1 G bs hI hΓ
    rw [hP1]
    exact ⟨rfl, trivial⟩
  · skip
    have h1d := B.nf' h1
    refine WX.run ttOk rfl ?_
    have r1 : (a).length ≤ bd n := (okl hoka).1
    refine WX.loop (ι := Nat) ⟨fun i => (i ≤ (a).length) ∧ (laws_eqMeasurementS_L1 b a 0 = laws_eqMeasurementS_L1 b ((a).drop i) i), fun i => (a).length - i, fun i => [(5, .v (.int .i64 (((i : Nat) : Int)))), (0, .v (.slice pa ((a).length) ca)), (1, .v (.slice pb ((b).length) cb))], fun i => [], fun i => [], fun i => [(0, MF.rs .stb pa ca a), (1, MF.rs .stb pb cb b)]⟩ 0 ⟨(Nat.zero_le _), rfl⟩
      (.cons rfl (.cons rfl (.cons rfl (.nil)))) .nil .nil [0, 1] rfl ?_
    rintro i hpre
    have hpre_ : (i ≤ (a).length) ∧ (laws_eqMeasurementS_L1 b a 0 = laws_eqMeasurementS_L1 b ((a).drop i) i) := hpre
    clear hpre
    obtain ⟨v1, v2⟩ := hpre_
    refine WX.run ttOk rfl ?_
    refine WX.cases 14 rfl (fun h2 => ?_) (fun h2 => ?_)
    · skip
      have h2d := B.dt h2
      have e1i : i < (a).length := (by omega)
      obtain ⟨e1, e1h⟩ : ∃ e1, (a)[i]? = some e1 := ⟨_, List.getElem?_eq_getElem e1i⟩
      have ok1 : GoT.ok n e1 := (okl hoka).2 _ (List.mem_of_getElem? e1h)
      refine WX.run ttOk rfl ?_
      refine WX.draw [] mixed ?_
      intro bs G0 hΓ0
      refine DX.takes (fuel := 8) ttOk [(0, true), (1, true)] (by kernel_rfl) rfl ?_
      refine DX.idx 2 0 i ttOk hΓ0 (by kernel_rfl) rfl rfl rfl rfl rfl rfl rfl rfl rfl rfl rfl e1i ?_
      rintro ad1 rfl
      refine DX.ldE 3 0 2 e1 ttOk hΓ0 (by kernel_rfl) rfl rfl rfl rfl rfl rfl rfl rfl e1h (fun _ => rfl) (fun _ => rfl) ?_
      rintro ⟨⟨p1, c1⟩, ⟨⟩, ⟨⟩⟩
      refine DX.takes (fuel := 4) ttOk [(4, true), (5, true)] (by kernel_rfl) rfl ?_
      have e2i : i < (b).length := (by first | assumption | omega)
      obtain ⟨e2, e2h⟩ : ∃ e2, (b)[i]? = some e2 := ⟨_, List.getElem?_eq_getElem e2i⟩
      have ok2 : GoT.ok n e2 := (okl hokb).2 _ (List.mem_of_getElem? e2h)
      refine DX.idx 6 1 i ttOk hΓ0 (by kernel_rfl) rfl rfl rfl rfl rfl rfl rfl rfl rfl rfl rfl e2i ?_
      rintro ad2 rfl
      refine DX.ldE 7 1 3 e2 ttOk hΓ0 (by kernel_rfl) rfl rfl rfl rfl rfl rfl rfl rfl e2h (fun _ => rfl) (fun _ => rfl) ?_
      rintro ⟨⟨p2, c2⟩, ⟨⟩, ⟨⟩⟩
      refine DX.callV 8 rfl (by kernel_rfl) rfl rfl rfl rfl rfl rfl (fun _ => rfl) rfl (fun w G bs hI hΓ => f399 w n (by omega) e1 p1 c1 (hΓ.get 2 rfl) e2 p2 c2 (hΓ.get 3 rfl) ok1 ok2) ?_
      intro hq1
      refine DX.takes (fuel := 0) ttOk [(9, true)] (by kernel_rfl) rfl ?_
      refine DX.tail2 [] rfl rfl (by kernel_rfl) ?_
      refine WX.run ttOk rfl ?_
      refine WX.cases 26 rfl (fun h3 => ?_) (fun h3 => ?_)
      · skip
        have h3d := (B.nt h3)
        refine WX.run ttOk rfl ?_
        have hP2 : laws_eqMeasurementS_L1 b a 0 = (some false) := by rw [v2, drop_get e1h]; simp only [laws_eqMeasurementS_L1, e2h, h3, cond_true, cond_false]
        have hP3 : laws_eqMeasurementS a b = false := by simp only [laws_eqMeasurementS, h1, hP2, cond_true, cond_false]
        refine WX.ret ttOk rfl ?_
        intro w1 G bs hI hΓ
        rw [hP3]
        exact ⟨rfl, trivial⟩
      · skip
        have h3d := (B.nf h3)
        refine WX.run ttOk rfl ?_
        refine WX.see rfl rfl rfl (fun _ hΓ => looks_arith rfl rfl rfl rfl (by unfold I64; first | omega | (dsimp only; omega))) ?_
        refine WX.run ttOk rfl ?_
        exact WX.iter (i + 1) ⟨(by omega), (by rw [v2, drop_get e1h]; simp only [laws_eqMeasurementS_L1, e2h, h3, cond_true, cond_false])⟩ (by dsimp only; omega) (.cons rfl (.cons rfl (.cons rfl (.nil)))) .nil .nil [0, 1] rfl
    · skip
      have h2d := B.df h2
      refine WX.run ttOk rfl ?_
      have hX1 : laws_eqMeasurementS_L1 b a 0 = none := by rw [v2, List.drop_eq_nil_of_le (show (a).length ≤ i by omega)]; simp only [laws_eqMeasurementS_L1, cond_true, cond_false]
      have hP4 : laws_eqMeasurementS a b = true := by simp only [laws_eqMeasurementS, h1, hX1, cond_true, cond_false]
      refine WX.ret ttOk rfl ?_
      intro w1 G bs hI hΓ
      rw [hP4]
      exact ⟨rfl, trivial⟩
theorem f249 (w : World) (n : Nat) (hn : n + 0 ≤ 9) (a : NodeP) (paLocal : Option Addr) (caLocal : Nat) (hpaLocal : RdSl (hp w) paLocal caLocal a.locl) (paCacheEntries : Option Addr) (caCacheEntries : Nat) (hpaCacheEntries : RdSl (hp w) paCacheEntries caCacheEntries a.cache.entries) (paPending : Option Addr) (caPending : Nat) (hpaPending : RdSl (hp w) paPending caPending a.pending) (paSeen : Option Addr) (caSeen : Nat) (hpaSeen : RdSl (hp w) paSeen caSeen a.seen) (paRoutes : Option Addr) (caRoutes : Nat) (hpaRoutes : RdSl (hp w) paRoutes caRoutes a.routes) (paMeasurements : Option Addr) (caMeasurements : Nat) (hpaMeasurements : RdSl (hp w) paMeasurements caMeasurements a.measurements) (b : NodeP) (pbLocal : Option Addr) (cbLocal : Nat) (hpbLocal : RdSl (hp w) pbLocal cbLocal b.locl) (pbCacheEntries : Option Addr) (cbCacheEntries : Nat) (hpbCacheEntries : RdSl (hp w) pbCacheEntries cbCacheEntries b.cache.entries) (pbPending : Option Addr) (cbPending : Nat) (hpbPending : RdSl (hp w) pbPending cbPending b.pending) (pbSeen : Option Addr) (cbSeen : Nat) (hpbSeen : RdSl (hp w) pbSeen cbSeen b.seen) (pbRoutes : Option Addr) (cbRoutes : Nat) (hpbRoutes : RdSl (hp w) pbRoutes cbRoutes b.routes) (pbMeasurements : Option Addr) (cbMeasurements : Nat) (hpbMeasurements : RdSl (hp w) pbMeasurements cbMeasurements b.measurements) (hoka : GoT.ok n a) (hokb : GoT.ok n b) :
    Does Tryz.prog 249 #[.agg #[.slice paLocal ((a.locl).length) caLocal, .int .i64 (a.cache.capacity), .slice paCacheEntries ((a.cache.entries).length) caCacheEntries, .slice paPending ((a.pending).length) caPending, .slice paSeen ((a.seen).length) caSeen, .slice paRoutes ((a.routes).length) caRoutes, .slice paMeasurements ((a.measurements).length) caMeasurements, .int .i64 (a.dropped)], .agg #[.slice pbLocal ((b.locl).length) cbLocal, .int .i64 (b.cache.capacity), .slice pbCacheEntries ((b.cache.entries).length) cbCacheEntries, .slice pbPending ((b.pending).length) cbPending, .slice pbSeen ((b.seen).length) cbSeen, .slice pbRoutes ((b.routes).length) cbRoutes, .slice pbMeasurements ((b.measurements).length) cbMeasurements, .int .i64 (b.dropped)]] w emp (fun (rv : Value) (_ : World) => rv = .bool (laws_eqNode a b) ∧ True) := by
  have hbP := bd_pos n
  have hbB := bd_big (n := n) (by omega)
  refine WX.enter (tt := tt) (Γ := [(0, MF.rs .stb paLocal caLocal a.locl), (1, MF.rs .stb paCacheEntries caCacheEntries a.cache.entries), (2, MF.rs .stb paPending caPending a.pending), (3, MF.rs .stb paSeen caSeen a.seen), (4, MF.rs .stb paRoutes caRoutes a.routes), (5, MF.rs .stb paMeasurements caMeasurements a.measurements), (6, MF.rs .stb pbLocal cbLocal b.locl), (7, MF.rs .stb pbCacheEntries cbCacheEntries b.cache.entries), (8, MF.rs .stb pbPending cbPending b.pending), (9, MF.rs .stb pbSeen cbSeen b.seen), (10, MF.rs .stb pbRoutes cbRoutes b.routes), (11, MF.rs .stb pbMeasurements cbMeasurements b.measurements)]) Tryz.func249 rfl (by kernel_rfl) rfl (allS_cons rfl hpaLocal (allS_cons rfl hpaCacheEntries (allS_cons rfl hpaPending (allS_cons rfl hpaSeen (allS_cons rfl hpaRoutes (allS_cons rfl hpaMeasurements (allS_cons rfl hpbLocal (allS_cons rfl hpbCacheEntries (allS_cons rfl hpbPending (allS_cons rfl hpbSeen (allS_cons rfl hpbRoutes (allS_cons rfl hpbMeasurements allS_nil)))))))))))) ?_
  refine WX.run ttOk rfl ?_
  refine WX.callV rfl rfl rfl rfl rfl (fun _ => rfl) rfl (fun w G bs hI hΓ => f106 w n (by omega) a.locl paLocal caLocal (hΓ.get 0 rfl) b.locl pbLocal cbLocal (hΓ.get 6 rfl) ((ok_NodeP hoka).1) ((ok_NodeP hokb).1)) ?_
  intro hq1
  refine WX.run ttOk rfl ?_
  refine WX.cases 10 rfl (fun h1 => ?_) (fun h1 => ?_)
  · skip
    have h1d := (B.nt h1)
    refine WX.run ttOk rfl ?_
    have hP1 : laws_eqNode a b = false := by simp only [laws_eqNode, h1, cond_true, cond_false]
    refine WX.ret ttOk rfl ?_
    intro w1 G bs hI hΓ
    rw [hP1]
    exact ⟨rfl, trivial⟩
  · skip
    have h1d := (B.nf h1)
    refine WX.run ttOk rfl ?_
    refine WX.callV rfl rfl rfl rfl rfl (fun _ => rfl) rfl (fun w G bs hI hΓ => f338 w n (by omega) a.cache paCacheEntries caCacheEntries (hΓ.get 1 rfl) b.cache pbCacheEntries cbCacheEntries (hΓ.get 7 rfl) ((ok_NodeP hoka).2.1) ((ok_NodeP hokb).2.1)) ?_
    intro hq2
    refine WX.run ttOk rfl ?_
    refine WX.cases 16 rfl (fun h2 => ?_) (fun h2 => ?_)
    · skip
      have h2d := (B.nt h2)
      refine WX.run ttOk rfl ?_
      have hP2 : laws_eqNode a b = false := by simp only [laws_eqNode, h1, h2, cond_true, cond_false]
      refine WX.ret ttOk rfl ?_
      intro w1 G bs hI hΓ
      rw [hP2]
      exact ⟨rfl, trivial⟩
    · skip
      have h2d := (B.nf h2)
      refine WX.run ttOk rfl ?_
      refine WX.callV rfl rfl rfl rfl rfl (fun _ => rfl) rfl (fun w G bs hI hΓ => f339 w n (by omega) a.pending paPending caPending (hΓ.get 2 rfl) b.pending pbPending cbPending (hΓ.get 8 rfl) ((ok_NodeP hoka).2.2.1) ((ok_NodeP hokb).2.2.1)) ?_
      intro hq3
      refine WX.run ttOk rfl ?_
      refine WX.cases 22 rfl (fun h3 => ?_) (fun h3 => ?_)
      · skip
        have h3d := (B.nt h3)
        refine WX.run ttOk rfl ?_
        have hP3 : laws_eqNode a b = false := by simp only [laws_eqNode, h1, h2, h3, cond_true, cond_false]
        refine WX.ret ttOk rfl ?_
        intro w1 G bs hI hΓ
        rw [hP3]
        exact ⟨rfl, trivial⟩
      · skip
        have h3d := (B.nf h3)
        refine WX.run ttOk rfl ?_
        refine WX.callV rfl rfl rfl rfl rfl (fun _ => rfl) rfl (fun w G bs hI hΓ => f340 w n (by omega) a.seen paSeen caSeen (hΓ.get 3 rfl) b.seen pbSeen cbSeen (hΓ.get 9 rfl) ((ok_NodeP hoka).2.2.2.1) ((ok_NodeP hokb).2.2.2.1)) ?_
        intro hq4
        refine WX.run ttOk rfl ?_
        refine WX.cases 28 rfl (fun h4 => ?_) (fun h4 => ?_)
        · skip
          have h4d := (B.nt h4)
          refine WX.run ttOk rfl ?_
          have hP4 : laws_eqNode a b = false := by simp only [laws_eqNode, h1, h2, h3, h4, cond_true, cond_false]
          refine WX.ret ttOk rfl ?_
          intro w1 G bs hI hΓ
          rw [hP4]
          exact ⟨rfl, trivial⟩
        · skip
          have h4d := (B.nf h4)
          refine WX.run ttOk rfl ?_
          refine WX.callV rfl rfl rfl rfl rfl (fun _ => rfl) rfl (fun w G bs hI hΓ => f341 w n (by omega) a.routes paRoutes caRoutes (hΓ.get 4 rfl) b.routes pbRoutes cbRoutes (hΓ.get 10 rfl) ((ok_NodeP hoka).2.2.2.2.1) ((ok_NodeP hokb).2.2.2.2.1)) ?_
          intro hq5
          refine WX.run ttOk rfl ?_
          refine WX.cases 34 rfl (fun h5 => ?_) (fun h5 => ?_)
          · skip
            have h5d := (B.nt h5)
            refine WX.run ttOk rfl ?_
            have hP5 : laws_eqNode a b = false := by simp only [laws_eqNode, h1, h2, h3, h4, h5, cond_true, cond_false]
            refine WX.ret ttOk rfl ?_
            intro w1 G bs hI hΓ
            rw [hP5]
            exact ⟨rfl, trivial⟩
          · skip
            have h5d := (B.nf h5)
            refine WX.run ttOk rfl ?_
            refine WX.callV rfl rfl rfl rfl rfl (fun _ => rfl) rfl (fun w G bs hI hΓ => f342 w n (by omega) a.measurements paMeasurements caMeasurements (hΓ.get 5 rfl) b.measurements pbMeasurements cbMeasurements (hΓ.get 11 rfl) ((ok_NodeP hoka).2.2.2.2.2.1) ((ok_NodeP hokb).2.2.2.2.2.1)) ?_
            intro hq6
            refine WX.run ttOk rfl ?_
            refine WX.cases 40 rfl (fun h6 => ?_) (fun h6 => ?_)
            · skip
              have h6d := (B.nt h6)
              refine WX.run ttOk rfl ?_
              have hP6 : laws_eqNode a b = false := by simp only [laws_eqNode, h1, h2, h3, h4, h5, h6, cond_true, cond_false]
              refine WX.ret ttOk rfl ?_
              intro w1 G bs hI hΓ
              rw [hP6]
              exact ⟨rfl, trivial⟩
            · skip
              have h6d := (B.nf h6)
              refine WX.run ttOk rfl ?_
              refine WX.cases 45 rfl (fun h7 => ?_) (fun h7 => ?_)
              · skip
                have h7d := B.nt' h7
                refine WX.run ttOk rfl ?_
                have hP7 : laws_eqNode a b = false := by simp only [laws_eqNode, h1, h2, h3, h4, h5, h6, h7, cond_true, cond_false]
                refine WX.ret ttOk rfl ?_
                intro w1 G bs hI hΓ
                rw [hP7]
                exact ⟨rfl, trivial⟩
              · skip
                have h7d := B.nf' h7
                refine WX.run ttOk rfl ?_
                have hP8 : laws_eqNode a b = true := by simp only [laws_eqNode, h1, h2, h3, h4, h5, h6, h7, cond_true, cond_false]
                refine WX.ret ttOk rfl ?_
                intro w1 G bs hI hΓ
                rw [hP8]
                exact ⟨rfl, trivial⟩
theorem f142 (w : World) (n : Nat) (hn : n + 0 ≤ 9) (a : (List NodeP)) (pa : Option Addr) (ca : Nat) (hpa : RdSl (hp w) pa ca a) (b : (List NodeP)) (pb : Option Addr) (cb : Nat) (hpb : RdSl (hp w) pb cb b) (hoka : GoT.ok n a) (hokb : GoT.ok n b) :
    Does Tryz.prog 142 #[.slice pa ((a).length) ca, .slice pb ((b).length) cb] w emp (fun (rv : Value) (_ : World) => rv = .bool (laws_eqNodeS a b) ∧ True) := by
  have hbP := bd_pos n
  have hbB := bd_big (n := n) (by omega)
  refine WX.enter (tt := tt) (Γ := [(0, MF.rs .stb pa ca a), (1, MF.rs .stb pb cb b)]) Tryz.func142 rfl (by kernel_rfl) rfl (allS_cons rfl hpa (allS_cons rfl hpb allS_nil)) ?_
  refine WX.run ttOk rfl ?_
  refine WX.cases 10 rfl (fun h1 => ?_) (fun h1 => ?_)
  · skip
    have h1d := B.nt' h1
    refine WX.run ttOk rfl ?_
    have hP1 : laws_eqNodeS a b = false := by simp only [laws_eqNodeS, h1, cond_true, cond_false]
    refine WX.ret ttOk rfl ?_
    intro w1 G bs hI hΓ
    rw [hP1]
    exact ⟨rfl, trivial⟩
  · skip
    have h1d := B.nf' h1
    refine WX.run ttOk rfl ?_
    have r1 : (a).length ≤ bd n := (okl hoka).1
    refine WX.loop (ι := Nat) ⟨fun i => (i ≤ (a).length) ∧ (laws_eqNodeS_L1 b a 0 = laws_eqNodeS_L1 b ((a).drop i) i), fun i => (a).length - i, fun i => [(5, .v (.int .i64 (((i : Nat) : Int)))), (0, .v (.slice pa ((a).length) ca)), (1, .v (.slice pb ((b).length) cb))], fun i => [], fun i => [], fun i => [(0, MF.rs .stb pa ca a), (1, MF.rs .stb pb cb b)]⟩ 0 ⟨(Nat.zero_le _), rfl⟩
      (.cons rfl (.cons rfl (.cons rfl (.nil)))) .nil .nil [0, 1] rfl ?_
    rintro i hpre
    have hpre_ : (i ≤ (a).length) ∧ (laws_eqNodeS_L1 b a 0 = laws_eqNodeS_L1 b ((a).drop i) i) := hpre
    clear hpre
    obtain ⟨v1, v2⟩ := hpre_
    refine WX.run ttOk rfl ?_
    refine WX.cases 14 rfl (fun h2 => ?_) (fun h2 => ?_)
    · skip
      have h2d := B.dt h2
      have e1i : i < (a).length := (by omega)
      obtain ⟨e1, e1h⟩ : ∃ e1, (a)[i]? = some e1 := ⟨_, List.getElem?_eq_getElem e1i⟩
      have ok1 : GoT.ok n e1 := (okl hoka).2 _ (List.mem_of_getElem? e1h)
      refine WX.run ttOk rfl ?_
      refine WX.draw [] mixed ?_
      intro bs G0 hΓ0
      refine DX.takes (fuel := 8) ttOk [(0, true), (1, true)] (by kernel_rfl) rfl ?_
      refine DX.idx 2 0 i ttOk hΓ0 (by kernel_rfl) rfl rfl rfl rfl rfl rfl rfl rfl rfl rfl rfl e1i ?_
      rintro ad1 rfl
      refine DX.ldE 3 0 2 e1 ttOk hΓ0 (by kernel_rfl) rfl rfl rfl rfl rfl rfl rfl rfl e1h (fun _ => rfl) (fun _ => rfl) ?_
      rintro ⟨⟨p1, c1⟩, ⟨⟨⟩, ⟨p2, c2⟩⟩, ⟨p3, c3⟩, ⟨p4, c4⟩, ⟨p5, c5⟩, ⟨p6, c6⟩, ⟨⟩⟩
      refine DX.takes (fuel := 4) ttOk [(4, true), (5, true)] (by kernel_rfl) rfl ?_
      have e2i : i < (b).length := (by first | assumption | omega)
      obtain ⟨e2, e2h⟩ : ∃ e2, (b)[i]? = some e2 := ⟨_, List.getElem?_eq_getElem e2i⟩
      have ok2 : GoT.ok n e2 := (okl hokb).2 _ (List.mem_of_getElem? e2h)
      refine DX.idx 6 1 i ttOk hΓ0 (by kernel_rfl) rfl rfl rfl rfl rfl rfl rfl rfl rfl rfl rfl e2i ?_
      rintro ad2 rfl
      refine DX.ldE 7 1 8 e2 ttOk hΓ0 (by kernel_rfl) rfl rfl rfl rfl rfl rfl rfl rfl e2h (fun _ => rfl) (fun _ => rfl) ?_
      rintro ⟨⟨p7, c7⟩, ⟨⟨⟩, ⟨p8, c8⟩⟩, ⟨p9, c9⟩, ⟨p10, c10⟩, ⟨p11, c11⟩, ⟨p12, c12⟩, ⟨⟩⟩
      refine DX.callV 8 rfl (by kernel_rfl) rfl rfl rfl rfl rfl rfl (fun _ => rfl) rfl (fun w G bs hI hΓ => f249 w n (by omega) e1 p1 c1 (hΓ.get 2 rfl) p2 c2 (hΓ.get 3 rfl) p3 c3 (hΓ.get 4 rfl) p4 c4 (hΓ.get 5 rfl) p5 c5 (hΓ.get 6 rfl) p6 c6 (hΓ.get 7 rfl) e2 p7 c7 (hΓ.get 8 rfl) p8 c8 (hΓ.get 9 rfl) p9 c9 (hΓ.get 10 rfl) p10 c10 (hΓ.get 11 rfl) p11 c11 (hΓ.get 12 rfl) p12 c12 (hΓ.get 13 rfl) ok1 ok2) ?_
      intro hq1
      refine DX.takes (fuel := 0) ttOk [(9, true)] (by kernel_rfl) rfl ?_
      refine DX.tail2 [] rfl rfl (by kernel_rfl) ?_
      refine WX.run ttOk rfl ?_
      refine WX.cases 26 rfl (fun h3 => ?_) (fun h3 => ?_)
      · skip
        have h3d := (B.nt h3)
        refine WX.run ttOk rfl ?_
        have hP2 : laws_eqNodeS_L1 b a 0 = (some false) := by rw [v2, drop_get e1h]; simp only [laws_eqNodeS_L1, e2h, h3, cond_true, cond_false]
        have hP3 : laws_eqNodeS a b = false := by simp only [laws_eqNodeS, h1, hP2, cond_true, cond_false]
        refine WX.ret ttOk rfl ?_
        intro w1 G bs hI hΓ
        rw [hP3]
        exact ⟨rfl, trivial⟩
      · skip
        have h3d := (B.nf h3)
        refine WX.run ttOk rfl ?_
        refine WX.see rfl rfl rfl (fun _ hΓ => looks_arith rfl rfl rfl rfl (by unfold I64; first | omega | (dsimp only; omega))) ?_
        refine WX.run ttOk rfl ?_
        exact WX.iter (i + 1) ⟨(by omega), (by rw [v2, drop_get e1h]; simp only [laws_eqNodeS_L1, e2h, h3, cond_true, cond_false])⟩ (by dsimp only; omega) (.cons rfl (.cons rfl (.cons rfl (.nil)))) .nil .nil [0, 1] rfl
    · skip
      have h2d := B.df h2
      refine WX.run ttOk rfl ?_
      have hX1 : laws_eqNodeS_L1 b a 0 = none := by rw [v2, List.drop_eq_nil_of_le (show (a).length ≤ i by omega)]; simp only [laws_eqNodeS_L1, cond_true, cond_false]
      have hP4 : laws_eqNodeS a b = true := by simp only [laws_eqNodeS, h1, hX1, cond_true, cond_false]
      refine WX.ret ttOk rfl ?_
      intro w1 G bs hI hΓ
      rw [hP4]
      exact ⟨rfl, trivial⟩
theorem f143 (w : World) (n : Nat) (hn : n + 0 ≤ 9) (a : (List Int)) (pa : Option Addr) (ca : Nat) (hpa : RdSl (hp w) pa ca a) (b : (List Int)) (pb : Option Addr) (cb : Nat) (hpb : RdSl (hp w) pb cb b) (hoka : GoT.ok n a) (hokb : GoT.ok n b) :
    Does Tryz.prog 143 #[.slice pa ((a).length) ca, .slice pb ((b).length) cb] w emp (fun (rv : Value) (_ : World) => rv = .bool (laws_eqIntS a b) ∧ True) := by
  have hbP := bd_pos n
  have hbB := bd_big (n := n) (by omega)
  refine WX.enter (tt := tt) (Γ := [(0, MF.rs .stb pa ca a), (1, MF.rs .stb pb cb b)]) Tryz.func143 rfl (by kernel_rfl) rfl (allS_cons rfl hpa (allS_cons rfl hpb allS_nil)) ?_
  refine WX.run ttOk rfl ?_
  refine WX.cases 10 rfl (fun h1 => ?_) (fun h1 => ?_)
  · skip
    have h1d := B.nt' h1
    refine WX.run ttOk rfl ?_
    have hP1 : laws_eqIntS a b = false := by simp only [laws_eqIntS, h1, cond_true, cond_false]
    refine WX.ret ttOk rfl ?_
    intro w1 G bs hI hΓ
    rw [hP1]
    exact ⟨rfl, trivial⟩
  · skip
    have h1d := B.nf' h1
    refine WX.run ttOk rfl ?_
    have r1 : (a).length ≤ bd n := (okl hoka).1
    refine WX.loop (ι := Nat) ⟨fun i => (i ≤ (a).length) ∧ (laws_eqIntS_L1 b a 0 = laws_eqIntS_L1 b ((a).drop i) i), fun i => (a).length - i, fun i => [(5, .v (.int .i64 (((i : Nat) : Int)))), (0, .v (.slice pa ((a).length) ca)), (1, .v (.slice pb ((b).length) cb))], fun i => [], fun i => [], fun i => [(0, MF.rs .stb pa ca a), (1, MF.rs .stb pb cb b)]⟩ 0 ⟨(Nat.zero_le _), rfl⟩
      (.cons rfl (.cons rfl (.cons rfl (.nil)))) .nil .nil [0, 1] rfl ?_
    rintro i hpre
    have hpre_ : (i ≤ (a).length) ∧ (laws_eqIntS_L1 b a 0 = laws_eqIntS_L1 b ((a).drop i) i) := hpre
    clear hpre
    obtain ⟨v1, v2⟩ := hpre_
    refine WX.run ttOk rfl ?_
    refine WX.cases 14 rfl (fun h2 => ?_) (fun h2 => ?_)
    · skip
      have h2d := B.dt h2
      have e1i : i < (a).length := (by omega)
      obtain ⟨e1, e1h⟩ : ∃ e1, (a)[i]? = some e1 := ⟨_, List.getElem?_eq_getElem e1i⟩
      have ok1 : GoT.ok n e1 := (okl hoka).2 _ (List.mem_of_getElem? e1h)
      refine WX.run ttOk rfl ?_
      refine WX.draw [] mixed ?_
      intro bs G0 hΓ0
      refine DX.takes (fuel := 7) ttOk [(0, true), (1, true)] (by kernel_rfl) rfl ?_
      refine DX.idx 2 0 i ttOk hΓ0 (by kernel_rfl) rfl rfl rfl rfl rfl rfl rfl rfl rfl rfl rfl e1i ?_
      rintro ad1 rfl
      refine DX.ldE 3 0 2 e1 ttOk hΓ0 (by kernel_rfl) rfl rfl rfl rfl rfl rfl rfl rfl e1h (fun _ => rfl) (fun _ => rfl) ?_
      rintro ⟨⟩
      refine DX.takes (fuel := 3) ttOk [(4, true), (5, true)] (by kernel_rfl) rfl ?_
      have e2i : i < (b).length := (by first | assumption | omega)
      obtain ⟨e2, e2h⟩ : ∃ e2, (b)[i]? = some e2 := ⟨_, List.getElem?_eq_getElem e2i⟩
      have ok2 : GoT.ok n e2 := (okl hokb).2 _ (List.mem_of_getElem? e2h)
      refine DX.idx 6 1 i ttOk hΓ0 (by kernel_rfl) rfl rfl rfl rfl rfl rfl rfl rfl rfl rfl rfl e2i ?_
      rintro ad2 rfl
      refine DX.ldE 7 1 2 e2 ttOk hΓ0 (by kernel_rfl) rfl rfl rfl rfl rfl rfl rfl rfl e2h (fun _ => rfl) (fun _ => rfl) ?_
      rintro ⟨⟩
      refine DX.takes (fuel := 0) ttOk [(8, true)] (by kernel_rfl) rfl ?_
      refine DX.tail2 [] rfl rfl (by kernel_rfl) ?_
      refine WX.run ttOk rfl ?_
      refine WX.cases 25 rfl (fun h3 => ?_) (fun h3 => ?_)
      · skip
        have h3d := B.nt' h3
        refine WX.run ttOk rfl ?_
        have hP2 : laws_eqIntS_L1 b a 0 = (some false) := by rw [v2, drop_get e1h]; simp only [laws_eqIntS_L1, e2h, h3, cond_true, cond_false]
        have hP3 : laws_eqIntS a b = false := by simp only [laws_eqIntS, h1, hP2, cond_true, cond_false]
        refine WX.ret ttOk rfl ?_
        intro w1 G bs hI hΓ
        rw [hP3]
        exact ⟨rfl, trivial⟩
      · skip
        have h3d := B.nf' h3
        refine WX.run ttOk rfl ?_
        refine WX.see rfl rfl rfl (fun _ hΓ => looks_arith rfl rfl rfl rfl (by unfold I64; first | omega | (dsimp only; omega))) ?_
        refine WX.run ttOk rfl ?_
        exact WX.iter (i + 1) ⟨(by omega), (by rw [v2, drop_get e1h]; simp only [laws_eqIntS_L1, e2h, h3, cond_true, cond_false])⟩ (by dsimp only; omega) (.cons rfl (.cons rfl (.cons rfl (.nil)))) .nil .nil [0, 1] rfl
    · skip
      have h2d := B.df h2
      refine WX.run ttOk rfl ?_
      have hX1 : laws_eqIntS_L1 b a 0 = none := by rw [v2, List.drop_eq_nil_of_le (show (a).length ≤ i by omega)]; simp only [laws_eqIntS_L1, cond_true, cond_false]
      have hP4 : laws_eqIntS a b = true := by simp only [laws_eqIntS, h1, hX1, cond_true, cond_false]
      refine WX.ret ttOk rfl ?_
      intro w1 G bs hI hΓ
      rw [hP4]
      exact ⟨rfl, trivial⟩
theorem f343 (w : World) (n : Nat) (hn : n + 0 ≤ 9) (a : Interest) (paName : Option Addr) (caName : Nat) (hpaName : RdSl (hp w) paName caName a.name.parts) (b : Interest) (pbName : Option Addr) (cbName : Nat) (hpbName : RdSl (hp w) pbName cbName b.name.parts) (hoka : GoT.ok n a) (hokb : GoT.ok n b) :
    Does Tryz.prog 343 #[.agg #[.slice paName ((a.name.parts).length) caName, .int .i64 (a.nonce), .int .i64 (a.hopLimit), .int .i64 (a.lifetime)], .agg #[.slice pbName ((b.name.parts).length) cbName, .int .i64 (b.nonce), .int .i64 (b.hopLimit), .int .i64 (b.lifetime)]] w emp (fun (rv : Value) (_ : World) => rv = .bool (laws_eqInterest a b) ∧ True) := by
  have hbP := bd_pos n
  have hbB := bd_big (n := n) (by omega)
  refine WX.enter (tt := tt) (Γ := [(0, MF.rs .stb paName caName a.name.parts), (1, MF.rs .stb pbName cbName b.name.parts)]) Tryz.func343 rfl (by kernel_rfl) rfl (allS_cons rfl hpaName (allS_cons rfl hpbName allS_nil)) ?_
  refine WX.run ttOk rfl ?_
  refine WX.callV rfl rfl rfl rfl rfl (fun _ => rfl) rfl (fun w G bs hI hΓ => f74 w n (by omega) a.name paName caName (hΓ.get 0 rfl) b.name pbName cbName (hΓ.get 1 rfl) ((ok_Interest hoka).1) ((ok_Interest hokb).1)) ?_
  intro hq1
  refine WX.run ttOk rfl ?_
  refine WX.cases 10 rfl (fun h1 => ?_) (fun h1 => ?_)
  · skip
    have h1d := (B.nt h1)
    refine WX.run ttOk rfl ?_
    have hP1 : laws_eqInterest a b = false := by simp only [laws_eqInterest, h1, cond_true, cond_false]
    refine WX.ret ttOk rfl ?_
    intro w1 G bs hI hΓ
    rw [hP1]
    exact ⟨rfl, trivial⟩
  · skip
    have h1d := (B.nf h1)
    refine WX.run ttOk rfl ?_
    refine WX.cases 15 rfl (fun h2 => ?_) (fun h2 => ?_)
    · skip
      have h2d := B.nt' h2
      refine WX.run ttOk rfl ?_
      have hP2 : laws_eqInterest a b = false := by simp only [laws_eqInterest, h1, h2, cond_true, cond_false]
      refine WX.ret ttOk rfl ?_
      intro w1 G bs hI hΓ
      rw [hP2]
      exact ⟨rfl, trivial⟩
    · skip
      have h2d := B.nf' h2
      refine WX.run ttOk rfl ?_
      refine WX.cases 20 rfl (fun h3 => ?_) (fun h3 => ?_)
      · skip
        have h3d := B.nt' h3
        refine WX.run ttOk rfl ?_
        have hP3 : laws_eqInterest a b = false := by simp only [laws_eqInterest, h1, h2, h3, cond_true, cond_false]
        refine WX.ret ttOk rfl ?_
        intro w1 G bs hI hΓ
        rw [hP3]
        exact ⟨rfl, trivial⟩
      · skip
        have h3d := B.nf' h3
        refine WX.run ttOk rfl ?_
        refine WX.cases 25 rfl (fun h4 => ?_) (fun h4 => ?_)
        · skip
          have h4d := B.nt' h4
          refine WX.run ttOk rfl ?_
          have hP4 : laws_eqInterest a b = false := by simp only [laws_eqInterest, h1, h2, h3, h4, cond_true, cond_false]
          refine WX.ret ttOk rfl ?_
          intro w1 G bs hI hΓ
          rw [hP4]
          exact ⟨rfl, trivial⟩
        · skip
          have h4d := B.nf' h4
          refine WX.run ttOk rfl ?_
          have hP5 : laws_eqInterest a b = true := by simp only [laws_eqInterest, h1, h2, h3, h4, cond_true, cond_false]
          refine WX.ret ttOk rfl ?_
          intro w1 G bs hI hΓ
          rw [hP5]
          exact ⟨rfl, trivial⟩
theorem f250 (w : World) (n : Nat) (hn : n + 0 ≤ 9) (a : PacketInFlight) (paInterestName : Option Addr) (caInterestName : Nat) (hpaInterestName : RdSl (hp w) paInterestName caInterestName a.interest.name.parts) (paDataName : Option Addr) (caDataName : Nat) (hpaDataName : RdSl (hp w) paDataName caDataName a.data.name.parts) (paDataContent : Option Addr) (caDataContent : Nat) (hpaDataContent : RdSl (hp w) paDataContent caDataContent a.data.content) (paDataKeyName : Option Addr) (caDataKeyName : Nat) (hpaDataKeyName : RdSl (hp w) paDataKeyName caDataKeyName a.data.keyName.parts) (b : PacketInFlight) (pbInterestName : Option Addr) (cbInterestName : Nat) (hpbInterestName : RdSl (hp w) pbInterestName cbInterestName b.interest.name.parts) (pbDataName : Option Addr) (cbDataName : Nat) (hpbDataName : RdSl (hp w) pbDataName cbDataName b.data.name.parts) (pbDataContent : Option Addr) (cbDataContent : Nat) (hpbDataContent : RdSl (hp w) pbDataContent cbDataContent b.data.content) (pbDataKeyName : Option Addr) (cbDataKeyName : Nat) (hpbDataKeyName : RdSl (hp w) pbDataKeyName cbDataKeyName b.data.keyName.parts) (hoka : GoT.ok n a) (hokb : GoT.ok n b) :
    Does Tryz.prog 250 #[.agg #[.int .i64 (a.to), .int .i64 (a.face), .bool a.isInterest, .slice paInterestName ((a.interest.name.parts).length) caInterestName, .int .i64 (a.interest.nonce), .int .i64 (a.interest.hopLimit), .int .i64 (a.interest.lifetime), .slice paDataName ((a.data.name.parts).length) caDataName, .slice paDataContent ((a.data.content).length) caDataContent, .slice paDataKeyName ((a.data.keyName.parts).length) caDataKeyName, .int .i64 (a.data.freshUntil), .int .i64 (a.data.signature)], .agg #[.int .i64 (b.to), .int .i64 (b.face), .bool b.isInterest, .slice pbInterestName ((b.interest.name.parts).length) cbInterestName, .int .i64 (b.interest.nonce), .int .i64 (b.interest.hopLimit), .int .i64 (b.interest.lifetime), .slice pbDataName ((b.data.name.parts).length) cbDataName, .slice pbDataContent ((b.data.content).length) cbDataContent, .slice pbDataKeyName ((b.data.keyName.parts).length) cbDataKeyName, .int .i64 (b.data.freshUntil), .int .i64 (b.data.signature)]] w emp (fun (rv : Value) (_ : World) => rv = .bool (laws_eqPacketInFlight a b) ∧ True) := by
  have hbP := bd_pos n
  have hbB := bd_big (n := n) (by omega)
  refine WX.enter (tt := tt) (Γ := [(0, MF.rs .stb paInterestName caInterestName a.interest.name.parts), (1, MF.rs .stb paDataName caDataName a.data.name.parts), (2, MF.rs .stb paDataContent caDataContent a.data.content), (3, MF.rs .stb paDataKeyName caDataKeyName a.data.keyName.parts), (4, MF.rs .stb pbInterestName cbInterestName b.interest.name.parts), (5, MF.rs .stb pbDataName cbDataName b.data.name.parts), (6, MF.rs .stb pbDataContent cbDataContent b.data.content), (7, MF.rs .stb pbDataKeyName cbDataKeyName b.data.keyName.parts)]) Tryz.func250 rfl (by kernel_rfl) rfl (allS_cons rfl hpaInterestName (allS_cons rfl hpaDataName (allS_cons rfl hpaDataContent (allS_cons rfl hpaDataKeyName (allS_cons rfl hpbInterestName (allS_cons rfl hpbDataName (allS_cons rfl hpbDataContent (allS_cons rfl hpbDataKeyName allS_nil)))))))) ?_
  refine WX.run ttOk rfl ?_
  refine WX.cases 9 rfl (fun h1 => ?_) (fun h1 => ?_)
  · skip
    have h1d := B.nt' h1
    refine WX.run ttOk rfl ?_
    have hP1 : laws_eqPacketInFlight a b = false := by simp only [laws_eqPacketInFlight, h1, cond_true, cond_false]
    refine WX.ret ttOk rfl ?_
    intro w1 G bs hI hΓ
    rw [hP1]
    exact ⟨rfl, trivial⟩
  · skip
    have h1d := B.nf' h1
    refine WX.run ttOk rfl ?_
    refine WX.cases 14 rfl (fun h2 => ?_) (fun h2 => ?_)
    · skip
      have h2d := B.nt' h2
      refine WX.run ttOk rfl ?_
      have hP2 : laws_eqPacketInFlight a b = false := by simp only [laws_eqPacketInFlight, h1, h2, cond_true, cond_false]
      refine WX.ret ttOk rfl ?_
      intro w1 G bs hI hΓ
      rw [hP2]
      exact ⟨rfl, trivial⟩
    · skip
      have h2d := B.nf' h2
      refine WX.run ttOk rfl ?_
      refine WX.see rfl rfl rfl (fun _ hΓ => looks_beq ttOk rfl rfl rfl rfl rfl rfl) ?_
      refine WX.run ttOk rfl ?_
      refine WX.cases 19 rfl (fun h3 => ?_) (fun h3 => ?_)
      · skip
        have h3d := (B.nt h3)
        refine WX.run ttOk rfl ?_
        have hP3 : laws_eqPacketInFlight a b = false := by simp only [laws_eqPacketInFlight, h1, h2, h3, cond_true, cond_false]
        refine WX.ret ttOk rfl ?_
        intro w1 G bs hI hΓ
        rw [hP3]
        exact ⟨rfl, trivial⟩
      · skip
        have h3d := (B.nf h3)
        refine WX.run ttOk rfl ?_
        refine WX.callV rfl rfl rfl rfl rfl (fun _ => rfl) rfl (fun w G bs hI hΓ => f343 w n (by omega) a.interest paInterestName caInterestName (hΓ.get 0 rfl) b.interest pbInterestName cbInterestName (hΓ.get 4 rfl) ((ok_PacketInFlight hoka).2.2.2.1) ((ok_PacketInFlight hokb).2.2.2.1)) ?_
        intro hq1
        refine WX.run ttOk rfl ?_
        refine WX.cases 25 rfl (fun h4 => ?_) (fun h4 => ?_)
        · skip
          have h4d := (B.nt h4)
          refine WX.run ttOk rfl ?_
          have hP4 : laws_eqPacketInFlight a b = false := by simp only [laws_eqPacketInFlight, h1, h2, h3, h4, cond_true, cond_false]
          refine WX.ret ttOk rfl ?_
          intro w1 G bs hI hΓ
          rw [hP4]
          exact ⟨rfl, trivial⟩
        · skip
          have h4d := (B.nf h4)
          refine WX.run ttOk rfl ?_
          refine WX.callV rfl rfl rfl rfl rfl (fun _ => rfl) rfl (fun w G bs hI hΓ => f38 w n (by omega) a.data paDataName caDataName (hΓ.get 1 rfl) paDataContent caDataContent (hΓ.get 2 rfl) paDataKeyName caDataKeyName (hΓ.get 3 rfl) b.data pbDataName cbDataName (hΓ.get 5 rfl) pbDataContent cbDataContent (hΓ.get 6 rfl) pbDataKeyName cbDataKeyName (hΓ.get 7 rfl) ((ok_PacketInFlight hoka).2.2.2.2) ((ok_PacketInFlight hokb).2.2.2.2)) ?_
          intro hq2
          refine WX.run ttOk rfl ?_
          refine WX.cases 31 rfl (fun h5 => ?_) (fun h5 => ?_)
          · skip
            have h5d := (B.nt h5)
            refine WX.run ttOk rfl ?_
            have hP5 : laws_eqPacketInFlight a b = false := by simp only [laws_eqPacketInFlight, h1, h2, h3, h4, h5, cond_true, cond_false]
            refine WX.ret ttOk rfl ?_
            intro w1 G bs hI hΓ
            rw [hP5]
            exact ⟨rfl, trivial⟩
          · skip
            have h5d := (B.nf h5)
            refine WX.run ttOk rfl ?_
            have hP6 : laws_eqPacketInFlight a b = true := by simp only [laws_eqPacketInFlight, h1, h2, h3, h4, h5, cond_true, cond_false]
            refine WX.ret ttOk rfl ?_
            intro w1 G bs hI hΓ
            rw [hP6]
            exact ⟨rfl, trivial⟩
theorem f144 (w : World) (n : Nat) (hn : n + 0 ≤ 9) (a : (List PacketInFlight)) (pa : Option Addr) (ca : Nat) (hpa : RdSl (hp w) pa ca a) (b : (List PacketInFlight)) (pb : Option Addr) (cb : Nat) (hpb : RdSl (hp w) pb cb b) (hoka : GoT.ok n a) (hokb : GoT.ok n b) :
    Does Tryz.prog 144 #[.slice pa ((a).length) ca, .slice pb ((b).length) cb] w emp (fun (rv : Value) (_ : World) => rv = .bool (laws_eqPacketInFlightS a b) ∧ True) := by
  have hbP := bd_pos n
  have hbB := bd_big (n := n) (by omega)
  refine WX.enter (tt := tt) (Γ := [(0, MF.rs .stb pa ca a), (1, MF.rs .stb pb cb b)]) Tryz.func144 rfl (by kernel_rfl) rfl (allS_cons rfl hpa (allS_cons rfl hpb allS_nil)) ?_
  refine WX.run ttOk rfl ?_
  refine WX.cases 10 rfl (fun h1 => ?_) (fun h1 => ?_)
  · skip
    have h1d := B.nt' h1
    refine WX.run ttOk rfl ?_
    have hP1 : laws_eqPacketInFlightS a b = false := by simp only [laws_eqPacketInFlightS, h1, cond_true, cond_false]
    refine WX.ret ttOk rfl ?_
    intro w1 G bs hI hΓ
    rw [hP1]
    exact ⟨rfl, trivial⟩
  · skip
    have h1d := B.nf' h1
    refine WX.run ttOk rfl ?_
    have r1 : (a).length ≤ bd n := (okl hoka).1
    refine WX.loop (ι := Nat) ⟨fun i => (i ≤ (a).length) ∧ (laws_eqPacketInFlightS_L1 b a 0 = laws_eqPacketInFlightS_L1 b ((a).drop i) i), fun i => (a).length - i, fun i => [(5, .v (.int .i64 (((i : Nat) : Int)))), (0, .v (.slice pa ((a).length) ca)), (1, .v (.slice pb ((b).length) cb))], fun i => [], fun i => [], fun i => [(0, MF.rs .stb pa ca a), (1, MF.rs .stb pb cb b)]⟩ 0 ⟨(Nat.zero_le _), rfl⟩
      (.cons rfl (.cons rfl (.cons rfl (.nil)))) .nil .nil [0, 1] rfl ?_
    rintro i hpre
    have hpre_ : (i ≤ (a).length) ∧ (laws_eqPacketInFlightS_L1 b a 0 = laws_eqPacketInFlightS_L1 b ((a).drop i) i) := hpre
    clear hpre
    obtain ⟨v1, v2⟩ := hpre_
    refine WX.run ttOk rfl ?_
    refine WX.cases 14 rfl (fun h2 => ?_) (fun h2 => ?_)
    · skip
      have h2d := B.dt h2
      have e1i : i < (a).length := (by omega)
      obtain ⟨e1, e1h⟩ : ∃ e1, (a)[i]? = some e1 := ⟨_, List.getElem?_eq_getElem e1i⟩
      have ok1 : GoT.ok n e1 := (okl hoka).2 _ (List.mem_of_getElem? e1h)
      refine WX.run ttOk rfl ?_
      refine WX.draw [] mixed ?_
      intro bs G0 hΓ0
      refine DX.takes (fuel := 8) ttOk [(0, true), (1, true)] (by kernel_rfl) rfl ?_
      refine DX.idx 2 0 i ttOk hΓ0 (by kernel_rfl) rfl rfl rfl rfl rfl rfl rfl rfl rfl rfl rfl e1i ?_
      rintro ad1 rfl
      refine DX.ldE 3 0 2 e1 ttOk hΓ0 (by kernel_rfl) rfl rfl rfl rfl rfl rfl rfl rfl e1h (fun _ => rfl) (fun _ => rfl) ?_
      rintro ⟨⟨⟩, ⟨⟩, ⟨⟩, ⟨⟨p1, c1⟩, ⟨⟩, ⟨⟩, ⟨⟩⟩, ⟨⟨p2, c2⟩, ⟨p3, c3⟩, ⟨p4, c4⟩, ⟨⟩, ⟨⟩⟩⟩
      refine DX.takes (fuel := 4) ttOk [(4, true), (5, true)] (by kernel_rfl) rfl ?_
      have e2i : i < (b).length := (by first | assumption | omega)
      obtain ⟨e2, e2h⟩ : ∃ e2, (b)[i]? = some e2 := ⟨_, List.getElem?_eq_getElem e2i⟩
      have ok2 : GoT.ok n e2 := (okl hokb).2 _ (List.mem_of_getElem? e2h)
      refine DX.idx 6 1 i ttOk hΓ0 (by kernel_rfl) rfl rfl rfl rfl rfl rfl rfl rfl rfl rfl rfl e2i ?_
      rintro ad2 rfl
      refine DX.ldE 7 1 6 e2 ttOk hΓ0 (by kernel_rfl) rfl rfl rfl rfl rfl rfl rfl rfl e2h (fun _ => rfl) (fun _ => rfl) ?_
      rintro ⟨⟨⟩, ⟨⟩, ⟨⟩, ⟨⟨p5, c5⟩, ⟨⟩, ⟨⟩, ⟨⟩⟩, ⟨⟨p6, c6⟩, ⟨p7, c7⟩, ⟨p8, c8⟩, ⟨⟩, ⟨⟩⟩⟩
      refine DX.callV 8 rfl (by kernel_rfl) rfl rfl rfl rfl rfl rfl (fun _ => rfl) rfl (fun w G bs hI hΓ => f250 w n (by omega) e1 p1 c1 (hΓ.get 2 rfl) p2 c2 (hΓ.get 3 rfl) p3 c3 (hΓ.get 4 rfl) p4 c4 (hΓ.get 5 rfl) e2 p5 c5 (hΓ.get 6 rfl) p6 c6 (hΓ.get 7 rfl) p7 c7 (hΓ.get 8 rfl) p8 c8 (hΓ.get 9 rfl) ok1 ok2) ?_
      intro hq1
      refine DX.takes (fuel := 0) ttOk [(9, true)] (by kernel_rfl) rfl ?_
      refine DX.tail2 [] rfl rfl (by kernel_rfl) ?_
      refine WX.run ttOk rfl ?_
      refine WX.cases 26 rfl (fun h3 => ?_) (fun h3 => ?_)
      · skip
        have h3d := (B.nt h3)
        refine WX.run ttOk rfl ?_
        have hP2 : laws_eqPacketInFlightS_L1 b a 0 = (some false) := by rw [v2, drop_get e1h]; simp only [laws_eqPacketInFlightS_L1, e2h, h3, cond_true, cond_false]
        have hP3 : laws_eqPacketInFlightS a b = false := by simp only [laws_eqPacketInFlightS, h1, hP2, cond_true, cond_false]
        refine WX.ret ttOk rfl ?_
        intro w1 G bs hI hΓ
        rw [hP3]
        exact ⟨rfl, trivial⟩
      · skip
        have h3d := (B.nf h3)
        refine WX.run ttOk rfl ?_
        refine WX.see rfl rfl rfl (fun _ hΓ => looks_arith rfl rfl rfl rfl (by unfold I64; first | omega | (dsimp only; omega))) ?_
        refine WX.run ttOk rfl ?_
        exact WX.iter (i + 1) ⟨(by omega), (by rw [v2, drop_get e1h]; simp only [laws_eqPacketInFlightS_L1, e2h, h3, cond_true, cond_false])⟩ (by dsimp only; omega) (.cons rfl (.cons rfl (.cons rfl (.nil)))) .nil .nil [0, 1] rfl
    · skip
      have h2d := B.df h2
      refine WX.run ttOk rfl ?_
      have hX1 : laws_eqPacketInFlightS_L1 b a 0 = none := by rw [v2, List.drop_eq_nil_of_le (show (a).length ≤ i by omega)]; simp only [laws_eqPacketInFlightS_L1, cond_true, cond_false]
      have hP4 : laws_eqPacketInFlightS a b = true := by simp only [laws_eqPacketInFlightS, h1, hX1, cond_true, cond_false]
      refine WX.ret ttOk rfl ?_
      intro w1 G bs hI hΓ
      rw [hP4]
      exact ⟨rfl, trivial⟩
theorem f145 (w : World) (n : Nat) (hn : n + 0 ≤ 9) (a : (List Consumer)) (pa : Option Addr) (ca : Nat) (hpa : RdSl (hp w) pa ca a) (b : (List Consumer)) (pb : Option Addr) (cb : Nat) (hpb : RdSl (hp w) pb cb b) (hoka : GoT.ok n a) (hokb : GoT.ok n b) :
    Does Tryz.prog 145 #[.slice pa ((a).length) ca, .slice pb ((b).length) cb] w emp (fun (rv : Value) (_ : World) => rv = .bool (laws_eqConsumerS a b) ∧ True) := by
  have hbP := bd_pos n
  have hbB := bd_big (n := n) (by omega)
  refine WX.enter (tt := tt) (Γ := [(0, MF.rs .stb pa ca a), (1, MF.rs .stb pb cb b)]) Tryz.func145 rfl (by kernel_rfl) rfl (allS_cons rfl hpa (allS_cons rfl hpb allS_nil)) ?_
  refine WX.run ttOk rfl ?_
  refine WX.cases 10 rfl (fun h1 => ?_) (fun h1 => ?_)
  · skip
    have h1d := B.nt' h1
    refine WX.run ttOk rfl ?_
    have hP1 : laws_eqConsumerS a b = false := by simp only [laws_eqConsumerS, h1, cond_true, cond_false]
    refine WX.ret ttOk rfl ?_
    intro w1 G bs hI hΓ
    rw [hP1]
    exact ⟨rfl, trivial⟩
  · skip
    have h1d := B.nf' h1
    refine WX.run ttOk rfl ?_
    have r1 : (a).length ≤ bd n := (okl hoka).1
    refine WX.loop (ι := Nat) ⟨fun i => (i ≤ (a).length) ∧ (laws_eqConsumerS_L1 b a 0 = laws_eqConsumerS_L1 b ((a).drop i) i), fun i => (a).length - i, fun i => [(5, .v (.int .i64 (((i : Nat) : Int)))), (0, .v (.slice pa ((a).length) ca)), (1, .v (.slice pb ((b).length) cb))], fun i => [], fun i => [], fun i => [(0, MF.rs .stb pa ca a), (1, MF.rs .stb pb cb b)]⟩ 0 ⟨(Nat.zero_le _), rfl⟩
      (.cons rfl (.cons rfl (.cons rfl (.nil)))) .nil .nil [0, 1] rfl ?_
    rintro i hpre
    have hpre_ : (i ≤ (a).length) ∧ (laws_eqConsumerS_L1 b a 0 = laws_eqConsumerS_L1 b ((a).drop i) i) := hpre
    clear hpre
    obtain ⟨v1, v2⟩ := hpre_
    refine WX.run ttOk rfl ?_
    refine WX.cases 14 rfl (fun h2 => ?_) (fun h2 => ?_)
    · skip
      have h2d := B.dt h2
      have e1i : i < (a).length := (by omega)
      obtain ⟨e1, e1h⟩ : ∃ e1, (a)[i]? = some e1 := ⟨_, List.getElem?_eq_getElem e1i⟩
      have ok1 : GoT.ok n e1 := (okl hoka).2 _ (List.mem_of_getElem? e1h)
      refine WX.run ttOk rfl ?_
      refine WX.draw [] mixed ?_
      intro bs G0 hΓ0
      refine DX.takes (fuel := 8) ttOk [(0, true), (1, true)] (by kernel_rfl) rfl ?_
      refine DX.idx 2 0 i ttOk hΓ0 (by kernel_rfl) rfl rfl rfl rfl rfl rfl rfl rfl rfl rfl rfl e1i ?_
      rintro ad1 rfl
      refine DX.ldE 3 0 2 e1 ttOk hΓ0 (by kernel_rfl) rfl rfl rfl rfl rfl rfl rfl rfl e1h (fun _ => rfl) (fun _ => rfl) ?_
      rintro ⟨⟨⟩, ⟨⟩, ⟨p1, c1⟩, ⟨⟩, ⟨⟩, ⟨⟩, ⟨⟨p2, c2⟩, ⟨p3, c3⟩, ⟨p4, c4⟩, ⟨⟩, ⟨⟩⟩⟩
      refine DX.takes (fuel := 4) ttOk [(4, true), (5, true)] (by kernel_rfl) rfl ?_
      have e2i : i < (b).length := (by first | assumption | omega)
      obtain ⟨e2, e2h⟩ : ∃ e2, (b)[i]? = some e2 := ⟨_, List.getElem?_eq_getElem e2i⟩
      have ok2 : GoT.ok n e2 := (okl hokb).2 _ (List.mem_of_getElem? e2h)
      refine DX.idx 6 1 i ttOk hΓ0 (by kernel_rfl) rfl rfl rfl rfl rfl rfl rfl rfl rfl rfl rfl e2i ?_
      rintro ad2 rfl
      refine DX.ldE 7 1 6 e2 ttOk hΓ0 (by kernel_rfl) rfl rfl rfl rfl rfl rfl rfl rfl e2h (fun _ => rfl) (fun _ => rfl) ?_
      rintro ⟨⟨⟩, ⟨⟩, ⟨p5, c5⟩, ⟨⟩, ⟨⟩, ⟨⟩, ⟨⟨p6, c6⟩, ⟨p7, c7⟩, ⟨p8, c8⟩, ⟨⟩, ⟨⟩⟩⟩
      refine DX.callV 8 rfl (by kernel_rfl) rfl rfl rfl rfl rfl rfl (fun _ => rfl) rfl (fun w G bs hI hΓ => f36 w n (by omega) e1 p1 c1 (hΓ.get 2 rfl) p2 c2 (hΓ.get 3 rfl) p3 c3 (hΓ.get 4 rfl) p4 c4 (hΓ.get 5 rfl) e2 p5 c5 (hΓ.get 6 rfl) p6 c6 (hΓ.get 7 rfl) p7 c7 (hΓ.get 8 rfl) p8 c8 (hΓ.get 9 rfl) ok1 ok2) ?_
      intro hq1
      refine DX.takes (fuel := 0) ttOk [(9, true)] (by kernel_rfl) rfl ?_
      refine DX.tail2 [] rfl rfl (by kernel_rfl) ?_
      refine WX.run ttOk rfl ?_
      refine WX.cases 26 rfl (fun h3 => ?_) (fun h3 => ?_)
      · skip
        have h3d := (B.nt h3)
        refine WX.run ttOk rfl ?_
        have hP2 : laws_eqConsumerS_L1 b a 0 = (some false) := by rw [v2, drop_get e1h]; simp only [laws_eqConsumerS_L1, e2h, h3, cond_true, cond_false]
        have hP3 : laws_eqConsumerS a b = false := by simp only [laws_eqConsumerS, h1, hP2, cond_true, cond_false]
        refine WX.ret ttOk rfl ?_
        intro w1 G bs hI hΓ
        rw [hP3]
        exact ⟨rfl, trivial⟩
      · skip
        have h3d := (B.nf h3)
        refine WX.run ttOk rfl ?_
        refine WX.see rfl rfl rfl (fun _ hΓ => looks_arith rfl rfl rfl rfl (by unfold I64; first | omega | (dsimp only; omega))) ?_
        refine WX.run ttOk rfl ?_
        exact WX.iter (i + 1) ⟨(by omega), (by rw [v2, drop_get e1h]; simp only [laws_eqConsumerS_L1, e2h, h3, cond_true, cond_false])⟩ (by dsimp only; omega) (.cons rfl (.cons rfl (.cons rfl (.nil)))) .nil .nil [0, 1] rfl
    · skip
      have h2d := B.df h2
      refine WX.run ttOk rfl ?_
      have hX1 : laws_eqConsumerS_L1 b a 0 = none := by rw [v2, List.drop_eq_nil_of_le (show (a).length ≤ i by omega)]; simp only [laws_eqConsumerS_L1, cond_true, cond_false]
      have hP4 : laws_eqConsumerS a b = true := by simp only [laws_eqConsumerS, h1, hX1, cond_true, cond_false]
      refine WX.ret ttOk rfl ?_
      intro w1 G bs hI hΓ
      rw [hP4]
      exact ⟨rfl, trivial⟩
theorem f47 (w : World) (n : Nat) (hn : n + 0 ≤ 9) (a : Network) (paTopologyLinks : Option Addr) (caTopologyLinks : Nat) (hpaTopologyLinks : RdSl (hp w) paTopologyLinks caTopologyLinks a.topology.links) (paTrustKeys : Option Addr) (caTrustKeys : Nat) (hpaTrustKeys : RdSl (hp w) paTrustKeys caTrustKeys a.trust.keys) (paTrustRules : Option Addr) (caTrustRules : Nat) (hpaTrustRules : RdSl (hp w) paTrustRules caTrustRules a.trust.rules) (paTrustAnchors : Option Addr) (caTrustAnchors : Nat) (hpaTrustAnchors : RdSl (hp w) paTrustAnchors caTrustAnchors a.trust.anchors) (paTrustCertificates : Option Addr) (caTrustCertificates : Nat) (hpaTrustCertificates : RdSl (hp w) paTrustCertificates caTrustCertificates a.trust.certificates) (paProducers : Option Addr) (caProducers : Nat) (hpaProducers : RdSl (hp w) paProducers caProducers a.producers) (paNodes : Option Addr) (caNodes : Nat) (hpaNodes : RdSl (hp w) paNodes caNodes a.nodes) (paFailedLinks : Option Addr) (caFailedLinks : Nat) (hpaFailedLinks : RdSl (hp w) paFailedLinks caFailedLinks a.failedLinks) (paInFlight : Option Addr) (caInFlight : Nat) (hpaInFlight : RdSl (hp w) paInFlight caInFlight a.inFlight) (paConsumers : Option Addr) (caConsumers : Nat) (hpaConsumers : RdSl (hp w) paConsumers caConsumers a.consumers) (b : Network) (pbTopologyLinks : Option Addr) (cbTopologyLinks : Nat) (hpbTopologyLinks : RdSl (hp w) pbTopologyLinks cbTopologyLinks b.topology.links) (pbTrustKeys : Option Addr) (cbTrustKeys : Nat) (hpbTrustKeys : RdSl (hp w) pbTrustKeys cbTrustKeys b.trust.keys) (pbTrustRules : Option Addr) (cbTrustRules : Nat) (hpbTrustRules : RdSl (hp w) pbTrustRules cbTrustRules b.trust.rules) (pbTrustAnchors : Option Addr) (cbTrustAnchors : Nat) (hpbTrustAnchors : RdSl (hp w) pbTrustAnchors cbTrustAnchors b.trust.anchors) (pbTrustCertificates : Option Addr) (cbTrustCertificates : Nat) (hpbTrustCertificates : RdSl (hp w) pbTrustCertificates cbTrustCertificates b.trust.certificates) (pbProducers : Option Addr) (cbProducers : Nat) (hpbProducers : RdSl (hp w) pbProducers cbProducers b.producers) (pbNodes : Option Addr) (cbNodes : Nat) (hpbNodes : RdSl (hp w) pbNodes cbNodes b.nodes) (pbFailedLinks : Option Addr) (cbFailedLinks : Nat) (hpbFailedLinks : RdSl (hp w) pbFailedLinks cbFailedLinks b.failedLinks) (pbInFlight : Option Addr) (cbInFlight : Nat) (hpbInFlight : RdSl (hp w) pbInFlight cbInFlight b.inFlight) (pbConsumers : Option Addr) (cbConsumers : Nat) (hpbConsumers : RdSl (hp w) pbConsumers cbConsumers b.consumers) (hoka : GoT.ok n a) (hokb : GoT.ok n b) :
    Does Tryz.prog 47 #[.agg #[.int .i64 (a.topology.size), .slice paTopologyLinks ((a.topology.links).length) caTopologyLinks, .slice paTrustKeys ((a.trust.keys).length) caTrustKeys, .slice paTrustRules ((a.trust.rules).length) caTrustRules, .slice paTrustAnchors ((a.trust.anchors).length) caTrustAnchors, .slice paTrustCertificates ((a.trust.certificates).length) caTrustCertificates, .slice paProducers ((a.producers).length) caProducers, .slice paNodes ((a.nodes).length) caNodes, .int .i64 (a.downNodes), .slice paFailedLinks ((a.failedLinks).length) caFailedLinks, .slice paInFlight ((a.inFlight).length) caInFlight, .slice paConsumers ((a.consumers).length) caConsumers, .int .i64 (a.now), .int .i64 (a.dropped)], .agg #[.int .i64 (b.topology.size), .slice pbTopologyLinks ((b.topology.links).length) cbTopologyLinks, .slice pbTrustKeys ((b.trust.keys).length) cbTrustKeys, .slice pbTrustRules ((b.trust.rules).length) cbTrustRules, .slice pbTrustAnchors ((b.trust.anchors).length) cbTrustAnchors, .slice pbTrustCertificates ((b.trust.certificates).length) cbTrustCertificates, .slice pbProducers ((b.producers).length) cbProducers, .slice pbNodes ((b.nodes).length) cbNodes, .int .i64 (b.downNodes), .slice pbFailedLinks ((b.failedLinks).length) cbFailedLinks, .slice pbInFlight ((b.inFlight).length) cbInFlight, .slice pbConsumers ((b.consumers).length) cbConsumers, .int .i64 (b.now), .int .i64 (b.dropped)]] w emp (fun (rv : Value) (_ : World) => rv = .bool (laws_eqNetwork a b) ∧ True) := by
  have hbP := bd_pos n
  have hbB := bd_big (n := n) (by omega)
  refine WX.enter (tt := tt) (Γ := [(0, MF.rs .stb paTopologyLinks caTopologyLinks a.topology.links), (1, MF.rs .stb paTrustKeys caTrustKeys a.trust.keys), (2, MF.rs .stb paTrustRules caTrustRules a.trust.rules), (3, MF.rs .stb paTrustAnchors caTrustAnchors a.trust.anchors), (4, MF.rs .stb paTrustCertificates caTrustCertificates a.trust.certificates), (5, MF.rs .stb paProducers caProducers a.producers), (6, MF.rs .stb paNodes caNodes a.nodes), (7, MF.rs .stb paFailedLinks caFailedLinks a.failedLinks), (8, MF.rs .stb paInFlight caInFlight a.inFlight), (9, MF.rs .stb paConsumers caConsumers a.consumers), (10, MF.rs .stb pbTopologyLinks cbTopologyLinks b.topology.links), (11, MF.rs .stb pbTrustKeys cbTrustKeys b.trust.keys), (12, MF.rs .stb pbTrustRules cbTrustRules b.trust.rules), (13, MF.rs .stb pbTrustAnchors cbTrustAnchors b.trust.anchors), (14, MF.rs .stb pbTrustCertificates cbTrustCertificates b.trust.certificates), (15, MF.rs .stb pbProducers cbProducers b.producers), (16, MF.rs .stb pbNodes cbNodes b.nodes), (17, MF.rs .stb pbFailedLinks cbFailedLinks b.failedLinks), (18, MF.rs .stb pbInFlight cbInFlight b.inFlight), (19, MF.rs .stb pbConsumers cbConsumers b.consumers)]) Tryz.func47 rfl (by kernel_rfl) rfl (allS_cons rfl hpaTopologyLinks (allS_cons rfl hpaTrustKeys (allS_cons rfl hpaTrustRules (allS_cons rfl hpaTrustAnchors (allS_cons rfl hpaTrustCertificates (allS_cons rfl hpaProducers (allS_cons rfl hpaNodes (allS_cons rfl hpaFailedLinks (allS_cons rfl hpaInFlight (allS_cons rfl hpaConsumers (allS_cons rfl hpbTopologyLinks (allS_cons rfl hpbTrustKeys (allS_cons rfl hpbTrustRules (allS_cons rfl hpbTrustAnchors (allS_cons rfl hpbTrustCertificates (allS_cons rfl hpbProducers (allS_cons rfl hpbNodes (allS_cons rfl hpbFailedLinks (allS_cons rfl hpbInFlight (allS_cons rfl hpbConsumers allS_nil)))))))))))))))))))) ?_
  refine WX.run ttOk rfl ?_
  refine WX.callV rfl rfl rfl rfl rfl (fun _ => rfl) rfl (fun w G bs hI hΓ => f50 w n (by omega) a.topology paTopologyLinks caTopologyLinks (hΓ.get 0 rfl) b.topology pbTopologyLinks cbTopologyLinks (hΓ.get 10 rfl) ((ok_Network hoka).1) ((ok_Network hokb).1)) ?_
  intro hq1
  refine WX.run ttOk rfl ?_
  refine WX.cases 10 rfl (fun h1 => ?_) (fun h1 => ?_)
  · skip
    have h1d := (B.nt h1)
    refine WX.run ttOk rfl ?_
    have hP1 : laws_eqNetwork a b = false := by simp only [laws_eqNetwork, h1, cond_true, cond_false]
    refine WX.ret ttOk rfl ?_
    intro w1 G bs hI hΓ
    rw [hP1]
    exact ⟨rfl, trivial⟩
  · skip
    have h1d := (B.nf h1)
    refine WX.run ttOk rfl ?_
    refine WX.callV rfl rfl rfl rfl rfl (fun _ => rfl) rfl (fun w G bs hI hΓ => f37 w n (by omega) a.trust paTrustKeys caTrustKeys (hΓ.get 1 rfl) paTrustRules caTrustRules (hΓ.get 2 rfl) paTrustAnchors caTrustAnchors (hΓ.get 3 rfl) paTrustCertificates caTrustCertificates (hΓ.get 4 rfl) b.trust pbTrustKeys cbTrustKeys (hΓ.get 11 rfl) pbTrustRules cbTrustRules (hΓ.get 12 rfl) pbTrustAnchors cbTrustAnchors (hΓ.get 13 rfl) pbTrustCertificates cbTrustCertificates (hΓ.get 14 rfl) ((ok_Network hoka).2.1) ((ok_Network hokb).2.1)) ?_
    intro hq2
    refine WX.run ttOk rfl ?_
    refine WX.cases 16 rfl (fun h2 => ?_) (fun h2 => ?_)
    · skip
      have h2d := (B.nt h2)
      refine WX.run ttOk rfl ?_
      have hP2 : laws_eqNetwork a b = false := by simp only [laws_eqNetwork, h1, h2, cond_true, cond_false]
      refine WX.ret ttOk rfl ?_
      intro w1 G bs hI hΓ
      rw [hP2]
      exact ⟨rfl, trivial⟩
    · skip
      have h2d := (B.nf h2)
      refine WX.run ttOk rfl ?_
      refine WX.callV rfl rfl rfl rfl rfl (fun _ => rfl) rfl (fun w G bs hI hΓ => f141 w n (by omega) a.producers paProducers caProducers (hΓ.get 5 rfl) b.producers pbProducers cbProducers (hΓ.get 15 rfl) ((ok_Network hoka).2.2.1) ((ok_Network hokb).2.2.1)) ?_
      intro hq3
      refine WX.run ttOk rfl ?_
      refine WX.cases 22 rfl (fun h3 => ?_) (fun h3 => ?_)
      · skip
        have h3d := (B.nt h3)
        refine WX.run ttOk rfl ?_
        have hP3 : laws_eqNetwork a b = false := by simp only [laws_eqNetwork, h1, h2, h3, cond_true, cond_false]
        refine WX.ret ttOk rfl ?_
        intro w1 G bs hI hΓ
        rw [hP3]
        exact ⟨rfl, trivial⟩
      · skip
        have h3d := (B.nf h3)
        refine WX.run ttOk rfl ?_
        refine WX.callV rfl rfl rfl rfl rfl (fun _ => rfl) rfl (fun w G bs hI hΓ => f142 w n (by omega) a.nodes paNodes caNodes (hΓ.get 6 rfl) b.nodes pbNodes cbNodes (hΓ.get 16 rfl) ((ok_Network hoka).2.2.2.1) ((ok_Network hokb).2.2.2.1)) ?_
        intro hq4
        refine WX.run ttOk rfl ?_
        refine WX.cases 28 rfl (fun h4 => ?_) (fun h4 => ?_)
        · skip
          have h4d := (B.nt h4)
          refine WX.run ttOk rfl ?_
          have hP4 : laws_eqNetwork a b = false := by simp only [laws_eqNetwork, h1, h2, h3, h4, cond_true, cond_false]
          refine WX.ret ttOk rfl ?_
          intro w1 G bs hI hΓ
          rw [hP4]
          exact ⟨rfl, trivial⟩
        · skip
          have h4d := (B.nf h4)
          refine WX.run ttOk rfl ?_
          refine WX.cases 33 rfl (fun h5 => ?_) (fun h5 => ?_)
          · skip
            have h5d := B.nt' h5
            refine WX.run ttOk rfl ?_
            have hP5 : laws_eqNetwork a b = false := by simp only [laws_eqNetwork, h1, h2, h3, h4, h5, cond_true, cond_false]
            refine WX.ret ttOk rfl ?_
            intro w1 G bs hI hΓ
            rw [hP5]
            exact ⟨rfl, trivial⟩
          · skip
            have h5d := B.nf' h5
            refine WX.run ttOk rfl ?_
            refine WX.callV rfl rfl rfl rfl rfl (fun _ => rfl) rfl (fun w G bs hI hΓ => f143 w n (by omega) a.failedLinks paFailedLinks caFailedLinks (hΓ.get 7 rfl) b.failedLinks pbFailedLinks cbFailedLinks (hΓ.get 17 rfl) ((ok_Network hoka).2.2.2.2.2.1) ((ok_Network hokb).2.2.2.2.2.1)) ?_
            intro hq5
            refine WX.run ttOk rfl ?_
            refine WX.cases 39 rfl (fun h6 => ?_) (fun h6 => ?_)
            · skip
              have h6d := (B.nt h6)
              refine WX.run ttOk rfl ?_
              have hP6 : laws_eqNetwork a b = false := by simp only [laws_eqNetwork, h1, h2, h3, h4, h5, h6, cond_true, cond_false]
              refine WX.ret ttOk rfl ?_
              intro w1 G bs hI hΓ
              rw [hP6]
              exact ⟨rfl, trivial⟩
            · skip
              have h6d := (B.nf h6)
              refine WX.run ttOk rfl ?_
              refine WX.callV rfl rfl rfl rfl rfl (fun _ => rfl) rfl (fun w G bs hI hΓ => f144 w n (by omega) a.inFlight paInFlight caInFlight (hΓ.get 8 rfl) b.inFlight pbInFlight cbInFlight (hΓ.get 18 rfl) ((ok_Network hoka).2.2.2.2.2.2.1) ((ok_Network hokb).2.2.2.2.2.2.1)) ?_
              intro hq6
              refine WX.run ttOk rfl ?_
              refine WX.cases 45 rfl (fun h7 => ?_) (fun h7 => ?_)
              · skip
                have h7d := (B.nt h7)
                refine WX.run ttOk rfl ?_
                have hP7 : laws_eqNetwork a b = false := by simp only [laws_eqNetwork, h1, h2, h3, h4, h5, h6, h7, cond_true, cond_false]
                refine WX.ret ttOk rfl ?_
                intro w1 G bs hI hΓ
                rw [hP7]
                exact ⟨rfl, trivial⟩
              · skip
                have h7d := (B.nf h7)
                refine WX.run ttOk rfl ?_
                refine WX.callV rfl rfl rfl rfl rfl (fun _ => rfl) rfl (fun w G bs hI hΓ => f145 w n (by omega) a.consumers paConsumers caConsumers (hΓ.get 9 rfl) b.consumers pbConsumers cbConsumers (hΓ.get 19 rfl) ((ok_Network hoka).2.2.2.2.2.2.2.1) ((ok_Network hokb).2.2.2.2.2.2.2.1)) ?_
                intro hq7
                refine WX.run ttOk rfl ?_
                refine WX.cases 51 rfl (fun h8 => ?_) (fun h8 => ?_)
                · skip
                  have h8d := (B.nt h8)
                  refine WX.run ttOk rfl ?_
                  have hP8 : laws_eqNetwork a b = false := by simp only [laws_eqNetwork, h1, h2, h3, h4, h5, h6, h7, h8, cond_true, cond_false]
                  refine WX.ret ttOk rfl ?_
                  intro w1 G bs hI hΓ
                  rw [hP8]
                  exact ⟨rfl, trivial⟩
                · skip
                  have h8d := (B.nf h8)
                  refine WX.run ttOk rfl ?_
                  refine WX.cases 56 rfl (fun h9 => ?_) (fun h9 => ?_)
                  · skip
                    have h9d := B.nt' h9
                    refine WX.run ttOk rfl ?_
                    have hP9 : laws_eqNetwork a b = false := by simp only [laws_eqNetwork, h1, h2, h3, h4, h5, h6, h7, h8, h9, cond_true, cond_false]
                    refine WX.ret ttOk rfl ?_
                    intro w1 G bs hI hΓ
                    rw [hP9]
                    exact ⟨rfl, trivial⟩
                  · skip
                    have h9d := B.nf' h9
                    refine WX.run ttOk rfl ?_
                    refine WX.cases 61 rfl (fun h10 => ?_) (fun h10 => ?_)
                    · skip
                      have h10d := B.nt' h10
                      refine WX.run ttOk rfl ?_
                      have hP10 : laws_eqNetwork a b = false := by simp only [laws_eqNetwork, h1, h2, h3, h4, h5, h6, h7, h8, h9, h10, cond_true, cond_false]
                      refine WX.ret ttOk rfl ?_
                      intro w1 G bs hI hΓ
                      rw [hP10]
                      exact ⟨rfl, trivial⟩
                    · skip
                      have h10d := B.nf' h10
                      refine WX.run ttOk rfl ?_
                      have hP11 : laws_eqNetwork a b = true := by simp only [laws_eqNetwork, h1, h2, h3, h4, h5, h6, h7, h8, h9, h10, cond_true, cond_false]
                      refine WX.ret ttOk rfl ?_
                      intro w1 G bs hI hΓ
                      rw [hP11]
                      exact ⟨rfl, trivial⟩
end Go.Proofs.YtfffongneoegbaaGreat

namespace Go.Stp
set_option linter.unusedVariables false
set_option linter.unusedSimpArgs false
def laws_toStringS_L1 : List Str → Nat → (List Str) → (List Str)
  | [], i, out => ((out) : List Str)
  | e1 :: rest_, i, out =>
    match (out)[i]? with
      | none => default
      | some e2 =>
        laws_toStringS_L1 rest_ (i + 1) (((out.set i e1)) : List Str)
def laws_toStringS (a : (List Str)) : (List Str) :=
  match laws_toStringS_L1 a 0 ((List.replicate ((a).length) (⟨#[]⟩ : Str)) : List Str) with
    | out =>
      out
def laws_toName (a : Name) : Name :=
  (Name.mk (laws_toStringS a.parts))
def laws_toTableEntry (a : TableEntry) : TableEntry :=
  (TableEntry.mk (laws_toName a.name) a.value)
def laws_toTableEntryS_L1 : List TableEntry → Nat → (List TableEntry) → (List TableEntry)
  | [], i, out => ((out) : List TableEntry)
  | e1 :: rest_, i, out =>
    match (out)[i]? with
      | none => default
      | some e2 =>
        laws_toTableEntryS_L1 rest_ (i + 1) (((out.set i (laws_toTableEntry e1))) : List TableEntry)
def laws_toTableEntryS (a : (List TableEntry)) : (List TableEntry) :=
  match laws_toTableEntryS_L1 a 0 ((List.replicate ((a).length) (TableEntry.mk (Name.mk ([])) 0)) : List TableEntry) with
    | out =>
      out
def laws_toByteS_L1 : List UInt8 → Nat → (List UInt8) → (List UInt8)
  | [], i, out => ((out) : List UInt8)
  | e1 :: rest_, i, out =>
    match (out)[i]? with
      | none => default
      | some e2 =>
        laws_toByteS_L1 rest_ (i + 1) (((out.set i e1)) : List UInt8)
def laws_toByteS (a : (List UInt8)) : (List UInt8) :=
  match laws_toByteS_L1 a 0 ((List.replicate ((a).length) (0 : UInt8)) : List UInt8) with
    | out =>
      out
def laws_toData (a : DataP) : DataP :=
  (DataP.mk (laws_toName a.name) (laws_toByteS a.content) (laws_toName a.keyName) a.freshUntil a.signature)
def laws_toConsumer (a : Consumer) : Consumer :=
  (Consumer.mk a.node a.index (laws_toName a.name) a.attempts a.wait a.satisfied (laws_toData a.data))
def laws_toKey (a : Key) : Key :=
  (Key.mk (laws_toName a.name) a.secret)
def laws_toKeyS_L1 : List Key → Nat → (List Key) → (List Key)
  | [], i, out => ((out) : List Key)
  | e1 :: rest_, i, out =>
    match (out)[i]? with
      | none => default
      | some e2 =>
        laws_toKeyS_L1 rest_ (i + 1) (((out.set i (laws_toKey e1))) : List Key)
def laws_toKeyS (a : (List Key)) : (List Key) :=
  match laws_toKeyS_L1 a 0 ((List.replicate ((a).length) (Key.mk (Name.mk ([])) 0)) : List Key) with
    | out =>
      out
def laws_toPattern (a : Pattern) : Pattern :=
  (Pattern.mk (laws_toStringS a.parts))
def laws_toRule (a : Rule) : Rule :=
  (Rule.mk (laws_toPattern a.dataPattern) (laws_toPattern a.keyPattern))
def laws_toRuleS_L1 : List Rule → Nat → (List Rule) → (List Rule)
  | [], i, out => ((out) : List Rule)
  | e1 :: rest_, i, out =>
    match (out)[i]? with
      | none => default
      | some e2 =>
        laws_toRuleS_L1 rest_ (i + 1) (((out.set i (laws_toRule e1))) : List Rule)
def laws_toRuleS (a : (List Rule)) : (List Rule) :=
  match laws_toRuleS_L1 a 0 ((List.replicate ((a).length) (Rule.mk (Pattern.mk ([])) (Pattern.mk ([])))) : List Rule) with
    | out =>
      out
def laws_toNameS_L1 : List Name → Nat → (List Name) → (List Name)
  | [], i, out => ((out) : List Name)
  | e1 :: rest_, i, out =>
    match (out)[i]? with
      | none => default
      | some e2 =>
        laws_toNameS_L1 rest_ (i + 1) (((out.set i (laws_toName e1))) : List Name)
def laws_toNameS (a : (List Name)) : (List Name) :=
  match laws_toNameS_L1 a 0 ((List.replicate ((a).length) (Name.mk ([]))) : List Name) with
    | out =>
      out
def laws_toDataS_L1 : List DataP → Nat → (List DataP) → (List DataP)
  | [], i, out => ((out) : List DataP)
  | e1 :: rest_, i, out =>
    match (out)[i]? with
      | none => default
      | some e2 =>
        laws_toDataS_L1 rest_ (i + 1) (((out.set i (laws_toData e1))) : List DataP)
def laws_toDataS (a : (List DataP)) : (List DataP) :=
  match laws_toDataS_L1 a 0 ((List.replicate ((a).length) (DataP.mk (Name.mk ([])) ([]) (Name.mk ([])) 0 0)) : List DataP) with
    | out =>
      out
def laws_toTrustPolicy (a : TrustPolicy) : TrustPolicy :=
  (TrustPolicy.mk (laws_toKeyS a.keys) (laws_toRuleS a.rules) (laws_toNameS a.anchors) (laws_toDataS a.certificates))
def laws_toLink (a : Link) : Link :=
  a
def laws_toLinkS_L1 : List Link → Nat → (List Link) → (List Link)
  | [], i, out => ((out) : List Link)
  | e1 :: rest_, i, out =>
    match (out)[i]? with
      | none => default
      | some e2 =>
        laws_toLinkS_L1 rest_ (i + 1) (((out.set i (laws_toLink e1))) : List Link)
def laws_toLinkS (a : (List Link)) : (List Link) :=
  match laws_toLinkS_L1 a 0 ((List.replicate ((a).length) (Link.mk 0 0)) : List Link) with
    | out =>
      out
def laws_toTopology (a : Topology) : Topology :=
  (Topology.mk a.size (laws_toLinkS a.links))
def laws_toCacheEntry (a : CacheEntry) : CacheEntry :=
  (CacheEntry.mk (laws_toData a.data) a.lastUsed)
def laws_toCacheEntryS_L1 : List CacheEntry → Nat → (List CacheEntry) → (List CacheEntry)
  | [], i, out => ((out) : List CacheEntry)
  | e1 :: rest_, i, out =>
    match (out)[i]? with
      | none => default
      | some e2 =>
        laws_toCacheEntryS_L1 rest_ (i + 1) (((out.set i (laws_toCacheEntry e1))) : List CacheEntry)
def laws_toCacheEntryS (a : (List CacheEntry)) : (List CacheEntry) :=
  match laws_toCacheEntryS_L1 a 0 ((List.replicate ((a).length) (CacheEntry.mk (DataP.mk (Name.mk ([])) ([]) (Name.mk ([])) 0 0) 0)) : List CacheEntry) with
    | out =>
      out
def laws_toContentStore (a : ContentStore) : ContentStore :=
  (ContentStore.mk a.capacity (laws_toCacheEntryS a.entries))
def laws_toRequester (a : Requester) : Requester :=
  a
def laws_toRequesterS_L1 : List Requester → Nat → (List Requester) → (List Requester)
  | [], i, out => ((out) : List Requester)
  | e1 :: rest_, i, out =>
    match (out)[i]? with
      | none => default
      | some e2 =>
        laws_toRequesterS_L1 rest_ (i + 1) (((out.set i (laws_toRequester e1))) : List Requester)
def laws_toRequesterS (a : (List Requester)) : (List Requester) :=
  match laws_toRequesterS_L1 a 0 ((List.replicate ((a).length) (Requester.mk 0 0 0)) : List Requester) with
    | out =>
      out
def laws_toPendingInterest (a : PendingInterest) : PendingInterest :=
  (PendingInterest.mk (laws_toName a.name) (laws_toRequesterS a.requesters) a.lastSent)
def laws_toPendingInterestS_L1 : List PendingInterest → Nat → (List PendingInterest) → (List PendingInterest)
  | [], i, out => ((out) : List PendingInterest)
  | e1 :: rest_, i, out =>
    match (out)[i]? with
      | none => default
      | some e2 =>
        laws_toPendingInterestS_L1 rest_ (i + 1) (((out.set i (laws_toPendingInterest e1))) : List PendingInterest)
def laws_toPendingInterestS (a : (List PendingInterest)) : (List PendingInterest) :=
  match laws_toPendingInterestS_L1 a 0 ((List.replicate ((a).length) (PendingInterest.mk (Name.mk ([])) ([]) 0)) : List PendingInterest) with
    | out =>
      out
def laws_toSeenNonce (a : SeenNonce) : SeenNonce :=
  (SeenNonce.mk (laws_toName a.name) a.nonce)
def laws_toSeenNonceS_L1 : List SeenNonce → Nat → (List SeenNonce) → (List SeenNonce)
  | [], i, out => ((out) : List SeenNonce)
  | e1 :: rest_, i, out =>
    match (out)[i]? with
      | none => default
      | some e2 =>
        laws_toSeenNonceS_L1 rest_ (i + 1) (((out.set i (laws_toSeenNonce e1))) : List SeenNonce)
def laws_toSeenNonceS (a : (List SeenNonce)) : (List SeenNonce) :=
  match laws_toSeenNonceS_L1 a 0 ((List.replicate ((a).length) (SeenNonce.mk (Name.mk ([])) 0)) : List SeenNonce) with
    | out =>
      out
def laws_toRoute (a : Route) : Route :=
  (Route.mk (laws_toName a.pfx) a.face a.cost)
def laws_toRouteS_L1 : List Route → Nat → (List Route) → (List Route)
  | [], i, out => ((out) : List Route)
  | e1 :: rest_, i, out =>
    match (out)[i]? with
      | none => default
      | some e2 =>
        laws_toRouteS_L1 rest_ (i + 1) (((out.set i (laws_toRoute e1))) : List Route)
def laws_toRouteS (a : (List Route)) : (List Route) :=
  match laws_toRouteS_L1 a 0 ((List.replicate ((a).length) (Route.mk (Name.mk ([])) 0 0)) : List Route) with
    | out =>
      out
def laws_toMeasurement (a : Measurement) : Measurement :=
  (Measurement.mk (laws_toName a.pfx) a.face a.failures)
def laws_toMeasurementS_L1 : List Measurement → Nat → (List Measurement) → (List Measurement)
  | [], i, out => ((out) : List Measurement)
  | e1 :: rest_, i, out =>
    match (out)[i]? with
      | none => default
      | some e2 =>
        laws_toMeasurementS_L1 rest_ (i + 1) (((out.set i (laws_toMeasurement e1))) : List Measurement)
def laws_toMeasurementS (a : (List Measurement)) : (List Measurement) :=
  match laws_toMeasurementS_L1 a 0 ((List.replicate ((a).length) (Measurement.mk (Name.mk ([])) 0 0)) : List Measurement) with
    | out =>
      out
def laws_toNode (a : NodeP) : NodeP :=
  (NodeP.mk (laws_toDataS a.locl) (laws_toContentStore a.cache) (laws_toPendingInterestS a.pending) (laws_toSeenNonceS a.seen) (laws_toRouteS a.routes) (laws_toMeasurementS a.measurements) a.dropped)
def laws_toNodeS_L1 : List NodeP → Nat → (List NodeP) → (List NodeP)
  | [], i, out => ((out) : List NodeP)
  | e1 :: rest_, i, out =>
    match (out)[i]? with
      | none => default
      | some e2 =>
        laws_toNodeS_L1 rest_ (i + 1) (((out.set i (laws_toNode e1))) : List NodeP)
def laws_toNodeS (a : (List NodeP)) : (List NodeP) :=
  match laws_toNodeS_L1 a 0 ((List.replicate ((a).length) (NodeP.mk ([]) (ContentStore.mk 0 ([])) ([]) ([]) ([]) ([]) 0)) : List NodeP) with
    | out =>
      out
def laws_toIntS_L1 : List Int → Nat → (List Int) → (List Int)
  | [], i, out => ((out) : List Int)
  | e1 :: rest_, i, out =>
    match (out)[i]? with
      | none => default
      | some e2 =>
        laws_toIntS_L1 rest_ (i + 1) (((out.set i e1)) : List Int)
def laws_toIntS (a : (List Int)) : (List Int) :=
  match laws_toIntS_L1 a 0 ((List.replicate ((a).length) 0) : List Int) with
    | out =>
      out
def laws_toInterest (a : Interest) : Interest :=
  (Interest.mk (laws_toName a.name) a.nonce a.hopLimit a.lifetime)
def laws_toPacketInFlight (a : PacketInFlight) : PacketInFlight :=
  (PacketInFlight.mk a.to a.face a.isInterest (laws_toInterest a.interest) (laws_toData a.data))
def laws_toPacketInFlightS_L1 : List PacketInFlight → Nat → (List PacketInFlight) → (List PacketInFlight)
  | [], i, out => ((out) : List PacketInFlight)
  | e1 :: rest_, i, out =>
    match (out)[i]? with
      | none => default
      | some e2 =>
        laws_toPacketInFlightS_L1 rest_ (i + 1) (((out.set i (laws_toPacketInFlight e1))) : List PacketInFlight)
def laws_toPacketInFlightS (a : (List PacketInFlight)) : (List PacketInFlight) :=
  match laws_toPacketInFlightS_L1 a 0 ((List.replicate ((a).length) (PacketInFlight.mk 0 0 false (Interest.mk (Name.mk ([])) 0 0 0) (DataP.mk (Name.mk ([])) ([]) (Name.mk ([])) 0 0))) : List PacketInFlight) with
    | out =>
      out
def laws_toConsumerS_L1 : List Consumer → Nat → (List Consumer) → (List Consumer)
  | [], i, out => ((out) : List Consumer)
  | e1 :: rest_, i, out =>
    match (out)[i]? with
      | none => default
      | some e2 =>
        laws_toConsumerS_L1 rest_ (i + 1) (((out.set i (laws_toConsumer e1))) : List Consumer)
def laws_toConsumerS (a : (List Consumer)) : (List Consumer) :=
  match laws_toConsumerS_L1 a 0 ((List.replicate ((a).length) (Consumer.mk 0 0 (Name.mk ([])) 0 0 false (DataP.mk (Name.mk ([])) ([]) (Name.mk ([])) 0 0))) : List Consumer) with
    | out =>
      out
def laws_toNetwork (a : Network) : Network :=
  (Network.mk (laws_toTopology a.topology) (laws_toTrustPolicy a.trust) (laws_toTableEntryS a.producers) (laws_toNodeS a.nodes) a.downNodes (laws_toIntS a.failedLinks) (laws_toPacketInFlightS a.inFlight) (laws_toConsumerS a.consumers) a.now a.dropped)
end Go.Stp

