/-
  That functions of the program compute what the Lean functions do. No condition but what each says. Written by a program (gen2.py).
-/
import Derived.Test.YtdkhklhnipiheaaC3
import Derived.Test.YtdkhklhnipiheaaP3e
namespace Go.Proofs.Ytdkhklhnipiheaa
open Go.Stp
set_option linter.unusedVariables false
set_option linter.unusedSimpArgs false
theorem f16 (w : World) (n : Nat) (hn : n + 0 ≤ 9) (a : (List UInt8)) (pa : Option Addr) (ca : Nat) (hpa : RdSl (hp w) pa ca a) (b : (List UInt8)) (pb : Option Addr) (cb : Nat) (hpb : RdSl (hp w) pb cb b) (hoka : GoT.ok n a) (hokb : GoT.ok n b) :
    Does Try.prog 16 #[.slice pa ((a).length) ca, .slice pb ((b).length) cb] w emp (fun (rv : Value) (_ : World) => rv = .bool (laws_eqByteS a b) ∧ True) := by
  have hbP := bd_pos n
  have hbB := bd_big (n := n) (by omega)
  refine WX.enter (tt := tt) (Γ := [(0, MF.rs .stb pa ca a), (1, MF.rs .stb pb cb b)]) Try.func16 rfl (by kernel_rfl) rfl (allS_cons rfl hpa (allS_cons rfl hpb allS_nil)) ?_
  refine WX.run ttOk rfl ?_
  refine WX.cases 10 rfl (fun h1 => ?_) (fun h1 => ?_)
  · skip
    have h1d := B.nt' h1
    refine WX.run ttOk rfl ?_
    have hP1 : laws_eqByteS a b = false := by simp only [laws_eqByteS, h1, cond_true, cond_false]
    refine WX.ret ttOk rfl ?_
    intro w1 G bs hI hΓ
    rw [hP1]
    exact ⟨rfl, trivial⟩
  · skip
    have h1d := B.nf' h1
    refine WX.run ttOk rfl ?_
    have r1 : (a).length ≤ bd n := (okl hoka).1
    refine WX.loop (ι := Nat) ⟨fun i => (i ≤ (a).length) ∧ (laws_eqByteS_L1 b a 0 = laws_eqByteS_L1 b ((a).drop i) i), fun i => (a).length - i, fun i => [(5, .v (.int .i64 (((i : Nat) : Int)))), (0, .v (.slice pa ((a).length) ca)), (1, .v (.slice pb ((b).length) cb))], fun i => [], fun i => [], fun i => [(0, MF.rs .stb pa ca a), (1, MF.rs .stb pb cb b)]⟩ 0 ⟨(Nat.zero_le _), rfl⟩
      (.cons rfl (.cons rfl (.cons rfl (.nil)))) .nil .nil [0, 1] rfl ?_
    rintro i hpre
    have hpre_ : (i ≤ (a).length) ∧ (laws_eqByteS_L1 b a 0 = laws_eqByteS_L1 b ((a).drop i) i) := hpre
    clear hpre
    obtain ⟨v1, v2⟩ := hpre_
    refine WX.run ttOk rfl ?_
    refine WX.cases 14 rfl (fun h2 => ?_) (fun h2 => ?_)
    · skip
      have h2d := B.dt h2
      have e1i : i < (a).length := (by omega)
      obtain ⟨e1, e1h⟩ : ∃ e1, (a)[i]? = some e1 := ⟨_, List.getElem?_eq_getElem e1i⟩
      refine WX.run ttOk rfl ?_
      refine WX.draw [] mixed ?_
      intro bs G0 hΓ0
      refine DX.takes (fuel := 7) ttOk [(0, true), (1, true)] (by kernel_rfl) rfl ?_
      refine DX.idx 2 0 i ttOk hΓ0 (by kernel_rfl) rfl rfl rfl rfl rfl rfl rfl rfl rfl rfl rfl e1i ?_
      rintro ad1 rfl
      refine DX.ldE 3 0 2 e1 ttOk hΓ0 (by kernel_rfl) rfl rfl rfl rfl rfl rfl rfl rfl e1h (fun _ => rfl) (fun _ => rfl) ?_
      rintro ⟨⟩
      refine DX.takes (fuel := 3) ttOk [(4, true), (5, true)] (by kernel_rfl) rfl ?_
      have e2i : i < (b).length := (by first | assumption | omega)
      obtain ⟨e2, e2h⟩ : ∃ e2, (b)[i]? = some e2 := ⟨_, List.getElem?_eq_getElem e2i⟩
      refine DX.idx 6 1 i ttOk hΓ0 (by kernel_rfl) rfl rfl rfl rfl rfl rfl rfl rfl rfl rfl rfl e2i ?_
      rintro ad2 rfl
      refine DX.ldE 7 1 2 e2 ttOk hΓ0 (by kernel_rfl) rfl rfl rfl rfl rfl rfl rfl rfl e2h (fun _ => rfl) (fun _ => rfl) ?_
      rintro ⟨⟩
      refine DX.takes (fuel := 0) ttOk [(8, true)] (by kernel_rfl) rfl ?_
      refine DX.tail2 [] rfl rfl (by kernel_rfl) ?_
      refine WX.run ttOk rfl ?_
      refine WX.cases 25 rfl (fun h3 => ?_) (fun h3 => ?_)
      · skip
        have h3d := B.nt' h3
        refine WX.run ttOk rfl ?_
        have hP2 : laws_eqByteS_L1 b a 0 = (some false) := by rw [v2, drop_get e1h]; simp only [laws_eqByteS_L1, e2h, h3, cond_true, cond_false]
        have hP3 : laws_eqByteS a b = false := by simp only [laws_eqByteS, h1, hP2, cond_true, cond_false]
        refine WX.ret ttOk rfl ?_
        intro w1 G bs hI hΓ
        rw [hP3]
        exact ⟨rfl, trivial⟩
      · skip
        have h3d := B.nf' h3
        refine WX.run ttOk rfl ?_
        refine WX.see rfl rfl rfl (fun _ hΓ => looks_arith rfl rfl rfl rfl (by unfold I64; omega)) ?_
        refine WX.run ttOk rfl ?_
        exact WX.iter (i + 1) ⟨(by omega), (by rw [v2, drop_get e1h]; simp only [laws_eqByteS_L1, e2h, h3, cond_true, cond_false])⟩ (by dsimp only; omega) (.cons rfl (.cons rfl (.cons rfl (.nil)))) .nil .nil [0, 1] rfl
    · skip
      have h2d := B.df h2
      refine WX.run ttOk rfl ?_
      have hX1 : laws_eqByteS_L1 b a 0 = none := by rw [v2, List.drop_eq_nil_of_le (show (a).length ≤ i by omega)]; simp only [laws_eqByteS_L1, cond_true, cond_false]
      have hP4 : laws_eqByteS a b = true := by simp only [laws_eqByteS, h1, hX1, cond_true, cond_false]
      refine WX.ret ttOk rfl ?_
      intro w1 G bs hI hΓ
      rw [hP4]
      exact ⟨rfl, trivial⟩
theorem f72 (w : World) (n : Nat) (hn : n + 0 ≤ 9) (a : (List Str)) (pa : Option Addr) (ca : Nat) (hpa : RdSl (hp w) pa ca a) (b : (List Str)) (pb : Option Addr) (cb : Nat) (hpb : RdSl (hp w) pb cb b) (hoka : GoT.ok n a) (hokb : GoT.ok n b) :
    Does Try.prog 72 #[.slice pa ((a).length) ca, .slice pb ((b).length) cb] w emp (fun (rv : Value) (_ : World) => rv = .bool (laws_eqStringS a b) ∧ True) := by
  have hbP := bd_pos n
  have hbB := bd_big (n := n) (by omega)
  refine WX.enter (tt := tt) (Γ := [(0, MF.rs .stb pa ca a), (1, MF.rs .stb pb cb b)]) Try.func72 rfl (by kernel_rfl) rfl (allS_cons rfl hpa (allS_cons rfl hpb allS_nil)) ?_
  refine WX.run ttOk rfl ?_
  refine WX.cases 10 rfl (fun h1 => ?_) (fun h1 => ?_)
  · skip
    have h1d := B.nt' h1
    refine WX.run ttOk rfl ?_
    have hP1 : laws_eqStringS a b = false := by simp only [laws_eqStringS, h1, cond_true, cond_false]
    refine WX.ret ttOk rfl ?_
    intro w1 G bs hI hΓ
    rw [hP1]
    exact ⟨rfl, trivial⟩
  · skip
    have h1d := B.nf' h1
    refine WX.run ttOk rfl ?_
    have r1 : (a).length ≤ bd n := (okl hoka).1
    refine WX.loop (ι := Nat) ⟨fun i => (i ≤ (a).length) ∧ (laws_eqStringS_L1 b a 0 = laws_eqStringS_L1 b ((a).drop i) i), fun i => (a).length - i, fun i => [(5, .v (.int .i64 (((i : Nat) : Int)))), (0, .v (.slice pa ((a).length) ca)), (1, .v (.slice pb ((b).length) cb))], fun i => [], fun i => [], fun i => [(0, MF.rs .stb pa ca a), (1, MF.rs .stb pb cb b)]⟩ 0 ⟨(Nat.zero_le _), rfl⟩
      (.cons rfl (.cons rfl (.cons rfl (.nil)))) .nil .nil [0, 1] rfl ?_
    rintro i hpre
    have hpre_ : (i ≤ (a).length) ∧ (laws_eqStringS_L1 b a 0 = laws_eqStringS_L1 b ((a).drop i) i) := hpre
    clear hpre
    obtain ⟨v1, v2⟩ := hpre_
    refine WX.run ttOk rfl ?_
    refine WX.cases 14 rfl (fun h2 => ?_) (fun h2 => ?_)
    · skip
      have h2d := B.dt h2
      have e1i : i < (a).length := (by omega)
      obtain ⟨e1, e1h⟩ : ∃ e1, (a)[i]? = some e1 := ⟨_, List.getElem?_eq_getElem e1i⟩
      have ok1 : GoT.ok n e1 := (okl hoka).2 _ (List.mem_of_getElem? e1h)
      refine WX.run ttOk rfl ?_
      refine WX.draw [] mixed ?_
      intro bs G0 hΓ0
      refine DX.takes (fuel := 7) ttOk [(0, true), (1, true)] (by kernel_rfl) rfl ?_
      refine DX.idx 2 0 i ttOk hΓ0 (by kernel_rfl) rfl rfl rfl rfl rfl rfl rfl rfl rfl rfl rfl e1i ?_
      rintro ad1 rfl
      refine DX.ldE 3 0 2 e1 ttOk hΓ0 (by kernel_rfl) rfl rfl rfl rfl rfl rfl rfl rfl e1h (fun _ => rfl) (fun _ => rfl) ?_
      rintro ⟨⟩
      refine DX.takes (fuel := 3) ttOk [(4, true), (5, true)] (by kernel_rfl) rfl ?_
      have e2i : i < (b).length := (by first | assumption | omega)
      obtain ⟨e2, e2h⟩ : ∃ e2, (b)[i]? = some e2 := ⟨_, List.getElem?_eq_getElem e2i⟩
      have ok2 : GoT.ok n e2 := (okl hokb).2 _ (List.mem_of_getElem? e2h)
      refine DX.idx 6 1 i ttOk hΓ0 (by kernel_rfl) rfl rfl rfl rfl rfl rfl rfl rfl rfl rfl rfl e2i ?_
      rintro ad2 rfl
      refine DX.ldE 7 1 2 e2 ttOk hΓ0 (by kernel_rfl) rfl rfl rfl rfl rfl rfl rfl rfl e2h (fun _ => rfl) (fun _ => rfl) ?_
      rintro ⟨⟩
      refine DX.takes (fuel := 0) ttOk [(8, true)] (by kernel_rfl) rfl ?_
      refine DX.tail2 [] rfl rfl (by kernel_rfl) ?_
      refine WX.run ttOk rfl ?_
      refine WX.cases 25 rfl (fun h3 => ?_) (fun h3 => ?_)
      · skip
        have h3d := B.ef (B.nt h3)
        refine WX.run ttOk rfl ?_
        have hP2 : laws_eqStringS_L1 b a 0 = (some false) := by rw [v2, drop_get e1h]; simp only [laws_eqStringS_L1, e2h, h3, cond_true, cond_false]
        have hP3 : laws_eqStringS a b = false := by simp only [laws_eqStringS, h1, hP2, cond_true, cond_false]
        refine WX.ret ttOk rfl ?_
        intro w1 G bs hI hΓ
        rw [hP3]
        exact ⟨rfl, trivial⟩
      · skip
        have h3d := B.et (B.nf h3)
        refine WX.run ttOk rfl ?_
        refine WX.see rfl rfl rfl (fun _ hΓ => looks_arith rfl rfl rfl rfl (by unfold I64; omega)) ?_
        refine WX.run ttOk rfl ?_
        exact WX.iter (i + 1) ⟨(by omega), (by rw [v2, drop_get e1h]; simp only [laws_eqStringS_L1, e2h, h3, cond_true, cond_false])⟩ (by dsimp only; omega) (.cons rfl (.cons rfl (.cons rfl (.nil)))) .nil .nil [0, 1] rfl
    · skip
      have h2d := B.df h2
      refine WX.run ttOk rfl ?_
      have hX1 : laws_eqStringS_L1 b a 0 = none := by rw [v2, List.drop_eq_nil_of_le (show (a).length ≤ i by omega)]; simp only [laws_eqStringS_L1, cond_true, cond_false]
      have hP4 : laws_eqStringS a b = true := by simp only [laws_eqStringS, h1, hX1, cond_true, cond_false]
      refine WX.ret ttOk rfl ?_
      intro w1 G bs hI hΓ
      rw [hP4]
      exact ⟨rfl, trivial⟩
theorem f34 (w : World) (n : Nat) (hn : n + 0 ≤ 9) (a : Name) (pa : Option Addr) (ca : Nat) (hpa : RdSl (hp w) pa ca a.parts) (b : Name) (pb : Option Addr) (cb : Nat) (hpb : RdSl (hp w) pb cb b.parts) (hoka : GoT.ok n a) (hokb : GoT.ok n b) :
    Does Try.prog 34 #[.agg #[.slice pa ((a.parts).length) ca], .agg #[.slice pb ((b.parts).length) cb]] w emp (fun (rv : Value) (_ : World) => rv = .bool (laws_eqName a b) ∧ True) := by
  have hbP := bd_pos n
  have hbB := bd_big (n := n) (by omega)
  refine WX.enter (tt := tt) (Γ := [(0, MF.rs .stb pa ca a.parts), (1, MF.rs .stb pb cb b.parts)]) Try.func34 rfl (by kernel_rfl) rfl (allS_cons rfl hpa (allS_cons rfl hpb allS_nil)) ?_
  refine WX.run ttOk rfl ?_
  refine WX.callV rfl rfl rfl rfl rfl (fun _ => rfl) rfl (fun w G bs hI hΓ => f72 w n (by omega) a.parts pa ca (hΓ.get 0 rfl) b.parts pb cb (hΓ.get 1 rfl) (ok_Name hoka) (ok_Name hokb)) ?_
  intro hq1
  refine WX.run ttOk rfl ?_
  refine WX.cases 10 rfl (fun h1 => ?_) (fun h1 => ?_)
  · skip
    have h1d := (B.nt h1)
    refine WX.run ttOk rfl ?_
    have hP1 : laws_eqName a b = false := by simp only [laws_eqName, h1, cond_true, cond_false]
    refine WX.ret ttOk rfl ?_
    intro w1 G bs hI hΓ
    rw [hP1]
    exact ⟨rfl, trivial⟩
  · skip
    have h1d := (B.nf h1)
    refine WX.run ttOk rfl ?_
    have hP2 : laws_eqName a b = true := by simp only [laws_eqName, h1, cond_true, cond_false]
    refine WX.ret ttOk rfl ?_
    intro w1 G bs hI hΓ
    rw [hP2]
    exact ⟨rfl, trivial⟩
theorem f90 (w : World) (n : Nat) (hn : n + 0 ≤ 9) (a : TableEntry) (paName : Option Addr) (caName : Nat) (hpaName : RdSl (hp w) paName caName a.name.parts) (b : TableEntry) (pbName : Option Addr) (cbName : Nat) (hpbName : RdSl (hp w) pbName cbName b.name.parts) (hoka : GoT.ok n a) (hokb : GoT.ok n b) :
    Does Try.prog 90 #[.agg #[.slice paName ((a.name.parts).length) caName, .int .i64 (a.value)], .agg #[.slice pbName ((b.name.parts).length) cbName, .int .i64 (b.value)]] w emp (fun (rv : Value) (_ : World) => rv = .bool (laws_eqTableEntry a b) ∧ True) := by
  have hbP := bd_pos n
  have hbB := bd_big (n := n) (by omega)
  refine WX.enter (tt := tt) (Γ := [(0, MF.rs .stb paName caName a.name.parts), (1, MF.rs .stb pbName cbName b.name.parts)]) Try.func90 rfl (by kernel_rfl) rfl (allS_cons rfl hpaName (allS_cons rfl hpbName allS_nil)) ?_
  refine WX.run ttOk rfl ?_
  refine WX.callV rfl rfl rfl rfl rfl (fun _ => rfl) rfl (fun w G bs hI hΓ => f34 w n (by omega) a.name paName caName (hΓ.get 0 rfl) b.name pbName cbName (hΓ.get 1 rfl) ((ok_TableEntry hoka).1) ((ok_TableEntry hokb).1)) ?_
  intro hq1
  refine WX.run ttOk rfl ?_
  refine WX.cases 10 rfl (fun h1 => ?_) (fun h1 => ?_)
  · skip
    have h1d := (B.nt h1)
    refine WX.run ttOk rfl ?_
    have hP1 : laws_eqTableEntry a b = false := by simp only [laws_eqTableEntry, h1, cond_true, cond_false]
    refine WX.ret ttOk rfl ?_
    intro w1 G bs hI hΓ
    rw [hP1]
    exact ⟨rfl, trivial⟩
  · skip
    have h1d := (B.nf h1)
    refine WX.run ttOk rfl ?_
    refine WX.cases 15 rfl (fun h2 => ?_) (fun h2 => ?_)
    · skip
      have h2d := B.nt' h2
      refine WX.run ttOk rfl ?_
      have hP2 : laws_eqTableEntry a b = false := by simp only [laws_eqTableEntry, h1, h2, cond_true, cond_false]
      refine WX.ret ttOk rfl ?_
      intro w1 G bs hI hΓ
      rw [hP2]
      exact ⟨rfl, trivial⟩
    · skip
      have h2d := B.nf' h2
      refine WX.run ttOk rfl ?_
      have hP3 : laws_eqTableEntry a b = true := by simp only [laws_eqTableEntry, h1, h2, cond_true, cond_false]
      refine WX.ret ttOk rfl ?_
      intro w1 G bs hI hΓ
      rw [hP3]
      exact ⟨rfl, trivial⟩
theorem f48 (w : World) (n : Nat) (hn : n + 0 ≤ 9) (a : (List TableEntry)) (pa : Option Addr) (ca : Nat) (hpa : RdSl (hp w) pa ca a) (b : (List TableEntry)) (pb : Option Addr) (cb : Nat) (hpb : RdSl (hp w) pb cb b) (hoka : GoT.ok n a) (hokb : GoT.ok n b) :
    Does Try.prog 48 #[.slice pa ((a).length) ca, .slice pb ((b).length) cb] w emp (fun (rv : Value) (_ : World) => rv = .bool (laws_eqTableEntryS a b) ∧ True) := by
  have hbP := bd_pos n
  have hbB := bd_big (n := n) (by omega)
  refine WX.enter (tt := tt) (Γ := [(0, MF.rs .stb pa ca a), (1, MF.rs .stb pb cb b)]) Try.func48 rfl (by kernel_rfl) rfl (allS_cons rfl hpa (allS_cons rfl hpb allS_nil)) ?_
  refine WX.run ttOk rfl ?_
  refine WX.cases 10 rfl (fun h1 => ?_) (fun h1 => ?_)
  · skip
    have h1d := B.nt' h1
    refine WX.run ttOk rfl ?_
    have hP1 : laws_eqTableEntryS a b = false := by simp only [laws_eqTableEntryS, h1, cond_true, cond_false]
    refine WX.ret ttOk rfl ?_
    intro w1 G bs hI hΓ
    rw [hP1]
    exact ⟨rfl, trivial⟩
  · skip
    have h1d := B.nf' h1
    refine WX.run ttOk rfl ?_
    have r1 : (a).length ≤ bd n := (okl hoka).1
    refine WX.loop (ι := Nat) ⟨fun i => (i ≤ (a).length) ∧ (laws_eqTableEntryS_L1 b a 0 = laws_eqTableEntryS_L1 b ((a).drop i) i), fun i => (a).length - i, fun i => [(5, .v (.int .i64 (((i : Nat) : Int)))), (0, .v (.slice pa ((a).length) ca)), (1, .v (.slice pb ((b).length) cb))], fun i => [], fun i => [], fun i => [(0, MF.rs .stb pa ca a), (1, MF.rs .stb pb cb b)]⟩ 0 ⟨(Nat.zero_le _), rfl⟩
      (.cons rfl (.cons rfl (.cons rfl (.nil)))) .nil .nil [0, 1] rfl ?_
    rintro i hpre
    have hpre_ : (i ≤ (a).length) ∧ (laws_eqTableEntryS_L1 b a 0 = laws_eqTableEntryS_L1 b ((a).drop i) i) := hpre
    clear hpre
    obtain ⟨v1, v2⟩ := hpre_
    refine WX.run ttOk rfl ?_
    refine WX.cases 14 rfl (fun h2 => ?_) (fun h2 => ?_)
    · skip
      have h2d := B.dt h2
      have e1i : i < (a).length := (by omega)
      obtain ⟨e1, e1h⟩ : ∃ e1, (a)[i]? = some e1 := ⟨_, List.getElem?_eq_getElem e1i⟩
      have ok1 : GoT.ok n e1 := (okl hoka).2 _ (List.mem_of_getElem? e1h)
      refine WX.run ttOk rfl ?_
      refine WX.draw [] mixed ?_
      intro bs G0 hΓ0
      refine DX.takes (fuel := 8) ttOk [(0, true), (1, true)] (by kernel_rfl) rfl ?_
      refine DX.idx 2 0 i ttOk hΓ0 (by kernel_rfl) rfl rfl rfl rfl rfl rfl rfl rfl rfl rfl rfl e1i ?_
      rintro ad1 rfl
      refine DX.ldE 3 0 2 e1 ttOk hΓ0 (by kernel_rfl) rfl rfl rfl rfl rfl rfl rfl rfl e1h (fun _ => rfl) (fun _ => rfl) ?_
      rintro ⟨⟨p1, c1⟩, ⟨⟩⟩
      refine DX.takes (fuel := 4) ttOk [(4, true), (5, true)] (by kernel_rfl) rfl ?_
      have e2i : i < (b).length := (by first | assumption | omega)
      obtain ⟨e2, e2h⟩ : ∃ e2, (b)[i]? = some e2 := ⟨_, List.getElem?_eq_getElem e2i⟩
      have ok2 : GoT.ok n e2 := (okl hokb).2 _ (List.mem_of_getElem? e2h)
      refine DX.idx 6 1 i ttOk hΓ0 (by kernel_rfl) rfl rfl rfl rfl rfl rfl rfl rfl rfl rfl rfl e2i ?_
      rintro ad2 rfl
      refine DX.ldE 7 1 3 e2 ttOk hΓ0 (by kernel_rfl) rfl rfl rfl rfl rfl rfl rfl rfl e2h (fun _ => rfl) (fun _ => rfl) ?_
      rintro ⟨⟨p2, c2⟩, ⟨⟩⟩
      refine DX.callV 8 rfl (by kernel_rfl) rfl rfl rfl rfl rfl rfl (fun _ => rfl) rfl (fun w G bs hI hΓ => f90 w n (by omega) e1 p1 c1 (hΓ.get 2 rfl) e2 p2 c2 (hΓ.get 3 rfl) ok1 ok2) ?_
      intro hq1
      refine DX.takes (fuel := 0) ttOk [(9, true)] (by kernel_rfl) rfl ?_
      refine DX.tail2 [] rfl rfl (by kernel_rfl) ?_
      refine WX.run ttOk rfl ?_
      refine WX.cases 26 rfl (fun h3 => ?_) (fun h3 => ?_)
      · skip
        have h3d := (B.nt h3)
        refine WX.run ttOk rfl ?_
        have hP2 : laws_eqTableEntryS_L1 b a 0 = (some false) := by rw [v2, drop_get e1h]; simp only [laws_eqTableEntryS_L1, e2h, h3, cond_true, cond_false]
        have hP3 : laws_eqTableEntryS a b = false := by simp only [laws_eqTableEntryS, h1, hP2, cond_true, cond_false]
        refine WX.ret ttOk rfl ?_
        intro w1 G bs hI hΓ
        rw [hP3]
        exact ⟨rfl, trivial⟩
      · skip
        have h3d := (B.nf h3)
        refine WX.run ttOk rfl ?_
        refine WX.see rfl rfl rfl (fun _ hΓ => looks_arith rfl rfl rfl rfl (by unfold I64; omega)) ?_
        refine WX.run ttOk rfl ?_
        exact WX.iter (i + 1) ⟨(by omega), (by rw [v2, drop_get e1h]; simp only [laws_eqTableEntryS_L1, e2h, h3, cond_true, cond_false])⟩ (by dsimp only; omega) (.cons rfl (.cons rfl (.cons rfl (.nil)))) .nil .nil [0, 1] rfl
    · skip
      have h2d := B.df h2
      refine WX.run ttOk rfl ?_
      have hX1 : laws_eqTableEntryS_L1 b a 0 = none := by rw [v2, List.drop_eq_nil_of_le (show (a).length ≤ i by omega)]; simp only [laws_eqTableEntryS_L1, cond_true, cond_false]
      have hP4 : laws_eqTableEntryS a b = true := by simp only [laws_eqTableEntryS, h1, hX1, cond_true, cond_false]
      refine WX.ret ttOk rfl ?_
      intro w1 G bs hI hΓ
      rw [hP4]
      exact ⟨rfl, trivial⟩
theorem f17 (w : World) (n : Nat) (hn : n + 0 ≤ 9) (a : StateVector) (pa : Option Addr) (ca : Nat) (hpa : RdSl (hp w) pa ca a.entries) (b : StateVector) (pb : Option Addr) (cb : Nat) (hpb : RdSl (hp w) pb cb b.entries) (hoka : GoT.ok n a) (hokb : GoT.ok n b) :
    Does Try.prog 17 #[.agg #[.slice pa ((a.entries).length) ca], .agg #[.slice pb ((b.entries).length) cb]] w emp (fun (rv : Value) (_ : World) => rv = .bool (laws_eqStateVector a b) ∧ True) := by
  have hbP := bd_pos n
  have hbB := bd_big (n := n) (by omega)
  refine WX.enter (tt := tt) (Γ := [(0, MF.rs .stb pa ca a.entries), (1, MF.rs .stb pb cb b.entries)]) Try.func17 rfl (by kernel_rfl) rfl (allS_cons rfl hpa (allS_cons rfl hpb allS_nil)) ?_
  refine WX.run ttOk rfl ?_
  refine WX.callV rfl rfl rfl rfl rfl (fun _ => rfl) rfl (fun w G bs hI hΓ => f48 w n (by omega) a.entries pa ca (hΓ.get 0 rfl) b.entries pb cb (hΓ.get 1 rfl) (ok_StateVector hoka) (ok_StateVector hokb)) ?_
  intro hq1
  refine WX.run ttOk rfl ?_
  refine WX.cases 10 rfl (fun h1 => ?_) (fun h1 => ?_)
  · skip
    have h1d := (B.nt h1)
    refine WX.run ttOk rfl ?_
    have hP1 : laws_eqStateVector a b = false := by simp only [laws_eqStateVector, h1, cond_true, cond_false]
    refine WX.ret ttOk rfl ?_
    intro w1 G bs hI hΓ
    rw [hP1]
    exact ⟨rfl, trivial⟩
  · skip
    have h1d := (B.nf h1)
    refine WX.run ttOk rfl ?_
    have hP2 : laws_eqStateVector a b = true := by simp only [laws_eqStateVector, h1, cond_true, cond_false]
    refine WX.ret ttOk rfl ?_
    intro w1 G bs hI hΓ
    rw [hP2]
    exact ⟨rfl, trivial⟩
theorem f159 (w : World) (n : Nat) (hn : n + 0 ≤ 9) (a : DataP) (paName : Option Addr) (caName : Nat) (hpaName : RdSl (hp w) paName caName a.name.parts) (paContent : Option Addr) (caContent : Nat) (hpaContent : RdSl (hp w) paContent caContent a.content) (paKeyName : Option Addr) (caKeyName : Nat) (hpaKeyName : RdSl (hp w) paKeyName caKeyName a.keyName.parts) (b : DataP) (pbName : Option Addr) (cbName : Nat) (hpbName : RdSl (hp w) pbName cbName b.name.parts) (pbContent : Option Addr) (cbContent : Nat) (hpbContent : RdSl (hp w) pbContent cbContent b.content) (pbKeyName : Option Addr) (cbKeyName : Nat) (hpbKeyName : RdSl (hp w) pbKeyName cbKeyName b.keyName.parts) (hoka : GoT.ok n a) (hokb : GoT.ok n b) :
    Does Try.prog 159 #[.agg #[.slice paName ((a.name.parts).length) caName, .slice paContent ((a.content).length) caContent, .slice paKeyName ((a.keyName.parts).length) caKeyName, .int .i64 (a.freshUntil), .int .i64 (a.signature)], .agg #[.slice pbName ((b.name.parts).length) cbName, .slice pbContent ((b.content).length) cbContent, .slice pbKeyName ((b.keyName.parts).length) cbKeyName, .int .i64 (b.freshUntil), .int .i64 (b.signature)]] w emp (fun (rv : Value) (_ : World) => rv = .bool (laws_eqData a b) ∧ True) := by
  have hbP := bd_pos n
  have hbB := bd_big (n := n) (by omega)
  refine WX.enter (tt := tt) (Γ := [(0, MF.rs .stb paName caName a.name.parts), (1, MF.rs .stb paContent caContent a.content), (2, MF.rs .stb paKeyName caKeyName a.keyName.parts), (3, MF.rs .stb pbName cbName b.name.parts), (4, MF.rs .stb pbContent cbContent b.content), (5, MF.rs .stb pbKeyName cbKeyName b.keyName.parts)]) Try.func159 rfl (by kernel_rfl) rfl (allS_cons rfl hpaName (allS_cons rfl hpaContent (allS_cons rfl hpaKeyName (allS_cons rfl hpbName (allS_cons rfl hpbContent (allS_cons rfl hpbKeyName allS_nil)))))) ?_
  refine WX.run ttOk rfl ?_
  refine WX.callV rfl rfl rfl rfl rfl (fun _ => rfl) rfl (fun w G bs hI hΓ => f34 w n (by omega) a.name paName caName (hΓ.get 0 rfl) b.name pbName cbName (hΓ.get 3 rfl) ((ok_DataP hoka).1) ((ok_DataP hokb).1)) ?_
  intro hq1
  refine WX.run ttOk rfl ?_
  refine WX.cases 10 rfl (fun h1 => ?_) (fun h1 => ?_)
  · skip
    have h1d := (B.nt h1)
    refine WX.run ttOk rfl ?_
    have hP1 : laws_eqData a b = false := by simp only [laws_eqData, h1, cond_true, cond_false]
    refine WX.ret ttOk rfl ?_
    intro w1 G bs hI hΓ
    rw [hP1]
    exact ⟨rfl, trivial⟩
  · skip
    have h1d := (B.nf h1)
    refine WX.run ttOk rfl ?_
    refine WX.callV rfl rfl rfl rfl rfl (fun _ => rfl) rfl (fun w G bs hI hΓ => f16 w n (by omega) a.content paContent caContent (hΓ.get 1 rfl) b.content pbContent cbContent (hΓ.get 4 rfl) ((ok_DataP hoka).2.1) ((ok_DataP hokb).2.1)) ?_
    intro hq2
    refine WX.run ttOk rfl ?_
    refine WX.cases 16 rfl (fun h2 => ?_) (fun h2 => ?_)
    · skip
      have h2d := (B.nt h2)
      refine WX.run ttOk rfl ?_
      have hP2 : laws_eqData a b = false := by simp only [laws_eqData, h1, h2, cond_true, cond_false]
      refine WX.ret ttOk rfl ?_
      intro w1 G bs hI hΓ
      rw [hP2]
      exact ⟨rfl, trivial⟩
    · skip
      have h2d := (B.nf h2)
      refine WX.run ttOk rfl ?_
      refine WX.callV rfl rfl rfl rfl rfl (fun _ => rfl) rfl (fun w G bs hI hΓ => f34 w n (by omega) a.keyName paKeyName caKeyName (hΓ.get 2 rfl) b.keyName pbKeyName cbKeyName (hΓ.get 5 rfl) ((ok_DataP hoka).2.2.1) ((ok_DataP hokb).2.2.1)) ?_
      intro hq3
      refine WX.run ttOk rfl ?_
      refine WX.cases 22 rfl (fun h3 => ?_) (fun h3 => ?_)
      · skip
        have h3d := (B.nt h3)
        refine WX.run ttOk rfl ?_
        have hP3 : laws_eqData a b = false := by simp only [laws_eqData, h1, h2, h3, cond_true, cond_false]
        refine WX.ret ttOk rfl ?_
        intro w1 G bs hI hΓ
        rw [hP3]
        exact ⟨rfl, trivial⟩
      · skip
        have h3d := (B.nf h3)
        refine WX.run ttOk rfl ?_
        refine WX.cases 27 rfl (fun h4 => ?_) (fun h4 => ?_)
        · skip
          have h4d := B.nt' h4
          refine WX.run ttOk rfl ?_
          have hP4 : laws_eqData a b = false := by simp only [laws_eqData, h1, h2, h3, h4, cond_true, cond_false]
          refine WX.ret ttOk rfl ?_
          intro w1 G bs hI hΓ
          rw [hP4]
          exact ⟨rfl, trivial⟩
        · skip
          have h4d := B.nf' h4
          refine WX.run ttOk rfl ?_
          refine WX.cases 32 rfl (fun h5 => ?_) (fun h5 => ?_)
          · skip
            have h5d := B.nt' h5
            refine WX.run ttOk rfl ?_
            have hP5 : laws_eqData a b = false := by simp only [laws_eqData, h1, h2, h3, h4, h5, cond_true, cond_false]
            refine WX.ret ttOk rfl ?_
            intro w1 G bs hI hΓ
            rw [hP5]
            exact ⟨rfl, trivial⟩
          · skip
            have h5d := B.nf' h5
            refine WX.run ttOk rfl ?_
            have hP6 : laws_eqData a b = true := by simp only [laws_eqData, h1, h2, h3, h4, h5, cond_true, cond_false]
            refine WX.ret ttOk rfl ?_
            intro w1 G bs hI hΓ
            rw [hP6]
            exact ⟨rfl, trivial⟩
theorem f147 (w : World) (n : Nat) (hn : n + 0 ≤ 9) (a : Record) (paDataName : Option Addr) (caDataName : Nat) (hpaDataName : RdSl (hp w) paDataName caDataName a.data.name.parts) (paDataContent : Option Addr) (caDataContent : Nat) (hpaDataContent : RdSl (hp w) paDataContent caDataContent a.data.content) (paDataKeyName : Option Addr) (caDataKeyName : Nat) (hpaDataKeyName : RdSl (hp w) paDataKeyName caDataKeyName a.data.keyName.parts) (b : Record) (pbDataName : Option Addr) (cbDataName : Nat) (hpbDataName : RdSl (hp w) pbDataName cbDataName b.data.name.parts) (pbDataContent : Option Addr) (cbDataContent : Nat) (hpbDataContent : RdSl (hp w) pbDataContent cbDataContent b.data.content) (pbDataKeyName : Option Addr) (cbDataKeyName : Nat) (hpbDataKeyName : RdSl (hp w) pbDataKeyName cbDataKeyName b.data.keyName.parts) (hoka : GoT.ok n a) (hokb : GoT.ok n b) :
    Does Try.prog 147 #[.agg #[.int .i64 (a.kind), .slice paDataName ((a.data.name.parts).length) caDataName, .slice paDataContent ((a.data.content).length) caDataContent, .slice paDataKeyName ((a.data.keyName.parts).length) caDataKeyName, .int .i64 (a.data.freshUntil), .int .i64 (a.data.signature)], .agg #[.int .i64 (b.kind), .slice pbDataName ((b.data.name.parts).length) cbDataName, .slice pbDataContent ((b.data.content).length) cbDataContent, .slice pbDataKeyName ((b.data.keyName.parts).length) cbDataKeyName, .int .i64 (b.data.freshUntil), .int .i64 (b.data.signature)]] w emp (fun (rv : Value) (_ : World) => rv = .bool (laws_eqRecord a b) ∧ True) := by
  have hbP := bd_pos n
  have hbB := bd_big (n := n) (by omega)
  refine WX.enter (tt := tt) (Γ := [(0, MF.rs .stb paDataName caDataName a.data.name.parts), (1, MF.rs .stb paDataContent caDataContent a.data.content), (2, MF.rs .stb paDataKeyName caDataKeyName a.data.keyName.parts), (3, MF.rs .stb pbDataName cbDataName b.data.name.parts), (4, MF.rs .stb pbDataContent cbDataContent b.data.content), (5, MF.rs .stb pbDataKeyName cbDataKeyName b.data.keyName.parts)]) Try.func147 rfl (by kernel_rfl) rfl (allS_cons rfl hpaDataName (allS_cons rfl hpaDataContent (allS_cons rfl hpaDataKeyName (allS_cons rfl hpbDataName (allS_cons rfl hpbDataContent (allS_cons rfl hpbDataKeyName allS_nil)))))) ?_
  refine WX.run ttOk rfl ?_
  refine WX.cases 9 rfl (fun h1 => ?_) (fun h1 => ?_)
  · skip
    have h1d := B.nt' h1
    refine WX.run ttOk rfl ?_
    have hP1 : laws_eqRecord a b = false := by simp only [laws_eqRecord, h1, cond_true, cond_false]
    refine WX.ret ttOk rfl ?_
    intro w1 G bs hI hΓ
    rw [hP1]
    exact ⟨rfl, trivial⟩
  · skip
    have h1d := B.nf' h1
    refine WX.run ttOk rfl ?_
    refine WX.callV rfl rfl rfl rfl rfl (fun _ => rfl) rfl (fun w G bs hI hΓ => f159 w n (by omega) a.data paDataName caDataName (hΓ.get 0 rfl) paDataContent caDataContent (hΓ.get 1 rfl) paDataKeyName caDataKeyName (hΓ.get 2 rfl) b.data pbDataName cbDataName (hΓ.get 3 rfl) pbDataContent cbDataContent (hΓ.get 4 rfl) pbDataKeyName cbDataKeyName (hΓ.get 5 rfl) ((ok_Record hoka).2) ((ok_Record hokb).2)) ?_
    intro hq1
    refine WX.run ttOk rfl ?_
    refine WX.cases 15 rfl (fun h2 => ?_) (fun h2 => ?_)
    · skip
      have h2d := (B.nt h2)
      refine WX.run ttOk rfl ?_
      have hP2 : laws_eqRecord a b = false := by simp only [laws_eqRecord, h1, h2, cond_true, cond_false]
      refine WX.ret ttOk rfl ?_
      intro w1 G bs hI hΓ
      rw [hP2]
      exact ⟨rfl, trivial⟩
    · skip
      have h2d := (B.nf h2)
      refine WX.run ttOk rfl ?_
      have hP3 : laws_eqRecord a b = true := by simp only [laws_eqRecord, h1, h2, cond_true, cond_false]
      refine WX.ret ttOk rfl ?_
      intro w1 G bs hI hΓ
      rw [hP3]
      exact ⟨rfl, trivial⟩
theorem f121 (w : World) (n : Nat) (hn : n + 0 ≤ 9) (a : (List Record)) (pa : Option Addr) (ca : Nat) (hpa : RdSl (hp w) pa ca a) (b : (List Record)) (pb : Option Addr) (cb : Nat) (hpb : RdSl (hp w) pb cb b) (hoka : GoT.ok n a) (hokb : GoT.ok n b) :
    Does Try.prog 121 #[.slice pa ((a).length) ca, .slice pb ((b).length) cb] w emp (fun (rv : Value) (_ : World) => rv = .bool (laws_eqRecordS a b) ∧ True) := by
  have hbP := bd_pos n
  have hbB := bd_big (n := n) (by omega)
  refine WX.enter (tt := tt) (Γ := [(0, MF.rs .stb pa ca a), (1, MF.rs .stb pb cb b)]) Try.func121 rfl (by kernel_rfl) rfl (allS_cons rfl hpa (allS_cons rfl hpb allS_nil)) ?_
  refine WX.run ttOk rfl ?_
  refine WX.cases 10 rfl (fun h1 => ?_) (fun h1 => ?_)
  · skip
    have h1d := B.nt' h1
    refine WX.run ttOk rfl ?_
    have hP1 : laws_eqRecordS a b = false := by simp only [laws_eqRecordS, h1, cond_true, cond_false]
    refine WX.ret ttOk rfl ?_
    intro w1 G bs hI hΓ
    rw [hP1]
    exact ⟨rfl, trivial⟩
  · skip
    have h1d := B.nf' h1
    refine WX.run ttOk rfl ?_
    have r1 : (a).length ≤ bd n := (okl hoka).1
    refine WX.loop (ι := Nat) ⟨fun i => (i ≤ (a).length) ∧ (laws_eqRecordS_L1 b a 0 = laws_eqRecordS_L1 b ((a).drop i) i), fun i => (a).length - i, fun i => [(5, .v (.int .i64 (((i : Nat) : Int)))), (0, .v (.slice pa ((a).length) ca)), (1, .v (.slice pb ((b).length) cb))], fun i => [], fun i => [], fun i => [(0, MF.rs .stb pa ca a), (1, MF.rs .stb pb cb b)]⟩ 0 ⟨(Nat.zero_le _), rfl⟩
      (.cons rfl (.cons rfl (.cons rfl (.nil)))) .nil .nil [0, 1] rfl ?_
    rintro i hpre
    have hpre_ : (i ≤ (a).length) ∧ (laws_eqRecordS_L1 b a 0 = laws_eqRecordS_L1 b ((a).drop i) i) := hpre
    clear hpre
    obtain ⟨v1, v2⟩ := hpre_
    refine WX.run ttOk rfl ?_
    refine WX.cases 14 rfl (fun h2 => ?_) (fun h2 => ?_)
    · skip
      have h2d := B.dt h2
      have e1i : i < (a).length := (by omega)
      obtain ⟨e1, e1h⟩ : ∃ e1, (a)[i]? = some e1 := ⟨_, List.getElem?_eq_getElem e1i⟩
      have ok1 : GoT.ok n e1 := (okl hoka).2 _ (List.mem_of_getElem? e1h)
      refine WX.run ttOk rfl ?_
      refine WX.draw [] mixed ?_
      intro bs G0 hΓ0
      refine DX.takes (fuel := 8) ttOk [(0, true), (1, true)] (by kernel_rfl) rfl ?_
      refine DX.idx 2 0 i ttOk hΓ0 (by kernel_rfl) rfl rfl rfl rfl rfl rfl rfl rfl rfl rfl rfl e1i ?_
      rintro ad1 rfl
      refine DX.ldE 3 0 2 e1 ttOk hΓ0 (by kernel_rfl) rfl rfl rfl rfl rfl rfl rfl rfl e1h (fun _ => rfl) (fun _ => rfl) ?_
      rintro ⟨⟨⟩, ⟨⟨p1, c1⟩, ⟨p2, c2⟩, ⟨p3, c3⟩, ⟨⟩, ⟨⟩⟩⟩
      refine DX.takes (fuel := 4) ttOk [(4, true), (5, true)] (by kernel_rfl) rfl ?_
      have e2i : i < (b).length := (by first | assumption | omega)
      obtain ⟨e2, e2h⟩ : ∃ e2, (b)[i]? = some e2 := ⟨_, List.getElem?_eq_getElem e2i⟩
      have ok2 : GoT.ok n e2 := (okl hokb).2 _ (List.mem_of_getElem? e2h)
      refine DX.idx 6 1 i ttOk hΓ0 (by kernel_rfl) rfl rfl rfl rfl rfl rfl rfl rfl rfl rfl rfl e2i ?_
      rintro ad2 rfl
      refine DX.ldE 7 1 5 e2 ttOk hΓ0 (by kernel_rfl) rfl rfl rfl rfl rfl rfl rfl rfl e2h (fun _ => rfl) (fun _ => rfl) ?_
      rintro ⟨⟨⟩, ⟨⟨p4, c4⟩, ⟨p5, c5⟩, ⟨p6, c6⟩, ⟨⟩, ⟨⟩⟩⟩
      refine DX.callV 8 rfl (by kernel_rfl) rfl rfl rfl rfl rfl rfl (fun _ => rfl) rfl (fun w G bs hI hΓ => f147 w n (by omega) e1 p1 c1 (hΓ.get 2 rfl) p2 c2 (hΓ.get 3 rfl) p3 c3 (hΓ.get 4 rfl) e2 p4 c4 (hΓ.get 5 rfl) p5 c5 (hΓ.get 6 rfl) p6 c6 (hΓ.get 7 rfl) ok1 ok2) ?_
      intro hq1
      refine DX.takes (fuel := 0) ttOk [(9, true)] (by kernel_rfl) rfl ?_
      refine DX.tail2 [] rfl rfl (by kernel_rfl) ?_
      refine WX.run ttOk rfl ?_
      refine WX.cases 26 rfl (fun h3 => ?_) (fun h3 => ?_)
      · skip
        have h3d := (B.nt h3)
        refine WX.run ttOk rfl ?_
        have hP2 : laws_eqRecordS_L1 b a 0 = (some false) := by rw [v2, drop_get e1h]; simp only [laws_eqRecordS_L1, e2h, h3, cond_true, cond_false]
        have hP3 : laws_eqRecordS a b = false := by simp only [laws_eqRecordS, h1, hP2, cond_true, cond_false]
        refine WX.ret ttOk rfl ?_
        intro w1 G bs hI hΓ
        rw [hP3]
        exact ⟨rfl, trivial⟩
      · skip
        have h3d := (B.nf h3)
        refine WX.run ttOk rfl ?_
        refine WX.see rfl rfl rfl (fun _ hΓ => looks_arith rfl rfl rfl rfl (by unfold I64; omega)) ?_
        refine WX.run ttOk rfl ?_
        exact WX.iter (i + 1) ⟨(by omega), (by rw [v2, drop_get e1h]; simp only [laws_eqRecordS_L1, e2h, h3, cond_true, cond_false])⟩ (by dsimp only; omega) (.cons rfl (.cons rfl (.cons rfl (.nil)))) .nil .nil [0, 1] rfl
    · skip
      have h2d := B.df h2
      refine WX.run ttOk rfl ?_
      have hX1 : laws_eqRecordS_L1 b a 0 = none := by rw [v2, List.drop_eq_nil_of_le (show (a).length ≤ i by omega)]; simp only [laws_eqRecordS_L1, cond_true, cond_false]
      have hP4 : laws_eqRecordS a b = true := by simp only [laws_eqRecordS, h1, hX1, cond_true, cond_false]
      refine WX.ret ttOk rfl ?_
      intro w1 G bs hI hΓ
      rw [hP4]
      exact ⟨rfl, trivial⟩
theorem f71 (w : World) (n : Nat) (hn : n + 0 ≤ 9) (a : Log) (paDurable : Option Addr) (caDurable : Nat) (hpaDurable : RdSl (hp w) paDurable caDurable a.durable) (paVolatile : Option Addr) (caVolatile : Nat) (hpaVolatile : RdSl (hp w) paVolatile caVolatile a.volatile) (b : Log) (pbDurable : Option Addr) (cbDurable : Nat) (hpbDurable : RdSl (hp w) pbDurable cbDurable b.durable) (pbVolatile : Option Addr) (cbVolatile : Nat) (hpbVolatile : RdSl (hp w) pbVolatile cbVolatile b.volatile) (hoka : GoT.ok n a) (hokb : GoT.ok n b) :
    Does Try.prog 71 #[.agg #[.slice paDurable ((a.durable).length) caDurable, .slice paVolatile ((a.volatile).length) caVolatile], .agg #[.slice pbDurable ((b.durable).length) cbDurable, .slice pbVolatile ((b.volatile).length) cbVolatile]] w emp (fun (rv : Value) (_ : World) => rv = .bool (laws_eqLog a b) ∧ True) := by
  have hbP := bd_pos n
  have hbB := bd_big (n := n) (by omega)
  refine WX.enter (tt := tt) (Γ := [(0, MF.rs .stb paDurable caDurable a.durable), (1, MF.rs .stb paVolatile caVolatile a.volatile), (2, MF.rs .stb pbDurable cbDurable b.durable), (3, MF.rs .stb pbVolatile cbVolatile b.volatile)]) Try.func71 rfl (by kernel_rfl) rfl (allS_cons rfl hpaDurable (allS_cons rfl hpaVolatile (allS_cons rfl hpbDurable (allS_cons rfl hpbVolatile allS_nil)))) ?_
  refine WX.run ttOk rfl ?_
  refine WX.callV rfl rfl rfl rfl rfl (fun _ => rfl) rfl (fun w G bs hI hΓ => f121 w n (by omega) a.durable paDurable caDurable (hΓ.get 0 rfl) b.durable pbDurable cbDurable (hΓ.get 2 rfl) ((ok_Log hoka).1) ((ok_Log hokb).1)) ?_
  intro hq1
  refine WX.run ttOk rfl ?_
  refine WX.cases 10 rfl (fun h1 => ?_) (fun h1 => ?_)
  · skip
    have h1d := (B.nt h1)
    refine WX.run ttOk rfl ?_
    have hP1 : laws_eqLog a b = false := by simp only [laws_eqLog, h1, cond_true, cond_false]
    refine WX.ret ttOk rfl ?_
    intro w1 G bs hI hΓ
    rw [hP1]
    exact ⟨rfl, trivial⟩
  · skip
    have h1d := (B.nf h1)
    refine WX.run ttOk rfl ?_
    refine WX.callV rfl rfl rfl rfl rfl (fun _ => rfl) rfl (fun w G bs hI hΓ => f121 w n (by omega) a.volatile paVolatile caVolatile (hΓ.get 1 rfl) b.volatile pbVolatile cbVolatile (hΓ.get 3 rfl) ((ok_Log hoka).2) ((ok_Log hokb).2)) ?_
    intro hq2
    refine WX.run ttOk rfl ?_
    refine WX.cases 16 rfl (fun h2 => ?_) (fun h2 => ?_)
    · skip
      have h2d := (B.nt h2)
      refine WX.run ttOk rfl ?_
      have hP2 : laws_eqLog a b = false := by simp only [laws_eqLog, h1, h2, cond_true, cond_false]
      refine WX.ret ttOk rfl ?_
      intro w1 G bs hI hΓ
      rw [hP2]
      exact ⟨rfl, trivial⟩
    · skip
      have h2d := (B.nf h2)
      refine WX.run ttOk rfl ?_
      have hP3 : laws_eqLog a b = true := by simp only [laws_eqLog, h1, h2, cond_true, cond_false]
      refine WX.ret ttOk rfl ?_
      intro w1 G bs hI hΓ
      rw [hP3]
      exact ⟨rfl, trivial⟩
theorem f33 (w : World) (n : Nat) (hn : n + 0 ≤ 9) (a : Repository) (paLogDurable : Option Addr) (caLogDurable : Nat) (hpaLogDurable : RdSl (hp w) paLogDurable caLogDurable a.log.durable) (paLogVolatile : Option Addr) (caLogVolatile : Nat) (hpaLogVolatile : RdSl (hp w) paLogVolatile caLogVolatile a.log.volatile) (b : Repository) (pbLogDurable : Option Addr) (cbLogDurable : Nat) (hpbLogDurable : RdSl (hp w) pbLogDurable cbLogDurable b.log.durable) (pbLogVolatile : Option Addr) (cbLogVolatile : Nat) (hpbLogVolatile : RdSl (hp w) pbLogVolatile cbLogVolatile b.log.volatile) (hoka : GoT.ok n a) (hokb : GoT.ok n b) :
    Does Try.prog 33 #[.agg #[.slice paLogDurable ((a.log.durable).length) caLogDurable, .slice paLogVolatile ((a.log.volatile).length) caLogVolatile, .int .i64 (a.quota)], .agg #[.slice pbLogDurable ((b.log.durable).length) cbLogDurable, .slice pbLogVolatile ((b.log.volatile).length) cbLogVolatile, .int .i64 (b.quota)]] w emp (fun (rv : Value) (_ : World) => rv = .bool (laws_eqRepository a b) ∧ True) := by
  have hbP := bd_pos n
  have hbB := bd_big (n := n) (by omega)
  refine WX.enter (tt := tt) (Γ := [(0, MF.rs .stb paLogDurable caLogDurable a.log.durable), (1, MF.rs .stb paLogVolatile caLogVolatile a.log.volatile), (2, MF.rs .stb pbLogDurable cbLogDurable b.log.durable), (3, MF.rs .stb pbLogVolatile cbLogVolatile b.log.volatile)]) Try.func33 rfl (by kernel_rfl) rfl (allS_cons rfl hpaLogDurable (allS_cons rfl hpaLogVolatile (allS_cons rfl hpbLogDurable (allS_cons rfl hpbLogVolatile allS_nil)))) ?_
  refine WX.run ttOk rfl ?_
  refine WX.callV rfl rfl rfl rfl rfl (fun _ => rfl) rfl (fun w G bs hI hΓ => f71 w n (by omega) a.log paLogDurable caLogDurable (hΓ.get 0 rfl) paLogVolatile caLogVolatile (hΓ.get 1 rfl) b.log pbLogDurable cbLogDurable (hΓ.get 2 rfl) pbLogVolatile cbLogVolatile (hΓ.get 3 rfl) ((ok_Repository hoka).1) ((ok_Repository hokb).1)) ?_
  intro hq1
  refine WX.run ttOk rfl ?_
  refine WX.cases 10 rfl (fun h1 => ?_) (fun h1 => ?_)
  · skip
    have h1d := (B.nt h1)
    refine WX.run ttOk rfl ?_
    have hP1 : laws_eqRepository a b = false := by simp only [laws_eqRepository, h1, cond_true, cond_false]
    refine WX.ret ttOk rfl ?_
    intro w1 G bs hI hΓ
    rw [hP1]
    exact ⟨rfl, trivial⟩
  · skip
    have h1d := (B.nf h1)
    refine WX.run ttOk rfl ?_
    refine WX.cases 15 rfl (fun h2 => ?_) (fun h2 => ?_)
    · skip
      have h2d := B.nt' h2
      refine WX.run ttOk rfl ?_
      have hP2 : laws_eqRepository a b = false := by simp only [laws_eqRepository, h1, h2, cond_true, cond_false]
      refine WX.ret ttOk rfl ?_
      intro w1 G bs hI hΓ
      rw [hP2]
      exact ⟨rfl, trivial⟩
    · skip
      have h2d := B.nf' h2
      refine WX.run ttOk rfl ?_
      have hP3 : laws_eqRepository a b = true := by simp only [laws_eqRepository, h1, h2, cond_true, cond_false]
      refine WX.ret ttOk rfl ?_
      intro w1 G bs hI hΓ
      rw [hP3]
      exact ⟨rfl, trivial⟩
end Go.Proofs.Ytdkhklhnipiheaa
