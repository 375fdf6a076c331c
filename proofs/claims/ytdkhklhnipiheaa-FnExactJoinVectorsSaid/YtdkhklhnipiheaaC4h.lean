/-
  That functions of the program compute what the Lean functions do. No condition but what each says. Written by a program (gen2.py).
-/
import Derived.Test.YtdkhklhnipiheaaC4
import Derived.Test.YtdkhklhnipiheaaP4h
namespace Go.Proofs.Ytdkhklhnipiheaa
open Go.Stp
set_option linter.unusedVariables false
set_option linter.unusedSimpArgs false
theorem f20 (w : World) (n : Nat) (hn : n + 0 ≤ 9) (a : (List UInt8)) (pa : Option Addr) (ca : Nat) (hpa : RdSl (hp w) pa ca a) (k : Int) (hoka : GoT.ok n a) (hokk : GoT.ok n k) :
    Does Try.prog 20 #[.slice pa ((a).length) ca, .int .i64 (k)] w emp (fun (rv : Value) (_ : World) => rv = .int .i64 ((laws_heldByteS a k)) ∧ GoT.ok n ((laws_heldByteS a k) : Int)) := by
  have hbP := bd_pos n
  have hbB := bd_big (n := n) (by omega)
  refine WX.enter (tt := tt) (Γ := [(0, MF.rs .stb pa ca a)]) Try.func20 rfl (by kernel_rfl) rfl (allS_cons rfl hpa allS_nil) ?_
  refine WX.run ttOk rfl ?_
  have r1 : (a).length ≤ bd n := (okl hoka).1
  refine WX.loop (ι := Int × Nat) ⟨fun | (k2, i) => (i ≤ (a).length) ∧ (-9223372036854775808 ≤ k2 ∧ k2 ≤ 9223372036854775807) ∧ (laws_heldByteS_L1 a k = laws_heldByteS_L1 ((a).drop i) k2), fun | (k2, i) => (a).length - i, fun | (k2, i) => [(1, .v (.int .i64 (k2))), (5, .v (.int .i64 (((i : Nat) : Int)))), (0, .v (.slice pa ((a).length) ca))], fun | (k2, i) => [], fun | (k2, i) => [], fun | (k2, i) => [(0, MF.rs .stb pa ca a)]⟩ (k, 0) ⟨(Nat.zero_le _), hokk, rfl⟩
    (.cons rfl (.cons rfl (.cons rfl (.nil)))) .nil .nil [0] rfl ?_
  rintro ⟨k2, i⟩ hpre
  have hpre_ : (i ≤ (a).length) ∧ (-9223372036854775808 ≤ k2 ∧ k2 ≤ 9223372036854775807) ∧ (laws_heldByteS_L1 a k = laws_heldByteS_L1 ((a).drop i) k2) := hpre
  clear hpre
  obtain ⟨v1, v2, v3⟩ := hpre_
  refine WX.run ttOk rfl ?_
  refine WX.cases 9 rfl (fun h1 => ?_) (fun h1 => ?_)
  · skip
    have h1d := B.dt h1
    have e1i : i < (a).length := (by omega)
    obtain ⟨e1, e1h⟩ : ∃ e1, (a)[i]? = some e1 := ⟨_, List.getElem?_eq_getElem e1i⟩
    refine WX.run ttOk rfl ?_
    refine WX.idx 0 i ttOk rfl rfl rfl rfl rfl rfl rfl rfl rfl rfl e1i ?_
    rintro ad1 rfl
    refine WX.ldE 0 1 e1 ttOk rfl rfl rfl rfl rfl rfl rfl rfl e1h (fun _ => rfl) (fun _ => rfl) ?_
    rintro ⟨⟩
    refine WX.run ttOk rfl ?_
    refine WX.see rfl rfl rfl (fun _ hΓ => looks_toU8 ttOk rfl rfl rfl rfl rfl rfl) ?_
    refine WX.run ttOk rfl ?_
    refine WX.cases 18 rfl (fun h2 => ?_) (fun h2 => ?_)
    · skip
      have h2d := B.nt' h2
      refine WX.run ttOk rfl ?_
      have hP1 : laws_heldByteS_L1 a k = (Ctl.ret (-1)) := by rw [v3, drop_get e1h]; simp only [laws_heldByteS_L1, h2, cond_true, cond_false]
      have hP2 : laws_heldByteS a k = (-1) := by simp only [laws_heldByteS, hP1, cond_true, cond_false]
      refine WX.ret ttOk rfl ?_
      intro w1 G bs hI hΓ
      rw [hP2]
      exact ⟨rfl, (show I64 (-1) from (by unfold I64; omega))⟩
    · skip
      have h2d := B.nf' h2
      refine WX.run ttOk rfl ?_
      refine WX.see rfl rfl rfl (fun _ hΓ => looks_wrap rfl rfl rfl rfl) ?_
      refine WX.run ttOk rfl ?_
      refine WX.see rfl rfl rfl (fun _ hΓ => looks_arith rfl rfl rfl rfl (by unfold I64; omega)) ?_
      refine WX.run ttOk rfl ?_
      exact WX.iter (IntKind.i64.wrap (k2 + 1), i + 1) ⟨(by omega), (i64_wrap _), (by rw [v3, drop_get e1h]; simp only [laws_heldByteS_L1, h2, cond_true, cond_false])⟩ (by dsimp only; omega) (.cons rfl (.cons rfl (.cons rfl (.nil)))) .nil .nil [0] rfl
  · skip
    have h1d := B.df h1
    refine WX.run ttOk rfl ?_
    have hX1 : laws_heldByteS_L1 a k = (Ctl.nxt k2) := by rw [v3, List.drop_eq_nil_of_le (show (a).length ≤ i by omega)]; simp only [laws_heldByteS_L1, cond_true, cond_false]
    have hP3 : laws_heldByteS a k = k2 := by simp only [laws_heldByteS, hX1, cond_true, cond_false]
    refine WX.ret ttOk rfl ?_
    intro w1 G bs hI hΓ
    rw [hP3]
    exact ⟨rfl, v2⟩
theorem f93 (w : World) (n : Nat) (hn : n + 0 ≤ 9) (a : (List Str)) (pa : Option Addr) (ca : Nat) (hpa : RdSl (hp w) pa ca a) (k : Int) (hoka : GoT.ok n a) (hokk : GoT.ok n k) :
    Does Try.prog 93 #[.slice pa ((a).length) ca, .int .i64 (k)] w emp (fun (rv : Value) (_ : World) => rv = .int .i64 ((laws_heldStringS a k)) ∧ GoT.ok n ((laws_heldStringS a k) : Int)) := by
  have hbP := bd_pos n
  have hbB := bd_big (n := n) (by omega)
  refine WX.enter (tt := tt) (Γ := [(0, MF.rs .stb pa ca a)]) Try.func93 rfl (by kernel_rfl) rfl (allS_cons rfl hpa allS_nil) ?_
  refine WX.run ttOk rfl ?_
  have r1 : (a).length ≤ bd n := (okl hoka).1
  refine WX.loop (ι := Int × Nat) ⟨fun | (k2, i) => (i ≤ (a).length) ∧ (-9223372036854775808 ≤ k2 ∧ k2 ≤ 9223372036854775807) ∧ (laws_heldStringS_L1 a k = laws_heldStringS_L1 ((a).drop i) k2), fun | (k2, i) => (a).length - i, fun | (k2, i) => [(1, .v (.int .i64 (k2))), (5, .v (.int .i64 (((i : Nat) : Int)))), (0, .v (.slice pa ((a).length) ca))], fun | (k2, i) => [], fun | (k2, i) => [], fun | (k2, i) => [(0, MF.rs .stb pa ca a)]⟩ (k, 0) ⟨(Nat.zero_le _), hokk, rfl⟩
    (.cons rfl (.cons rfl (.cons rfl (.nil)))) .nil .nil [0] rfl ?_
  rintro ⟨k2, i⟩ hpre
  have hpre_ : (i ≤ (a).length) ∧ (-9223372036854775808 ≤ k2 ∧ k2 ≤ 9223372036854775807) ∧ (laws_heldStringS_L1 a k = laws_heldStringS_L1 ((a).drop i) k2) := hpre
  clear hpre
  obtain ⟨v1, v2, v3⟩ := hpre_
  refine WX.run ttOk rfl ?_
  refine WX.cases 9 rfl (fun h1 => ?_) (fun h1 => ?_)
  · skip
    have h1d := B.dt h1
    have e1i : i < (a).length := (by omega)
    obtain ⟨e1, e1h⟩ : ∃ e1, (a)[i]? = some e1 := ⟨_, List.getElem?_eq_getElem e1i⟩
    have ok1 : GoT.ok n e1 := (okl hoka).2 _ (List.mem_of_getElem? e1h)
    refine WX.run ttOk rfl ?_
    refine WX.draw [] mixed ?_
    intro bs G0 hΓ0
    refine DX.takes (fuel := 5) ttOk [(0, true), (1, true)] (by kernel_rfl) rfl ?_
    refine DX.idx 2 0 i ttOk hΓ0 (by kernel_rfl) rfl rfl rfl rfl rfl rfl rfl rfl rfl rfl rfl e1i ?_
    rintro ad1 rfl
    refine DX.ldE 3 0 1 e1 ttOk hΓ0 (by kernel_rfl) rfl rfl rfl rfl rfl rfl rfl rfl e1h (fun _ => rfl) (fun _ => rfl) ?_
    rintro ⟨⟩
    refine DX.takes (fuel := 2) ttOk [(4, true)] (by kernel_rfl) rfl ?_
    refine DX.callV 5 rfl (by kernel_rfl) rfl rfl rfl rfl rfl rfl (fun _ => rfl) rfl (fun w G bs hI hΓ => f123 w n (by omega) k2 v2) ?_
    intro hq1
    refine DX.takes (fuel := 0) ttOk [(6, true)] (by kernel_rfl) rfl ?_
    refine DX.tail2 [] rfl rfl (by kernel_rfl) ?_
    refine WX.run ttOk rfl ?_
    refine WX.cases 18 rfl (fun h2 => ?_) (fun h2 => ?_)
    · skip
      have h2d := B.ef (B.nt h2)
      refine WX.run ttOk rfl ?_
      have hP1 : laws_heldStringS_L1 a k = (Ctl.ret (-1)) := by rw [v3, drop_get e1h]; simp only [laws_heldStringS_L1, h2, cond_true, cond_false]
      have hP2 : laws_heldStringS a k = (-1) := by simp only [laws_heldStringS, hP1, cond_true, cond_false]
      refine WX.ret ttOk rfl ?_
      intro w1 G bs hI hΓ
      rw [hP2]
      exact ⟨rfl, (show I64 (-1) from (by unfold I64; omega))⟩
    · skip
      have h2d := B.et (B.nf h2)
      refine WX.run ttOk rfl ?_
      refine WX.see rfl rfl rfl (fun _ hΓ => looks_wrap rfl rfl rfl rfl) ?_
      refine WX.run ttOk rfl ?_
      refine WX.see rfl rfl rfl (fun _ hΓ => looks_arith rfl rfl rfl rfl (by unfold I64; omega)) ?_
      refine WX.run ttOk rfl ?_
      exact WX.iter (IntKind.i64.wrap (k2 + 1), i + 1) ⟨(by omega), (i64_wrap _), (by rw [v3, drop_get e1h]; simp only [laws_heldStringS_L1, h2, cond_true, cond_false])⟩ (by dsimp only; omega) (.cons rfl (.cons rfl (.cons rfl (.nil)))) .nil .nil [0] rfl
  · skip
    have h1d := B.df h1
    refine WX.run ttOk rfl ?_
    have hX1 : laws_heldStringS_L1 a k = (Ctl.nxt k2) := by rw [v3, List.drop_eq_nil_of_le (show (a).length ≤ i by omega)]; simp only [laws_heldStringS_L1, cond_true, cond_false]
    have hP3 : laws_heldStringS a k = k2 := by simp only [laws_heldStringS, hX1, cond_true, cond_false]
    refine WX.ret ttOk rfl ?_
    intro w1 G bs hI hΓ
    rw [hP3]
    exact ⟨rfl, v2⟩
theorem f54 (w : World) (n : Nat) (hn : n + 0 ≤ 9) (a : (List TableEntry)) (pa : Option Addr) (ca : Nat) (hpa : RdSl (hp w) pa ca a) (k : Int) (hoka : GoT.ok n a) (hokk : GoT.ok n k) :
    Does Try.prog 54 #[.slice pa ((a).length) ca, .int .i64 (k)] w emp (fun (rv : Value) (_ : World) => rv = .int .i64 ((laws_heldTableEntryS a k)) ∧ GoT.ok n ((laws_heldTableEntryS a k) : Int)) := by
  have hbP := bd_pos n
  have hbB := bd_big (n := n) (by omega)
  refine WX.enter (tt := tt) (Γ := [(0, MF.rs .stb pa ca a)]) Try.func54 rfl (by kernel_rfl) rfl (allS_cons rfl hpa allS_nil) ?_
  refine WX.run ttOk rfl ?_
  have r1 : (a).length ≤ bd n := (okl hoka).1
  refine WX.loop (ι := Int × Nat) ⟨fun | (k2, i) => (i ≤ (a).length) ∧ (-9223372036854775808 ≤ k2 ∧ k2 ≤ 9223372036854775807) ∧ (laws_heldTableEntryS_L1 a k = laws_heldTableEntryS_L1 ((a).drop i) k2), fun | (k2, i) => (a).length - i, fun | (k2, i) => [(1, .v (.int .i64 (k2))), (5, .v (.int .i64 (((i : Nat) : Int)))), (0, .v (.slice pa ((a).length) ca))], fun | (k2, i) => [], fun | (k2, i) => [], fun | (k2, i) => [(0, MF.rs .stb pa ca a)]⟩ (k, 0) ⟨(Nat.zero_le _), hokk, rfl⟩
    (.cons rfl (.cons rfl (.cons rfl (.nil)))) .nil .nil [0] rfl ?_
  rintro ⟨k2, i⟩ hpre
  have hpre_ : (i ≤ (a).length) ∧ (-9223372036854775808 ≤ k2 ∧ k2 ≤ 9223372036854775807) ∧ (laws_heldTableEntryS_L1 a k = laws_heldTableEntryS_L1 ((a).drop i) k2) := hpre
  clear hpre
  obtain ⟨v1, v2, v3⟩ := hpre_
  refine WX.run ttOk rfl ?_
  refine WX.cases 9 rfl (fun h1 => ?_) (fun h1 => ?_)
  · skip
    have h1d := B.dt h1
    have e1i : i < (a).length := (by omega)
    obtain ⟨e1, e1h⟩ : ∃ e1, (a)[i]? = some e1 := ⟨_, List.getElem?_eq_getElem e1i⟩
    have ok1 : GoT.ok n e1 := (okl hoka).2 _ (List.mem_of_getElem? e1h)
    refine WX.run ttOk rfl ?_
    refine WX.idx 0 i ttOk rfl rfl rfl rfl rfl rfl rfl rfl rfl rfl e1i ?_
    rintro ad1 rfl
    refine WX.run ttOk rfl ?_
    refine WX.ldE 0 1 e1 ttOk rfl rfl rfl rfl rfl rfl rfl rfl e1h (fun _ => rfl) (fun _ => rfl) ?_
    rintro ⟨⟨p1, c1⟩, ⟨⟩⟩
    refine WX.run ttOk rfl ?_
    refine WX.callV rfl rfl rfl rfl rfl (fun _ => rfl) rfl (fun w G bs hI hΓ => f93 w n (by omega) e1.name.parts p1 c1 (hΓ.get 1 rfl) k2 (ok_Name (ok_TableEntry ok1).1) v2) ?_
    intro hq1
    refine WX.run ttOk rfl ?_
    refine WX.cases 21 rfl (fun h2 => ?_) (fun h2 => ?_)
    · skip
      have h2d := B.dt h2
      refine WX.run ttOk rfl ?_
      have hP1 : laws_heldTableEntryS_L1 a k = (Ctl.ret (-1)) := by rw [v3, drop_get e1h]; simp only [laws_heldTableEntryS_L1, h2, cond_true, cond_false]
      have hP2 : laws_heldTableEntryS a k = (-1) := by simp only [laws_heldTableEntryS, hP1, cond_true, cond_false]
      refine WX.ret ttOk rfl ?_
      intro w1 G bs hI hΓ
      rw [hP2]
      exact ⟨rfl, (show I64 (-1) from (by unfold I64; omega))⟩
    · skip
      have h2d := B.df h2
      refine WX.run ttOk rfl ?_
      refine WX.idx 0 i ttOk rfl rfl rfl rfl rfl rfl rfl rfl rfl rfl e1i ?_
      rintro ad2 ⟨⟩
      refine WX.run ttOk rfl ?_
      refine WX.ldE 0 2 e1 ttOk rfl rfl rfl rfl rfl rfl rfl rfl e1h (fun _ => rfl) (fun _ => rfl) ?_
      rintro ⟨⟨p2, c2⟩, ⟨⟩⟩
      refine WX.run ttOk rfl ?_
      refine WX.cases 28 rfl (fun h3 => ?_) (fun h3 => ?_)
      · skip
        have h3d := B.nt' h3
        refine WX.run ttOk rfl ?_
        have hP3 : laws_heldTableEntryS_L1 a k = (Ctl.ret (-1)) := by rw [v3, drop_get e1h]; simp only [laws_heldTableEntryS_L1, h2, h3, cond_true, cond_false]
        have hP4 : laws_heldTableEntryS a k = (-1) := by simp only [laws_heldTableEntryS, hP3, cond_true, cond_false]
        refine WX.ret ttOk rfl ?_
        intro w1 G bs hI hΓ
        rw [hP4]
        exact ⟨rfl, (show I64 (-1) from (by unfold I64; omega))⟩
      · skip
        have h3d := B.nf' h3
        refine WX.run ttOk rfl ?_
        refine WX.see rfl rfl rfl (fun _ hΓ => looks_wrap rfl rfl rfl rfl) ?_
        refine WX.run ttOk rfl ?_
        refine WX.see rfl rfl rfl (fun _ hΓ => looks_arith rfl rfl rfl rfl (by unfold I64; omega)) ?_
        refine WX.run ttOk rfl ?_
        exact WX.iter (IntKind.i64.wrap ((laws_heldStringS e1.name.parts k2) + 1), i + 1) ⟨(by omega), (i64_wrap _), (by rw [v3, drop_get e1h]; simp only [laws_heldTableEntryS_L1, h2, h3, cond_true, cond_false])⟩ (by dsimp only; omega) (.cons rfl (.cons rfl (.cons rfl (.nil)))) .nil .nil [0] rfl
  · skip
    have h1d := B.df h1
    refine WX.run ttOk rfl ?_
    have hX1 : laws_heldTableEntryS_L1 a k = (Ctl.nxt k2) := by rw [v3, List.drop_eq_nil_of_le (show (a).length ≤ i by omega)]; simp only [laws_heldTableEntryS_L1, cond_true, cond_false]
    have hP5 : laws_heldTableEntryS a k = k2 := by simp only [laws_heldTableEntryS, hX1, cond_true, cond_false]
    refine WX.ret ttOk rfl ?_
    intro w1 G bs hI hΓ
    rw [hP5]
    exact ⟨rfl, v2⟩
theorem f24 (w : World) (n : Nat) (hn : n + 0 ≤ 9) (a : StateVector) (pa : Option Addr) (ca : Nat) (hpa : RdSl (hp w) pa ca a.entries) (k : Int) (hoka : GoT.ok n a) (hokk : GoT.ok n k) :
    Does Try.prog 24 #[.agg #[.slice pa ((a.entries).length) ca], .int .i64 (k)] w emp (fun (rv : Value) (_ : World) => rv = .int .i64 ((laws_heldStateVector a k)) ∧ GoT.ok n ((laws_heldStateVector a k) : Int)) := by
  have hbP := bd_pos n
  have hbB := bd_big (n := n) (by omega)
  refine WX.enter (tt := tt) (Γ := [(0, MF.rs .stb pa ca a.entries)]) Try.func24 rfl (by kernel_rfl) rfl (allS_cons rfl hpa allS_nil) ?_
  refine WX.run ttOk rfl ?_
  refine WX.callV rfl rfl rfl rfl rfl (fun _ => rfl) rfl (fun w G bs hI hΓ => f54 w n (by omega) a.entries pa ca (hΓ.get 0 rfl) k (ok_StateVector hoka) hokk) ?_
  intro hq1
  refine WX.run ttOk rfl ?_
  refine WX.cases 10 rfl (fun h1 => ?_) (fun h1 => ?_)
  · skip
    have h1d := B.dt h1
    refine WX.run ttOk rfl ?_
    have hP1 : laws_heldStateVector a k = (-1) := by simp only [laws_heldStateVector, h1, cond_true, cond_false]
    refine WX.ret ttOk rfl ?_
    intro w1 G bs hI hΓ
    rw [hP1]
    exact ⟨rfl, (show I64 (-1) from (by unfold I64; omega))⟩
  · skip
    have h1d := B.df h1
    refine WX.run ttOk rfl ?_
    have hP2 : laws_heldStateVector a k = (laws_heldTableEntryS a.entries k) := by simp only [laws_heldStateVector, h1, cond_true, cond_false]
    refine WX.ret ttOk rfl ?_
    intro w1 G bs hI hΓ
    rw [hP2]
    exact ⟨rfl, hq1⟩
theorem f124 (w : World) (n : Nat) (hn : n + 0 ≤ 9) (a : (List Record)) (pa : Option Addr) (ca : Nat) (hpa : RdSl (hp w) pa ca a) (k : Int) (hoka : GoT.ok n a) (hokk : GoT.ok n k) :
    Does Try.prog 124 #[.slice pa ((a).length) ca, .int .i64 (k)] w emp (fun (rv : Value) (_ : World) => rv = .int .i64 ((laws_heldRecordS a k)) ∧ GoT.ok n ((laws_heldRecordS a k) : Int)) := by
  have hbP := bd_pos n
  have hbB := bd_big (n := n) (by omega)
  refine WX.enter (tt := tt) (Γ := [(0, MF.rs .stb pa ca a)]) Try.func124 rfl (by kernel_rfl) rfl (allS_cons rfl hpa allS_nil) ?_
  refine WX.run ttOk rfl ?_
  have r1 : (a).length ≤ bd n := (okl hoka).1
  refine WX.loop (ι := Int × Nat) ⟨fun | (k2, i) => (i ≤ (a).length) ∧ (-9223372036854775808 ≤ k2 ∧ k2 ≤ 9223372036854775807) ∧ (laws_heldRecordS_L1 a k = laws_heldRecordS_L1 ((a).drop i) k2), fun | (k2, i) => (a).length - i, fun | (k2, i) => [(1, .v (.int .i64 (k2))), (5, .v (.int .i64 (((i : Nat) : Int)))), (0, .v (.slice pa ((a).length) ca))], fun | (k2, i) => [], fun | (k2, i) => [], fun | (k2, i) => [(0, MF.rs .stb pa ca a)]⟩ (k, 0) ⟨(Nat.zero_le _), hokk, rfl⟩
    (.cons rfl (.cons rfl (.cons rfl (.nil)))) .nil .nil [0] rfl ?_
  rintro ⟨k2, i⟩ hpre
  have hpre_ : (i ≤ (a).length) ∧ (-9223372036854775808 ≤ k2 ∧ k2 ≤ 9223372036854775807) ∧ (laws_heldRecordS_L1 a k = laws_heldRecordS_L1 ((a).drop i) k2) := hpre
  clear hpre
  obtain ⟨v1, v2, v3⟩ := hpre_
  refine WX.run ttOk rfl ?_
  refine WX.cases 9 rfl (fun h1 => ?_) (fun h1 => ?_)
  · skip
    have h1d := B.dt h1
    have e1i : i < (a).length := (by omega)
    obtain ⟨e1, e1h⟩ : ∃ e1, (a)[i]? = some e1 := ⟨_, List.getElem?_eq_getElem e1i⟩
    have ok1 : GoT.ok n e1 := (okl hoka).2 _ (List.mem_of_getElem? e1h)
    refine WX.run ttOk rfl ?_
    refine WX.idx 0 i ttOk rfl rfl rfl rfl rfl rfl rfl rfl rfl rfl e1i ?_
    rintro ad1 rfl
    refine WX.run ttOk rfl ?_
    refine WX.ldE 0 1 e1 ttOk rfl rfl rfl rfl rfl rfl rfl rfl e1h (fun _ => rfl) (fun _ => rfl) ?_
    rintro ⟨⟨⟩, ⟨⟨p1, c1⟩, ⟨p2, c2⟩, ⟨p3, c3⟩, ⟨⟩, ⟨⟩⟩⟩
    refine WX.run ttOk rfl ?_
    refine WX.cases 18 rfl (fun h2 => ?_) (fun h2 => ?_)
    · skip
      have h2d := B.nt' h2
      refine WX.run ttOk rfl ?_
      have hP1 : laws_heldRecordS_L1 a k = (Ctl.ret (-1)) := by rw [v3, drop_get e1h]; simp only [laws_heldRecordS_L1, h2, cond_true, cond_false]
      have hP2 : laws_heldRecordS a k = (-1) := by simp only [laws_heldRecordS, hP1, cond_true, cond_false]
      refine WX.ret ttOk rfl ?_
      intro w1 G bs hI hΓ
      rw [hP2]
      exact ⟨rfl, (show I64 (-1) from (by unfold I64; omega))⟩
    · skip
      have h2d := B.nf' h2
      refine WX.run ttOk rfl ?_
      refine WX.see rfl rfl rfl (fun _ hΓ => looks_wrap rfl rfl rfl rfl) ?_
      refine WX.run ttOk rfl ?_
      refine WX.idx 0 i ttOk rfl rfl rfl rfl rfl rfl rfl rfl rfl rfl e1i ?_
      rintro ad2 ⟨⟩
      refine WX.run ttOk rfl ?_
      refine WX.ldE 0 4 e1 ttOk rfl rfl rfl rfl rfl rfl rfl rfl e1h (fun _ => rfl) (fun _ => rfl) ?_
      rintro ⟨⟨⟩, ⟨⟨p4, c4⟩, ⟨p5, c5⟩, ⟨p6, c6⟩, ⟨⟩, ⟨⟩⟩⟩
      refine WX.run ttOk rfl ?_
      refine WX.callV rfl rfl rfl rfl rfl (fun _ => rfl) rfl (fun w G bs hI hΓ => f93 w n (by omega) e1.data.name.parts p4 c4 (hΓ.get 4 rfl) (IntKind.i64.wrap (k2 + 1)) (ok_Name (ok_DataP (ok_Record ok1).2).1) (i64_wrap _)) ?_
      intro hq1
      refine WX.run ttOk rfl ?_
      refine WX.cases 31 rfl (fun h3 => ?_) (fun h3 => ?_)
      · skip
        have h3d := B.dt h3
        refine WX.run ttOk rfl ?_
        have hP3 : laws_heldRecordS_L1 a k = (Ctl.ret (-1)) := by rw [v3, drop_get e1h]; simp only [laws_heldRecordS_L1, h2, h3, cond_true, cond_false]
        have hP4 : laws_heldRecordS a k = (-1) := by simp only [laws_heldRecordS, hP3, cond_true, cond_false]
        refine WX.ret ttOk rfl ?_
        intro w1 G bs hI hΓ
        rw [hP4]
        exact ⟨rfl, (show I64 (-1) from (by unfold I64; omega))⟩
      · skip
        have h3d := B.df h3
        refine WX.run ttOk rfl ?_
        refine WX.idx 0 i ttOk rfl rfl rfl rfl rfl rfl rfl rfl rfl rfl e1i ?_
        rintro ad3 ⟨⟩
        refine WX.run ttOk rfl ?_
        refine WX.ldE 0 7 e1 ttOk rfl rfl rfl rfl rfl rfl rfl rfl e1h (fun _ => rfl) (fun _ => rfl) ?_
        rintro ⟨⟨⟩, ⟨⟨p7, c7⟩, ⟨p8, c8⟩, ⟨p9, c9⟩, ⟨⟩, ⟨⟩⟩⟩
        refine WX.run ttOk rfl ?_
        refine WX.callV rfl rfl rfl rfl rfl (fun _ => rfl) rfl (fun w G bs hI hΓ => f20 w n (by omega) e1.data.content p8 c8 (hΓ.get 8 rfl) (laws_heldStringS e1.data.name.parts (IntKind.i64.wrap (k2 + 1))) ((ok_DataP (ok_Record ok1).2).2.1) hq1) ?_
        intro hq2
        refine WX.run ttOk rfl ?_
        refine WX.cases 41 rfl (fun h4 => ?_) (fun h4 => ?_)
        · skip
          have h4d := B.dt h4
          refine WX.run ttOk rfl ?_
          have hP5 : laws_heldRecordS_L1 a k = (Ctl.ret (-1)) := by rw [v3, drop_get e1h]; simp only [laws_heldRecordS_L1, h2, h3, h4, cond_true, cond_false]
          have hP6 : laws_heldRecordS a k = (-1) := by simp only [laws_heldRecordS, hP5, cond_true, cond_false]
          refine WX.ret ttOk rfl ?_
          intro w1 G bs hI hΓ
          rw [hP6]
          exact ⟨rfl, (show I64 (-1) from (by unfold I64; omega))⟩
        · skip
          have h4d := B.df h4
          refine WX.run ttOk rfl ?_
          refine WX.idx 0 i ttOk rfl rfl rfl rfl rfl rfl rfl rfl rfl rfl e1i ?_
          rintro ad4 ⟨⟩
          refine WX.run ttOk rfl ?_
          refine WX.ldE 0 10 e1 ttOk rfl rfl rfl rfl rfl rfl rfl rfl e1h (fun _ => rfl) (fun _ => rfl) ?_
          rintro ⟨⟨⟩, ⟨⟨p10, c10⟩, ⟨p11, c11⟩, ⟨p12, c12⟩, ⟨⟩, ⟨⟩⟩⟩
          refine WX.run ttOk rfl ?_
          refine WX.callV rfl rfl rfl rfl rfl (fun _ => rfl) rfl (fun w G bs hI hΓ => f93 w n (by omega) e1.data.keyName.parts p12 c12 (hΓ.get 12 rfl) (laws_heldByteS e1.data.content (laws_heldStringS e1.data.name.parts (IntKind.i64.wrap (k2 + 1)))) (ok_Name (ok_DataP (ok_Record ok1).2).2.2.1) hq2) ?_
          intro hq3
          refine WX.run ttOk rfl ?_
          refine WX.cases 52 rfl (fun h5 => ?_) (fun h5 => ?_)
          · skip
            have h5d := B.dt h5
            refine WX.run ttOk rfl ?_
            have hP7 : laws_heldRecordS_L1 a k = (Ctl.ret (-1)) := by rw [v3, drop_get e1h]; simp only [laws_heldRecordS_L1, h2, h3, h4, h5, cond_true, cond_false]
            have hP8 : laws_heldRecordS a k = (-1) := by simp only [laws_heldRecordS, hP7, cond_true, cond_false]
            refine WX.ret ttOk rfl ?_
            intro w1 G bs hI hΓ
            rw [hP8]
            exact ⟨rfl, (show I64 (-1) from (by unfold I64; omega))⟩
          · skip
            have h5d := B.df h5
            refine WX.run ttOk rfl ?_
            refine WX.idx 0 i ttOk rfl rfl rfl rfl rfl rfl rfl rfl rfl rfl e1i ?_
            rintro ad5 ⟨⟩
            refine WX.run ttOk rfl ?_
            refine WX.ldE 0 13 e1 ttOk rfl rfl rfl rfl rfl rfl rfl rfl e1h (fun _ => rfl) (fun _ => rfl) ?_
            rintro ⟨⟨⟩, ⟨⟨p13, c13⟩, ⟨p14, c14⟩, ⟨p15, c15⟩, ⟨⟩, ⟨⟩⟩⟩
            refine WX.run ttOk rfl ?_
            refine WX.cases 60 rfl (fun h6 => ?_) (fun h6 => ?_)
            · skip
              have h6d := B.nt' h6
              refine WX.run ttOk rfl ?_
              have hP9 : laws_heldRecordS_L1 a k = (Ctl.ret (-1)) := by rw [v3, drop_get e1h]; simp only [laws_heldRecordS_L1, h2, h3, h4, h5, h6, cond_true, cond_false]
              have hP10 : laws_heldRecordS a k = (-1) := by simp only [laws_heldRecordS, hP9, cond_true, cond_false]
              refine WX.ret ttOk rfl ?_
              intro w1 G bs hI hΓ
              rw [hP10]
              exact ⟨rfl, (show I64 (-1) from (by unfold I64; omega))⟩
            · skip
              have h6d := B.nf' h6
              refine WX.run ttOk rfl ?_
              refine WX.see rfl rfl rfl (fun _ hΓ => looks_wrap rfl rfl rfl rfl) ?_
              refine WX.run ttOk rfl ?_
              refine WX.idx 0 i ttOk rfl rfl rfl rfl rfl rfl rfl rfl rfl rfl e1i ?_
              rintro ad6 ⟨⟩
              refine WX.run ttOk rfl ?_
              refine WX.ldE 0 16 e1 ttOk rfl rfl rfl rfl rfl rfl rfl rfl e1h (fun _ => rfl) (fun _ => rfl) ?_
              rintro ⟨⟨⟩, ⟨⟨p16, c16⟩, ⟨p17, c17⟩, ⟨p18, c18⟩, ⟨⟩, ⟨⟩⟩⟩
              refine WX.run ttOk rfl ?_
              refine WX.cases 70 rfl (fun h7 => ?_) (fun h7 => ?_)
              · skip
                have h7d := B.nt' h7
                refine WX.run ttOk rfl ?_
                have hP11 : laws_heldRecordS_L1 a k = (Ctl.ret (-1)) := by rw [v3, drop_get e1h]; simp only [laws_heldRecordS_L1, h2, h3, h4, h5, h6, h7, cond_true, cond_false]
                have hP12 : laws_heldRecordS a k = (-1) := by simp only [laws_heldRecordS, hP11, cond_true, cond_false]
                refine WX.ret ttOk rfl ?_
                intro w1 G bs hI hΓ
                rw [hP12]
                exact ⟨rfl, (show I64 (-1) from (by unfold I64; omega))⟩
              · skip
                have h7d := B.nf' h7
                refine WX.run ttOk rfl ?_
                refine WX.see rfl rfl rfl (fun _ hΓ => looks_wrap rfl rfl rfl rfl) ?_
                refine WX.run ttOk rfl ?_
                refine WX.see rfl rfl rfl (fun _ hΓ => looks_arith rfl rfl rfl rfl (by unfold I64; omega)) ?_
                refine WX.run ttOk rfl ?_
                exact WX.iter (IntKind.i64.wrap ((IntKind.i64.wrap ((laws_heldStringS e1.data.keyName.parts (laws_heldByteS e1.data.content (laws_heldStringS e1.data.name.parts (IntKind.i64.wrap (k2 + 1))))) + 1)) + 1), i + 1) ⟨(by omega), (i64_wrap _), (by rw [v3, drop_get e1h]; simp only [laws_heldRecordS_L1, h2, h3, h4, h5, h6, h7, cond_true, cond_false])⟩ (by dsimp only; omega) (.cons rfl (.cons rfl (.cons rfl (.nil)))) .nil .nil [0] rfl
  · skip
    have h1d := B.df h1
    refine WX.run ttOk rfl ?_
    have hX1 : laws_heldRecordS_L1 a k = (Ctl.nxt k2) := by rw [v3, List.drop_eq_nil_of_le (show (a).length ≤ i by omega)]; simp only [laws_heldRecordS_L1, cond_true, cond_false]
    have hP13 : laws_heldRecordS a k = k2 := by simp only [laws_heldRecordS, hX1, cond_true, cond_false]
    refine WX.ret ttOk rfl ?_
    intro w1 G bs hI hΓ
    rw [hP13]
    exact ⟨rfl, v2⟩
theorem f75 (w : World) (n : Nat) (hn : n + 0 ≤ 9) (a : Log) (paDurable : Option Addr) (caDurable : Nat) (hpaDurable : RdSl (hp w) paDurable caDurable a.durable) (paVolatile : Option Addr) (caVolatile : Nat) (hpaVolatile : RdSl (hp w) paVolatile caVolatile a.volatile) (k : Int) (hoka : GoT.ok n a) (hokk : GoT.ok n k) :
    Does Try.prog 75 #[.agg #[.slice paDurable ((a.durable).length) caDurable, .slice paVolatile ((a.volatile).length) caVolatile], .int .i64 (k)] w emp (fun (rv : Value) (_ : World) => rv = .int .i64 ((laws_heldLog a k)) ∧ GoT.ok n ((laws_heldLog a k) : Int)) := by
  have hbP := bd_pos n
  have hbB := bd_big (n := n) (by omega)
  refine WX.enter (tt := tt) (Γ := [(0, MF.rs .stb paDurable caDurable a.durable), (1, MF.rs .stb paVolatile caVolatile a.volatile)]) Try.func75 rfl (by kernel_rfl) rfl (allS_cons rfl hpaDurable (allS_cons rfl hpaVolatile allS_nil)) ?_
  refine WX.run ttOk rfl ?_
  refine WX.callV rfl rfl rfl rfl rfl (fun _ => rfl) rfl (fun w G bs hI hΓ => f124 w n (by omega) a.durable paDurable caDurable (hΓ.get 0 rfl) k ((ok_Log hoka).1) hokk) ?_
  intro hq1
  refine WX.run ttOk rfl ?_
  refine WX.cases 10 rfl (fun h1 => ?_) (fun h1 => ?_)
  · skip
    have h1d := B.dt h1
    refine WX.run ttOk rfl ?_
    have hP1 : laws_heldLog a k = (-1) := by simp only [laws_heldLog, h1, cond_true, cond_false]
    refine WX.ret ttOk rfl ?_
    intro w1 G bs hI hΓ
    rw [hP1]
    exact ⟨rfl, (show I64 (-1) from (by unfold I64; omega))⟩
  · skip
    have h1d := B.df h1
    refine WX.run ttOk rfl ?_
    refine WX.callV rfl rfl rfl rfl rfl (fun _ => rfl) rfl (fun w G bs hI hΓ => f124 w n (by omega) a.volatile paVolatile caVolatile (hΓ.get 1 rfl) (laws_heldRecordS a.durable k) ((ok_Log hoka).2) hq1) ?_
    intro hq2
    refine WX.run ttOk rfl ?_
    refine WX.cases 16 rfl (fun h2 => ?_) (fun h2 => ?_)
    · skip
      have h2d := B.dt h2
      refine WX.run ttOk rfl ?_
      have hP2 : laws_heldLog a k = (-1) := by simp only [laws_heldLog, h1, h2, cond_true, cond_false]
      refine WX.ret ttOk rfl ?_
      intro w1 G bs hI hΓ
      rw [hP2]
      exact ⟨rfl, (show I64 (-1) from (by unfold I64; omega))⟩
    · skip
      have h2d := B.df h2
      refine WX.run ttOk rfl ?_
      have hP3 : laws_heldLog a k = (laws_heldRecordS a.volatile (laws_heldRecordS a.durable k)) := by simp only [laws_heldLog, h1, h2, cond_true, cond_false]
      refine WX.ret ttOk rfl ?_
      intro w1 G bs hI hΓ
      rw [hP3]
      exact ⟨rfl, hq2⟩
theorem f37 (w : World) (n : Nat) (hn : n + 0 ≤ 9) (a : Repository) (paLogDurable : Option Addr) (caLogDurable : Nat) (hpaLogDurable : RdSl (hp w) paLogDurable caLogDurable a.log.durable) (paLogVolatile : Option Addr) (caLogVolatile : Nat) (hpaLogVolatile : RdSl (hp w) paLogVolatile caLogVolatile a.log.volatile) (k : Int) (hoka : GoT.ok n a) (hokk : GoT.ok n k) :
    Does Try.prog 37 #[.agg #[.slice paLogDurable ((a.log.durable).length) caLogDurable, .slice paLogVolatile ((a.log.volatile).length) caLogVolatile, .int .i64 (a.quota)], .int .i64 (k)] w emp (fun (rv : Value) (_ : World) => rv = .int .i64 ((laws_heldRepository a k)) ∧ GoT.ok n ((laws_heldRepository a k) : Int)) := by
  have hbP := bd_pos n
  have hbB := bd_big (n := n) (by omega)
  refine WX.enter (tt := tt) (Γ := [(0, MF.rs .stb paLogDurable caLogDurable a.log.durable), (1, MF.rs .stb paLogVolatile caLogVolatile a.log.volatile)]) Try.func37 rfl (by kernel_rfl) rfl (allS_cons rfl hpaLogDurable (allS_cons rfl hpaLogVolatile allS_nil)) ?_
  refine WX.run ttOk rfl ?_
  refine WX.callV rfl rfl rfl rfl rfl (fun _ => rfl) rfl (fun w G bs hI hΓ => f75 w n (by omega) a.log paLogDurable caLogDurable (hΓ.get 0 rfl) paLogVolatile caLogVolatile (hΓ.get 1 rfl) k ((ok_Repository hoka).1) hokk) ?_
  intro hq1
  refine WX.run ttOk rfl ?_
  refine WX.cases 10 rfl (fun h1 => ?_) (fun h1 => ?_)
  · skip
    have h1d := B.dt h1
    refine WX.run ttOk rfl ?_
    have hP1 : laws_heldRepository a k = (-1) := by simp only [laws_heldRepository, h1, cond_true, cond_false]
    refine WX.ret ttOk rfl ?_
    intro w1 G bs hI hΓ
    rw [hP1]
    exact ⟨rfl, (show I64 (-1) from (by unfold I64; omega))⟩
  · skip
    have h1d := B.df h1
    refine WX.run ttOk rfl ?_
    have hP2 : laws_heldRepository a k = (laws_heldLog a.log k) := by simp only [laws_heldRepository, h1, cond_true, cond_false]
    refine WX.ret ttOk rfl ?_
    intro w1 G bs hI hΓ
    rw [hP2]
    exact ⟨rfl, hq1⟩
end Go.Proofs.Ytdkhklhnipiheaa
