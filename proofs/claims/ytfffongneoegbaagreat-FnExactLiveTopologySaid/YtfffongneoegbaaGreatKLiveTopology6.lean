/-
  What the proof of one law needs: rules of the program logic, functions as Lean functions, contracts. No condition but what each says. Written by a program (pack.py) out of my own texts.
-/
import Derived.Test.YtfffongneoegbaaGreatKLiveTopology5
namespace Go.Proofs.YtfffongneoegbaaGreat
open Go.Stp
set_option linter.unusedVariables false
set_option linter.unusedSimpArgs false
theorem f301 (w : World) (n : Nat) (hn : n + 0 ≤ 9) (k : Int) (hokk : GoT.ok n k) :
    Does Tryz.prog 301 #[.int .i64 (k)] w emp (fun (rv : Value) (_ : World) => rv = .string (laws_markText k) ∧ GoT.ok n ((laws_markText k) : Str)) := by
  have hbP := bd_pos n
  have hbB := bd_big (n := n) (by omega)
  refine WX.enter (tt := tt) (Γ := []) Tryz.func301 rfl (by kernel_rfl) rfl allS_nil ?_
  refine WX.run ttOk rfl ?_
  refine WX.cases 5 rfl (fun h1 => ?_) (fun h1 => ?_)
  · skip
    have h1d := B.dt h1
    refine WX.run ttOk rfl ?_
    have hP1 : laws_markText k = (⟨#[109, 48]⟩ : Str) := by simp only [laws_markText, h1, cond_true, cond_false]
    refine WX.ret ttOk rfl ?_
    intro w1 G bs hI hΓ
    rw [hP1]
    exact ⟨rfl, (Nat.le_trans (by decide) (bd_pos _))⟩
  · skip
    have h1d := B.df h1
    refine WX.run ttOk rfl ?_
    have r1 : (⟨#[]⟩ : Str).size = 0 := rfl
    refine WX.loop (ι := Int × Str) ⟨fun | (k2, out) => (-9223372036854775808 ≤ k2 ∧ k2 ≤ 9223372036854775807) ∧ (out.size ≤ bd n) ∧ (mkInv k2 out.size) ∧ (laws_markText_L1 k (⟨#[]⟩ : Str) = laws_markText_L1 k2 out), fun | (k2, out) => k2.toNat, fun | (k2, out) => [(0, .v (.int .i64 (k2))), (3, .v (.string out))], fun | (k2, out) => [], fun | (k2, out) => [], fun | (k2, out) => []⟩ (k, (⟨#[]⟩ : Str)) ⟨hokk, (by first | assumption | omega), (mkInv_0 hokk.2), rfl⟩
      (.cons rfl (.cons rfl (.nil))) .nil .nil [] rfl ?_
    rintro ⟨k2, out⟩ hpre
    have hpre_ : (-9223372036854775808 ≤ k2 ∧ k2 ≤ 9223372036854775807) ∧ (out.size ≤ bd n) ∧ (mkInv k2 out.size) ∧ (laws_markText_L1 k (⟨#[]⟩ : Str) = laws_markText_L1 k2 out) := hpre
    clear hpre
    obtain ⟨v1, v2, v3, v4⟩ := hpre_
    have hz0 := mkInv_size v3
    refine WX.run ttOk rfl ?_
    refine WX.cases 7 rfl (fun h2 => ?_) (fun h2 => ?_)
    · skip
      have h2d := B.dt h2
      refine WX.run ttOk rfl ?_
      have r2 := tmod_rng k2 (show (0 : Int) < 10 by omega)
      refine WX.see rfl rfl rfl (fun _ hΓ => looks_rem rfl rfl rfl (by decide)) ?_
      refine WX.see rfl rfl rfl (fun _ hΓ => looks_wrap rfl rfl rfl rfl) ?_
      refine WX.see rfl rfl rfl (fun _ hΓ => looks_toU8 ttOk rfl rfl rfl rfl rfl rfl) ?_
      refine WX.bld ttOk rfl rfl rfl rfl rfl rfl rfl ?_
      intro p1
      refine WX.turn [] 0 rfl (fun h hs => ol_one (α := UInt8) (a := (toU8 (IntKind.i64.wrap (48 + (Int.tmod k2 10))))) (x := ()) hs) (gs := [MF.ol [.int .u8 ((toU8 (IntKind.i64.wrap (48 + (Int.tmod k2 10)))).toNat : Nat)] ([(toU8 (IntKind.i64.wrap (48 + (Int.tmod k2 10))))] : List UInt8)]) rfl ?_
      refine WX.seal 12 0 1 rfl rfl rfl rfl rfl ?_
      refine WX.see rfl rfl rfl (fun _ hΓ => looks_toStr ttOk (hΓ.get 1 rfl) rfl rfl rfl rfl rfl rfl rfl rfl rfl) ?_
      refine WX.run ttOk rfl ?_
      have r3 : (bstr ([(toU8 (IntKind.i64.wrap (48 + (Int.tmod k2 10))))])).size = 1 := bstr_size _
      refine WX.see rfl rfl rfl (fun _ hΓ => looks_cat rfl rfl rfl (by have := bd_le (n + 9); simp; omega)) ?_
      refine WX.run ttOk rfl ?_
      refine WX.see rfl rfl rfl (fun _ hΓ => looks_quo rfl rfl rfl (by decide)) ?_
      refine WX.run ttOk rfl ?_
      have hz1 : (bstr ([(toU8 (IntKind.i64.wrap (48 + (Int.tmod k2 10))))]) ++ out).size = out.size + 1 := by rw [ByteArray.size_append]; show 1 + out.size = out.size + 1; omega
      have hz2 := mkInv_size (mkInv_step h2d v3)
      exact WX.iter (IntKind.i64.wrap (Int.tdiv k2 10), ((bstr ([(toU8 (IntKind.i64.wrap (48 + (Int.tmod k2 10))))])) ++ out)) ⟨(i64_wrap _), (by first | assumption | omega | (simp; omega)), (by rw [hz1]; exact mkInv_step h2d v3), (by rw [v4]; rw [laws_markText_L1]; simp only [h2, h2d, cond_true, cond_false, ↓reduceIte, Bool.false_eq_true])⟩ (wrap_quo10 h2d) (.cons rfl (.cons rfl (.nil))) .nil .nil [] rfl
    · skip
      have h2d := B.df h2
      refine WX.run ttOk rfl ?_
      have hX1 : laws_markText_L1 k (⟨#[]⟩ : Str) = (k2, out) := by rw [v4]; rw [laws_markText_L1]; simp only [h2, h2d, cond_true, cond_false, ↓reduceIte, Bool.false_eq_true]
      have r4 : (⟨#[109]⟩ : Str).size = 1 := rfl
      refine WX.see rfl rfl rfl (fun _ hΓ => looks_cat rfl rfl rfl (by have := bd_le (n + 9); simp; omega)) ?_
      refine WX.run ttOk rfl ?_
      have hP2 : laws_markText k = ((⟨#[109]⟩ : Str) ++ out) := by simp only [laws_markText, h1, hX1, cond_true, cond_false]
      refine WX.ret ttOk rfl ?_
      intro w1 G bs hI hΓ
      rw [hP2]
      exact ⟨rfl, (show (((⟨#[109]⟩ : Str) ++ out)).size ≤ bd n from (by first | omega | (simp; omega)))⟩
theorem f198 (w : World) (n : Nat) (hn : n + 0 ≤ 9) (a : (List Str)) (pa : Option Addr) (ca : Nat) (k : Int) (H : GH) (hH : Le H (hp w)) (hown : Sep H (GoT.oa a (pa, ca))) (hoka : GoT.ok n a) (hokk : GoT.ok n k) :
    Does Tryz.prog 198 #[.slice pa ((a).length) ca, .int .i64 (k)] w H (Post w H (fun _ : Unit => .int .i64 ((laws_markStringS a k).1)) (fun _ => GoT.oa ((laws_markStringS a k).2 : (List Str)) (pa, ca)) ((GoT.ok n ((laws_markStringS a k).1 : Int) ∧ GoT.ok n ((laws_markStringS a k).2 : (List Str))) ∧ ((laws_markStringS a k).2).length = (a).length)) := by
  have hbP := bd_pos n
  have hbB := bd_big (n := n) (by omega)
  refine WX.enterM (tt := tt) (Γ := []) 1 Tryz.func198 rfl (by kernel_rfl) rfl allS_nil hH hown (fun f hf => GoT.oak f hf) rfl ?_
  refine WX.opn (kk := 1) 501 1 2 rfl rfl rfl ?_
  intro xs1 hx1
  refine WX.run ttOk rfl ?_
  have r1 : (a).length ≤ bd n := (okl hoka).1
  refine WX.loop (ι := (List Value) × (List Str) × Int × Nat) ⟨fun | (xsa2, a2, k2, i) => (i ≤ (a).length) ∧ (a2.length = (a).length) ∧ (∀ z_ ∈ a2, GoT.ok n z_) ∧ (-9223372036854775808 ≤ k2 ∧ k2 ≤ 9223372036854775807) ∧ (laws_markStringS_L1 ((a).length) 0 (a : List Str) k = laws_markStringS_L1 ((a).length - i) i a2 k2), fun | (xsa2, a2, k2, i) => (a).length - i, fun | (xsa2, a2, k2, i) => [(0, .v (.slice pa ((a).length) ca)), (1, .v (.int .i64 (k2))), (5, .v (.int .i64 (((i : Nat) : Int))))], fun | (xsa2, a2, k2, i) => [], fun | (xsa2, a2, k2, i) => [(501, ⟨1, pa, (a).length, ca, xsa2⟩)], fun | (xsa2, a2, k2, i) => [(2, MF.ol xsa2 (a2 : List Str))]⟩ (xs1, (a : List Str), k, 0) ⟨(Nat.zero_le _), (by simp), (okl hoka).2, hokk, rfl⟩
    (.cons rfl (.cons rfl (.cons rfl (.nil)))) .nil (.cons rfl (.nil)) [2] rfl ?_
  rintro ⟨xsa2, a2, k2, i⟩ hpre
  have hpre_ : (i ≤ (a).length) ∧ (a2.length = (a).length) ∧ (∀ z_ ∈ a2, GoT.ok n z_) ∧ (-9223372036854775808 ≤ k2 ∧ k2 ≤ 9223372036854775807) ∧ (laws_markStringS_L1 ((a).length) 0 (a : List Str) k = laws_markStringS_L1 ((a).length - i) i a2 k2) := hpre
  clear hpre
  obtain ⟨v1, v2, v3, v4, v5⟩ := hpre_
  refine WX.run ttOk rfl ?_
  refine WX.cases 9 rfl (fun h1 => ?_) (fun h1 => ?_)
  · skip
    have h1d := B.dt h1
    refine WX.run ttOk rfl ?_
    refine WX.callV rfl rfl rfl rfl rfl (fun _ => rfl) rfl (fun w G bs hI hΓ => f301 w n (by omega) k2 v4) ?_
    intro hq1
    have hr1 : i < (a).length := (by first | assumption | omega)
    refine WX.idxR 501 i ttOk rfl rfl rfl rfl rfl rfl rfl rfl rfl hr1 ?_
    rintro ad1 rfl
    have e1i : i < (a2).length := (by first | assumption | omega)
    obtain ⟨e1, e1h⟩ : ∃ e1, (a2)[i]? = some e1 := ⟨_, List.getElem?_eq_getElem e1i⟩
    have ok1 : GoT.ok n e1 := v3 _ (List.mem_of_getElem? e1h)
    refine WX.opnE (α := Str) (e := e1) 501 2 3 i rfl rfl rfl e1h (fun _ => rfl) (fun _ _ _ => rfl) (fun _ _ _ => rfl) ?_
    rintro A1 B1 ⟨⟩ hA1 hB1
    refine WX.stA 501 ttOk rfl rfl rfl rfl rfl rfl rfl rfl rfl rfl rfl rfl rfl rfl hA1 hr1 rfl rfl rfl rfl (by simp) rfl ?_
    refine WX.run ttOk rfl ?_
    refine WX.see rfl rfl rfl (fun _ hΓ => looks_wrap rfl rfl rfl rfl) ?_
    refine WX.run ttOk rfl ?_
    refine WX.see rfl rfl rfl (fun _ hΓ => looks_arith rfl rfl rfl rfl (by unfold I64; first | omega | (dsimp only; omega))) ?_
    refine WX.run ttOk rfl ?_
    refine WX.turn [3, 4] 5 rfl (fun h hs => cl_elem (α := Str) (e := (laws_markText k2)) (x := ()) e1i hs) (gs := [MF.ol (A1 ++ [.string (laws_markText k2)] ++ B1) (a2.set i (laws_markText k2))]) rfl ?_
    refine WX.turn [5] 2 rfl (fun _ h => h) rfl ?_
    exact WX.iter ((A1 ++ [.string (laws_markText k2)] ++ B1), ((a2.set i (laws_markText k2)) : List Str), IntKind.i64.wrap (k2 + 1), i + 1) ⟨(by omega), (by first | assumption | omega | (simp only [List.length_append, List.length_cons, List.length_nil, List.length_set, List.length_map, List.length_take, List.length_drop]; omega) | (simp; omega)), (all_set v3 (show GoT.ok n ((laws_markText k2) : Str) from hq1)), (i64_wrap _), (by rw [v5, show (a).length - i = ((a).length - (i + 1)) + 1 by omega]; simp only [laws_markStringS_L1, e1h, cond_true, cond_false])⟩ (by dsimp only; omega) (.cons rfl (.cons rfl (.cons rfl (.nil)))) .nil (.cons rfl (.nil)) [2] rfl
  · skip
    have h1d := B.df h1
    refine WX.run ttOk rfl ?_
    have hX1 : laws_markStringS_L1 ((a).length) 0 (a : List Str) k = (((a2) : List Str), k2) := by rw [v5, show (a).length - i = 0 by omega]; simp only [laws_markStringS_L1, cond_true, cond_false]
    refine WX.seal 501 2 6 rfl rfl (show (a).length = (a2).length from by omega) rfl rfl ?_
    refine WX.slot 7 (y := .v (.slice pa (a2).length ca)) rfl (fun _ => by show (Value.slice pa ((a).length) ca : Value) = Value.slice pa (a2).length ca; rw [(show (a).length = (a2).length from by omega)]) ?_
    refine WX.slot 0 (y := .v (.slice pa (a2).length ca)) rfl (fun _ => by show (Value.slice pa ((a).length) ca : Value) = Value.slice pa (a2).length ca; rw [(show (a).length = (a2).length from by omega)]) ?_
    have hP1 : laws_markStringS a k = (k2, a2) := by simp only [laws_markStringS, hX1, cond_true, cond_false]
    refine WX.ret ttOk rfl ?_
    intro w1 G bs hI hΓ
    rw [hP1]
    exact Post.of [7] () hI hΓ rfl rfl rfl ⟨⟨v4, (okl_mk (by omega) v3 : GoT.ok n (a2 : List Str))⟩, (show (a2).length = (a).length from by omega)⟩
theorem f149 (w : World) (n : Nat) (hn : n + 0 ≤ 9) (a : (List TableEntry)) (pa : Option Addr) (ca : Nat) (k : Int) (H : GH) (hH : Le H (hp w)) (hown : Sep H (GoT.oa a (pa, ca))) (hoka : GoT.ok n a) (hokk : GoT.ok n k) :
    Does Tryz.prog 149 #[.slice pa ((a).length) ca, .int .i64 (k)] w H (Post w H (fun _ : Unit => .int .i64 ((laws_markTableEntryS a k).1)) (fun _ => GoT.oa ((laws_markTableEntryS a k).2 : (List TableEntry)) (pa, ca)) ((GoT.ok n ((laws_markTableEntryS a k).1 : Int) ∧ GoT.ok n ((laws_markTableEntryS a k).2 : (List TableEntry))) ∧ ((laws_markTableEntryS a k).2).length = (a).length)) := by
  have hbP := bd_pos n
  have hbB := bd_big (n := n) (by omega)
  refine WX.enterM (tt := tt) (Γ := []) 1 Tryz.func149 rfl (by kernel_rfl) rfl allS_nil hH hown (fun f hf => GoT.oak f hf) rfl ?_
  refine WX.opn (kk := 2) 501 1 2 rfl rfl rfl ?_
  intro xs1 hx1
  refine WX.run ttOk rfl ?_
  have r1 : (a).length ≤ bd n := (okl hoka).1
  refine WX.loop (ι := (List Value) × (List TableEntry) × Int × Nat) ⟨fun | (xsa2, a2, k2, i) => (i ≤ (a).length) ∧ (a2.length = (a).length) ∧ (∀ z_ ∈ a2, GoT.ok n z_) ∧ (-9223372036854775808 ≤ k2 ∧ k2 ≤ 9223372036854775807) ∧ (laws_markTableEntryS_L1 ((a).length) 0 (a : List TableEntry) k = laws_markTableEntryS_L1 ((a).length - i) i a2 k2), fun | (xsa2, a2, k2, i) => (a).length - i, fun | (xsa2, a2, k2, i) => [(0, .v (.slice pa ((a).length) ca)), (1, .v (.int .i64 (k2))), (5, .v (.int .i64 (((i : Nat) : Int))))], fun | (xsa2, a2, k2, i) => [], fun | (xsa2, a2, k2, i) => [(501, ⟨2, pa, (a).length, ca, xsa2⟩)], fun | (xsa2, a2, k2, i) => [(2, MF.ol xsa2 (a2 : List TableEntry))]⟩ (xs1, (a : List TableEntry), k, 0) ⟨(Nat.zero_le _), (by simp), (okl hoka).2, hokk, rfl⟩
    (.cons rfl (.cons rfl (.cons rfl (.nil)))) .nil (.cons rfl (.nil)) [2] rfl ?_
  rintro ⟨xsa2, a2, k2, i⟩ hpre
  have hpre_ : (i ≤ (a).length) ∧ (a2.length = (a).length) ∧ (∀ z_ ∈ a2, GoT.ok n z_) ∧ (-9223372036854775808 ≤ k2 ∧ k2 ≤ 9223372036854775807) ∧ (laws_markTableEntryS_L1 ((a).length) 0 (a : List TableEntry) k = laws_markTableEntryS_L1 ((a).length - i) i a2 k2) := hpre
  clear hpre
  obtain ⟨v1, v2, v3, v4, v5⟩ := hpre_
  refine WX.run ttOk rfl ?_
  refine WX.cases 9 rfl (fun h1 => ?_) (fun h1 => ?_)
  · skip
    have h1d := B.dt h1
    refine WX.run ttOk rfl ?_
    have hr1 : i < (a).length := (by first | assumption | omega)
    refine WX.idxR 501 i ttOk rfl rfl rfl rfl rfl rfl rfl rfl rfl hr1 ?_
    rintro ad1 rfl
    refine WX.run ttOk rfl ?_
    have e1i : i < (a2).length := (by first | assumption | omega)
    obtain ⟨e1, e1h⟩ : ∃ e1, (a2)[i]? = some e1 := ⟨_, List.getElem?_eq_getElem e1i⟩
    have ok1 : GoT.ok n e1 := v3 _ (List.mem_of_getElem? e1h)
    refine WX.opnE (α := TableEntry) (e := e1) 501 2 3 i rfl rfl rfl e1h (fun _ => rfl) (fun _ _ _ => rfl) (fun _ _ _ => rfl) ?_
    rintro A1 B1 ⟨⟨p1, c1⟩, ⟨⟩⟩ hA1 hB1
    refine WX.ldA 501 ttOk rfl rfl rfl rfl rfl rfl rfl rfl rfl rfl hA1 hr1 rfl ?_
    refine WX.run ttOk rfl ?_
    refine WX.callM [4] 7 rfl (fun _ _ h => GoT.ow_rd h) (fun _ f hf => GoT.fak f hf) rfl rfl rfl rfl rfl (fun _ => rfl) rfl (fun w G bs H hI hH hs hΓ => f198 w n (by omega) e1.name.parts p1 c1 k2 H hH hs (ok_Name (ok_TableEntry ok1).1) v4) (fun _ => rfl) (fun _ => rfl) ?_
    rintro ⟨⟩ hq1
    have hl1 : ((laws_markStringS e1.name.parts k2).2).length = (e1.name.parts).length := hq1.2
    refine WX.run ttOk rfl ?_
    have hr2 : i < (a).length := (by first | assumption | omega)
    refine WX.idxR 501 i ttOk rfl rfl rfl rfl rfl rfl rfl rfl rfl hr2 ?_
    rintro ad2 ⟨⟩
    refine WX.run ttOk rfl ?_
    refine WX.stA 501 ttOk rfl rfl rfl rfl rfl rfl rfl rfl rfl rfl rfl rfl rfl rfl hA1 hr2 rfl rfl rfl rfl (by simp) rfl ?_
    refine WX.run ttOk rfl ?_
    refine WX.see rfl rfl rfl (fun _ hΓ => looks_wrap rfl rfl rfl rfl) ?_
    refine WX.run ttOk rfl ?_
    refine WX.see rfl rfl rfl (fun _ hΓ => looks_arith rfl rfl rfl rfl (by unfold I64; first | omega | (dsimp only; omega))) ?_
    refine WX.run ttOk rfl ?_
    refine WX.turn [8, 5, 6] 9 rfl (fun h hs => by have z_ : Sep h [MF.ol (A1 ++ [.slice p1 (((laws_markStringS e1.name.parts k2).2).length) c1, .int .i64 ((laws_markStringS e1.name.parts k2).1)] ++ B1) (a2.set i (TableEntry.mk (Name.mk ((laws_markStringS e1.name.parts k2).2)) ((laws_markStringS e1.name.parts k2).1)))] := cl_elem (α := TableEntry) (e := (TableEntry.mk (Name.mk ((laws_markStringS e1.name.parts k2).2)) ((laws_markStringS e1.name.parts k2).1))) (x := ((p1, c1), ())) e1i hs; rw [hl1] at z_; exact z_) (gs := [MF.ol (A1 ++ [.slice p1 ((e1.name.parts).length) c1, .int .i64 ((laws_markStringS e1.name.parts k2).1)] ++ B1) (a2.set i (TableEntry.mk (Name.mk ((laws_markStringS e1.name.parts k2).2)) ((laws_markStringS e1.name.parts k2).1)))]) rfl ?_
    refine WX.turn [9] 2 rfl (fun _ h => h) rfl ?_
    exact WX.iter ((A1 ++ [.slice p1 ((e1.name.parts).length) c1, .int .i64 ((laws_markStringS e1.name.parts k2).1)] ++ B1), ((a2.set i (TableEntry.mk (Name.mk ((laws_markStringS e1.name.parts k2).2)) ((laws_markStringS e1.name.parts k2).1))) : List TableEntry), IntKind.i64.wrap (((laws_markStringS e1.name.parts k2).1) + 1), i + 1) ⟨(by omega), (by first | assumption | omega | (simp only [List.length_append, List.length_cons, List.length_nil, List.length_set, List.length_map, List.length_take, List.length_drop]; omega) | (simp; omega)), (all_set v3 (show GoT.ok n ((TableEntry.mk (Name.mk ((laws_markStringS e1.name.parts k2).2)) ((laws_markStringS e1.name.parts k2).1)) : TableEntry) from (And.intro hq1.1.2 hq1.1.1))), (i64_wrap _), (by rw [v5, show (a).length - i = ((a).length - (i + 1)) + 1 by omega]; simp only [laws_markTableEntryS_L1, e1h, cond_true, cond_false])⟩ (by dsimp only; omega) (.cons rfl (.cons rfl (.cons rfl (.nil)))) .nil (.cons rfl (.nil)) [2] rfl
  · skip
    have h1d := B.df h1
    refine WX.run ttOk rfl ?_
    have hX1 : laws_markTableEntryS_L1 ((a).length) 0 (a : List TableEntry) k = (((a2) : List TableEntry), k2) := by rw [v5, show (a).length - i = 0 by omega]; simp only [laws_markTableEntryS_L1, cond_true, cond_false]
    refine WX.seal 501 2 10 rfl rfl (show (a).length = (a2).length from by omega) rfl rfl ?_
    refine WX.slot 7 (y := .v (.slice pa (a2).length ca)) rfl (fun _ => by show (Value.slice pa ((a).length) ca : Value) = Value.slice pa (a2).length ca; rw [(show (a).length = (a2).length from by omega)]) ?_
    refine WX.slot 0 (y := .v (.slice pa (a2).length ca)) rfl (fun _ => by show (Value.slice pa ((a).length) ca : Value) = Value.slice pa (a2).length ca; rw [(show (a).length = (a2).length from by omega)]) ?_
    have hP1 : laws_markTableEntryS a k = (k2, a2) := by simp only [laws_markTableEntryS, hX1, cond_true, cond_false]
    refine WX.ret ttOk rfl ?_
    intro w1 G bs hI hΓ
    rw [hP1]
    exact Post.of [11] () hI hΓ rfl rfl rfl ⟨⟨v4, (okl_mk (by omega) v3 : GoT.ok n (a2 : List TableEntry))⟩, (show (a2).length = (a).length from by omega)⟩
theorem f25 (w : World) (n : Nat) (hn : n + 0 ≤ 9) (a : (List UInt8)) (pa : Option Addr) (ca : Nat) (k : Int) (H : GH) (hH : Le H (hp w)) (hown : Sep H (GoT.oa a (pa, ca))) (hoka : GoT.ok n a) (hokk : GoT.ok n k) :
    Does Tryz.prog 25 #[.slice pa ((a).length) ca, .int .i64 (k)] w H (Post w H (fun _ : Unit => .int .i64 ((laws_markByteS a k).1)) (fun _ => GoT.oa ((laws_markByteS a k).2 : (List UInt8)) (pa, ca)) ((GoT.ok n ((laws_markByteS a k).1 : Int) ∧ GoT.ok n ((laws_markByteS a k).2 : (List UInt8))) ∧ ((laws_markByteS a k).2).length = (a).length)) := by
  have hbP := bd_pos n
  have hbB := bd_big (n := n) (by omega)
  refine WX.enterM (tt := tt) (Γ := []) 1 Tryz.func25 rfl (by kernel_rfl) rfl allS_nil hH hown (fun f hf => GoT.oak f hf) rfl ?_
  refine WX.opn (kk := 1) 501 1 2 rfl rfl rfl ?_
  intro xs1 hx1
  refine WX.run ttOk rfl ?_
  have r1 : (a).length ≤ bd n := (okl hoka).1
  refine WX.loop (ι := (List Value) × (List UInt8) × Int × Nat) ⟨fun | (xsa2, a2, k2, i) => (i ≤ (a).length) ∧ (a2.length = (a).length) ∧ (∀ z_ ∈ a2, GoT.ok n z_) ∧ (-9223372036854775808 ≤ k2 ∧ k2 ≤ 9223372036854775807) ∧ (laws_markByteS_L1 ((a).length) 0 (a : List UInt8) k = laws_markByteS_L1 ((a).length - i) i a2 k2), fun | (xsa2, a2, k2, i) => (a).length - i, fun | (xsa2, a2, k2, i) => [(0, .v (.slice pa ((a).length) ca)), (1, .v (.int .i64 (k2))), (5, .v (.int .i64 (((i : Nat) : Int))))], fun | (xsa2, a2, k2, i) => [], fun | (xsa2, a2, k2, i) => [(501, ⟨1, pa, (a).length, ca, xsa2⟩)], fun | (xsa2, a2, k2, i) => [(2, MF.ol xsa2 (a2 : List UInt8))]⟩ (xs1, (a : List UInt8), k, 0) ⟨(Nat.zero_le _), (by simp), (okl hoka).2, hokk, rfl⟩
    (.cons rfl (.cons rfl (.cons rfl (.nil)))) .nil (.cons rfl (.nil)) [2] rfl ?_
  rintro ⟨xsa2, a2, k2, i⟩ hpre
  have hpre_ : (i ≤ (a).length) ∧ (a2.length = (a).length) ∧ (∀ z_ ∈ a2, GoT.ok n z_) ∧ (-9223372036854775808 ≤ k2 ∧ k2 ≤ 9223372036854775807) ∧ (laws_markByteS_L1 ((a).length) 0 (a : List UInt8) k = laws_markByteS_L1 ((a).length - i) i a2 k2) := hpre
  clear hpre
  obtain ⟨v1, v2, v3, v4, v5⟩ := hpre_
  refine WX.run ttOk rfl ?_
  refine WX.cases 9 rfl (fun h1 => ?_) (fun h1 => ?_)
  · skip
    have h1d := B.dt h1
    refine WX.run ttOk rfl ?_
    refine WX.see rfl rfl rfl (fun _ hΓ => looks_toU8 ttOk rfl rfl rfl rfl rfl rfl) ?_
    have hr1 : i < (a).length := (by first | assumption | omega)
    refine WX.idxR 501 i ttOk rfl rfl rfl rfl rfl rfl rfl rfl rfl hr1 ?_
    rintro ad1 rfl
    have e1i : i < (a2).length := (by first | assumption | omega)
    obtain ⟨e1, e1h⟩ : ∃ e1, (a2)[i]? = some e1 := ⟨_, List.getElem?_eq_getElem e1i⟩
    refine WX.opnE (α := UInt8) (e := e1) 501 2 3 i rfl rfl rfl e1h (fun _ => rfl) (fun _ _ _ => rfl) (fun _ _ _ => rfl) ?_
    rintro A1 B1 ⟨⟩ hA1 hB1
    refine WX.stA 501 ttOk rfl rfl rfl rfl rfl rfl rfl rfl rfl rfl rfl rfl rfl rfl hA1 hr1 rfl rfl rfl rfl (by simp) rfl ?_
    refine WX.run ttOk rfl ?_
    refine WX.see rfl rfl rfl (fun _ hΓ => looks_wrap rfl rfl rfl rfl) ?_
    refine WX.run ttOk rfl ?_
    refine WX.see rfl rfl rfl (fun _ hΓ => looks_arith rfl rfl rfl rfl (by unfold I64; first | omega | (dsimp only; omega))) ?_
    refine WX.run ttOk rfl ?_
    refine WX.turn [3, 4] 5 rfl (fun h hs => cl_elem (α := UInt8) (e := (toU8 k2)) (x := ()) e1i hs) (gs := [MF.ol (A1 ++ [.int .u8 ((toU8 k2).toNat : Nat)] ++ B1) (a2.set i (toU8 k2))]) rfl ?_
    refine WX.turn [5] 2 rfl (fun _ h => h) rfl ?_
    exact WX.iter ((A1 ++ [.int .u8 ((toU8 k2).toNat : Nat)] ++ B1), ((a2.set i (toU8 k2)) : List UInt8), IntKind.i64.wrap (k2 + 1), i + 1) ⟨(by omega), (by first | assumption | omega | (simp only [List.length_append, List.length_cons, List.length_nil, List.length_set, List.length_map, List.length_take, List.length_drop]; omega) | (simp; omega)), (all_set v3 (show GoT.ok n ((toU8 k2) : UInt8) from trivial)), (i64_wrap _), (by rw [v5, show (a).length - i = ((a).length - (i + 1)) + 1 by omega]; simp only [laws_markByteS_L1, e1h, cond_true, cond_false])⟩ (by dsimp only; omega) (.cons rfl (.cons rfl (.cons rfl (.nil)))) .nil (.cons rfl (.nil)) [2] rfl
  · skip
    have h1d := B.df h1
    refine WX.run ttOk rfl ?_
    have hX1 : laws_markByteS_L1 ((a).length) 0 (a : List UInt8) k = (((a2) : List UInt8), k2) := by rw [v5, show (a).length - i = 0 by omega]; simp only [laws_markByteS_L1, cond_true, cond_false]
    refine WX.seal 501 2 6 rfl rfl (show (a).length = (a2).length from by omega) rfl rfl ?_
    refine WX.slot 7 (y := .v (.slice pa (a2).length ca)) rfl (fun _ => by show (Value.slice pa ((a).length) ca : Value) = Value.slice pa (a2).length ca; rw [(show (a).length = (a2).length from by omega)]) ?_
    refine WX.slot 0 (y := .v (.slice pa (a2).length ca)) rfl (fun _ => by show (Value.slice pa ((a).length) ca : Value) = Value.slice pa (a2).length ca; rw [(show (a).length = (a2).length from by omega)]) ?_
    have hP1 : laws_markByteS a k = (k2, a2) := by simp only [laws_markByteS, hX1, cond_true, cond_false]
    refine WX.ret ttOk rfl ?_
    intro w1 G bs hI hΓ
    rw [hP1]
    exact Post.of [7] () hI hΓ rfl rfl rfl ⟨⟨v4, (okl_mk (by omega) v3 : GoT.ok n (a2 : List UInt8))⟩, (show (a2).length = (a).length from by omega)⟩
theorem f107 (w : World) (n : Nat) (hn : n + 0 ≤ 9) (a : (List Key)) (pa : Option Addr) (ca : Nat) (k : Int) (H : GH) (hH : Le H (hp w)) (hown : Sep H (GoT.oa a (pa, ca))) (hoka : GoT.ok n a) (hokk : GoT.ok n k) :
    Does Tryz.prog 107 #[.slice pa ((a).length) ca, .int .i64 (k)] w H (Post w H (fun _ : Unit => .int .i64 ((laws_markKeyS a k).1)) (fun _ => GoT.oa ((laws_markKeyS a k).2 : (List Key)) (pa, ca)) ((GoT.ok n ((laws_markKeyS a k).1 : Int) ∧ GoT.ok n ((laws_markKeyS a k).2 : (List Key))) ∧ ((laws_markKeyS a k).2).length = (a).length)) := by
  have hbP := bd_pos n
  have hbB := bd_big (n := n) (by omega)
  refine WX.enterM (tt := tt) (Γ := []) 1 Tryz.func107 rfl (by kernel_rfl) rfl allS_nil hH hown (fun f hf => GoT.oak f hf) rfl ?_
  refine WX.opn (kk := 2) 501 1 2 rfl rfl rfl ?_
  intro xs1 hx1
  refine WX.run ttOk rfl ?_
  have r1 : (a).length ≤ bd n := (okl hoka).1
  refine WX.loop (ι := (List Value) × (List Key) × Int × Nat) ⟨fun | (xsa2, a2, k2, i) => (i ≤ (a).length) ∧ (a2.length = (a).length) ∧ (∀ z_ ∈ a2, GoT.ok n z_) ∧ (-9223372036854775808 ≤ k2 ∧ k2 ≤ 9223372036854775807) ∧ (laws_markKeyS_L1 ((a).length) 0 (a : List Key) k = laws_markKeyS_L1 ((a).length - i) i a2 k2), fun | (xsa2, a2, k2, i) => (a).length - i, fun | (xsa2, a2, k2, i) => [(0, .v (.slice pa ((a).length) ca)), (1, .v (.int .i64 (k2))), (5, .v (.int .i64 (((i : Nat) : Int))))], fun | (xsa2, a2, k2, i) => [], fun | (xsa2, a2, k2, i) => [(501, ⟨2, pa, (a).length, ca, xsa2⟩)], fun | (xsa2, a2, k2, i) => [(2, MF.ol xsa2 (a2 : List Key))]⟩ (xs1, (a : List Key), k, 0) ⟨(Nat.zero_le _), (by simp), (okl hoka).2, hokk, rfl⟩
    (.cons rfl (.cons rfl (.cons rfl (.nil)))) .nil (.cons rfl (.nil)) [2] rfl ?_
  rintro ⟨xsa2, a2, k2, i⟩ hpre
  have hpre_ : (i ≤ (a).length) ∧ (a2.length = (a).length) ∧ (∀ z_ ∈ a2, GoT.ok n z_) ∧ (-9223372036854775808 ≤ k2 ∧ k2 ≤ 9223372036854775807) ∧ (laws_markKeyS_L1 ((a).length) 0 (a : List Key) k = laws_markKeyS_L1 ((a).length - i) i a2 k2) := hpre
  clear hpre
  obtain ⟨v1, v2, v3, v4, v5⟩ := hpre_
  refine WX.run ttOk rfl ?_
  refine WX.cases 9 rfl (fun h1 => ?_) (fun h1 => ?_)
  · skip
    have h1d := B.dt h1
    refine WX.run ttOk rfl ?_
    have hr1 : i < (a).length := (by first | assumption | omega)
    refine WX.idxR 501 i ttOk rfl rfl rfl rfl rfl rfl rfl rfl rfl hr1 ?_
    rintro ad1 rfl
    refine WX.run ttOk rfl ?_
    have e1i : i < (a2).length := (by first | assumption | omega)
    obtain ⟨e1, e1h⟩ : ∃ e1, (a2)[i]? = some e1 := ⟨_, List.getElem?_eq_getElem e1i⟩
    have ok1 : GoT.ok n e1 := v3 _ (List.mem_of_getElem? e1h)
    refine WX.opnE (α := Key) (e := e1) 501 2 3 i rfl rfl rfl e1h (fun _ => rfl) (fun _ _ _ => rfl) (fun _ _ _ => rfl) ?_
    rintro A1 B1 ⟨⟨p1, c1⟩, ⟨⟩⟩ hA1 hB1
    refine WX.ldA 501 ttOk rfl rfl rfl rfl rfl rfl rfl rfl rfl rfl hA1 hr1 rfl ?_
    refine WX.run ttOk rfl ?_
    refine WX.callM [4] 7 rfl (fun _ _ h => GoT.ow_rd h) (fun _ f hf => GoT.fak f hf) rfl rfl rfl rfl rfl (fun _ => rfl) rfl (fun w G bs H hI hH hs hΓ => f198 w n (by omega) e1.name.parts p1 c1 k2 H hH hs (ok_Name (ok_Key ok1).1) v4) (fun _ => rfl) (fun _ => rfl) ?_
    rintro ⟨⟩ hq1
    have hl1 : ((laws_markStringS e1.name.parts k2).2).length = (e1.name.parts).length := hq1.2
    refine WX.run ttOk rfl ?_
    have hr2 : i < (a).length := (by first | assumption | omega)
    refine WX.idxR 501 i ttOk rfl rfl rfl rfl rfl rfl rfl rfl rfl hr2 ?_
    rintro ad2 ⟨⟩
    refine WX.run ttOk rfl ?_
    refine WX.stA 501 ttOk rfl rfl rfl rfl rfl rfl rfl rfl rfl rfl rfl rfl rfl rfl hA1 hr2 rfl rfl rfl rfl (by simp) rfl ?_
    refine WX.run ttOk rfl ?_
    refine WX.see rfl rfl rfl (fun _ hΓ => looks_wrap rfl rfl rfl rfl) ?_
    refine WX.run ttOk rfl ?_
    refine WX.see rfl rfl rfl (fun _ hΓ => looks_arith rfl rfl rfl rfl (by unfold I64; first | omega | (dsimp only; omega))) ?_
    refine WX.run ttOk rfl ?_
    refine WX.turn [8, 5, 6] 9 rfl (fun h hs => by have z_ : Sep h [MF.ol (A1 ++ [.slice p1 (((laws_markStringS e1.name.parts k2).2).length) c1, .int .i64 ((laws_markStringS e1.name.parts k2).1)] ++ B1) (a2.set i (Key.mk (Name.mk ((laws_markStringS e1.name.parts k2).2)) ((laws_markStringS e1.name.parts k2).1)))] := cl_elem (α := Key) (e := (Key.mk (Name.mk ((laws_markStringS e1.name.parts k2).2)) ((laws_markStringS e1.name.parts k2).1))) (x := ((p1, c1), ())) e1i hs; rw [hl1] at z_; exact z_) (gs := [MF.ol (A1 ++ [.slice p1 ((e1.name.parts).length) c1, .int .i64 ((laws_markStringS e1.name.parts k2).1)] ++ B1) (a2.set i (Key.mk (Name.mk ((laws_markStringS e1.name.parts k2).2)) ((laws_markStringS e1.name.parts k2).1)))]) rfl ?_
    refine WX.turn [9] 2 rfl (fun _ h => h) rfl ?_
    exact WX.iter ((A1 ++ [.slice p1 ((e1.name.parts).length) c1, .int .i64 ((laws_markStringS e1.name.parts k2).1)] ++ B1), ((a2.set i (Key.mk (Name.mk ((laws_markStringS e1.name.parts k2).2)) ((laws_markStringS e1.name.parts k2).1))) : List Key), IntKind.i64.wrap (((laws_markStringS e1.name.parts k2).1) + 1), i + 1) ⟨(by omega), (by first | assumption | omega | (simp only [List.length_append, List.length_cons, List.length_nil, List.length_set, List.length_map, List.length_take, List.length_drop]; omega) | (simp; omega)), (all_set v3 (show GoT.ok n ((Key.mk (Name.mk ((laws_markStringS e1.name.parts k2).2)) ((laws_markStringS e1.name.parts k2).1)) : Key) from (And.intro hq1.1.2 hq1.1.1))), (i64_wrap _), (by rw [v5, show (a).length - i = ((a).length - (i + 1)) + 1 by omega]; simp only [laws_markKeyS_L1, e1h, cond_true, cond_false])⟩ (by dsimp only; omega) (.cons rfl (.cons rfl (.cons rfl (.nil)))) .nil (.cons rfl (.nil)) [2] rfl
  · skip
    have h1d := B.df h1
    refine WX.run ttOk rfl ?_
    have hX1 : laws_markKeyS_L1 ((a).length) 0 (a : List Key) k = (((a2) : List Key), k2) := by rw [v5, show (a).length - i = 0 by omega]; simp only [laws_markKeyS_L1, cond_true, cond_false]
    refine WX.seal 501 2 10 rfl rfl (show (a).length = (a2).length from by omega) rfl rfl ?_
    refine WX.slot 7 (y := .v (.slice pa (a2).length ca)) rfl (fun _ => by show (Value.slice pa ((a).length) ca : Value) = Value.slice pa (a2).length ca; rw [(show (a).length = (a2).length from by omega)]) ?_
    refine WX.slot 0 (y := .v (.slice pa (a2).length ca)) rfl (fun _ => by show (Value.slice pa ((a).length) ca : Value) = Value.slice pa (a2).length ca; rw [(show (a).length = (a2).length from by omega)]) ?_
    have hP1 : laws_markKeyS a k = (k2, a2) := by simp only [laws_markKeyS, hX1, cond_true, cond_false]
    refine WX.ret ttOk rfl ?_
    intro w1 G bs hI hΓ
    rw [hP1]
    exact Post.of [11] () hI hΓ rfl rfl rfl ⟨⟨v4, (okl_mk (by omega) v3 : GoT.ok n (a2 : List Key))⟩, (show (a2).length = (a).length from by omega)⟩
theorem f108 (w : World) (n : Nat) (hn : n + 0 ≤ 9) (a : (List Rule)) (pa : Option Addr) (ca : Nat) (k : Int) (H : GH) (hH : Le H (hp w)) (hown : Sep H (GoT.oa a (pa, ca))) (hoka : GoT.ok n a) (hokk : GoT.ok n k) :
    Does Tryz.prog 108 #[.slice pa ((a).length) ca, .int .i64 (k)] w H (Post w H (fun _ : Unit => .int .i64 ((laws_markRuleS a k).1)) (fun _ => GoT.oa ((laws_markRuleS a k).2 : (List Rule)) (pa, ca)) ((GoT.ok n ((laws_markRuleS a k).1 : Int) ∧ GoT.ok n ((laws_markRuleS a k).2 : (List Rule))) ∧ ((laws_markRuleS a k).2).length = (a).length)) := by
  have hbP := bd_pos n
  have hbB := bd_big (n := n) (by omega)
  refine WX.enterM (tt := tt) (Γ := []) 1 Tryz.func108 rfl (by kernel_rfl) rfl allS_nil hH hown (fun f hf => GoT.oak f hf) rfl ?_
  refine WX.opn (kk := 2) 501 1 2 rfl rfl rfl ?_
  intro xs1 hx1
  refine WX.run ttOk rfl ?_
  have r1 : (a).length ≤ bd n := (okl hoka).1
  refine WX.loop (ι := (List Value) × (List Rule) × Int × Nat) ⟨fun | (xsa2, a2, k2, i) => (i ≤ (a).length) ∧ (a2.length = (a).length) ∧ (∀ z_ ∈ a2, GoT.ok n z_) ∧ (-9223372036854775808 ≤ k2 ∧ k2 ≤ 9223372036854775807) ∧ (laws_markRuleS_L1 ((a).length) 0 (a : List Rule) k = laws_markRuleS_L1 ((a).length - i) i a2 k2), fun | (xsa2, a2, k2, i) => (a).length - i, fun | (xsa2, a2, k2, i) => [(0, .v (.slice pa ((a).length) ca)), (1, .v (.int .i64 (k2))), (5, .v (.int .i64 (((i : Nat) : Int))))], fun | (xsa2, a2, k2, i) => [], fun | (xsa2, a2, k2, i) => [(501, ⟨2, pa, (a).length, ca, xsa2⟩)], fun | (xsa2, a2, k2, i) => [(2, MF.ol xsa2 (a2 : List Rule))]⟩ (xs1, (a : List Rule), k, 0) ⟨(Nat.zero_le _), (by simp), (okl hoka).2, hokk, rfl⟩
    (.cons rfl (.cons rfl (.cons rfl (.nil)))) .nil (.cons rfl (.nil)) [2] rfl ?_
  rintro ⟨xsa2, a2, k2, i⟩ hpre
  have hpre_ : (i ≤ (a).length) ∧ (a2.length = (a).length) ∧ (∀ z_ ∈ a2, GoT.ok n z_) ∧ (-9223372036854775808 ≤ k2 ∧ k2 ≤ 9223372036854775807) ∧ (laws_markRuleS_L1 ((a).length) 0 (a : List Rule) k = laws_markRuleS_L1 ((a).length - i) i a2 k2) := hpre
  clear hpre
  obtain ⟨v1, v2, v3, v4, v5⟩ := hpre_
  refine WX.run ttOk rfl ?_
  refine WX.cases 9 rfl (fun h1 => ?_) (fun h1 => ?_)
  · skip
    have h1d := B.dt h1
    refine WX.run ttOk rfl ?_
    have hr1 : i < (a).length := (by first | assumption | omega)
    refine WX.idxR 501 i ttOk rfl rfl rfl rfl rfl rfl rfl rfl rfl hr1 ?_
    rintro ad1 rfl
    refine WX.run ttOk rfl ?_
    have e1i : i < (a2).length := (by first | assumption | omega)
    obtain ⟨e1, e1h⟩ : ∃ e1, (a2)[i]? = some e1 := ⟨_, List.getElem?_eq_getElem e1i⟩
    have ok1 : GoT.ok n e1 := v3 _ (List.mem_of_getElem? e1h)
    refine WX.opnE (α := Rule) (e := e1) 501 2 3 i rfl rfl rfl e1h (fun _ => rfl) (fun _ _ _ => rfl) (fun _ _ _ => rfl) ?_
    rintro A1 B1 ⟨⟨p1, c1⟩, ⟨p2, c2⟩⟩ hA1 hB1
    refine WX.ldA 501 ttOk rfl rfl rfl rfl rfl rfl rfl rfl rfl rfl hA1 hr1 rfl ?_
    refine WX.run ttOk rfl ?_
    refine WX.callM [5] 9 rfl (fun _ _ h => GoT.ow_rd h) (fun _ f hf => GoT.fak f hf) rfl rfl rfl rfl rfl (fun _ => rfl) rfl (fun w G bs H hI hH hs hΓ => f198 w n (by omega) e1.dataPattern.parts p1 c1 k2 H hH hs (ok_Pattern (ok_Rule ok1).1) v4) (fun _ => rfl) (fun _ => rfl) ?_
    rintro ⟨⟩ hq1
    have hl1 : ((laws_markStringS e1.dataPattern.parts k2).2).length = (e1.dataPattern.parts).length := hq1.2
    refine WX.run ttOk rfl ?_
    have hr2 : i < (a).length := (by first | assumption | omega)
    refine WX.idxR 501 i ttOk rfl rfl rfl rfl rfl rfl rfl rfl rfl hr2 ?_
    rintro ad2 ⟨⟩
    refine WX.run ttOk rfl ?_
    refine WX.ldA 501 ttOk rfl rfl rfl rfl rfl rfl rfl rfl rfl rfl hA1 hr2 rfl ?_
    refine WX.run ttOk rfl ?_
    refine WX.callM [6] 11 rfl (fun _ _ h => GoT.ow_rd h) (fun _ f hf => GoT.fak f hf) rfl rfl rfl rfl rfl (fun _ => rfl) rfl (fun w G bs H hI hH hs hΓ => f198 w n (by omega) e1.keyPattern.parts p2 c2 ((laws_markStringS e1.dataPattern.parts k2).1) H hH hs (ok_Pattern (ok_Rule ok1).2) hq1.1.1) (fun _ => rfl) (fun _ => rfl) ?_
    rintro ⟨⟩ hq2
    have hl2 : ((laws_markStringS e1.keyPattern.parts ((laws_markStringS e1.dataPattern.parts k2).1)).2).length = (e1.keyPattern.parts).length := hq2.2
    refine WX.run ttOk rfl ?_
    refine WX.see rfl rfl rfl (fun _ hΓ => looks_arith rfl rfl rfl rfl (by unfold I64; first | omega | (dsimp only; omega))) ?_
    refine WX.run ttOk rfl ?_
    refine WX.turn [10, 12, 7, 8] 13 rfl (fun h hs => by have z_ : Sep h [MF.ol (A1 ++ [.slice p1 (((laws_markStringS e1.dataPattern.parts k2).2).length) c1, .slice p2 (((laws_markStringS e1.keyPattern.parts ((laws_markStringS e1.dataPattern.parts k2).1)).2).length) c2] ++ B1) (a2.set i (Rule.mk (Pattern.mk ((laws_markStringS e1.dataPattern.parts k2).2)) (Pattern.mk ((laws_markStringS e1.keyPattern.parts ((laws_markStringS e1.dataPattern.parts k2).1)).2))))] := cl_elem (α := Rule) (e := (Rule.mk (Pattern.mk ((laws_markStringS e1.dataPattern.parts k2).2)) (Pattern.mk ((laws_markStringS e1.keyPattern.parts ((laws_markStringS e1.dataPattern.parts k2).1)).2)))) (x := ((p1, c1), (p2, c2))) e1i hs; rw [hl1, hl2] at z_; exact z_) (gs := [MF.ol (A1 ++ [.slice p1 ((e1.dataPattern.parts).length) c1, .slice p2 ((e1.keyPattern.parts).length) c2] ++ B1) (a2.set i (Rule.mk (Pattern.mk ((laws_markStringS e1.dataPattern.parts k2).2)) (Pattern.mk ((laws_markStringS e1.keyPattern.parts ((laws_markStringS e1.dataPattern.parts k2).1)).2))))]) rfl ?_
    refine WX.turn [13] 2 rfl (fun _ h => h) rfl ?_
    exact WX.iter ((A1 ++ [.slice p1 ((e1.dataPattern.parts).length) c1, .slice p2 ((e1.keyPattern.parts).length) c2] ++ B1), ((a2.set i (Rule.mk (Pattern.mk ((laws_markStringS e1.dataPattern.parts k2).2)) (Pattern.mk ((laws_markStringS e1.keyPattern.parts ((laws_markStringS e1.dataPattern.parts k2).1)).2)))) : List Rule), (laws_markStringS e1.keyPattern.parts ((laws_markStringS e1.dataPattern.parts k2).1)).1, i + 1) ⟨(by omega), (by first | assumption | omega | (simp only [List.length_append, List.length_cons, List.length_nil, List.length_set, List.length_map, List.length_take, List.length_drop]; omega) | (simp; omega)), (all_set v3 (show GoT.ok n ((Rule.mk (Pattern.mk ((laws_markStringS e1.dataPattern.parts k2).2)) (Pattern.mk ((laws_markStringS e1.keyPattern.parts ((laws_markStringS e1.dataPattern.parts k2).1)).2))) : Rule) from (And.intro hq1.1.2 hq2.1.2))), hq2.1.1, (by rw [v5, show (a).length - i = ((a).length - (i + 1)) + 1 by omega]; simp only [laws_markRuleS_L1, e1h, cond_true, cond_false])⟩ (by dsimp only; omega) (.cons rfl (.cons rfl (.cons rfl (.nil)))) .nil (.cons rfl (.nil)) [2] rfl
  · skip
    have h1d := B.df h1
    refine WX.run ttOk rfl ?_
    have hX1 : laws_markRuleS_L1 ((a).length) 0 (a : List Rule) k = (((a2) : List Rule), k2) := by rw [v5, show (a).length - i = 0 by omega]; simp only [laws_markRuleS_L1, cond_true, cond_false]
    refine WX.seal 501 2 14 rfl rfl (show (a).length = (a2).length from by omega) rfl rfl ?_
    refine WX.slot 7 (y := .v (.slice pa (a2).length ca)) rfl (fun _ => by show (Value.slice pa ((a).length) ca : Value) = Value.slice pa (a2).length ca; rw [(show (a).length = (a2).length from by omega)]) ?_
    refine WX.slot 0 (y := .v (.slice pa (a2).length ca)) rfl (fun _ => by show (Value.slice pa ((a).length) ca : Value) = Value.slice pa (a2).length ca; rw [(show (a).length = (a2).length from by omega)]) ?_
    have hP1 : laws_markRuleS a k = (k2, a2) := by simp only [laws_markRuleS, hX1, cond_true, cond_false]
    refine WX.ret ttOk rfl ?_
    intro w1 G bs hI hΓ
    rw [hP1]
    exact Post.of [15] () hI hΓ rfl rfl rfl ⟨⟨v4, (okl_mk (by omega) v3 : GoT.ok n (a2 : List Rule))⟩, (show (a2).length = (a).length from by omega)⟩
theorem f109 (w : World) (n : Nat) (hn : n + 0 ≤ 9) (a : (List Name)) (pa : Option Addr) (ca : Nat) (k : Int) (H : GH) (hH : Le H (hp w)) (hown : Sep H (GoT.oa a (pa, ca))) (hoka : GoT.ok n a) (hokk : GoT.ok n k) :
    Does Tryz.prog 109 #[.slice pa ((a).length) ca, .int .i64 (k)] w H (Post w H (fun _ : Unit => .int .i64 ((laws_markNameS a k).1)) (fun _ => GoT.oa ((laws_markNameS a k).2 : (List Name)) (pa, ca)) ((GoT.ok n ((laws_markNameS a k).1 : Int) ∧ GoT.ok n ((laws_markNameS a k).2 : (List Name))) ∧ ((laws_markNameS a k).2).length = (a).length)) := by
  have hbP := bd_pos n
  have hbB := bd_big (n := n) (by omega)
  refine WX.enterM (tt := tt) (Γ := []) 1 Tryz.func109 rfl (by kernel_rfl) rfl allS_nil hH hown (fun f hf => GoT.oak f hf) rfl ?_
  refine WX.opn (kk := 1) 501 1 2 rfl rfl rfl ?_
  intro xs1 hx1
  refine WX.run ttOk rfl ?_
  have r1 : (a).length ≤ bd n := (okl hoka).1
  refine WX.loop (ι := (List Value) × (List Name) × Int × Nat) ⟨fun | (xsa2, a2, k2, i) => (i ≤ (a).length) ∧ (a2.length = (a).length) ∧ (∀ z_ ∈ a2, GoT.ok n z_) ∧ (-9223372036854775808 ≤ k2 ∧ k2 ≤ 9223372036854775807) ∧ (laws_markNameS_L1 ((a).length) 0 (a : List Name) k = laws_markNameS_L1 ((a).length - i) i a2 k2), fun | (xsa2, a2, k2, i) => (a).length - i, fun | (xsa2, a2, k2, i) => [(0, .v (.slice pa ((a).length) ca)), (1, .v (.int .i64 (k2))), (5, .v (.int .i64 (((i : Nat) : Int))))], fun | (xsa2, a2, k2, i) => [], fun | (xsa2, a2, k2, i) => [(501, ⟨1, pa, (a).length, ca, xsa2⟩)], fun | (xsa2, a2, k2, i) => [(2, MF.ol xsa2 (a2 : List Name))]⟩ (xs1, (a : List Name), k, 0) ⟨(Nat.zero_le _), (by simp), (okl hoka).2, hokk, rfl⟩
    (.cons rfl (.cons rfl (.cons rfl (.nil)))) .nil (.cons rfl (.nil)) [2] rfl ?_
  rintro ⟨xsa2, a2, k2, i⟩ hpre
  have hpre_ : (i ≤ (a).length) ∧ (a2.length = (a).length) ∧ (∀ z_ ∈ a2, GoT.ok n z_) ∧ (-9223372036854775808 ≤ k2 ∧ k2 ≤ 9223372036854775807) ∧ (laws_markNameS_L1 ((a).length) 0 (a : List Name) k = laws_markNameS_L1 ((a).length - i) i a2 k2) := hpre
  clear hpre
  obtain ⟨v1, v2, v3, v4, v5⟩ := hpre_
  refine WX.run ttOk rfl ?_
  refine WX.cases 9 rfl (fun h1 => ?_) (fun h1 => ?_)
  · skip
    have h1d := B.dt h1
    refine WX.run ttOk rfl ?_
    have hr1 : i < (a).length := (by first | assumption | omega)
    refine WX.idxR 501 i ttOk rfl rfl rfl rfl rfl rfl rfl rfl rfl hr1 ?_
    rintro ad1 rfl
    refine WX.run ttOk rfl ?_
    have e1i : i < (a2).length := (by first | assumption | omega)
    obtain ⟨e1, e1h⟩ : ∃ e1, (a2)[i]? = some e1 := ⟨_, List.getElem?_eq_getElem e1i⟩
    have ok1 : GoT.ok n e1 := v3 _ (List.mem_of_getElem? e1h)
    refine WX.opnE (α := Name) (e := e1) 501 2 3 i rfl rfl rfl e1h (fun _ => rfl) (fun _ _ _ => rfl) (fun _ _ _ => rfl) ?_
    rintro A1 B1 ⟨p1, c1⟩ hA1 hB1
    refine WX.ldA 501 ttOk rfl rfl rfl rfl rfl rfl rfl rfl rfl rfl hA1 hr1 rfl ?_
    refine WX.run ttOk rfl ?_
    refine WX.callM [4] 7 rfl (fun _ _ h => GoT.ow_rd h) (fun _ f hf => GoT.fak f hf) rfl rfl rfl rfl rfl (fun _ => rfl) rfl (fun w G bs H hI hH hs hΓ => f198 w n (by omega) e1.parts p1 c1 k2 H hH hs (ok_Name ok1) v4) (fun _ => rfl) (fun _ => rfl) ?_
    rintro ⟨⟩ hq1
    have hl1 : ((laws_markStringS e1.parts k2).2).length = (e1.parts).length := hq1.2
    refine WX.run ttOk rfl ?_
    refine WX.see rfl rfl rfl (fun _ hΓ => looks_arith rfl rfl rfl rfl (by unfold I64; first | omega | (dsimp only; omega))) ?_
    refine WX.run ttOk rfl ?_
    refine WX.turn [8, 5, 6] 9 rfl (fun h hs => by have z_ : Sep h [MF.ol (A1 ++ [.slice p1 (((laws_markStringS e1.parts k2).2).length) c1] ++ B1) (a2.set i (Name.mk ((laws_markStringS e1.parts k2).2)))] := cl_elem (α := Name) (e := (Name.mk ((laws_markStringS e1.parts k2).2))) (x := (p1, c1)) e1i hs; rw [hl1] at z_; exact z_) (gs := [MF.ol (A1 ++ [.slice p1 ((e1.parts).length) c1] ++ B1) (a2.set i (Name.mk ((laws_markStringS e1.parts k2).2)))]) rfl ?_
    refine WX.turn [9] 2 rfl (fun _ h => h) rfl ?_
    exact WX.iter ((A1 ++ [.slice p1 ((e1.parts).length) c1] ++ B1), ((a2.set i (Name.mk ((laws_markStringS e1.parts k2).2))) : List Name), (laws_markStringS e1.parts k2).1, i + 1) ⟨(by omega), (by first | assumption | omega | (simp only [List.length_append, List.length_cons, List.length_nil, List.length_set, List.length_map, List.length_take, List.length_drop]; omega) | (simp; omega)), (all_set v3 (show GoT.ok n ((Name.mk ((laws_markStringS e1.parts k2).2)) : Name) from hq1.1.2)), hq1.1.1, (by rw [v5, show (a).length - i = ((a).length - (i + 1)) + 1 by omega]; simp only [laws_markNameS_L1, e1h, cond_true, cond_false])⟩ (by dsimp only; omega) (.cons rfl (.cons rfl (.cons rfl (.nil)))) .nil (.cons rfl (.nil)) [2] rfl
  · skip
    have h1d := B.df h1
    refine WX.run ttOk rfl ?_
    have hX1 : laws_markNameS_L1 ((a).length) 0 (a : List Name) k = (((a2) : List Name), k2) := by rw [v5, show (a).length - i = 0 by omega]; simp only [laws_markNameS_L1, cond_true, cond_false]
    refine WX.seal 501 2 10 rfl rfl (show (a).length = (a2).length from by omega) rfl rfl ?_
    refine WX.slot 7 (y := .v (.slice pa (a2).length ca)) rfl (fun _ => by show (Value.slice pa ((a).length) ca : Value) = Value.slice pa (a2).length ca; rw [(show (a).length = (a2).length from by omega)]) ?_
    refine WX.slot 0 (y := .v (.slice pa (a2).length ca)) rfl (fun _ => by show (Value.slice pa ((a).length) ca : Value) = Value.slice pa (a2).length ca; rw [(show (a).length = (a2).length from by omega)]) ?_
    have hP1 : laws_markNameS a k = (k2, a2) := by simp only [laws_markNameS, hX1, cond_true, cond_false]
    refine WX.ret ttOk rfl ?_
    intro w1 G bs hI hΓ
    rw [hP1]
    exact Post.of [11] () hI hΓ rfl rfl rfl ⟨⟨v4, (okl_mk (by omega) v3 : GoT.ok n (a2 : List Name))⟩, (show (a2).length = (a).length from by omega)⟩
theorem f110 (w : World) (n : Nat) (hn : n + 0 ≤ 9) (a : (List DataP)) (pa : Option Addr) (ca : Nat) (k : Int) (H : GH) (hH : Le H (hp w)) (hown : Sep H (GoT.oa a (pa, ca))) (hoka : GoT.ok n a) (hokk : GoT.ok n k) :
    Does Tryz.prog 110 #[.slice pa ((a).length) ca, .int .i64 (k)] w H (Post w H (fun _ : Unit => .int .i64 ((laws_markDataS a k).1)) (fun _ => GoT.oa ((laws_markDataS a k).2 : (List DataP)) (pa, ca)) ((GoT.ok n ((laws_markDataS a k).1 : Int) ∧ GoT.ok n ((laws_markDataS a k).2 : (List DataP))) ∧ ((laws_markDataS a k).2).length = (a).length)) := by
  have hbP := bd_pos n
  have hbB := bd_big (n := n) (by omega)
  refine WX.enterM (tt := tt) (Γ := []) 1 Tryz.func110 rfl (by kernel_rfl) rfl allS_nil hH hown (fun f hf => GoT.oak f hf) rfl ?_
  refine WX.opn (kk := 5) 501 1 2 rfl rfl rfl ?_
  intro xs1 hx1
  refine WX.run ttOk rfl ?_
  have r1 : (a).length ≤ bd n := (okl hoka).1
  refine WX.loop (ι := (List Value) × (List DataP) × Int × Nat) ⟨fun | (xsa2, a2, k2, i) => (i ≤ (a).length) ∧ (a2.length = (a).length) ∧ (∀ z_ ∈ a2, GoT.ok n z_) ∧ (-9223372036854775808 ≤ k2 ∧ k2 ≤ 9223372036854775807) ∧ (laws_markDataS_L1 ((a).length) 0 (a : List DataP) k = laws_markDataS_L1 ((a).length - i) i a2 k2), fun | (xsa2, a2, k2, i) => (a).length - i, fun | (xsa2, a2, k2, i) => [(0, .v (.slice pa ((a).length) ca)), (1, .v (.int .i64 (k2))), (5, .v (.int .i64 (((i : Nat) : Int))))], fun | (xsa2, a2, k2, i) => [], fun | (xsa2, a2, k2, i) => [(501, ⟨5, pa, (a).length, ca, xsa2⟩)], fun | (xsa2, a2, k2, i) => [(2, MF.ol xsa2 (a2 : List DataP))]⟩ (xs1, (a : List DataP), k, 0) ⟨(Nat.zero_le _), (by simp), (okl hoka).2, hokk, rfl⟩
    (.cons rfl (.cons rfl (.cons rfl (.nil)))) .nil (.cons rfl (.nil)) [2] rfl ?_
  rintro ⟨xsa2, a2, k2, i⟩ hpre
  have hpre_ : (i ≤ (a).length) ∧ (a2.length = (a).length) ∧ (∀ z_ ∈ a2, GoT.ok n z_) ∧ (-9223372036854775808 ≤ k2 ∧ k2 ≤ 9223372036854775807) ∧ (laws_markDataS_L1 ((a).length) 0 (a : List DataP) k = laws_markDataS_L1 ((a).length - i) i a2 k2) := hpre
  clear hpre
  obtain ⟨v1, v2, v3, v4, v5⟩ := hpre_
  refine WX.run ttOk rfl ?_
  refine WX.cases 9 rfl (fun h1 => ?_) (fun h1 => ?_)
  · skip
    have h1d := B.dt h1
    refine WX.run ttOk rfl ?_
    have hr1 : i < (a).length := (by first | assumption | omega)
    refine WX.idxR 501 i ttOk rfl rfl rfl rfl rfl rfl rfl rfl rfl hr1 ?_
    rintro ad1 rfl
    refine WX.run ttOk rfl ?_
    have e1i : i < (a2).length := (by first | assumption | omega)
    obtain ⟨e1, e1h⟩ : ∃ e1, (a2)[i]? = some e1 := ⟨_, List.getElem?_eq_getElem e1i⟩
    have ok1 : GoT.ok n e1 := v3 _ (List.mem_of_getElem? e1h)
    refine WX.opnE (α := DataP) (e := e1) 501 2 3 i rfl rfl rfl e1h (fun _ => rfl) (fun _ _ _ => rfl) (fun _ _ _ => rfl) ?_
    rintro A1 B1 ⟨⟨p1, c1⟩, ⟨p2, c2⟩, ⟨p3, c3⟩, ⟨⟩, ⟨⟩⟩ hA1 hB1
    refine WX.ldA 501 ttOk rfl rfl rfl rfl rfl rfl rfl rfl rfl rfl hA1 hr1 rfl ?_
    refine WX.run ttOk rfl ?_
    refine WX.callM [6] 11 rfl (fun _ _ h => GoT.ow_rd h) (fun _ f hf => GoT.fak f hf) rfl rfl rfl rfl rfl (fun _ => rfl) rfl (fun w G bs H hI hH hs hΓ => f198 w n (by omega) e1.name.parts p1 c1 k2 H hH hs (ok_Name (ok_DataP ok1).1) v4) (fun _ => rfl) (fun _ => rfl) ?_
    rintro ⟨⟩ hq1
    have hl1 : ((laws_markStringS e1.name.parts k2).2).length = (e1.name.parts).length := hq1.2
    refine WX.run ttOk rfl ?_
    have hr2 : i < (a).length := (by first | assumption | omega)
    refine WX.idxR 501 i ttOk rfl rfl rfl rfl rfl rfl rfl rfl rfl hr2 ?_
    rintro ad2 ⟨⟩
    refine WX.run ttOk rfl ?_
    refine WX.ldA 501 ttOk rfl rfl rfl rfl rfl rfl rfl rfl rfl rfl hA1 hr2 rfl ?_
    refine WX.run ttOk rfl ?_
    refine WX.callM [7] 13 rfl (fun _ _ h => GoT.ow_rd h) (fun _ f hf => GoT.fak f hf) rfl rfl rfl rfl rfl (fun _ => rfl) rfl (fun w G bs H hI hH hs hΓ => f25 w n (by omega) e1.content p2 c2 ((laws_markStringS e1.name.parts k2).1) H hH hs ((ok_DataP ok1).2.1) hq1.1.1) (fun _ => rfl) (fun _ => rfl) ?_
    rintro ⟨⟩ hq2
    have hl2 : ((laws_markByteS e1.content ((laws_markStringS e1.name.parts k2).1)).2).length = (e1.content).length := hq2.2
    refine WX.run ttOk rfl ?_
    have hr3 : i < (a).length := (by first | assumption | omega)
    refine WX.idxR 501 i ttOk rfl rfl rfl rfl rfl rfl rfl rfl rfl hr3 ?_
    rintro ad3 ⟨⟩
    refine WX.run ttOk rfl ?_
    refine WX.ldA 501 ttOk rfl rfl rfl rfl rfl rfl rfl rfl rfl rfl hA1 hr3 rfl ?_
    refine WX.run ttOk rfl ?_
    refine WX.callM [8] 15 rfl (fun _ _ h => GoT.ow_rd h) (fun _ f hf => GoT.fak f hf) rfl rfl rfl rfl rfl (fun _ => rfl) rfl (fun w G bs H hI hH hs hΓ => f198 w n (by omega) e1.keyName.parts p3 c3 ((laws_markByteS e1.content ((laws_markStringS e1.name.parts k2).1)).1) H hH hs (ok_Name (ok_DataP ok1).2.2.1) hq2.1.1) (fun _ => rfl) (fun _ => rfl) ?_
    rintro ⟨⟩ hq3
    have hl3 : ((laws_markStringS e1.keyName.parts ((laws_markByteS e1.content ((laws_markStringS e1.name.parts k2).1)).1)).2).length = (e1.keyName.parts).length := hq3.2
    refine WX.run ttOk rfl ?_
    have hr4 : i < (a).length := (by first | assumption | omega)
    refine WX.idxR 501 i ttOk rfl rfl rfl rfl rfl rfl rfl rfl rfl hr4 ?_
    rintro ad4 ⟨⟩
    refine WX.run ttOk rfl ?_
    refine WX.stA 501 ttOk rfl rfl rfl rfl rfl rfl rfl rfl rfl rfl rfl rfl rfl rfl hA1 hr4 rfl rfl rfl rfl (by simp) rfl ?_
    refine WX.run ttOk rfl ?_
    refine WX.see rfl rfl rfl (fun _ hΓ => looks_wrap rfl rfl rfl rfl) ?_
    refine WX.run ttOk rfl ?_
    have hr5 : i < (a).length := (by first | assumption | omega)
    refine WX.idxR 501 i ttOk rfl rfl rfl rfl rfl rfl rfl rfl rfl hr5 ?_
    rintro ad5 ⟨⟩
    refine WX.run ttOk rfl ?_
    refine WX.stA 501 ttOk rfl rfl rfl rfl rfl rfl rfl rfl rfl rfl rfl rfl rfl rfl hA1 hr5 rfl rfl rfl rfl (by simp) rfl ?_
    refine WX.run ttOk rfl ?_
    refine WX.see rfl rfl rfl (fun _ hΓ => looks_wrap rfl rfl rfl rfl) ?_
    refine WX.run ttOk rfl ?_
    refine WX.see rfl rfl rfl (fun _ hΓ => looks_arith rfl rfl rfl rfl (by unfold I64; first | omega | (dsimp only; omega))) ?_
    refine WX.run ttOk rfl ?_
    refine WX.turn [12, 14, 16, 9, 10] 17 rfl (fun h hs => by have z_ : Sep h [MF.ol (A1 ++ [.slice p1 (((laws_markStringS e1.name.parts k2).2).length) c1, .slice p2 (((laws_markByteS e1.content ((laws_markStringS e1.name.parts k2).1)).2).length) c2, .slice p3 (((laws_markStringS e1.keyName.parts ((laws_markByteS e1.content ((laws_markStringS e1.name.parts k2).1)).1)).2).length) c3, .int .i64 ((laws_markStringS e1.keyName.parts ((laws_markByteS e1.content ((laws_markStringS e1.name.parts k2).1)).1)).1), .int .i64 (IntKind.i64.wrap (((laws_markStringS e1.keyName.parts ((laws_markByteS e1.content ((laws_markStringS e1.name.parts k2).1)).1)).1) + 1))] ++ B1) (a2.set i (DataP.mk (Name.mk ((laws_markStringS e1.name.parts k2).2)) ((laws_markByteS e1.content ((laws_markStringS e1.name.parts k2).1)).2) (Name.mk ((laws_markStringS e1.keyName.parts ((laws_markByteS e1.content ((laws_markStringS e1.name.parts k2).1)).1)).2)) ((laws_markStringS e1.keyName.parts ((laws_markByteS e1.content ((laws_markStringS e1.name.parts k2).1)).1)).1) (IntKind.i64.wrap (((laws_markStringS e1.keyName.parts ((laws_markByteS e1.content ((laws_markStringS e1.name.parts k2).1)).1)).1) + 1))))] := cl_elem (α := DataP) (e := (DataP.mk (Name.mk ((laws_markStringS e1.name.parts k2).2)) ((laws_markByteS e1.content ((laws_markStringS e1.name.parts k2).1)).2) (Name.mk ((laws_markStringS e1.keyName.parts ((laws_markByteS e1.content ((laws_markStringS e1.name.parts k2).1)).1)).2)) ((laws_markStringS e1.keyName.parts ((laws_markByteS e1.content ((laws_markStringS e1.name.parts k2).1)).1)).1) (IntKind.i64.wrap (((laws_markStringS e1.keyName.parts ((laws_markByteS e1.content ((laws_markStringS e1.name.parts k2).1)).1)).1) + 1)))) (x := ((p1, c1), (p2, c2), (p3, c3), (), ())) e1i hs; rw [hl1, hl2, hl3] at z_; exact z_) (gs := [MF.ol (A1 ++ [.slice p1 ((e1.name.parts).length) c1, .slice p2 ((e1.content).length) c2, .slice p3 ((e1.keyName.parts).length) c3, .int .i64 ((laws_markStringS e1.keyName.parts ((laws_markByteS e1.content ((laws_markStringS e1.name.parts k2).1)).1)).1), .int .i64 (IntKind.i64.wrap (((laws_markStringS e1.keyName.parts ((laws_markByteS e1.content ((laws_markStringS e1.name.parts k2).1)).1)).1) + 1))] ++ B1) (a2.set i (DataP.mk (Name.mk ((laws_markStringS e1.name.parts k2).2)) ((laws_markByteS e1.content ((laws_markStringS e1.name.parts k2).1)).2) (Name.mk ((laws_markStringS e1.keyName.parts ((laws_markByteS e1.content ((laws_markStringS e1.name.parts k2).1)).1)).2)) ((laws_markStringS e1.keyName.parts ((laws_markByteS e1.content ((laws_markStringS e1.name.parts k2).1)).1)).1) (IntKind.i64.wrap (((laws_markStringS e1.keyName.parts ((laws_markByteS e1.content ((laws_markStringS e1.name.parts k2).1)).1)).1) + 1))))]) rfl ?_
    refine WX.turn [17] 2 rfl (fun _ h => h) rfl ?_
    exact WX.iter ((A1 ++ [.slice p1 ((e1.name.parts).length) c1, .slice p2 ((e1.content).length) c2, .slice p3 ((e1.keyName.parts).length) c3, .int .i64 ((laws_markStringS e1.keyName.parts ((laws_markByteS e1.content ((laws_markStringS e1.name.parts k2).1)).1)).1), .int .i64 (IntKind.i64.wrap (((laws_markStringS e1.keyName.parts ((laws_markByteS e1.content ((laws_markStringS e1.name.parts k2).1)).1)).1) + 1))] ++ B1), ((a2.set i (DataP.mk (Name.mk ((laws_markStringS e1.name.parts k2).2)) ((laws_markByteS e1.content ((laws_markStringS e1.name.parts k2).1)).2) (Name.mk ((laws_markStringS e1.keyName.parts ((laws_markByteS e1.content ((laws_markStringS e1.name.parts k2).1)).1)).2)) ((laws_markStringS e1.keyName.parts ((laws_markByteS e1.content ((laws_markStringS e1.name.parts k2).1)).1)).1) (IntKind.i64.wrap (((laws_markStringS e1.keyName.parts ((laws_markByteS e1.content ((laws_markStringS e1.name.parts k2).1)).1)).1) + 1)))) : List DataP), IntKind.i64.wrap ((IntKind.i64.wrap (((laws_markStringS e1.keyName.parts ((laws_markByteS e1.content ((laws_markStringS e1.name.parts k2).1)).1)).1) + 1)) + 1), i + 1) ⟨(by omega), (by first | assumption | omega | (simp only [List.length_append, List.length_cons, List.length_nil, List.length_set, List.length_map, List.length_take, List.length_drop]; omega) | (simp; omega)), (all_set v3 (show GoT.ok n ((DataP.mk (Name.mk ((laws_markStringS e1.name.parts k2).2)) ((laws_markByteS e1.content ((laws_markStringS e1.name.parts k2).1)).2) (Name.mk ((laws_markStringS e1.keyName.parts ((laws_markByteS e1.content ((laws_markStringS e1.name.parts k2).1)).1)).2)) ((laws_markStringS e1.keyName.parts ((laws_markByteS e1.content ((laws_markStringS e1.name.parts k2).1)).1)).1) (IntKind.i64.wrap (((laws_markStringS e1.keyName.parts ((laws_markByteS e1.content ((laws_markStringS e1.name.parts k2).1)).1)).1) + 1))) : DataP) from (And.intro hq1.1.2 (And.intro hq2.1.2 (And.intro hq3.1.2 (And.intro hq3.1.1 (i64_wrap _))))))), (i64_wrap _), (by rw [v5, show (a).length - i = ((a).length - (i + 1)) + 1 by omega]; simp only [laws_markDataS_L1, e1h, cond_true, cond_false])⟩ (by dsimp only; omega) (.cons rfl (.cons rfl (.cons rfl (.nil)))) .nil (.cons rfl (.nil)) [2] rfl
  · skip
    have h1d := B.df h1
    refine WX.run ttOk rfl ?_
    have hX1 : laws_markDataS_L1 ((a).length) 0 (a : List DataP) k = (((a2) : List DataP), k2) := by rw [v5, show (a).length - i = 0 by omega]; simp only [laws_markDataS_L1, cond_true, cond_false]
    refine WX.seal 501 2 18 rfl rfl (show (a).length = (a2).length from by omega) rfl rfl ?_
    refine WX.slot 7 (y := .v (.slice pa (a2).length ca)) rfl (fun _ => by show (Value.slice pa ((a).length) ca : Value) = Value.slice pa (a2).length ca; rw [(show (a).length = (a2).length from by omega)]) ?_
    refine WX.slot 0 (y := .v (.slice pa (a2).length ca)) rfl (fun _ => by show (Value.slice pa ((a).length) ca : Value) = Value.slice pa (a2).length ca; rw [(show (a).length = (a2).length from by omega)]) ?_
    have hP1 : laws_markDataS a k = (k2, a2) := by simp only [laws_markDataS, hX1, cond_true, cond_false]
    refine WX.ret ttOk rfl ?_
    intro w1 G bs hI hΓ
    rw [hP1]
    exact Post.of [19] () hI hΓ rfl rfl rfl ⟨⟨v4, (okl_mk (by omega) v3 : GoT.ok n (a2 : List DataP))⟩, (show (a2).length = (a).length from by omega)⟩
theorem f40 (w : World) (n : Nat) (hn : n + 0 ≤ 9) (a : TrustPolicy) (paKeys : Option Addr) (caKeys : Nat) (paRules : Option Addr) (caRules : Nat) (paAnchors : Option Addr) (caAnchors : Nat) (paCertificates : Option Addr) (caCertificates : Nat) (k : Int) (H : GH) (hH : Le H (hp w)) (hown : Sep H (GoT.oa a ((paKeys, caKeys), (paRules, caRules), (paAnchors, caAnchors), (paCertificates, caCertificates)))) (hoka : GoT.ok n a) (hokk : GoT.ok n k) :
    Does Tryz.prog 40 #[.agg #[.slice paKeys ((a.keys).length) caKeys, .slice paRules ((a.rules).length) caRules, .slice paAnchors ((a.anchors).length) caAnchors, .slice paCertificates ((a.certificates).length) caCertificates], .int .i64 (k)] w H (Post w H (fun _ : Unit => .int .i64 ((laws_markTrustPolicy a k).1)) (fun _ => GoT.oa ((laws_markTrustPolicy a k).2 : TrustPolicy) ((paKeys, caKeys), (paRules, caRules), (paAnchors, caAnchors), (paCertificates, caCertificates))) ((GoT.ok n ((laws_markTrustPolicy a k).1 : Int) ∧ GoT.ok n ((laws_markTrustPolicy a k).2 : TrustPolicy)) ∧ ((laws_markTrustPolicy a k).2.keys).length = (a.keys).length ∧ ((laws_markTrustPolicy a k).2.rules).length = (a.rules).length ∧ ((laws_markTrustPolicy a k).2.anchors).length = (a.anchors).length ∧ ((laws_markTrustPolicy a k).2.certificates).length = (a.certificates).length)) := by
  have hbP := bd_pos n
  have hbB := bd_big (n := n) (by omega)
  refine WX.enterM (tt := tt) (Γ := []) 4 Tryz.func40 rfl (by kernel_rfl) rfl allS_nil hH hown (fun f hf => GoT.oak f hf) rfl ?_
  refine WX.run ttOk rfl ?_
  refine WX.callM [4] 8 rfl (fun _ _ h => GoT.ow_rd h) (fun _ f hf => GoT.fak f hf) rfl rfl rfl rfl rfl (fun _ => rfl) rfl (fun w G bs H hI hH hs hΓ => f107 w n (by omega) a.keys paKeys caKeys k H hH hs ((ok_TrustPolicy hoka).1) hokk) (fun _ => rfl) (fun _ => rfl) ?_
  rintro ⟨⟩ hq1
  have hl1 : ((laws_markKeyS a.keys k).2).length = (a.keys).length := hq1.2
  refine WX.run ttOk rfl ?_
  refine WX.callM [5] 10 rfl (fun _ _ h => GoT.ow_rd h) (fun _ f hf => GoT.fak f hf) rfl rfl rfl rfl rfl (fun _ => rfl) rfl (fun w G bs H hI hH hs hΓ => f108 w n (by omega) a.rules paRules caRules ((laws_markKeyS a.keys k).1) H hH hs ((ok_TrustPolicy hoka).2.1) hq1.1.1) (fun _ => rfl) (fun _ => rfl) ?_
  rintro ⟨⟩ hq2
  have hl2 : ((laws_markRuleS a.rules ((laws_markKeyS a.keys k).1)).2).length = (a.rules).length := hq2.2
  refine WX.run ttOk rfl ?_
  refine WX.callM [6] 12 rfl (fun _ _ h => GoT.ow_rd h) (fun _ f hf => GoT.fak f hf) rfl rfl rfl rfl rfl (fun _ => rfl) rfl (fun w G bs H hI hH hs hΓ => f109 w n (by omega) a.anchors paAnchors caAnchors ((laws_markRuleS a.rules ((laws_markKeyS a.keys k).1)).1) H hH hs ((ok_TrustPolicy hoka).2.2.1) hq2.1.1) (fun _ => rfl) (fun _ => rfl) ?_
  rintro ⟨⟩ hq3
  have hl3 : ((laws_markNameS a.anchors ((laws_markRuleS a.rules ((laws_markKeyS a.keys k).1)).1)).2).length = (a.anchors).length := hq3.2
  refine WX.run ttOk rfl ?_
  refine WX.callM [7] 14 rfl (fun _ _ h => GoT.ow_rd h) (fun _ f hf => GoT.fak f hf) rfl rfl rfl rfl rfl (fun _ => rfl) rfl (fun w G bs H hI hH hs hΓ => f110 w n (by omega) a.certificates paCertificates caCertificates ((laws_markNameS a.anchors ((laws_markRuleS a.rules ((laws_markKeyS a.keys k).1)).1)).1) H hH hs ((ok_TrustPolicy hoka).2.2.2) hq3.1.1) (fun _ => rfl) (fun _ => rfl) ?_
  rintro ⟨⟩ hq4
  have hl4 : ((laws_markDataS a.certificates ((laws_markNameS a.anchors ((laws_markRuleS a.rules ((laws_markKeyS a.keys k).1)).1)).1)).2).length = (a.certificates).length := hq4.2
  refine WX.run ttOk rfl ?_
  have hP1 : laws_markTrustPolicy a k = ((laws_markDataS a.certificates ((laws_markNameS a.anchors ((laws_markRuleS a.rules ((laws_markKeyS a.keys k).1)).1)).1)).1, TrustPolicy.mk ((laws_markKeyS a.keys k).2) ((laws_markRuleS a.rules ((laws_markKeyS a.keys k).1)).2) ((laws_markNameS a.anchors ((laws_markRuleS a.rules ((laws_markKeyS a.keys k).1)).1)).2) ((laws_markDataS a.certificates ((laws_markNameS a.anchors ((laws_markRuleS a.rules ((laws_markKeyS a.keys k).1)).1)).1)).2)) := by simp only [laws_markTrustPolicy, cond_true, cond_false]
  refine WX.ret ttOk rfl ?_
  intro w1 G bs hI hΓ
  rw [hP1]
  exact Post.of [9, 11, 13, 15] () hI hΓ rfl rfl rfl ⟨⟨hq4.1.1, (And.intro hq1.1.2 (And.intro hq2.1.2 (And.intro hq3.1.2 hq4.1.2)))⟩, ⟨(show ((laws_markKeyS a.keys k).2).length = (a.keys).length from by omega), ⟨(show ((laws_markRuleS a.rules ((laws_markKeyS a.keys k).1)).2).length = (a.rules).length from by omega), ⟨(show ((laws_markNameS a.anchors ((laws_markRuleS a.rules ((laws_markKeyS a.keys k).1)).1)).2).length = (a.anchors).length from by omega), (show ((laws_markDataS a.certificates ((laws_markNameS a.anchors ((laws_markRuleS a.rules ((laws_markKeyS a.keys k).1)).1)).1)).2).length = (a.certificates).length from by omega)⟩⟩⟩⟩
theorem f154 (w : World) (n : Nat) (hn : n + 0 ≤ 9) (a : (List Link)) (pa : Option Addr) (ca : Nat) (k : Int) (H : GH) (hH : Le H (hp w)) (hown : Sep H (GoT.oa a (pa, ca))) (hoka : GoT.ok n a) (hokk : GoT.ok n k) :
    Does Tryz.prog 154 #[.slice pa ((a).length) ca, .int .i64 (k)] w H (Post w H (fun _ : Unit => .int .i64 ((laws_markLinkS a k).1)) (fun _ => GoT.oa ((laws_markLinkS a k).2 : (List Link)) (pa, ca)) ((GoT.ok n ((laws_markLinkS a k).1 : Int) ∧ GoT.ok n ((laws_markLinkS a k).2 : (List Link))) ∧ ((laws_markLinkS a k).2).length = (a).length)) := by
  have hbP := bd_pos n
  have hbB := bd_big (n := n) (by omega)
  refine WX.enterM (tt := tt) (Γ := []) 1 Tryz.func154 rfl (by kernel_rfl) rfl allS_nil hH hown (fun f hf => GoT.oak f hf) rfl ?_
  refine WX.opn (kk := 2) 501 1 2 rfl rfl rfl ?_
  intro xs1 hx1
  refine WX.run ttOk rfl ?_
  have r1 : (a).length ≤ bd n := (okl hoka).1
  refine WX.loop (ι := (List Value) × (List Link) × Int × Nat) ⟨fun | (xsa2, a2, k2, i) => (i ≤ (a).length) ∧ (a2.length = (a).length) ∧ (∀ z_ ∈ a2, GoT.ok n z_) ∧ (-9223372036854775808 ≤ k2 ∧ k2 ≤ 9223372036854775807) ∧ (laws_markLinkS_L1 ((a).length) 0 (a : List Link) k = laws_markLinkS_L1 ((a).length - i) i a2 k2), fun | (xsa2, a2, k2, i) => (a).length - i, fun | (xsa2, a2, k2, i) => [(0, .v (.slice pa ((a).length) ca)), (1, .v (.int .i64 (k2))), (5, .v (.int .i64 (((i : Nat) : Int))))], fun | (xsa2, a2, k2, i) => [], fun | (xsa2, a2, k2, i) => [(501, ⟨2, pa, (a).length, ca, xsa2⟩)], fun | (xsa2, a2, k2, i) => [(2, MF.ol xsa2 (a2 : List Link))]⟩ (xs1, (a : List Link), k, 0) ⟨(Nat.zero_le _), (by simp), (okl hoka).2, hokk, rfl⟩
    (.cons rfl (.cons rfl (.cons rfl (.nil)))) .nil (.cons rfl (.nil)) [2] rfl ?_
  rintro ⟨xsa2, a2, k2, i⟩ hpre
  have hpre_ : (i ≤ (a).length) ∧ (a2.length = (a).length) ∧ (∀ z_ ∈ a2, GoT.ok n z_) ∧ (-9223372036854775808 ≤ k2 ∧ k2 ≤ 9223372036854775807) ∧ (laws_markLinkS_L1 ((a).length) 0 (a : List Link) k = laws_markLinkS_L1 ((a).length - i) i a2 k2) := hpre
  clear hpre
  obtain ⟨v1, v2, v3, v4, v5⟩ := hpre_
  refine WX.run ttOk rfl ?_
  refine WX.cases 9 rfl (fun h1 => ?_) (fun h1 => ?_)
  · skip
    have h1d := B.dt h1
    refine WX.run ttOk rfl ?_
    have hr1 : i < (a).length := (by first | assumption | omega)
    refine WX.idxR 501 i ttOk rfl rfl rfl rfl rfl rfl rfl rfl rfl hr1 ?_
    rintro ad1 rfl
    refine WX.run ttOk rfl ?_
    have e1i : i < (a2).length := (by first | assumption | omega)
    obtain ⟨e1, e1h⟩ : ∃ e1, (a2)[i]? = some e1 := ⟨_, List.getElem?_eq_getElem e1i⟩
    have ok1 : GoT.ok n e1 := v3 _ (List.mem_of_getElem? e1h)
    refine WX.opnE (α := Link) (e := e1) 501 2 3 i rfl rfl rfl e1h (fun _ => rfl) (fun _ _ _ => rfl) (fun _ _ _ => rfl) ?_
    rintro A1 B1 ⟨⟨⟩, ⟨⟩⟩ hA1 hB1
    refine WX.stA 501 ttOk rfl rfl rfl rfl rfl rfl rfl rfl rfl rfl rfl rfl rfl rfl hA1 hr1 rfl rfl rfl rfl (by simp) rfl ?_
    refine WX.run ttOk rfl ?_
    refine WX.see rfl rfl rfl (fun _ hΓ => looks_wrap rfl rfl rfl rfl) ?_
    refine WX.run ttOk rfl ?_
    have hr2 : i < (a).length := (by first | assumption | omega)
    refine WX.idxR 501 i ttOk rfl rfl rfl rfl rfl rfl rfl rfl rfl hr2 ?_
    rintro ad2 ⟨⟩
    refine WX.run ttOk rfl ?_
    refine WX.stA 501 ttOk rfl rfl rfl rfl rfl rfl rfl rfl rfl rfl rfl rfl rfl rfl hA1 hr2 rfl rfl rfl rfl (by simp) rfl ?_
    refine WX.run ttOk rfl ?_
    refine WX.see rfl rfl rfl (fun _ hΓ => looks_wrap rfl rfl rfl rfl) ?_
    refine WX.run ttOk rfl ?_
    refine WX.see rfl rfl rfl (fun _ hΓ => looks_arith rfl rfl rfl rfl (by unfold I64; first | omega | (dsimp only; omega))) ?_
    refine WX.run ttOk rfl ?_
    refine WX.turn [3, 4] 5 rfl (fun h hs => cl_elem (α := Link) (e := (Link.mk k2 (IntKind.i64.wrap (k2 + 1)))) (x := ((), ())) e1i hs) (gs := [MF.ol (A1 ++ [.int .i64 (k2), .int .i64 (IntKind.i64.wrap (k2 + 1))] ++ B1) (a2.set i (Link.mk k2 (IntKind.i64.wrap (k2 + 1))))]) rfl ?_
    refine WX.turn [5] 2 rfl (fun _ h => h) rfl ?_
    exact WX.iter ((A1 ++ [.int .i64 (k2), .int .i64 (IntKind.i64.wrap (k2 + 1))] ++ B1), ((a2.set i (Link.mk k2 (IntKind.i64.wrap (k2 + 1)))) : List Link), IntKind.i64.wrap ((IntKind.i64.wrap (k2 + 1)) + 1), i + 1) ⟨(by omega), (by first | assumption | omega | (simp only [List.length_append, List.length_cons, List.length_nil, List.length_set, List.length_map, List.length_take, List.length_drop]; omega) | (simp; omega)), (all_set v3 (show GoT.ok n ((Link.mk k2 (IntKind.i64.wrap (k2 + 1))) : Link) from (And.intro v4 (i64_wrap _)))), (i64_wrap _), (by rw [v5, show (a).length - i = ((a).length - (i + 1)) + 1 by omega]; simp only [laws_markLinkS_L1, e1h, cond_true, cond_false])⟩ (by dsimp only; omega) (.cons rfl (.cons rfl (.cons rfl (.nil)))) .nil (.cons rfl (.nil)) [2] rfl
  · skip
    have h1d := B.df h1
    refine WX.run ttOk rfl ?_
    have hX1 : laws_markLinkS_L1 ((a).length) 0 (a : List Link) k = (((a2) : List Link), k2) := by rw [v5, show (a).length - i = 0 by omega]; simp only [laws_markLinkS_L1, cond_true, cond_false]
    refine WX.seal 501 2 6 rfl rfl (show (a).length = (a2).length from by omega) rfl rfl ?_
    refine WX.slot 7 (y := .v (.slice pa (a2).length ca)) rfl (fun _ => by show (Value.slice pa ((a).length) ca : Value) = Value.slice pa (a2).length ca; rw [(show (a).length = (a2).length from by omega)]) ?_
    refine WX.slot 0 (y := .v (.slice pa (a2).length ca)) rfl (fun _ => by show (Value.slice pa ((a).length) ca : Value) = Value.slice pa (a2).length ca; rw [(show (a).length = (a2).length from by omega)]) ?_
    have hP1 : laws_markLinkS a k = (k2, a2) := by simp only [laws_markLinkS, hX1, cond_true, cond_false]
    refine WX.ret ttOk rfl ?_
    intro w1 G bs hI hΓ
    rw [hP1]
    exact Post.of [7] () hI hΓ rfl rfl rfl ⟨⟨v4, (okl_mk (by omega) v3 : GoT.ok n (a2 : List Link))⟩, (show (a2).length = (a).length from by omega)⟩
theorem f52 (w : World) (n : Nat) (hn : n + 0 ≤ 9) (a : Topology) (paLinks : Option Addr) (caLinks : Nat) (k : Int) (H : GH) (hH : Le H (hp w)) (hown : Sep H (GoT.oa a ((), (paLinks, caLinks)))) (hoka : GoT.ok n a) (hokk : GoT.ok n k) :
    Does Tryz.prog 52 #[.agg #[.int .i64 (a.size), .slice paLinks ((a.links).length) caLinks], .int .i64 (k)] w H (Post w H (fun _ : Unit => .int .i64 ((laws_markTopology a k).1)) (fun _ => GoT.oa ((laws_markTopology a k).2 : Topology) ((), (paLinks, caLinks))) ((GoT.ok n ((laws_markTopology a k).1 : Int) ∧ GoT.ok n ((laws_markTopology a k).2 : Topology)) ∧ (laws_markTopology a k).2.size = a.size ∧ ((laws_markTopology a k).2.links).length = (a.links).length)) := by
  have hbP := bd_pos n
  have hbB := bd_big (n := n) (by omega)
  refine WX.enterM (tt := tt) (Γ := []) 1 Tryz.func52 rfl (by kernel_rfl) rfl allS_nil hH hown (fun f hf => GoT.oak f hf) rfl ?_
  refine WX.run ttOk rfl ?_
  refine WX.callM [1] 2 rfl (fun _ _ h => GoT.ow_rd h) (fun _ f hf => GoT.fak f hf) rfl rfl rfl rfl rfl (fun _ => rfl) rfl (fun w G bs H hI hH hs hΓ => f154 w n (by omega) a.links paLinks caLinks k H hH hs ((ok_Topology hoka).2) hokk) (fun _ => rfl) (fun _ => rfl) ?_
  rintro ⟨⟩ hq1
  have hl1 : ((laws_markLinkS a.links k).2).length = (a.links).length := hq1.2
  refine WX.run ttOk rfl ?_
  have hP1 : laws_markTopology a k = ((laws_markLinkS a.links k).1, Topology.mk a.size ((laws_markLinkS a.links k).2)) := by simp only [laws_markTopology, cond_true, cond_false]
  refine WX.ret ttOk rfl ?_
  intro w1 G bs hI hΓ
  rw [hP1]
  exact Post.of [3] () hI hΓ rfl rfl rfl ⟨⟨hq1.1.1, (And.intro (ok_Topology hoka).1 hq1.1.2)⟩, ⟨rfl, (show ((laws_markLinkS a.links k).2).length = (a.links).length from by omega)⟩⟩
theorem f256 (w : World) (n : Nat) (hn : n + 0 ≤ 9) (a : (List CacheEntry)) (pa : Option Addr) (ca : Nat) (k : Int) (H : GH) (hH : Le H (hp w)) (hown : Sep H (GoT.oa a (pa, ca))) (hoka : GoT.ok n a) (hokk : GoT.ok n k) :
    Does Tryz.prog 256 #[.slice pa ((a).length) ca, .int .i64 (k)] w H (Post w H (fun _ : Unit => .int .i64 ((laws_markCacheEntryS a k).1)) (fun _ => GoT.oa ((laws_markCacheEntryS a k).2 : (List CacheEntry)) (pa, ca)) ((GoT.ok n ((laws_markCacheEntryS a k).1 : Int) ∧ GoT.ok n ((laws_markCacheEntryS a k).2 : (List CacheEntry))) ∧ ((laws_markCacheEntryS a k).2).length = (a).length)) := by
  have hbP := bd_pos n
  have hbB := bd_big (n := n) (by omega)
  refine WX.enterM (tt := tt) (Γ := []) 1 Tryz.func256 rfl (by kernel_rfl) rfl allS_nil hH hown (fun f hf => GoT.oak f hf) rfl ?_
  refine WX.opn (kk := 6) 501 1 2 rfl rfl rfl ?_
  intro xs1 hx1
  refine WX.run ttOk rfl ?_
  have r1 : (a).length ≤ bd n := (okl hoka).1
  refine WX.loop (ι := (List Value) × (List CacheEntry) × Int × Nat) ⟨fun | (xsa2, a2, k2, i) => (i ≤ (a).length) ∧ (a2.length = (a).length) ∧ (∀ z_ ∈ a2, GoT.ok n z_) ∧ (-9223372036854775808 ≤ k2 ∧ k2 ≤ 9223372036854775807) ∧ (laws_markCacheEntryS_L1 ((a).length) 0 (a : List CacheEntry) k = laws_markCacheEntryS_L1 ((a).length - i) i a2 k2), fun | (xsa2, a2, k2, i) => (a).length - i, fun | (xsa2, a2, k2, i) => [(0, .v (.slice pa ((a).length) ca)), (1, .v (.int .i64 (k2))), (5, .v (.int .i64 (((i : Nat) : Int))))], fun | (xsa2, a2, k2, i) => [], fun | (xsa2, a2, k2, i) => [(501, ⟨6, pa, (a).length, ca, xsa2⟩)], fun | (xsa2, a2, k2, i) => [(2, MF.ol xsa2 (a2 : List CacheEntry))]⟩ (xs1, (a : List CacheEntry), k, 0) ⟨(Nat.zero_le _), (by simp), (okl hoka).2, hokk, rfl⟩
    (.cons rfl (.cons rfl (.cons rfl (.nil)))) .nil (.cons rfl (.nil)) [2] rfl ?_
  rintro ⟨xsa2, a2, k2, i⟩ hpre
  have hpre_ : (i ≤ (a).length) ∧ (a2.length = (a).length) ∧ (∀ z_ ∈ a2, GoT.ok n z_) ∧ (-9223372036854775808 ≤ k2 ∧ k2 ≤ 9223372036854775807) ∧ (laws_markCacheEntryS_L1 ((a).length) 0 (a : List CacheEntry) k = laws_markCacheEntryS_L1 ((a).length - i) i a2 k2) := hpre
  clear hpre
  obtain ⟨v1, v2, v3, v4, v5⟩ := hpre_
  refine WX.run ttOk rfl ?_
  refine WX.cases 9 rfl (fun h1 => ?_) (fun h1 => ?_)
  · skip
    have h1d := B.dt h1
    refine WX.run ttOk rfl ?_
    have hr1 : i < (a).length := (by first | assumption | omega)
    refine WX.idxR 501 i ttOk rfl rfl rfl rfl rfl rfl rfl rfl rfl hr1 ?_
    rintro ad1 rfl
    refine WX.run ttOk rfl ?_
    have e1i : i < (a2).length := (by first | assumption | omega)
    obtain ⟨e1, e1h⟩ : ∃ e1, (a2)[i]? = some e1 := ⟨_, List.getElem?_eq_getElem e1i⟩
    have ok1 : GoT.ok n e1 := v3 _ (List.mem_of_getElem? e1h)
    refine WX.opnE (α := CacheEntry) (e := e1) 501 2 3 i rfl rfl rfl e1h (fun _ => rfl) (fun _ _ _ => rfl) (fun _ _ _ => rfl) ?_
    rintro A1 B1 ⟨⟨⟨p1, c1⟩, ⟨p2, c2⟩, ⟨p3, c3⟩, ⟨⟩, ⟨⟩⟩, ⟨⟩⟩ hA1 hB1
    refine WX.ldA 501 ttOk rfl rfl rfl rfl rfl rfl rfl rfl rfl rfl hA1 hr1 rfl ?_
    refine WX.run ttOk rfl ?_
    refine WX.callM [6] 11 rfl (fun _ _ h => GoT.ow_rd h) (fun _ f hf => GoT.fak f hf) rfl rfl rfl rfl rfl (fun _ => rfl) rfl (fun w G bs H hI hH hs hΓ => f198 w n (by omega) e1.data.name.parts p1 c1 k2 H hH hs (ok_Name (ok_DataP (ok_CacheEntry ok1).1).1) v4) (fun _ => rfl) (fun _ => rfl) ?_
    rintro ⟨⟩ hq1
    have hl1 : ((laws_markStringS e1.data.name.parts k2).2).length = (e1.data.name.parts).length := hq1.2
    refine WX.run ttOk rfl ?_
    have hr2 : i < (a).length := (by first | assumption | omega)
    refine WX.idxR 501 i ttOk rfl rfl rfl rfl rfl rfl rfl rfl rfl hr2 ?_
    rintro ad2 ⟨⟩
    refine WX.run ttOk rfl ?_
    refine WX.ldA 501 ttOk rfl rfl rfl rfl rfl rfl rfl rfl rfl rfl hA1 hr2 rfl ?_
    refine WX.run ttOk rfl ?_
    refine WX.callM [7] 13 rfl (fun _ _ h => GoT.ow_rd h) (fun _ f hf => GoT.fak f hf) rfl rfl rfl rfl rfl (fun _ => rfl) rfl (fun w G bs H hI hH hs hΓ => f25 w n (by omega) e1.data.content p2 c2 ((laws_markStringS e1.data.name.parts k2).1) H hH hs ((ok_DataP (ok_CacheEntry ok1).1).2.1) hq1.1.1) (fun _ => rfl) (fun _ => rfl) ?_
    rintro ⟨⟩ hq2
    have hl2 : ((laws_markByteS e1.data.content ((laws_markStringS e1.data.name.parts k2).1)).2).length = (e1.data.content).length := hq2.2
    refine WX.run ttOk rfl ?_
    have hr3 : i < (a).length := (by first | assumption | omega)
    refine WX.idxR 501 i ttOk rfl rfl rfl rfl rfl rfl rfl rfl rfl hr3 ?_
    rintro ad3 ⟨⟩
    refine WX.run ttOk rfl ?_
    refine WX.ldA 501 ttOk rfl rfl rfl rfl rfl rfl rfl rfl rfl rfl hA1 hr3 rfl ?_
    refine WX.run ttOk rfl ?_
    refine WX.callM [8] 15 rfl (fun _ _ h => GoT.ow_rd h) (fun _ f hf => GoT.fak f hf) rfl rfl rfl rfl rfl (fun _ => rfl) rfl (fun w G bs H hI hH hs hΓ => f198 w n (by omega) e1.data.keyName.parts p3 c3 ((laws_markByteS e1.data.content ((laws_markStringS e1.data.name.parts k2).1)).1) H hH hs (ok_Name (ok_DataP (ok_CacheEntry ok1).1).2.2.1) hq2.1.1) (fun _ => rfl) (fun _ => rfl) ?_
    rintro ⟨⟩ hq3
    have hl3 : ((laws_markStringS e1.data.keyName.parts ((laws_markByteS e1.data.content ((laws_markStringS e1.data.name.parts k2).1)).1)).2).length = (e1.data.keyName.parts).length := hq3.2
    refine WX.run ttOk rfl ?_
    have hr4 : i < (a).length := (by first | assumption | omega)
    refine WX.idxR 501 i ttOk rfl rfl rfl rfl rfl rfl rfl rfl rfl hr4 ?_
    rintro ad4 ⟨⟩
    refine WX.run ttOk rfl ?_
    refine WX.stA 501 ttOk rfl rfl rfl rfl rfl rfl rfl rfl rfl rfl rfl rfl rfl rfl hA1 hr4 rfl rfl rfl rfl (by simp) rfl ?_
    refine WX.run ttOk rfl ?_
    refine WX.see rfl rfl rfl (fun _ hΓ => looks_wrap rfl rfl rfl rfl) ?_
    refine WX.run ttOk rfl ?_
    have hr5 : i < (a).length := (by first | assumption | omega)
    refine WX.idxR 501 i ttOk rfl rfl rfl rfl rfl rfl rfl rfl rfl hr5 ?_
    rintro ad5 ⟨⟩
    refine WX.run ttOk rfl ?_
    refine WX.stA 501 ttOk rfl rfl rfl rfl rfl rfl rfl rfl rfl rfl rfl rfl rfl rfl hA1 hr5 rfl rfl rfl rfl (by simp) rfl ?_
    refine WX.run ttOk rfl ?_
    refine WX.see rfl rfl rfl (fun _ hΓ => looks_wrap rfl rfl rfl rfl) ?_
    refine WX.run ttOk rfl ?_
    have hr6 : i < (a).length := (by first | assumption | omega)
    refine WX.idxR 501 i ttOk rfl rfl rfl rfl rfl rfl rfl rfl rfl hr6 ?_
    rintro ad6 ⟨⟩
    refine WX.run ttOk rfl ?_
    refine WX.stA 501 ttOk rfl rfl rfl rfl rfl rfl rfl rfl rfl rfl rfl rfl rfl rfl hA1 hr6 rfl rfl rfl rfl (by simp) rfl ?_
    refine WX.run ttOk rfl ?_
    refine WX.see rfl rfl rfl (fun _ hΓ => looks_wrap rfl rfl rfl rfl) ?_
    refine WX.run ttOk rfl ?_
    refine WX.see rfl rfl rfl (fun _ hΓ => looks_arith rfl rfl rfl rfl (by unfold I64; first | omega | (dsimp only; omega))) ?_
    refine WX.run ttOk rfl ?_
    refine WX.turn [12, 14, 16, 9, 10] 17 rfl (fun h hs => by have z_ : Sep h [MF.ol (A1 ++ [.slice p1 (((laws_markStringS e1.data.name.parts k2).2).length) c1, .slice p2 (((laws_markByteS e1.data.content ((laws_markStringS e1.data.name.parts k2).1)).2).length) c2, .slice p3 (((laws_markStringS e1.data.keyName.parts ((laws_markByteS e1.data.content ((laws_markStringS e1.data.name.parts k2).1)).1)).2).length) c3, .int .i64 ((laws_markStringS e1.data.keyName.parts ((laws_markByteS e1.data.content ((laws_markStringS e1.data.name.parts k2).1)).1)).1), .int .i64 (IntKind.i64.wrap (((laws_markStringS e1.data.keyName.parts ((laws_markByteS e1.data.content ((laws_markStringS e1.data.name.parts k2).1)).1)).1) + 1)), .int .i64 (IntKind.i64.wrap ((IntKind.i64.wrap (((laws_markStringS e1.data.keyName.parts ((laws_markByteS e1.data.content ((laws_markStringS e1.data.name.parts k2).1)).1)).1) + 1)) + 1))] ++ B1) (a2.set i (CacheEntry.mk (DataP.mk (Name.mk ((laws_markStringS e1.data.name.parts k2).2)) ((laws_markByteS e1.data.content ((laws_markStringS e1.data.name.parts k2).1)).2) (Name.mk ((laws_markStringS e1.data.keyName.parts ((laws_markByteS e1.data.content ((laws_markStringS e1.data.name.parts k2).1)).1)).2)) ((laws_markStringS e1.data.keyName.parts ((laws_markByteS e1.data.content ((laws_markStringS e1.data.name.parts k2).1)).1)).1) (IntKind.i64.wrap (((laws_markStringS e1.data.keyName.parts ((laws_markByteS e1.data.content ((laws_markStringS e1.data.name.parts k2).1)).1)).1) + 1))) (IntKind.i64.wrap ((IntKind.i64.wrap (((laws_markStringS e1.data.keyName.parts ((laws_markByteS e1.data.content ((laws_markStringS e1.data.name.parts k2).1)).1)).1) + 1)) + 1))))] := cl_elem (α := CacheEntry) (e := (CacheEntry.mk (DataP.mk (Name.mk ((laws_markStringS e1.data.name.parts k2).2)) ((laws_markByteS e1.data.content ((laws_markStringS e1.data.name.parts k2).1)).2) (Name.mk ((laws_markStringS e1.data.keyName.parts ((laws_markByteS e1.data.content ((laws_markStringS e1.data.name.parts k2).1)).1)).2)) ((laws_markStringS e1.data.keyName.parts ((laws_markByteS e1.data.content ((laws_markStringS e1.data.name.parts k2).1)).1)).1) (IntKind.i64.wrap (((laws_markStringS e1.data.keyName.parts ((laws_markByteS e1.data.content ((laws_markStringS e1.data.name.parts k2).1)).1)).1) + 1))) (IntKind.i64.wrap ((IntKind.i64.wrap (((laws_markStringS e1.data.keyName.parts ((laws_markByteS e1.data.content ((laws_markStringS e1.data.name.parts k2).1)).1)).1) + 1)) + 1)))) (x := (((p1, c1), (p2, c2), (p3, c3), (), ()), ())) e1i hs; rw [hl1, hl2, hl3] at z_; exact z_) (gs := [MF.ol (A1 ++ [.slice p1 ((e1.data.name.parts).length) c1, .slice p2 ((e1.data.content).length) c2, .slice p3 ((e1.data.keyName.parts).length) c3, .int .i64 ((laws_markStringS e1.data.keyName.parts ((laws_markByteS e1.data.content ((laws_markStringS e1.data.name.parts k2).1)).1)).1), .int .i64 (IntKind.i64.wrap (((laws_markStringS e1.data.keyName.parts ((laws_markByteS e1.data.content ((laws_markStringS e1.data.name.parts k2).1)).1)).1) + 1)), .int .i64 (IntKind.i64.wrap ((IntKind.i64.wrap (((laws_markStringS e1.data.keyName.parts ((laws_markByteS e1.data.content ((laws_markStringS e1.data.name.parts k2).1)).1)).1) + 1)) + 1))] ++ B1) (a2.set i (CacheEntry.mk (DataP.mk (Name.mk ((laws_markStringS e1.data.name.parts k2).2)) ((laws_markByteS e1.data.content ((laws_markStringS e1.data.name.parts k2).1)).2) (Name.mk ((laws_markStringS e1.data.keyName.parts ((laws_markByteS e1.data.content ((laws_markStringS e1.data.name.parts k2).1)).1)).2)) ((laws_markStringS e1.data.keyName.parts ((laws_markByteS e1.data.content ((laws_markStringS e1.data.name.parts k2).1)).1)).1) (IntKind.i64.wrap (((laws_markStringS e1.data.keyName.parts ((laws_markByteS e1.data.content ((laws_markStringS e1.data.name.parts k2).1)).1)).1) + 1))) (IntKind.i64.wrap ((IntKind.i64.wrap (((laws_markStringS e1.data.keyName.parts ((laws_markByteS e1.data.content ((laws_markStringS e1.data.name.parts k2).1)).1)).1) + 1)) + 1))))]) rfl ?_
    refine WX.turn [17] 2 rfl (fun _ h => h) rfl ?_
    exact WX.iter ((A1 ++ [.slice p1 ((e1.data.name.parts).length) c1, .slice p2 ((e1.data.content).length) c2, .slice p3 ((e1.data.keyName.parts).length) c3, .int .i64 ((laws_markStringS e1.data.keyName.parts ((laws_markByteS e1.data.content ((laws_markStringS e1.data.name.parts k2).1)).1)).1), .int .i64 (IntKind.i64.wrap (((laws_markStringS e1.data.keyName.parts ((laws_markByteS e1.data.content ((laws_markStringS e1.data.name.parts k2).1)).1)).1) + 1)), .int .i64 (IntKind.i64.wrap ((IntKind.i64.wrap (((laws_markStringS e1.data.keyName.parts ((laws_markByteS e1.data.content ((laws_markStringS e1.data.name.parts k2).1)).1)).1) + 1)) + 1))] ++ B1), ((a2.set i (CacheEntry.mk (DataP.mk (Name.mk ((laws_markStringS e1.data.name.parts k2).2)) ((laws_markByteS e1.data.content ((laws_markStringS e1.data.name.parts k2).1)).2) (Name.mk ((laws_markStringS e1.data.keyName.parts ((laws_markByteS e1.data.content ((laws_markStringS e1.data.name.parts k2).1)).1)).2)) ((laws_markStringS e1.data.keyName.parts ((laws_markByteS e1.data.content ((laws_markStringS e1.data.name.parts k2).1)).1)).1) (IntKind.i64.wrap (((laws_markStringS e1.data.keyName.parts ((laws_markByteS e1.data.content ((laws_markStringS e1.data.name.parts k2).1)).1)).1) + 1))) (IntKind.i64.wrap ((IntKind.i64.wrap (((laws_markStringS e1.data.keyName.parts ((laws_markByteS e1.data.content ((laws_markStringS e1.data.name.parts k2).1)).1)).1) + 1)) + 1)))) : List CacheEntry), IntKind.i64.wrap ((IntKind.i64.wrap ((IntKind.i64.wrap (((laws_markStringS e1.data.keyName.parts ((laws_markByteS e1.data.content ((laws_markStringS e1.data.name.parts k2).1)).1)).1) + 1)) + 1)) + 1), i + 1) ⟨(by omega), (by first | assumption | omega | (simp only [List.length_append, List.length_cons, List.length_nil, List.length_set, List.length_map, List.length_take, List.length_drop]; omega) | (simp; omega)), (all_set v3 (show GoT.ok n ((CacheEntry.mk (DataP.mk (Name.mk ((laws_markStringS e1.data.name.parts k2).2)) ((laws_markByteS e1.data.content ((laws_markStringS e1.data.name.parts k2).1)).2) (Name.mk ((laws_markStringS e1.data.keyName.parts ((laws_markByteS e1.data.content ((laws_markStringS e1.data.name.parts k2).1)).1)).2)) ((laws_markStringS e1.data.keyName.parts ((laws_markByteS e1.data.content ((laws_markStringS e1.data.name.parts k2).1)).1)).1) (IntKind.i64.wrap (((laws_markStringS e1.data.keyName.parts ((laws_markByteS e1.data.content ((laws_markStringS e1.data.name.parts k2).1)).1)).1) + 1))) (IntKind.i64.wrap ((IntKind.i64.wrap (((laws_markStringS e1.data.keyName.parts ((laws_markByteS e1.data.content ((laws_markStringS e1.data.name.parts k2).1)).1)).1) + 1)) + 1))) : CacheEntry) from (And.intro (And.intro hq1.1.2 (And.intro hq2.1.2 (And.intro hq3.1.2 (And.intro hq3.1.1 (i64_wrap _))))) (i64_wrap _)))), (i64_wrap _), (by rw [v5, show (a).length - i = ((a).length - (i + 1)) + 1 by omega]; simp only [laws_markCacheEntryS_L1, e1h, cond_true, cond_false])⟩ (by dsimp only; omega) (.cons rfl (.cons rfl (.cons rfl (.nil)))) .nil (.cons rfl (.nil)) [2] rfl
  · skip
    have h1d := B.df h1
    refine WX.run ttOk rfl ?_
    have hX1 : laws_markCacheEntryS_L1 ((a).length) 0 (a : List CacheEntry) k = (((a2) : List CacheEntry), k2) := by rw [v5, show (a).length - i = 0 by omega]; simp only [laws_markCacheEntryS_L1, cond_true, cond_false]
    refine WX.seal 501 2 18 rfl rfl (show (a).length = (a2).length from by omega) rfl rfl ?_
    refine WX.slot 7 (y := .v (.slice pa (a2).length ca)) rfl (fun _ => by show (Value.slice pa ((a).length) ca : Value) = Value.slice pa (a2).length ca; rw [(show (a).length = (a2).length from by omega)]) ?_
    refine WX.slot 0 (y := .v (.slice pa (a2).length ca)) rfl (fun _ => by show (Value.slice pa ((a).length) ca : Value) = Value.slice pa (a2).length ca; rw [(show (a).length = (a2).length from by omega)]) ?_
    have hP1 : laws_markCacheEntryS a k = (k2, a2) := by simp only [laws_markCacheEntryS, hX1, cond_true, cond_false]
    refine WX.ret ttOk rfl ?_
    intro w1 G bs hI hΓ
    rw [hP1]
    exact Post.of [19] () hI hΓ rfl rfl rfl ⟨⟨v4, (okl_mk (by omega) v3 : GoT.ok n (a2 : List CacheEntry))⟩, (show (a2).length = (a).length from by omega)⟩
theorem f345 (w : World) (n : Nat) (hn : n + 0 ≤ 9) (a : (List Requester)) (pa : Option Addr) (ca : Nat) (k : Int) (H : GH) (hH : Le H (hp w)) (hown : Sep H (GoT.oa a (pa, ca))) (hoka : GoT.ok n a) (hokk : GoT.ok n k) :
    Does Tryz.prog 345 #[.slice pa ((a).length) ca, .int .i64 (k)] w H (Post w H (fun _ : Unit => .int .i64 ((laws_markRequesterS a k).1)) (fun _ => GoT.oa ((laws_markRequesterS a k).2 : (List Requester)) (pa, ca)) ((GoT.ok n ((laws_markRequesterS a k).1 : Int) ∧ GoT.ok n ((laws_markRequesterS a k).2 : (List Requester))) ∧ ((laws_markRequesterS a k).2).length = (a).length)) := by
  have hbP := bd_pos n
  have hbB := bd_big (n := n) (by omega)
  refine WX.enterM (tt := tt) (Γ := []) 1 Tryz.func345 rfl (by kernel_rfl) rfl allS_nil hH hown (fun f hf => GoT.oak f hf) rfl ?_
  refine WX.opn (kk := 3) 501 1 2 rfl rfl rfl ?_
  intro xs1 hx1
  refine WX.run ttOk rfl ?_
  have r1 : (a).length ≤ bd n := (okl hoka).1
  refine WX.loop (ι := (List Value) × (List Requester) × Int × Nat) ⟨fun | (xsa2, a2, k2, i) => (i ≤ (a).length) ∧ (a2.length = (a).length) ∧ (∀ z_ ∈ a2, GoT.ok n z_) ∧ (-9223372036854775808 ≤ k2 ∧ k2 ≤ 9223372036854775807) ∧ (laws_markRequesterS_L1 ((a).length) 0 (a : List Requester) k = laws_markRequesterS_L1 ((a).length - i) i a2 k2), fun | (xsa2, a2, k2, i) => (a).length - i, fun | (xsa2, a2, k2, i) => [(0, .v (.slice pa ((a).length) ca)), (1, .v (.int .i64 (k2))), (5, .v (.int .i64 (((i : Nat) : Int))))], fun | (xsa2, a2, k2, i) => [], fun | (xsa2, a2, k2, i) => [(501, ⟨3, pa, (a).length, ca, xsa2⟩)], fun | (xsa2, a2, k2, i) => [(2, MF.ol xsa2 (a2 : List Requester))]⟩ (xs1, (a : List Requester), k, 0) ⟨(Nat.zero_le _), (by simp), (okl hoka).2, hokk, rfl⟩
    (.cons rfl (.cons rfl (.cons rfl (.nil)))) .nil (.cons rfl (.nil)) [2] rfl ?_
  rintro ⟨xsa2, a2, k2, i⟩ hpre
  have hpre_ : (i ≤ (a).length) ∧ (a2.length = (a).length) ∧ (∀ z_ ∈ a2, GoT.ok n z_) ∧ (-9223372036854775808 ≤ k2 ∧ k2 ≤ 9223372036854775807) ∧ (laws_markRequesterS_L1 ((a).length) 0 (a : List Requester) k = laws_markRequesterS_L1 ((a).length - i) i a2 k2) := hpre
  clear hpre
  obtain ⟨v1, v2, v3, v4, v5⟩ := hpre_
  refine WX.run ttOk rfl ?_
  refine WX.cases 9 rfl (fun h1 => ?_) (fun h1 => ?_)
  · skip
    have h1d := B.dt h1
    refine WX.run ttOk rfl ?_
    have hr1 : i < (a).length := (by first | assumption | omega)
    refine WX.idxR 501 i ttOk rfl rfl rfl rfl rfl rfl rfl rfl rfl hr1 ?_
    rintro ad1 rfl
    refine WX.run ttOk rfl ?_
    have e1i : i < (a2).length := (by first | assumption | omega)
    obtain ⟨e1, e1h⟩ : ∃ e1, (a2)[i]? = some e1 := ⟨_, List.getElem?_eq_getElem e1i⟩
    have ok1 : GoT.ok n e1 := v3 _ (List.mem_of_getElem? e1h)
    refine WX.opnE (α := Requester) (e := e1) 501 2 3 i rfl rfl rfl e1h (fun _ => rfl) (fun _ _ _ => rfl) (fun _ _ _ => rfl) ?_
    rintro A1 B1 ⟨⟨⟩, ⟨⟩, ⟨⟩⟩ hA1 hB1
    refine WX.stA 501 ttOk rfl rfl rfl rfl rfl rfl rfl rfl rfl rfl rfl rfl rfl rfl hA1 hr1 rfl rfl rfl rfl (by simp) rfl ?_
    refine WX.run ttOk rfl ?_
    refine WX.see rfl rfl rfl (fun _ hΓ => looks_wrap rfl rfl rfl rfl) ?_
    refine WX.run ttOk rfl ?_
    have hr2 : i < (a).length := (by first | assumption | omega)
    refine WX.idxR 501 i ttOk rfl rfl rfl rfl rfl rfl rfl rfl rfl hr2 ?_
    rintro ad2 ⟨⟩
    refine WX.run ttOk rfl ?_
    refine WX.stA 501 ttOk rfl rfl rfl rfl rfl rfl rfl rfl rfl rfl rfl rfl rfl rfl hA1 hr2 rfl rfl rfl rfl (by simp) rfl ?_
    refine WX.run ttOk rfl ?_
    refine WX.see rfl rfl rfl (fun _ hΓ => looks_wrap rfl rfl rfl rfl) ?_
    refine WX.run ttOk rfl ?_
    have hr3 : i < (a).length := (by first | assumption | omega)
    refine WX.idxR 501 i ttOk rfl rfl rfl rfl rfl rfl rfl rfl rfl hr3 ?_
    rintro ad3 ⟨⟩
    refine WX.run ttOk rfl ?_
    refine WX.stA 501 ttOk rfl rfl rfl rfl rfl rfl rfl rfl rfl rfl rfl rfl rfl rfl hA1 hr3 rfl rfl rfl rfl (by simp) rfl ?_
    refine WX.run ttOk rfl ?_
    refine WX.see rfl rfl rfl (fun _ hΓ => looks_wrap rfl rfl rfl rfl) ?_
    refine WX.run ttOk rfl ?_
    refine WX.see rfl rfl rfl (fun _ hΓ => looks_arith rfl rfl rfl rfl (by unfold I64; first | omega | (dsimp only; omega))) ?_
    refine WX.run ttOk rfl ?_
    refine WX.turn [3, 4] 5 rfl (fun h hs => cl_elem (α := Requester) (e := (Requester.mk k2 (IntKind.i64.wrap (k2 + 1)) (IntKind.i64.wrap ((IntKind.i64.wrap (k2 + 1)) + 1)))) (x := ((), (), ())) e1i hs) (gs := [MF.ol (A1 ++ [.int .i64 (k2), .int .i64 (IntKind.i64.wrap (k2 + 1)), .int .i64 (IntKind.i64.wrap ((IntKind.i64.wrap (k2 + 1)) + 1))] ++ B1) (a2.set i (Requester.mk k2 (IntKind.i64.wrap (k2 + 1)) (IntKind.i64.wrap ((IntKind.i64.wrap (k2 + 1)) + 1))))]) rfl ?_
    refine WX.turn [5] 2 rfl (fun _ h => h) rfl ?_
    exact WX.iter ((A1 ++ [.int .i64 (k2), .int .i64 (IntKind.i64.wrap (k2 + 1)), .int .i64 (IntKind.i64.wrap ((IntKind.i64.wrap (k2 + 1)) + 1))] ++ B1), ((a2.set i (Requester.mk k2 (IntKind.i64.wrap (k2 + 1)) (IntKind.i64.wrap ((IntKind.i64.wrap (k2 + 1)) + 1)))) : List Requester), IntKind.i64.wrap ((IntKind.i64.wrap ((IntKind.i64.wrap (k2 + 1)) + 1)) + 1), i + 1) ⟨(by omega), (by first | assumption | omega | (simp only [List.length_append, List.length_cons, List.length_nil, List.length_set, List.length_map, List.length_take, List.length_drop]; omega) | (simp; omega)), (all_set v3 (show GoT.ok n ((Requester.mk k2 (IntKind.i64.wrap (k2 + 1)) (IntKind.i64.wrap ((IntKind.i64.wrap (k2 + 1)) + 1))) : Requester) from (And.intro v4 (And.intro (i64_wrap _) (i64_wrap _))))), (i64_wrap _), (by rw [v5, show (a).length - i = ((a).length - (i + 1)) + 1 by omega]; simp only [laws_markRequesterS_L1, e1h, cond_true, cond_false])⟩ (by dsimp only; omega) (.cons rfl (.cons rfl (.cons rfl (.nil)))) .nil (.cons rfl (.nil)) [2] rfl
  · skip
    have h1d := B.df h1
    refine WX.run ttOk rfl ?_
    have hX1 : laws_markRequesterS_L1 ((a).length) 0 (a : List Requester) k = (((a2) : List Requester), k2) := by rw [v5, show (a).length - i = 0 by omega]; simp only [laws_markRequesterS_L1, cond_true, cond_false]
    refine WX.seal 501 2 6 rfl rfl (show (a).length = (a2).length from by omega) rfl rfl ?_
    refine WX.slot 7 (y := .v (.slice pa (a2).length ca)) rfl (fun _ => by show (Value.slice pa ((a).length) ca : Value) = Value.slice pa (a2).length ca; rw [(show (a).length = (a2).length from by omega)]) ?_
    refine WX.slot 0 (y := .v (.slice pa (a2).length ca)) rfl (fun _ => by show (Value.slice pa ((a).length) ca : Value) = Value.slice pa (a2).length ca; rw [(show (a).length = (a2).length from by omega)]) ?_
    have hP1 : laws_markRequesterS a k = (k2, a2) := by simp only [laws_markRequesterS, hX1, cond_true, cond_false]
    refine WX.ret ttOk rfl ?_
    intro w1 G bs hI hΓ
    rw [hP1]
    exact Post.of [7] () hI hΓ rfl rfl rfl ⟨⟨v4, (okl_mk (by omega) v3 : GoT.ok n (a2 : List Requester))⟩, (show (a2).length = (a).length from by omega)⟩
theorem f257 (w : World) (n : Nat) (hn : n + 0 ≤ 9) (a : (List PendingInterest)) (pa : Option Addr) (ca : Nat) (k : Int) (H : GH) (hH : Le H (hp w)) (hown : Sep H (GoT.oa a (pa, ca))) (hoka : GoT.ok n a) (hokk : GoT.ok n k) :
    Does Tryz.prog 257 #[.slice pa ((a).length) ca, .int .i64 (k)] w H (Post w H (fun _ : Unit => .int .i64 ((laws_markPendingInterestS a k).1)) (fun _ => GoT.oa ((laws_markPendingInterestS a k).2 : (List PendingInterest)) (pa, ca)) ((GoT.ok n ((laws_markPendingInterestS a k).1 : Int) ∧ GoT.ok n ((laws_markPendingInterestS a k).2 : (List PendingInterest))) ∧ ((laws_markPendingInterestS a k).2).length = (a).length)) := by
  have hbP := bd_pos n
  have hbB := bd_big (n := n) (by omega)
  refine WX.enterM (tt := tt) (Γ := []) 1 Tryz.func257 rfl (by kernel_rfl) rfl allS_nil hH hown (fun f hf => GoT.oak f hf) rfl ?_
  refine WX.opn (kk := 3) 501 1 2 rfl rfl rfl ?_
  intro xs1 hx1
  refine WX.run ttOk rfl ?_
  have r1 : (a).length ≤ bd n := (okl hoka).1
  refine WX.loop (ι := (List Value) × (List PendingInterest) × Int × Nat) ⟨fun | (xsa2, a2, k2, i) => (i ≤ (a).length) ∧ (a2.length = (a).length) ∧ (∀ z_ ∈ a2, GoT.ok n z_) ∧ (-9223372036854775808 ≤ k2 ∧ k2 ≤ 9223372036854775807) ∧ (laws_markPendingInterestS_L1 ((a).length) 0 (a : List PendingInterest) k = laws_markPendingInterestS_L1 ((a).length - i) i a2 k2), fun | (xsa2, a2, k2, i) => (a).length - i, fun | (xsa2, a2, k2, i) => [(0, .v (.slice pa ((a).length) ca)), (1, .v (.int .i64 (k2))), (5, .v (.int .i64 (((i : Nat) : Int))))], fun | (xsa2, a2, k2, i) => [], fun | (xsa2, a2, k2, i) => [(501, ⟨3, pa, (a).length, ca, xsa2⟩)], fun | (xsa2, a2, k2, i) => [(2, MF.ol xsa2 (a2 : List PendingInterest))]⟩ (xs1, (a : List PendingInterest), k, 0) ⟨(Nat.zero_le _), (by simp), (okl hoka).2, hokk, rfl⟩
    (.cons rfl (.cons rfl (.cons rfl (.nil)))) .nil (.cons rfl (.nil)) [2] rfl ?_
  rintro ⟨xsa2, a2, k2, i⟩ hpre
  have hpre_ : (i ≤ (a).length) ∧ (a2.length = (a).length) ∧ (∀ z_ ∈ a2, GoT.ok n z_) ∧ (-9223372036854775808 ≤ k2 ∧ k2 ≤ 9223372036854775807) ∧ (laws_markPendingInterestS_L1 ((a).length) 0 (a : List PendingInterest) k = laws_markPendingInterestS_L1 ((a).length - i) i a2 k2) := hpre
  clear hpre
  obtain ⟨v1, v2, v3, v4, v5⟩ := hpre_
  refine WX.run ttOk rfl ?_
  refine WX.cases 9 rfl (fun h1 => ?_) (fun h1 => ?_)
  · skip
    have h1d := B.dt h1
    refine WX.run ttOk rfl ?_
    have hr1 : i < (a).length := (by first | assumption | omega)
    refine WX.idxR 501 i ttOk rfl rfl rfl rfl rfl rfl rfl rfl rfl hr1 ?_
    rintro ad1 rfl
    refine WX.run ttOk rfl ?_
    have e1i : i < (a2).length := (by first | assumption | omega)
    obtain ⟨e1, e1h⟩ : ∃ e1, (a2)[i]? = some e1 := ⟨_, List.getElem?_eq_getElem e1i⟩
    have ok1 : GoT.ok n e1 := v3 _ (List.mem_of_getElem? e1h)
    refine WX.opnE (α := PendingInterest) (e := e1) 501 2 3 i rfl rfl rfl e1h (fun _ => rfl) (fun _ _ _ => rfl) (fun _ _ _ => rfl) ?_
    rintro A1 B1 ⟨⟨p1, c1⟩, ⟨p2, c2⟩, ⟨⟩⟩ hA1 hB1
    refine WX.ldA 501 ttOk rfl rfl rfl rfl rfl rfl rfl rfl rfl rfl hA1 hr1 rfl ?_
    refine WX.run ttOk rfl ?_
    refine WX.callM [5] 9 rfl (fun _ _ h => GoT.ow_rd h) (fun _ f hf => GoT.fak f hf) rfl rfl rfl rfl rfl (fun _ => rfl) rfl (fun w G bs H hI hH hs hΓ => f198 w n (by omega) e1.name.parts p1 c1 k2 H hH hs (ok_Name (ok_PendingInterest ok1).1) v4) (fun _ => rfl) (fun _ => rfl) ?_
    rintro ⟨⟩ hq1
    have hl1 : ((laws_markStringS e1.name.parts k2).2).length = (e1.name.parts).length := hq1.2
    refine WX.run ttOk rfl ?_
    have hr2 : i < (a).length := (by first | assumption | omega)
    refine WX.idxR 501 i ttOk rfl rfl rfl rfl rfl rfl rfl rfl rfl hr2 ?_
    rintro ad2 ⟨⟩
    refine WX.run ttOk rfl ?_
    refine WX.ldA 501 ttOk rfl rfl rfl rfl rfl rfl rfl rfl rfl rfl hA1 hr2 rfl ?_
    refine WX.run ttOk rfl ?_
    refine WX.callM [6] 11 rfl (fun _ _ h => GoT.ow_rd h) (fun _ f hf => GoT.fak f hf) rfl rfl rfl rfl rfl (fun _ => rfl) rfl (fun w G bs H hI hH hs hΓ => f345 w n (by omega) e1.requesters p2 c2 ((laws_markStringS e1.name.parts k2).1) H hH hs ((ok_PendingInterest ok1).2.1) hq1.1.1) (fun _ => rfl) (fun _ => rfl) ?_
    rintro ⟨⟩ hq2
    have hl2 : ((laws_markRequesterS e1.requesters ((laws_markStringS e1.name.parts k2).1)).2).length = (e1.requesters).length := hq2.2
    refine WX.run ttOk rfl ?_
    have hr3 : i < (a).length := (by first | assumption | omega)
    refine WX.idxR 501 i ttOk rfl rfl rfl rfl rfl rfl rfl rfl rfl hr3 ?_
    rintro ad3 ⟨⟩
    refine WX.run ttOk rfl ?_
    refine WX.stA 501 ttOk rfl rfl rfl rfl rfl rfl rfl rfl rfl rfl rfl rfl rfl rfl hA1 hr3 rfl rfl rfl rfl (by simp) rfl ?_
    refine WX.run ttOk rfl ?_
    refine WX.see rfl rfl rfl (fun _ hΓ => looks_wrap rfl rfl rfl rfl) ?_
    refine WX.run ttOk rfl ?_
    refine WX.see rfl rfl rfl (fun _ hΓ => looks_arith rfl rfl rfl rfl (by unfold I64; first | omega | (dsimp only; omega))) ?_
    refine WX.run ttOk rfl ?_
    refine WX.turn [10, 12, 7, 8] 13 rfl (fun h hs => by have z_ : Sep h [MF.ol (A1 ++ [.slice p1 (((laws_markStringS e1.name.parts k2).2).length) c1, .slice p2 (((laws_markRequesterS e1.requesters ((laws_markStringS e1.name.parts k2).1)).2).length) c2, .int .i64 ((laws_markRequesterS e1.requesters ((laws_markStringS e1.name.parts k2).1)).1)] ++ B1) (a2.set i (PendingInterest.mk (Name.mk ((laws_markStringS e1.name.parts k2).2)) ((laws_markRequesterS e1.requesters ((laws_markStringS e1.name.parts k2).1)).2) ((laws_markRequesterS e1.requesters ((laws_markStringS e1.name.parts k2).1)).1)))] := cl_elem (α := PendingInterest) (e := (PendingInterest.mk (Name.mk ((laws_markStringS e1.name.parts k2).2)) ((laws_markRequesterS e1.requesters ((laws_markStringS e1.name.parts k2).1)).2) ((laws_markRequesterS e1.requesters ((laws_markStringS e1.name.parts k2).1)).1))) (x := ((p1, c1), (p2, c2), ())) e1i hs; rw [hl1, hl2] at z_; exact z_) (gs := [MF.ol (A1 ++ [.slice p1 ((e1.name.parts).length) c1, .slice p2 ((e1.requesters).length) c2, .int .i64 ((laws_markRequesterS e1.requesters ((laws_markStringS e1.name.parts k2).1)).1)] ++ B1) (a2.set i (PendingInterest.mk (Name.mk ((laws_markStringS e1.name.parts k2).2)) ((laws_markRequesterS e1.requesters ((laws_markStringS e1.name.parts k2).1)).2) ((laws_markRequesterS e1.requesters ((laws_markStringS e1.name.parts k2).1)).1)))]) rfl ?_
    refine WX.turn [13] 2 rfl (fun _ h => h) rfl ?_
    exact WX.iter ((A1 ++ [.slice p1 ((e1.name.parts).length) c1, .slice p2 ((e1.requesters).length) c2, .int .i64 ((laws_markRequesterS e1.requesters ((laws_markStringS e1.name.parts k2).1)).1)] ++ B1), ((a2.set i (PendingInterest.mk (Name.mk ((laws_markStringS e1.name.parts k2).2)) ((laws_markRequesterS e1.requesters ((laws_markStringS e1.name.parts k2).1)).2) ((laws_markRequesterS e1.requesters ((laws_markStringS e1.name.parts k2).1)).1))) : List PendingInterest), IntKind.i64.wrap (((laws_markRequesterS e1.requesters ((laws_markStringS e1.name.parts k2).1)).1) + 1), i + 1) ⟨(by omega), (by first | assumption | omega | (simp only [List.length_append, List.length_cons, List.length_nil, List.length_set, List.length_map, List.length_take, List.length_drop]; omega) | (simp; omega)), (all_set v3 (show GoT.ok n ((PendingInterest.mk (Name.mk ((laws_markStringS e1.name.parts k2).2)) ((laws_markRequesterS e1.requesters ((laws_markStringS e1.name.parts k2).1)).2) ((laws_markRequesterS e1.requesters ((laws_markStringS e1.name.parts k2).1)).1)) : PendingInterest) from (And.intro hq1.1.2 (And.intro hq2.1.2 hq2.1.1)))), (i64_wrap _), (by rw [v5, show (a).length - i = ((a).length - (i + 1)) + 1 by omega]; simp only [laws_markPendingInterestS_L1, e1h, cond_true, cond_false])⟩ (by dsimp only; omega) (.cons rfl (.cons rfl (.cons rfl (.nil)))) .nil (.cons rfl (.nil)) [2] rfl
  · skip
    have h1d := B.df h1
    refine WX.run ttOk rfl ?_
    have hX1 : laws_markPendingInterestS_L1 ((a).length) 0 (a : List PendingInterest) k = (((a2) : List PendingInterest), k2) := by rw [v5, show (a).length - i = 0 by omega]; simp only [laws_markPendingInterestS_L1, cond_true, cond_false]
    refine WX.seal 501 2 14 rfl rfl (show (a).length = (a2).length from by omega) rfl rfl ?_
    refine WX.slot 7 (y := .v (.slice pa (a2).length ca)) rfl (fun _ => by show (Value.slice pa ((a).length) ca : Value) = Value.slice pa (a2).length ca; rw [(show (a).length = (a2).length from by omega)]) ?_
    refine WX.slot 0 (y := .v (.slice pa (a2).length ca)) rfl (fun _ => by show (Value.slice pa ((a).length) ca : Value) = Value.slice pa (a2).length ca; rw [(show (a).length = (a2).length from by omega)]) ?_
    have hP1 : laws_markPendingInterestS a k = (k2, a2) := by simp only [laws_markPendingInterestS, hX1, cond_true, cond_false]
    refine WX.ret ttOk rfl ?_
    intro w1 G bs hI hΓ
    rw [hP1]
    exact Post.of [15] () hI hΓ rfl rfl rfl ⟨⟨v4, (okl_mk (by omega) v3 : GoT.ok n (a2 : List PendingInterest))⟩, (show (a2).length = (a).length from by omega)⟩
theorem f258 (w : World) (n : Nat) (hn : n + 0 ≤ 9) (a : (List SeenNonce)) (pa : Option Addr) (ca : Nat) (k : Int) (H : GH) (hH : Le H (hp w)) (hown : Sep H (GoT.oa a (pa, ca))) (hoka : GoT.ok n a) (hokk : GoT.ok n k) :
    Does Tryz.prog 258 #[.slice pa ((a).length) ca, .int .i64 (k)] w H (Post w H (fun _ : Unit => .int .i64 ((laws_markSeenNonceS a k).1)) (fun _ => GoT.oa ((laws_markSeenNonceS a k).2 : (List SeenNonce)) (pa, ca)) ((GoT.ok n ((laws_markSeenNonceS a k).1 : Int) ∧ GoT.ok n ((laws_markSeenNonceS a k).2 : (List SeenNonce))) ∧ ((laws_markSeenNonceS a k).2).length = (a).length)) := by
  have hbP := bd_pos n
  have hbB := bd_big (n := n) (by omega)
  refine WX.enterM (tt := tt) (Γ := []) 1 Tryz.func258 rfl (by kernel_rfl) rfl allS_nil hH hown (fun f hf => GoT.oak f hf) rfl ?_
  refine WX.opn (kk := 2) 501 1 2 rfl rfl rfl ?_
  intro xs1 hx1
  refine WX.run ttOk rfl ?_
  have r1 : (a).length ≤ bd n := (okl hoka).1
  refine WX.loop (ι := (List Value) × (List SeenNonce) × Int × Nat) ⟨fun | (xsa2, a2, k2, i) => (i ≤ (a).length) ∧ (a2.length = (a).length) ∧ (∀ z_ ∈ a2, GoT.ok n z_) ∧ (-9223372036854775808 ≤ k2 ∧ k2 ≤ 9223372036854775807) ∧ (laws_markSeenNonceS_L1 ((a).length) 0 (a : List SeenNonce) k = laws_markSeenNonceS_L1 ((a).length - i) i a2 k2), fun | (xsa2, a2, k2, i) => (a).length - i, fun | (xsa2, a2, k2, i) => [(0, .v (.slice pa ((a).length) ca)), (1, .v (.int .i64 (k2))), (5, .v (.int .i64 (((i : Nat) : Int))))], fun | (xsa2, a2, k2, i) => [], fun | (xsa2, a2, k2, i) => [(501, ⟨2, pa, (a).length, ca, xsa2⟩)], fun | (xsa2, a2, k2, i) => [(2, MF.ol xsa2 (a2 : List SeenNonce))]⟩ (xs1, (a : List SeenNonce), k, 0) ⟨(Nat.zero_le _), (by simp), (okl hoka).2, hokk, rfl⟩
    (.cons rfl (.cons rfl (.cons rfl (.nil)))) .nil (.cons rfl (.nil)) [2] rfl ?_
  rintro ⟨xsa2, a2, k2, i⟩ hpre
  have hpre_ : (i ≤ (a).length) ∧ (a2.length = (a).length) ∧ (∀ z_ ∈ a2, GoT.ok n z_) ∧ (-9223372036854775808 ≤ k2 ∧ k2 ≤ 9223372036854775807) ∧ (laws_markSeenNonceS_L1 ((a).length) 0 (a : List SeenNonce) k = laws_markSeenNonceS_L1 ((a).length - i) i a2 k2) := hpre
  clear hpre
  obtain ⟨v1, v2, v3, v4, v5⟩ := hpre_
  refine WX.run ttOk rfl ?_
  refine WX.cases 9 rfl (fun h1 => ?_) (fun h1 => ?_)
  · skip
    have h1d := B.dt h1
    refine WX.run ttOk rfl ?_
    have hr1 : i < (a).length := (by first | assumption | omega)
    refine WX.idxR 501 i ttOk rfl rfl rfl rfl rfl rfl rfl rfl rfl hr1 ?_
    rintro ad1 rfl
    refine WX.run ttOk rfl ?_
    have e1i : i < (a2).length := (by first | assumption | omega)
    obtain ⟨e1, e1h⟩ : ∃ e1, (a2)[i]? = some e1 := ⟨_, List.getElem?_eq_getElem e1i⟩
    have ok1 : GoT.ok n e1 := v3 _ (List.mem_of_getElem? e1h)
    refine WX.opnE (α := SeenNonce) (e := e1) 501 2 3 i rfl rfl rfl e1h (fun _ => rfl) (fun _ _ _ => rfl) (fun _ _ _ => rfl) ?_
    rintro A1 B1 ⟨⟨p1, c1⟩, ⟨⟩⟩ hA1 hB1
    refine WX.ldA 501 ttOk rfl rfl rfl rfl rfl rfl rfl rfl rfl rfl hA1 hr1 rfl ?_
    refine WX.run ttOk rfl ?_
    refine WX.callM [4] 7 rfl (fun _ _ h => GoT.ow_rd h) (fun _ f hf => GoT.fak f hf) rfl rfl rfl rfl rfl (fun _ => rfl) rfl (fun w G bs H hI hH hs hΓ => f198 w n (by omega) e1.name.parts p1 c1 k2 H hH hs (ok_Name (ok_SeenNonce ok1).1) v4) (fun _ => rfl) (fun _ => rfl) ?_
    rintro ⟨⟩ hq1
    have hl1 : ((laws_markStringS e1.name.parts k2).2).length = (e1.name.parts).length := hq1.2
    refine WX.run ttOk rfl ?_
    have hr2 : i < (a).length := (by first | assumption | omega)
    refine WX.idxR 501 i ttOk rfl rfl rfl rfl rfl rfl rfl rfl rfl hr2 ?_
    rintro ad2 ⟨⟩
    refine WX.run ttOk rfl ?_
    refine WX.stA 501 ttOk rfl rfl rfl rfl rfl rfl rfl rfl rfl rfl rfl rfl rfl rfl hA1 hr2 rfl rfl rfl rfl (by simp) rfl ?_
    refine WX.run ttOk rfl ?_
    refine WX.see rfl rfl rfl (fun _ hΓ => looks_wrap rfl rfl rfl rfl) ?_
    refine WX.run ttOk rfl ?_
    refine WX.see rfl rfl rfl (fun _ hΓ => looks_arith rfl rfl rfl rfl (by unfold I64; first | omega | (dsimp only; omega))) ?_
    refine WX.run ttOk rfl ?_
    refine WX.turn [8, 5, 6] 9 rfl (fun h hs => by have z_ : Sep h [MF.ol (A1 ++ [.slice p1 (((laws_markStringS e1.name.parts k2).2).length) c1, .int .i64 ((laws_markStringS e1.name.parts k2).1)] ++ B1) (a2.set i (SeenNonce.mk (Name.mk ((laws_markStringS e1.name.parts k2).2)) ((laws_markStringS e1.name.parts k2).1)))] := cl_elem (α := SeenNonce) (e := (SeenNonce.mk (Name.mk ((laws_markStringS e1.name.parts k2).2)) ((laws_markStringS e1.name.parts k2).1))) (x := ((p1, c1), ())) e1i hs; rw [hl1] at z_; exact z_) (gs := [MF.ol (A1 ++ [.slice p1 ((e1.name.parts).length) c1, .int .i64 ((laws_markStringS e1.name.parts k2).1)] ++ B1) (a2.set i (SeenNonce.mk (Name.mk ((laws_markStringS e1.name.parts k2).2)) ((laws_markStringS e1.name.parts k2).1)))]) rfl ?_
    refine WX.turn [9] 2 rfl (fun _ h => h) rfl ?_
    exact WX.iter ((A1 ++ [.slice p1 ((e1.name.parts).length) c1, .int .i64 ((laws_markStringS e1.name.parts k2).1)] ++ B1), ((a2.set i (SeenNonce.mk (Name.mk ((laws_markStringS e1.name.parts k2).2)) ((laws_markStringS e1.name.parts k2).1))) : List SeenNonce), IntKind.i64.wrap (((laws_markStringS e1.name.parts k2).1) + 1), i + 1) ⟨(by omega), (by first | assumption | omega | (simp only [List.length_append, List.length_cons, List.length_nil, List.length_set, List.length_map, List.length_take, List.length_drop]; omega) | (simp; omega)), (all_set v3 (show GoT.ok n ((SeenNonce.mk (Name.mk ((laws_markStringS e1.name.parts k2).2)) ((laws_markStringS e1.name.parts k2).1)) : SeenNonce) from (And.intro hq1.1.2 hq1.1.1))), (i64_wrap _), (by rw [v5, show (a).length - i = ((a).length - (i + 1)) + 1 by omega]; simp only [laws_markSeenNonceS_L1, e1h, cond_true, cond_false])⟩ (by dsimp only; omega) (.cons rfl (.cons rfl (.cons rfl (.nil)))) .nil (.cons rfl (.nil)) [2] rfl
  · skip
    have h1d := B.df h1
    refine WX.run ttOk rfl ?_
    have hX1 : laws_markSeenNonceS_L1 ((a).length) 0 (a : List SeenNonce) k = (((a2) : List SeenNonce), k2) := by rw [v5, show (a).length - i = 0 by omega]; simp only [laws_markSeenNonceS_L1, cond_true, cond_false]
    refine WX.seal 501 2 10 rfl rfl (show (a).length = (a2).length from by omega) rfl rfl ?_
    refine WX.slot 7 (y := .v (.slice pa (a2).length ca)) rfl (fun _ => by show (Value.slice pa ((a).length) ca : Value) = Value.slice pa (a2).length ca; rw [(show (a).length = (a2).length from by omega)]) ?_
    refine WX.slot 0 (y := .v (.slice pa (a2).length ca)) rfl (fun _ => by show (Value.slice pa ((a).length) ca : Value) = Value.slice pa (a2).length ca; rw [(show (a).length = (a2).length from by omega)]) ?_
    have hP1 : laws_markSeenNonceS a k = (k2, a2) := by simp only [laws_markSeenNonceS, hX1, cond_true, cond_false]
    refine WX.ret ttOk rfl ?_
    intro w1 G bs hI hΓ
    rw [hP1]
    exact Post.of [11] () hI hΓ rfl rfl rfl ⟨⟨v4, (okl_mk (by omega) v3 : GoT.ok n (a2 : List SeenNonce))⟩, (show (a2).length = (a).length from by omega)⟩
theorem f259 (w : World) (n : Nat) (hn : n + 0 ≤ 9) (a : (List Route)) (pa : Option Addr) (ca : Nat) (k : Int) (H : GH) (hH : Le H (hp w)) (hown : Sep H (GoT.oa a (pa, ca))) (hoka : GoT.ok n a) (hokk : GoT.ok n k) :
    Does Tryz.prog 259 #[.slice pa ((a).length) ca, .int .i64 (k)] w H (Post w H (fun _ : Unit => .int .i64 ((laws_markRouteS a k).1)) (fun _ => GoT.oa ((laws_markRouteS a k).2 : (List Route)) (pa, ca)) ((GoT.ok n ((laws_markRouteS a k).1 : Int) ∧ GoT.ok n ((laws_markRouteS a k).2 : (List Route))) ∧ ((laws_markRouteS a k).2).length = (a).length)) := by
  have hbP := bd_pos n
  have hbB := bd_big (n := n) (by omega)
  refine WX.enterM (tt := tt) (Γ := []) 1 Tryz.func259 rfl (by kernel_rfl) rfl allS_nil hH hown (fun f hf => GoT.oak f hf) rfl ?_
  refine WX.opn (kk := 3) 501 1 2 rfl rfl rfl ?_
  intro xs1 hx1
  refine WX.run ttOk rfl ?_
  have r1 : (a).length ≤ bd n := (okl hoka).1
  refine WX.loop (ι := (List Value) × (List Route) × Int × Nat) ⟨fun | (xsa2, a2, k2, i) => (i ≤ (a).length) ∧ (a2.length = (a).length) ∧ (∀ z_ ∈ a2, GoT.ok n z_) ∧ (-9223372036854775808 ≤ k2 ∧ k2 ≤ 9223372036854775807) ∧ (laws_markRouteS_L1 ((a).length) 0 (a : List Route) k = laws_markRouteS_L1 ((a).length - i) i a2 k2), fun | (xsa2, a2, k2, i) => (a).length - i, fun | (xsa2, a2, k2, i) => [(0, .v (.slice pa ((a).length) ca)), (1, .v (.int .i64 (k2))), (5, .v (.int .i64 (((i : Nat) : Int))))], fun | (xsa2, a2, k2, i) => [], fun | (xsa2, a2, k2, i) => [(501, ⟨3, pa, (a).length, ca, xsa2⟩)], fun | (xsa2, a2, k2, i) => [(2, MF.ol xsa2 (a2 : List Route))]⟩ (xs1, (a : List Route), k, 0) ⟨(Nat.zero_le _), (by simp), (okl hoka).2, hokk, rfl⟩
    (.cons rfl (.cons rfl (.cons rfl (.nil)))) .nil (.cons rfl (.nil)) [2] rfl ?_
  rintro ⟨xsa2, a2, k2, i⟩ hpre
  have hpre_ : (i ≤ (a).length) ∧ (a2.length = (a).length) ∧ (∀ z_ ∈ a2, GoT.ok n z_) ∧ (-9223372036854775808 ≤ k2 ∧ k2 ≤ 9223372036854775807) ∧ (laws_markRouteS_L1 ((a).length) 0 (a : List Route) k = laws_markRouteS_L1 ((a).length - i) i a2 k2) := hpre
  clear hpre
  obtain ⟨v1, v2, v3, v4, v5⟩ := hpre_
  refine WX.run ttOk rfl ?_
  refine WX.cases 9 rfl (fun h1 => ?_) (fun h1 => ?_)
  · skip
    have h1d := B.dt h1
    refine WX.run ttOk rfl ?_
    have hr1 : i < (a).length := (by first | assumption | omega)
    refine WX.idxR 501 i ttOk rfl rfl rfl rfl rfl rfl rfl rfl rfl hr1 ?_
    rintro ad1 rfl
    refine WX.run ttOk rfl ?_
    have e1i : i < (a2).length := (by first | assumption | omega)
    obtain ⟨e1, e1h⟩ : ∃ e1, (a2)[i]? = some e1 := ⟨_, List.getElem?_eq_getElem e1i⟩
    have ok1 : GoT.ok n e1 := v3 _ (List.mem_of_getElem? e1h)
    refine WX.opnE (α := Route) (e := e1) 501 2 3 i rfl rfl rfl e1h (fun _ => rfl) (fun _ _ _ => rfl) (fun _ _ _ => rfl) ?_
    rintro A1 B1 ⟨⟨p1, c1⟩, ⟨⟩, ⟨⟩⟩ hA1 hB1
    refine WX.ldA 501 ttOk rfl rfl rfl rfl rfl rfl rfl rfl rfl rfl hA1 hr1 rfl ?_
    refine WX.run ttOk rfl ?_
    refine WX.callM [4] 7 rfl (fun _ _ h => GoT.ow_rd h) (fun _ f hf => GoT.fak f hf) rfl rfl rfl rfl rfl (fun _ => rfl) rfl (fun w G bs H hI hH hs hΓ => f198 w n (by omega) e1.pfx.parts p1 c1 k2 H hH hs (ok_Name (ok_Route ok1).1) v4) (fun _ => rfl) (fun _ => rfl) ?_
    rintro ⟨⟩ hq1
    have hl1 : ((laws_markStringS e1.pfx.parts k2).2).length = (e1.pfx.parts).length := hq1.2
    refine WX.run ttOk rfl ?_
    have hr2 : i < (a).length := (by first | assumption | omega)
    refine WX.idxR 501 i ttOk rfl rfl rfl rfl rfl rfl rfl rfl rfl hr2 ?_
    rintro ad2 ⟨⟩
    refine WX.run ttOk rfl ?_
    refine WX.stA 501 ttOk rfl rfl rfl rfl rfl rfl rfl rfl rfl rfl rfl rfl rfl rfl hA1 hr2 rfl rfl rfl rfl (by simp) rfl ?_
    refine WX.run ttOk rfl ?_
    refine WX.see rfl rfl rfl (fun _ hΓ => looks_wrap rfl rfl rfl rfl) ?_
    refine WX.run ttOk rfl ?_
    have hr3 : i < (a).length := (by first | assumption | omega)
    refine WX.idxR 501 i ttOk rfl rfl rfl rfl rfl rfl rfl rfl rfl hr3 ?_
    rintro ad3 ⟨⟩
    refine WX.run ttOk rfl ?_
    refine WX.stA 501 ttOk rfl rfl rfl rfl rfl rfl rfl rfl rfl rfl rfl rfl rfl rfl hA1 hr3 rfl rfl rfl rfl (by simp) rfl ?_
    refine WX.run ttOk rfl ?_
    refine WX.see rfl rfl rfl (fun _ hΓ => looks_wrap rfl rfl rfl rfl) ?_
    refine WX.run ttOk rfl ?_
    refine WX.see rfl rfl rfl (fun _ hΓ => looks_arith rfl rfl rfl rfl (by unfold I64; first | omega | (dsimp only; omega))) ?_
    refine WX.run ttOk rfl ?_
    refine WX.turn [8, 5, 6] 9 rfl (fun h hs => by have z_ : Sep h [MF.ol (A1 ++ [.slice p1 (((laws_markStringS e1.pfx.parts k2).2).length) c1, .int .i64 ((laws_markStringS e1.pfx.parts k2).1), .int .i64 (IntKind.i64.wrap (((laws_markStringS e1.pfx.parts k2).1) + 1))] ++ B1) (a2.set i (Route.mk (Name.mk ((laws_markStringS e1.pfx.parts k2).2)) ((laws_markStringS e1.pfx.parts k2).1) (IntKind.i64.wrap (((laws_markStringS e1.pfx.parts k2).1) + 1))))] := cl_elem (α := Route) (e := (Route.mk (Name.mk ((laws_markStringS e1.pfx.parts k2).2)) ((laws_markStringS e1.pfx.parts k2).1) (IntKind.i64.wrap (((laws_markStringS e1.pfx.parts k2).1) + 1)))) (x := ((p1, c1), (), ())) e1i hs; rw [hl1] at z_; exact z_) (gs := [MF.ol (A1 ++ [.slice p1 ((e1.pfx.parts).length) c1, .int .i64 ((laws_markStringS e1.pfx.parts k2).1), .int .i64 (IntKind.i64.wrap (((laws_markStringS e1.pfx.parts k2).1) + 1))] ++ B1) (a2.set i (Route.mk (Name.mk ((laws_markStringS e1.pfx.parts k2).2)) ((laws_markStringS e1.pfx.parts k2).1) (IntKind.i64.wrap (((laws_markStringS e1.pfx.parts k2).1) + 1))))]) rfl ?_
    refine WX.turn [9] 2 rfl (fun _ h => h) rfl ?_
    exact WX.iter ((A1 ++ [.slice p1 ((e1.pfx.parts).length) c1, .int .i64 ((laws_markStringS e1.pfx.parts k2).1), .int .i64 (IntKind.i64.wrap (((laws_markStringS e1.pfx.parts k2).1) + 1))] ++ B1), ((a2.set i (Route.mk (Name.mk ((laws_markStringS e1.pfx.parts k2).2)) ((laws_markStringS e1.pfx.parts k2).1) (IntKind.i64.wrap (((laws_markStringS e1.pfx.parts k2).1) + 1)))) : List Route), IntKind.i64.wrap ((IntKind.i64.wrap (((laws_markStringS e1.pfx.parts k2).1) + 1)) + 1), i + 1) ⟨(by omega), (by first | assumption | omega | (simp only [List.length_append, List.length_cons, List.length_nil, List.length_set, List.length_map, List.length_take, List.length_drop]; omega) | (simp; omega)), (all_set v3 (show GoT.ok n ((Route.mk (Name.mk ((laws_markStringS e1.pfx.parts k2).2)) ((laws_markStringS e1.pfx.parts k2).1) (IntKind.i64.wrap (((laws_markStringS e1.pfx.parts k2).1) + 1))) : Route) from (And.intro hq1.1.2 (And.intro hq1.1.1 (i64_wrap _))))), (i64_wrap _), (by rw [v5, show (a).length - i = ((a).length - (i + 1)) + 1 by omega]; simp only [laws_markRouteS_L1, e1h, cond_true, cond_false])⟩ (by dsimp only; omega) (.cons rfl (.cons rfl (.cons rfl (.nil)))) .nil (.cons rfl (.nil)) [2] rfl
  · skip
    have h1d := B.df h1
    refine WX.run ttOk rfl ?_
    have hX1 : laws_markRouteS_L1 ((a).length) 0 (a : List Route) k = (((a2) : List Route), k2) := by rw [v5, show (a).length - i = 0 by omega]; simp only [laws_markRouteS_L1, cond_true, cond_false]
    refine WX.seal 501 2 10 rfl rfl (show (a).length = (a2).length from by omega) rfl rfl ?_
    refine WX.slot 7 (y := .v (.slice pa (a2).length ca)) rfl (fun _ => by show (Value.slice pa ((a).length) ca : Value) = Value.slice pa (a2).length ca; rw [(show (a).length = (a2).length from by omega)]) ?_
    refine WX.slot 0 (y := .v (.slice pa (a2).length ca)) rfl (fun _ => by show (Value.slice pa ((a).length) ca : Value) = Value.slice pa (a2).length ca; rw [(show (a).length = (a2).length from by omega)]) ?_
    have hP1 : laws_markRouteS a k = (k2, a2) := by simp only [laws_markRouteS, hX1, cond_true, cond_false]
    refine WX.ret ttOk rfl ?_
    intro w1 G bs hI hΓ
    rw [hP1]
    exact Post.of [11] () hI hΓ rfl rfl rfl ⟨⟨v4, (okl_mk (by omega) v3 : GoT.ok n (a2 : List Route))⟩, (show (a2).length = (a).length from by omega)⟩
theorem f260 (w : World) (n : Nat) (hn : n + 0 ≤ 9) (a : (List Measurement)) (pa : Option Addr) (ca : Nat) (k : Int) (H : GH) (hH : Le H (hp w)) (hown : Sep H (GoT.oa a (pa, ca))) (hoka : GoT.ok n a) (hokk : GoT.ok n k) :
    Does Tryz.prog 260 #[.slice pa ((a).length) ca, .int .i64 (k)] w H (Post w H (fun _ : Unit => .int .i64 ((laws_markMeasurementS a k).1)) (fun _ => GoT.oa ((laws_markMeasurementS a k).2 : (List Measurement)) (pa, ca)) ((GoT.ok n ((laws_markMeasurementS a k).1 : Int) ∧ GoT.ok n ((laws_markMeasurementS a k).2 : (List Measurement))) ∧ ((laws_markMeasurementS a k).2).length = (a).length)) := by
  have hbP := bd_pos n
  have hbB := bd_big (n := n) (by omega)
  refine WX.enterM (tt := tt) (Γ := []) 1 Tryz.func260 rfl (by kernel_rfl) rfl allS_nil hH hown (fun f hf => GoT.oak f hf) rfl ?_
  refine WX.opn (kk := 3) 501 1 2 rfl rfl rfl ?_
  intro xs1 hx1
  refine WX.run ttOk rfl ?_
  have r1 : (a).length ≤ bd n := (okl hoka).1
  refine WX.loop (ι := (List Value) × (List Measurement) × Int × Nat) ⟨fun | (xsa2, a2, k2, i) => (i ≤ (a).length) ∧ (a2.length = (a).length) ∧ (∀ z_ ∈ a2, GoT.ok n z_) ∧ (-9223372036854775808 ≤ k2 ∧ k2 ≤ 9223372036854775807) ∧ (laws_markMeasurementS_L1 ((a).length) 0 (a : List Measurement) k = laws_markMeasurementS_L1 ((a).length - i) i a2 k2), fun | (xsa2, a2, k2, i) => (a).length - i, fun | (xsa2, a2, k2, i) => [(0, .v (.slice pa ((a).length) ca)), (1, .v (.int .i64 (k2))), (5, .v (.int .i64 (((i : Nat) : Int))))], fun | (xsa2, a2, k2, i) => [], fun | (xsa2, a2, k2, i) => [(501, ⟨3, pa, (a).length, ca, xsa2⟩)], fun | (xsa2, a2, k2, i) => [(2, MF.ol xsa2 (a2 : List Measurement))]⟩ (xs1, (a : List Measurement), k, 0) ⟨(Nat.zero_le _), (by simp), (okl hoka).2, hokk, rfl⟩
    (.cons rfl (.cons rfl (.cons rfl (.nil)))) .nil (.cons rfl (.nil)) [2] rfl ?_
  rintro ⟨xsa2, a2, k2, i⟩ hpre
  have hpre_ : (i ≤ (a).length) ∧ (a2.length = (a).length) ∧ (∀ z_ ∈ a2, GoT.ok n z_) ∧ (-9223372036854775808 ≤ k2 ∧ k2 ≤ 9223372036854775807) ∧ (laws_markMeasurementS_L1 ((a).length) 0 (a : List Measurement) k = laws_markMeasurementS_L1 ((a).length - i) i a2 k2) := hpre
  clear hpre
  obtain ⟨v1, v2, v3, v4, v5⟩ := hpre_
  refine WX.run ttOk rfl ?_
  refine WX.cases 9 rfl (fun h1 => ?_) (fun h1 => ?_)
  · skip
    have h1d := B.dt h1
    refine WX.run ttOk rfl ?_
    have hr1 : i < (a).length := (by first | assumption | omega)
    refine WX.idxR 501 i ttOk rfl rfl rfl rfl rfl rfl rfl rfl rfl hr1 ?_
    rintro ad1 rfl
    refine WX.run ttOk rfl ?_
    have e1i : i < (a2).length := (by first | assumption | omega)
    obtain ⟨e1, e1h⟩ : ∃ e1, (a2)[i]? = some e1 := ⟨_, List.getElem?_eq_getElem e1i⟩
    have ok1 : GoT.ok n e1 := v3 _ (List.mem_of_getElem? e1h)
    refine WX.opnE (α := Measurement) (e := e1) 501 2 3 i rfl rfl rfl e1h (fun _ => rfl) (fun _ _ _ => rfl) (fun _ _ _ => rfl) ?_
    rintro A1 B1 ⟨⟨p1, c1⟩, ⟨⟩, ⟨⟩⟩ hA1 hB1
    refine WX.ldA 501 ttOk rfl rfl rfl rfl rfl rfl rfl rfl rfl rfl hA1 hr1 rfl ?_
    refine WX.run ttOk rfl ?_
    refine WX.callM [4] 7 rfl (fun _ _ h => GoT.ow_rd h) (fun _ f hf => GoT.fak f hf) rfl rfl rfl rfl rfl (fun _ => rfl) rfl (fun w G bs H hI hH hs hΓ => f198 w n (by omega) e1.pfx.parts p1 c1 k2 H hH hs (ok_Name (ok_Measurement ok1).1) v4) (fun _ => rfl) (fun _ => rfl) ?_
    rintro ⟨⟩ hq1
    have hl1 : ((laws_markStringS e1.pfx.parts k2).2).length = (e1.pfx.parts).length := hq1.2
    refine WX.run ttOk rfl ?_
    have hr2 : i < (a).length := (by first | assumption | omega)
    refine WX.idxR 501 i ttOk rfl rfl rfl rfl rfl rfl rfl rfl rfl hr2 ?_
    rintro ad2 ⟨⟩
    refine WX.run ttOk rfl ?_
    refine WX.stA 501 ttOk rfl rfl rfl rfl rfl rfl rfl rfl rfl rfl rfl rfl rfl rfl hA1 hr2 rfl rfl rfl rfl (by simp) rfl ?_
    refine WX.run ttOk rfl ?_
    refine WX.see rfl rfl rfl (fun _ hΓ => looks_wrap rfl rfl rfl rfl) ?_
    refine WX.run ttOk rfl ?_
    have hr3 : i < (a).length := (by first | assumption | omega)
    refine WX.idxR 501 i ttOk rfl rfl rfl rfl rfl rfl rfl rfl rfl hr3 ?_
    rintro ad3 ⟨⟩
    refine WX.run ttOk rfl ?_
    refine WX.stA 501 ttOk rfl rfl rfl rfl rfl rfl rfl rfl rfl rfl rfl rfl rfl rfl hA1 hr3 rfl rfl rfl rfl (by simp) rfl ?_
    refine WX.run ttOk rfl ?_
    refine WX.see rfl rfl rfl (fun _ hΓ => looks_wrap rfl rfl rfl rfl) ?_
    refine WX.run ttOk rfl ?_
    refine WX.see rfl rfl rfl (fun _ hΓ => looks_arith rfl rfl rfl rfl (by unfold I64; first | omega | (dsimp only; omega))) ?_
    refine WX.run ttOk rfl ?_
    refine WX.turn [8, 5, 6] 9 rfl (fun h hs => by have z_ : Sep h [MF.ol (A1 ++ [.slice p1 (((laws_markStringS e1.pfx.parts k2).2).length) c1, .int .i64 ((laws_markStringS e1.pfx.parts k2).1), .int .i64 (IntKind.i64.wrap (((laws_markStringS e1.pfx.parts k2).1) + 1))] ++ B1) (a2.set i (Measurement.mk (Name.mk ((laws_markStringS e1.pfx.parts k2).2)) ((laws_markStringS e1.pfx.parts k2).1) (IntKind.i64.wrap (((laws_markStringS e1.pfx.parts k2).1) + 1))))] := cl_elem (α := Measurement) (e := (Measurement.mk (Name.mk ((laws_markStringS e1.pfx.parts k2).2)) ((laws_markStringS e1.pfx.parts k2).1) (IntKind.i64.wrap (((laws_markStringS e1.pfx.parts k2).1) + 1)))) (x := ((p1, c1), (), ())) e1i hs; rw [hl1] at z_; exact z_) (gs := [MF.ol (A1 ++ [.slice p1 ((e1.pfx.parts).length) c1, .int .i64 ((laws_markStringS e1.pfx.parts k2).1), .int .i64 (IntKind.i64.wrap (((laws_markStringS e1.pfx.parts k2).1) + 1))] ++ B1) (a2.set i (Measurement.mk (Name.mk ((laws_markStringS e1.pfx.parts k2).2)) ((laws_markStringS e1.pfx.parts k2).1) (IntKind.i64.wrap (((laws_markStringS e1.pfx.parts k2).1) + 1))))]) rfl ?_
    refine WX.turn [9] 2 rfl (fun _ h => h) rfl ?_
    exact WX.iter ((A1 ++ [.slice p1 ((e1.pfx.parts).length) c1, .int .i64 ((laws_markStringS e1.pfx.parts k2).1), .int .i64 (IntKind.i64.wrap (((laws_markStringS e1.pfx.parts k2).1) + 1))] ++ B1), ((a2.set i (Measurement.mk (Name.mk ((laws_markStringS e1.pfx.parts k2).2)) ((laws_markStringS e1.pfx.parts k2).1) (IntKind.i64.wrap (((laws_markStringS e1.pfx.parts k2).1) + 1)))) : List Measurement), IntKind.i64.wrap ((IntKind.i64.wrap (((laws_markStringS e1.pfx.parts k2).1) + 1)) + 1), i + 1) ⟨(by omega), (by first | assumption | omega | (simp only [List.length_append, List.length_cons, List.length_nil, List.length_set, List.length_map, List.length_take, List.length_drop]; omega) | (simp; omega)), (all_set v3 (show GoT.ok n ((Measurement.mk (Name.mk ((laws_markStringS e1.pfx.parts k2).2)) ((laws_markStringS e1.pfx.parts k2).1) (IntKind.i64.wrap (((laws_markStringS e1.pfx.parts k2).1) + 1))) : Measurement) from (And.intro hq1.1.2 (And.intro hq1.1.1 (i64_wrap _))))), (i64_wrap _), (by rw [v5, show (a).length - i = ((a).length - (i + 1)) + 1 by omega]; simp only [laws_markMeasurementS_L1, e1h, cond_true, cond_false])⟩ (by dsimp only; omega) (.cons rfl (.cons rfl (.cons rfl (.nil)))) .nil (.cons rfl (.nil)) [2] rfl
  · skip
    have h1d := B.df h1
    refine WX.run ttOk rfl ?_
    have hX1 : laws_markMeasurementS_L1 ((a).length) 0 (a : List Measurement) k = (((a2) : List Measurement), k2) := by rw [v5, show (a).length - i = 0 by omega]; simp only [laws_markMeasurementS_L1, cond_true, cond_false]
    refine WX.seal 501 2 10 rfl rfl (show (a).length = (a2).length from by omega) rfl rfl ?_
    refine WX.slot 7 (y := .v (.slice pa (a2).length ca)) rfl (fun _ => by show (Value.slice pa ((a).length) ca : Value) = Value.slice pa (a2).length ca; rw [(show (a).length = (a2).length from by omega)]) ?_
    refine WX.slot 0 (y := .v (.slice pa (a2).length ca)) rfl (fun _ => by show (Value.slice pa ((a).length) ca : Value) = Value.slice pa (a2).length ca; rw [(show (a).length = (a2).length from by omega)]) ?_
    have hP1 : laws_markMeasurementS a k = (k2, a2) := by simp only [laws_markMeasurementS, hX1, cond_true, cond_false]
    refine WX.ret ttOk rfl ?_
    intro w1 G bs hI hΓ
    rw [hP1]
    exact Post.of [11] () hI hΓ rfl rfl rfl ⟨⟨v4, (okl_mk (by omega) v3 : GoT.ok n (a2 : List Measurement))⟩, (show (a2).length = (a).length from by omega)⟩
theorem f150 (w : World) (n : Nat) (hn : n + 0 ≤ 9) (a : (List NodeP)) (pa : Option Addr) (ca : Nat) (k : Int) (H : GH) (hH : Le H (hp w)) (hown : Sep H (GoT.oa a (pa, ca))) (hoka : GoT.ok n a) (hokk : GoT.ok n k) :
    Does Tryz.prog 150 #[.slice pa ((a).length) ca, .int .i64 (k)] w H (Post w H (fun _ : Unit => .int .i64 ((laws_markNodeS a k).1)) (fun _ => GoT.oa ((laws_markNodeS a k).2 : (List NodeP)) (pa, ca)) ((GoT.ok n ((laws_markNodeS a k).1 : Int) ∧ GoT.ok n ((laws_markNodeS a k).2 : (List NodeP))) ∧ ((laws_markNodeS a k).2).length = (a).length)) := by
  have hbP := bd_pos n
  have hbB := bd_big (n := n) (by omega)
  refine WX.enterM (tt := tt) (Γ := []) 1 Tryz.func150 rfl (by kernel_rfl) rfl allS_nil hH hown (fun f hf => GoT.oak f hf) rfl ?_
  refine WX.opn (kk := 8) 501 1 2 rfl rfl rfl ?_
  intro xs1 hx1
  refine WX.run ttOk rfl ?_
  have r1 : (a).length ≤ bd n := (okl hoka).1
  refine WX.loop (ι := (List Value) × (List NodeP) × Int × Nat) ⟨fun | (xsa2, a2, k2, i) => (i ≤ (a).length) ∧ (a2.length = (a).length) ∧ (∀ z_ ∈ a2, GoT.ok n z_) ∧ (-9223372036854775808 ≤ k2 ∧ k2 ≤ 9223372036854775807) ∧ (laws_markNodeS_L1 ((a).length) 0 (a : List NodeP) k = laws_markNodeS_L1 ((a).length - i) i a2 k2), fun | (xsa2, a2, k2, i) => (a).length - i, fun | (xsa2, a2, k2, i) => [(0, .v (.slice pa ((a).length) ca)), (1, .v (.int .i64 (k2))), (5, .v (.int .i64 (((i : Nat) : Int))))], fun | (xsa2, a2, k2, i) => [], fun | (xsa2, a2, k2, i) => [(501, ⟨8, pa, (a).length, ca, xsa2⟩)], fun | (xsa2, a2, k2, i) => [(2, MF.ol xsa2 (a2 : List NodeP))]⟩ (xs1, (a : List NodeP), k, 0) ⟨(Nat.zero_le _), (by simp), (okl hoka).2, hokk, rfl⟩
    (.cons rfl (.cons rfl (.cons rfl (.nil)))) .nil (.cons rfl (.nil)) [2] rfl ?_
  rintro ⟨xsa2, a2, k2, i⟩ hpre
  have hpre_ : (i ≤ (a).length) ∧ (a2.length = (a).length) ∧ (∀ z_ ∈ a2, GoT.ok n z_) ∧ (-9223372036854775808 ≤ k2 ∧ k2 ≤ 9223372036854775807) ∧ (laws_markNodeS_L1 ((a).length) 0 (a : List NodeP) k = laws_markNodeS_L1 ((a).length - i) i a2 k2) := hpre
  clear hpre
  obtain ⟨v1, v2, v3, v4, v5⟩ := hpre_
  refine WX.run ttOk rfl ?_
  refine WX.cases 9 rfl (fun h1 => ?_) (fun h1 => ?_)
  · skip
    have h1d := B.dt h1
    refine WX.run ttOk rfl ?_
    have hr1 : i < (a).length := (by first | assumption | omega)
    refine WX.idxR 501 i ttOk rfl rfl rfl rfl rfl rfl rfl rfl rfl hr1 ?_
    rintro ad1 rfl
    refine WX.run ttOk rfl ?_
    have e1i : i < (a2).length := (by first | assumption | omega)
    obtain ⟨e1, e1h⟩ : ∃ e1, (a2)[i]? = some e1 := ⟨_, List.getElem?_eq_getElem e1i⟩
    have ok1 : GoT.ok n e1 := v3 _ (List.mem_of_getElem? e1h)
    refine WX.opnE (α := NodeP) (e := e1) 501 2 3 i rfl rfl rfl e1h (fun _ => rfl) (fun _ _ _ => rfl) (fun _ _ _ => rfl) ?_
    rintro A1 B1 ⟨⟨p1, c1⟩, ⟨⟨⟩, ⟨p2, c2⟩⟩, ⟨p3, c3⟩, ⟨p4, c4⟩, ⟨p5, c5⟩, ⟨p6, c6⟩, ⟨⟩⟩ hA1 hB1
    refine WX.ldA 501 ttOk rfl rfl rfl rfl rfl rfl rfl rfl rfl rfl hA1 hr1 rfl ?_
    refine WX.run ttOk rfl ?_
    refine WX.callM [9] 17 rfl (fun _ _ h => GoT.ow_rd h) (fun _ f hf => GoT.fak f hf) rfl rfl rfl rfl rfl (fun _ => rfl) rfl (fun w G bs H hI hH hs hΓ => f110 w n (by omega) e1.locl p1 c1 k2 H hH hs ((ok_NodeP ok1).1) v4) (fun _ => rfl) (fun _ => rfl) ?_
    rintro ⟨⟩ hq1
    have hl1 : ((laws_markDataS e1.locl k2).2).length = (e1.locl).length := hq1.2
    refine WX.run ttOk rfl ?_
    have hr2 : i < (a).length := (by first | assumption | omega)
    refine WX.idxR 501 i ttOk rfl rfl rfl rfl rfl rfl rfl rfl rfl hr2 ?_
    rintro ad2 ⟨⟩
    refine WX.run ttOk rfl ?_
    refine WX.stA 501 ttOk rfl rfl rfl rfl rfl rfl rfl rfl rfl rfl rfl rfl rfl rfl hA1 hr2 rfl rfl rfl rfl (by simp) rfl ?_
    refine WX.run ttOk rfl ?_
    refine WX.see rfl rfl rfl (fun _ hΓ => looks_wrap rfl rfl rfl rfl) ?_
    refine WX.run ttOk rfl ?_
    have hr3 : i < (a).length := (by first | assumption | omega)
    refine WX.idxR 501 i ttOk rfl rfl rfl rfl rfl rfl rfl rfl rfl hr3 ?_
    rintro ad3 ⟨⟩
    refine WX.run ttOk rfl ?_
    refine WX.ldA 501 ttOk rfl rfl rfl rfl rfl rfl rfl rfl rfl rfl hA1 hr3 rfl ?_
    refine WX.run ttOk rfl ?_
    refine WX.callM [10] 19 rfl (fun _ _ h => GoT.ow_rd h) (fun _ f hf => GoT.fak f hf) rfl rfl rfl rfl rfl (fun _ => rfl) rfl (fun w G bs H hI hH hs hΓ => f256 w n (by omega) e1.cache.entries p2 c2 (IntKind.i64.wrap (((laws_markDataS e1.locl k2).1) + 1)) H hH hs ((ok_ContentStore (ok_NodeP ok1).2.1).2) (i64_wrap _)) (fun _ => rfl) (fun _ => rfl) ?_
    rintro ⟨⟩ hq2
    have hl2 : ((laws_markCacheEntryS e1.cache.entries (IntKind.i64.wrap (((laws_markDataS e1.locl k2).1) + 1))).2).length = (e1.cache.entries).length := hq2.2
    refine WX.run ttOk rfl ?_
    have hr4 : i < (a).length := (by first | assumption | omega)
    refine WX.idxR 501 i ttOk rfl rfl rfl rfl rfl rfl rfl rfl rfl hr4 ?_
    rintro ad4 ⟨⟩
    refine WX.run ttOk rfl ?_
    refine WX.ldA 501 ttOk rfl rfl rfl rfl rfl rfl rfl rfl rfl rfl hA1 hr4 rfl ?_
    refine WX.run ttOk rfl ?_
    refine WX.callM [11] 21 rfl (fun _ _ h => GoT.ow_rd h) (fun _ f hf => GoT.fak f hf) rfl rfl rfl rfl rfl (fun _ => rfl) rfl (fun w G bs H hI hH hs hΓ => f257 w n (by omega) e1.pending p3 c3 ((laws_markCacheEntryS e1.cache.entries (IntKind.i64.wrap (((laws_markDataS e1.locl k2).1) + 1))).1) H hH hs ((ok_NodeP ok1).2.2.1) hq2.1.1) (fun _ => rfl) (fun _ => rfl) ?_
    rintro ⟨⟩ hq3
    have hl3 : ((laws_markPendingInterestS e1.pending ((laws_markCacheEntryS e1.cache.entries (IntKind.i64.wrap (((laws_markDataS e1.locl k2).1) + 1))).1)).2).length = (e1.pending).length := hq3.2
    refine WX.run ttOk rfl ?_
    have hr5 : i < (a).length := (by first | assumption | omega)
    refine WX.idxR 501 i ttOk rfl rfl rfl rfl rfl rfl rfl rfl rfl hr5 ?_
    rintro ad5 ⟨⟩
    refine WX.run ttOk rfl ?_
    refine WX.ldA 501 ttOk rfl rfl rfl rfl rfl rfl rfl rfl rfl rfl hA1 hr5 rfl ?_
    refine WX.run ttOk rfl ?_
    refine WX.callM [12] 23 rfl (fun _ _ h => GoT.ow_rd h) (fun _ f hf => GoT.fak f hf) rfl rfl rfl rfl rfl (fun _ => rfl) rfl (fun w G bs H hI hH hs hΓ => f258 w n (by omega) e1.seen p4 c4 ((laws_markPendingInterestS e1.pending ((laws_markCacheEntryS e1.cache.entries (IntKind.i64.wrap (((laws_markDataS e1.locl k2).1) + 1))).1)).1) H hH hs ((ok_NodeP ok1).2.2.2.1) hq3.1.1) (fun _ => rfl) (fun _ => rfl) ?_
    rintro ⟨⟩ hq4
    have hl4 : ((laws_markSeenNonceS e1.seen ((laws_markPendingInterestS e1.pending ((laws_markCacheEntryS e1.cache.entries (IntKind.i64.wrap (((laws_markDataS e1.locl k2).1) + 1))).1)).1)).2).length = (e1.seen).length := hq4.2
    refine WX.run ttOk rfl ?_
    have hr6 : i < (a).length := (by first | assumption | omega)
    refine WX.idxR 501 i ttOk rfl rfl rfl rfl rfl rfl rfl rfl rfl hr6 ?_
    rintro ad6 ⟨⟩
    refine WX.run ttOk rfl ?_
    refine WX.ldA 501 ttOk rfl rfl rfl rfl rfl rfl rfl rfl rfl rfl hA1 hr6 rfl ?_
    refine WX.run ttOk rfl ?_
    refine WX.callM [13] 25 rfl (fun _ _ h => GoT.ow_rd h) (fun _ f hf => GoT.fak f hf) rfl rfl rfl rfl rfl (fun _ => rfl) rfl (fun w G bs H hI hH hs hΓ => f259 w n (by omega) e1.routes p5 c5 ((laws_markSeenNonceS e1.seen ((laws_markPendingInterestS e1.pending ((laws_markCacheEntryS e1.cache.entries (IntKind.i64.wrap (((laws_markDataS e1.locl k2).1) + 1))).1)).1)).1) H hH hs ((ok_NodeP ok1).2.2.2.2.1) hq4.1.1) (fun _ => rfl) (fun _ => rfl) ?_
    rintro ⟨⟩ hq5
    have hl5 : ((laws_markRouteS e1.routes ((laws_markSeenNonceS e1.seen ((laws_markPendingInterestS e1.pending ((laws_markCacheEntryS e1.cache.entries (IntKind.i64.wrap (((laws_markDataS e1.locl k2).1) + 1))).1)).1)).1)).2).length = (e1.routes).length := hq5.2
    refine WX.run ttOk rfl ?_
    have hr7 : i < (a).length := (by first | assumption | omega)
    refine WX.idxR 501 i ttOk rfl rfl rfl rfl rfl rfl rfl rfl rfl hr7 ?_
    rintro ad7 ⟨⟩
    refine WX.run ttOk rfl ?_
    refine WX.ldA 501 ttOk rfl rfl rfl rfl rfl rfl rfl rfl rfl rfl hA1 hr7 rfl ?_
    refine WX.run ttOk rfl ?_
    refine WX.callM [14] 27 rfl (fun _ _ h => GoT.ow_rd h) (fun _ f hf => GoT.fak f hf) rfl rfl rfl rfl rfl (fun _ => rfl) rfl (fun w G bs H hI hH hs hΓ => f260 w n (by omega) e1.measurements p6 c6 ((laws_markRouteS e1.routes ((laws_markSeenNonceS e1.seen ((laws_markPendingInterestS e1.pending ((laws_markCacheEntryS e1.cache.entries (IntKind.i64.wrap (((laws_markDataS e1.locl k2).1) + 1))).1)).1)).1)).1) H hH hs ((ok_NodeP ok1).2.2.2.2.2.1) hq5.1.1) (fun _ => rfl) (fun _ => rfl) ?_
    rintro ⟨⟩ hq6
    have hl6 : ((laws_markMeasurementS e1.measurements ((laws_markRouteS e1.routes ((laws_markSeenNonceS e1.seen ((laws_markPendingInterestS e1.pending ((laws_markCacheEntryS e1.cache.entries (IntKind.i64.wrap (((laws_markDataS e1.locl k2).1) + 1))).1)).1)).1)).1)).2).length = (e1.measurements).length := hq6.2
    refine WX.run ttOk rfl ?_
    have hr8 : i < (a).length := (by first | assumption | omega)
    refine WX.idxR 501 i ttOk rfl rfl rfl rfl rfl rfl rfl rfl rfl hr8 ?_
    rintro ad8 ⟨⟩
    refine WX.run ttOk rfl ?_
    refine WX.stA 501 ttOk rfl rfl rfl rfl rfl rfl rfl rfl rfl rfl rfl rfl rfl rfl hA1 hr8 rfl rfl rfl rfl (by simp) rfl ?_
    refine WX.run ttOk rfl ?_
    refine WX.see rfl rfl rfl (fun _ hΓ => looks_wrap rfl rfl rfl rfl) ?_
    refine WX.run ttOk rfl ?_
    refine WX.see rfl rfl rfl (fun _ hΓ => looks_arith rfl rfl rfl rfl (by unfold I64; first | omega | (dsimp only; omega))) ?_
    refine WX.run ttOk rfl ?_
    refine WX.turn [18, 20, 22, 24, 26, 28, 15, 16] 29 rfl (fun h hs => by have z_ : Sep h [MF.ol (A1 ++ [.slice p1 (((laws_markDataS e1.locl k2).2).length) c1, .int .i64 ((laws_markDataS e1.locl k2).1), .slice p2 (((laws_markCacheEntryS e1.cache.entries (IntKind.i64.wrap (((laws_markDataS e1.locl k2).1) + 1))).2).length) c2, .slice p3 (((laws_markPendingInterestS e1.pending ((laws_markCacheEntryS e1.cache.entries (IntKind.i64.wrap (((laws_markDataS e1.locl k2).1) + 1))).1)).2).length) c3, .slice p4 (((laws_markSeenNonceS e1.seen ((laws_markPendingInterestS e1.pending ((laws_markCacheEntryS e1.cache.entries (IntKind.i64.wrap (((laws_markDataS e1.locl k2).1) + 1))).1)).1)).2).length) c4, .slice p5 (((laws_markRouteS e1.routes ((laws_markSeenNonceS e1.seen ((laws_markPendingInterestS e1.pending ((laws_markCacheEntryS e1.cache.entries (IntKind.i64.wrap (((laws_markDataS e1.locl k2).1) + 1))).1)).1)).1)).2).length) c5, .slice p6 (((laws_markMeasurementS e1.measurements ((laws_markRouteS e1.routes ((laws_markSeenNonceS e1.seen ((laws_markPendingInterestS e1.pending ((laws_markCacheEntryS e1.cache.entries (IntKind.i64.wrap (((laws_markDataS e1.locl k2).1) + 1))).1)).1)).1)).1)).2).length) c6, .int .i64 ((laws_markMeasurementS e1.measurements ((laws_markRouteS e1.routes ((laws_markSeenNonceS e1.seen ((laws_markPendingInterestS e1.pending ((laws_markCacheEntryS e1.cache.entries (IntKind.i64.wrap (((laws_markDataS e1.locl k2).1) + 1))).1)).1)).1)).1)).1)] ++ B1) (a2.set i (NodeP.mk ((laws_markDataS e1.locl k2).2) (ContentStore.mk ((laws_markDataS e1.locl k2).1) ((laws_markCacheEntryS e1.cache.entries (IntKind.i64.wrap (((laws_markDataS e1.locl k2).1) + 1))).2)) ((laws_markPendingInterestS e1.pending ((laws_markCacheEntryS e1.cache.entries (IntKind.i64.wrap (((laws_markDataS e1.locl k2).1) + 1))).1)).2) ((laws_markSeenNonceS e1.seen ((laws_markPendingInterestS e1.pending ((laws_markCacheEntryS e1.cache.entries (IntKind.i64.wrap (((laws_markDataS e1.locl k2).1) + 1))).1)).1)).2) ((laws_markRouteS e1.routes ((laws_markSeenNonceS e1.seen ((laws_markPendingInterestS e1.pending ((laws_markCacheEntryS e1.cache.entries (IntKind.i64.wrap (((laws_markDataS e1.locl k2).1) + 1))).1)).1)).1)).2) ((laws_markMeasurementS e1.measurements ((laws_markRouteS e1.routes ((laws_markSeenNonceS e1.seen ((laws_markPendingInterestS e1.pending ((laws_markCacheEntryS e1.cache.entries (IntKind.i64.wrap (((laws_markDataS e1.locl k2).1) + 1))).1)).1)).1)).1)).2) ((laws_markMeasurementS e1.measurements ((laws_markRouteS e1.routes ((laws_markSeenNonceS e1.seen ((laws_markPendingInterestS e1.pending ((laws_markCacheEntryS e1.cache.entries (IntKind.i64.wrap (((laws_markDataS e1.locl k2).1) + 1))).1)).1)).1)).1)).1)))] := cl_elem (α := NodeP) (e := (NodeP.mk ((laws_markDataS e1.locl k2).2) (ContentStore.mk ((laws_markDataS e1.locl k2).1) ((laws_markCacheEntryS e1.cache.entries (IntKind.i64.wrap (((laws_markDataS e1.locl k2).1) + 1))).2)) ((laws_markPendingInterestS e1.pending ((laws_markCacheEntryS e1.cache.entries (IntKind.i64.wrap (((laws_markDataS e1.locl k2).1) + 1))).1)).2) ((laws_markSeenNonceS e1.seen ((laws_markPendingInterestS e1.pending ((laws_markCacheEntryS e1.cache.entries (IntKind.i64.wrap (((laws_markDataS e1.locl k2).1) + 1))).1)).1)).2) ((laws_markRouteS e1.routes ((laws_markSeenNonceS e1.seen ((laws_markPendingInterestS e1.pending ((laws_markCacheEntryS e1.cache.entries (IntKind.i64.wrap (((laws_markDataS e1.locl k2).1) + 1))).1)).1)).1)).2) ((laws_markMeasurementS e1.measurements ((laws_markRouteS e1.routes ((laws_markSeenNonceS e1.seen ((laws_markPendingInterestS e1.pending ((laws_markCacheEntryS e1.cache.entries (IntKind.i64.wrap (((laws_markDataS e1.locl k2).1) + 1))).1)).1)).1)).1)).2) ((laws_markMeasurementS e1.measurements ((laws_markRouteS e1.routes ((laws_markSeenNonceS e1.seen ((laws_markPendingInterestS e1.pending ((laws_markCacheEntryS e1.cache.entries (IntKind.i64.wrap (((laws_markDataS e1.locl k2).1) + 1))).1)).1)).1)).1)).1))) (x := ((p1, c1), ((), (p2, c2)), (p3, c3), (p4, c4), (p5, c5), (p6, c6), ())) e1i hs; rw [hl1, hl2, hl3, hl4, hl5, hl6] at z_; exact z_) (gs := [MF.ol (A1 ++ [.slice p1 ((e1.locl).length) c1, .int .i64 ((laws_markDataS e1.locl k2).1), .slice p2 ((e1.cache.entries).length) c2, .slice p3 ((e1.pending).length) c3, .slice p4 ((e1.seen).length) c4, .slice p5 ((e1.routes).length) c5, .slice p6 ((e1.measurements).length) c6, .int .i64 ((laws_markMeasurementS e1.measurements ((laws_markRouteS e1.routes ((laws_markSeenNonceS e1.seen ((laws_markPendingInterestS e1.pending ((laws_markCacheEntryS e1.cache.entries (IntKind.i64.wrap (((laws_markDataS e1.locl k2).1) + 1))).1)).1)).1)).1)).1)] ++ B1) (a2.set i (NodeP.mk ((laws_markDataS e1.locl k2).2) (ContentStore.mk ((laws_markDataS e1.locl k2).1) ((laws_markCacheEntryS e1.cache.entries (IntKind.i64.wrap (((laws_markDataS e1.locl k2).1) + 1))).2)) ((laws_markPendingInterestS e1.pending ((laws_markCacheEntryS e1.cache.entries (IntKind.i64.wrap (((laws_markDataS e1.locl k2).1) + 1))).1)).2) ((laws_markSeenNonceS e1.seen ((laws_markPendingInterestS e1.pending ((laws_markCacheEntryS e1.cache.entries (IntKind.i64.wrap (((laws_markDataS e1.locl k2).1) + 1))).1)).1)).2) ((laws_markRouteS e1.routes ((laws_markSeenNonceS e1.seen ((laws_markPendingInterestS e1.pending ((laws_markCacheEntryS e1.cache.entries (IntKind.i64.wrap (((laws_markDataS e1.locl k2).1) + 1))).1)).1)).1)).2) ((laws_markMeasurementS e1.measurements ((laws_markRouteS e1.routes ((laws_markSeenNonceS e1.seen ((laws_markPendingInterestS e1.pending ((laws_markCacheEntryS e1.cache.entries (IntKind.i64.wrap (((laws_markDataS e1.locl k2).1) + 1))).1)).1)).1)).1)).2) ((laws_markMeasurementS e1.measurements ((laws_markRouteS e1.routes ((laws_markSeenNonceS e1.seen ((laws_markPendingInterestS e1.pending ((laws_markCacheEntryS e1.cache.entries (IntKind.i64.wrap (((laws_markDataS e1.locl k2).1) + 1))).1)).1)).1)).1)).1)))]) rfl ?_
    refine WX.turn [29] 2 rfl (fun _ h => h) rfl ?_
    exact WX.iter ((A1 ++ [.slice p1 ((e1.locl).length) c1, .int .i64 ((laws_markDataS e1.locl k2).1), .slice p2 ((e1.cache.entries).length) c2, .slice p3 ((e1.pending).length) c3, .slice p4 ((e1.seen).length) c4, .slice p5 ((e1.routes).length) c5, .slice p6 ((e1.measurements).length) c6, .int .i64 ((laws_markMeasurementS e1.measurements ((laws_markRouteS e1.routes ((laws_markSeenNonceS e1.seen ((laws_markPendingInterestS e1.pending ((laws_markCacheEntryS e1.cache.entries (IntKind.i64.wrap (((laws_markDataS e1.locl k2).1) + 1))).1)).1)).1)).1)).1)] ++ B1), ((a2.set i (NodeP.mk ((laws_markDataS e1.locl k2).2) (ContentStore.mk ((laws_markDataS e1.locl k2).1) ((laws_markCacheEntryS e1.cache.entries (IntKind.i64.wrap (((laws_markDataS e1.locl k2).1) + 1))).2)) ((laws_markPendingInterestS e1.pending ((laws_markCacheEntryS e1.cache.entries (IntKind.i64.wrap (((laws_markDataS e1.locl k2).1) + 1))).1)).2) ((laws_markSeenNonceS e1.seen ((laws_markPendingInterestS e1.pending ((laws_markCacheEntryS e1.cache.entries (IntKind.i64.wrap (((laws_markDataS e1.locl k2).1) + 1))).1)).1)).2) ((laws_markRouteS e1.routes ((laws_markSeenNonceS e1.seen ((laws_markPendingInterestS e1.pending ((laws_markCacheEntryS e1.cache.entries (IntKind.i64.wrap (((laws_markDataS e1.locl k2).1) + 1))).1)).1)).1)).2) ((laws_markMeasurementS e1.measurements ((laws_markRouteS e1.routes ((laws_markSeenNonceS e1.seen ((laws_markPendingInterestS e1.pending ((laws_markCacheEntryS e1.cache.entries (IntKind.i64.wrap (((laws_markDataS e1.locl k2).1) + 1))).1)).1)).1)).1)).2) ((laws_markMeasurementS e1.measurements ((laws_markRouteS e1.routes ((laws_markSeenNonceS e1.seen ((laws_markPendingInterestS e1.pending ((laws_markCacheEntryS e1.cache.entries (IntKind.i64.wrap (((laws_markDataS e1.locl k2).1) + 1))).1)).1)).1)).1)).1))) : List NodeP), IntKind.i64.wrap (((laws_markMeasurementS e1.measurements ((laws_markRouteS e1.routes ((laws_markSeenNonceS e1.seen ((laws_markPendingInterestS e1.pending ((laws_markCacheEntryS e1.cache.entries (IntKind.i64.wrap (((laws_markDataS e1.locl k2).1) + 1))).1)).1)).1)).1)).1) + 1), i + 1) ⟨(by omega), (by first | assumption | omega | (simp only [List.length_append, List.length_cons, List.length_nil, List.length_set, List.length_map, List.length_take, List.length_drop]; omega) | (simp; omega)), (all_set v3 (show GoT.ok n ((NodeP.mk ((laws_markDataS e1.locl k2).2) (ContentStore.mk ((laws_markDataS e1.locl k2).1) ((laws_markCacheEntryS e1.cache.entries (IntKind.i64.wrap (((laws_markDataS e1.locl k2).1) + 1))).2)) ((laws_markPendingInterestS e1.pending ((laws_markCacheEntryS e1.cache.entries (IntKind.i64.wrap (((laws_markDataS e1.locl k2).1) + 1))).1)).2) ((laws_markSeenNonceS e1.seen ((laws_markPendingInterestS e1.pending ((laws_markCacheEntryS e1.cache.entries (IntKind.i64.wrap (((laws_markDataS e1.locl k2).1) + 1))).1)).1)).2) ((laws_markRouteS e1.routes ((laws_markSeenNonceS e1.seen ((laws_markPendingInterestS e1.pending ((laws_markCacheEntryS e1.cache.entries (IntKind.i64.wrap (((laws_markDataS e1.locl k2).1) + 1))).1)).1)).1)).2) ((laws_markMeasurementS e1.measurements ((laws_markRouteS e1.routes ((laws_markSeenNonceS e1.seen ((laws_markPendingInterestS e1.pending ((laws_markCacheEntryS e1.cache.entries (IntKind.i64.wrap (((laws_markDataS e1.locl k2).1) + 1))).1)).1)).1)).1)).2) ((laws_markMeasurementS e1.measurements ((laws_markRouteS e1.routes ((laws_markSeenNonceS e1.seen ((laws_markPendingInterestS e1.pending ((laws_markCacheEntryS e1.cache.entries (IntKind.i64.wrap (((laws_markDataS e1.locl k2).1) + 1))).1)).1)).1)).1)).1)) : NodeP) from (And.intro hq1.1.2 (And.intro (And.intro hq1.1.1 hq2.1.2) (And.intro hq3.1.2 (And.intro hq4.1.2 (And.intro hq5.1.2 (And.intro hq6.1.2 hq6.1.1)))))))), (i64_wrap _), (by rw [v5, show (a).length - i = ((a).length - (i + 1)) + 1 by omega]; simp only [laws_markNodeS_L1, e1h, cond_true, cond_false])⟩ (by dsimp only; omega) (.cons rfl (.cons rfl (.cons rfl (.nil)))) .nil (.cons rfl (.nil)) [2] rfl
  · skip
    have h1d := B.df h1
    refine WX.run ttOk rfl ?_
    have hX1 : laws_markNodeS_L1 ((a).length) 0 (a : List NodeP) k = (((a2) : List NodeP), k2) := by rw [v5, show (a).length - i = 0 by omega]; simp only [laws_markNodeS_L1, cond_true, cond_false]
    refine WX.seal 501 2 30 rfl rfl (show (a).length = (a2).length from by omega) rfl rfl ?_
    refine WX.slot 7 (y := .v (.slice pa (a2).length ca)) rfl (fun _ => by show (Value.slice pa ((a).length) ca : Value) = Value.slice pa (a2).length ca; rw [(show (a).length = (a2).length from by omega)]) ?_
    refine WX.slot 0 (y := .v (.slice pa (a2).length ca)) rfl (fun _ => by show (Value.slice pa ((a).length) ca : Value) = Value.slice pa (a2).length ca; rw [(show (a).length = (a2).length from by omega)]) ?_
    have hP1 : laws_markNodeS a k = (k2, a2) := by simp only [laws_markNodeS, hX1, cond_true, cond_false]
    refine WX.ret ttOk rfl ?_
    intro w1 G bs hI hΓ
    rw [hP1]
    exact Post.of [31] () hI hΓ rfl rfl rfl ⟨⟨v4, (okl_mk (by omega) v3 : GoT.ok n (a2 : List NodeP))⟩, (show (a2).length = (a).length from by omega)⟩
theorem f151 (w : World) (n : Nat) (hn : n + 0 ≤ 9) (a : (List Int)) (pa : Option Addr) (ca : Nat) (k : Int) (H : GH) (hH : Le H (hp w)) (hown : Sep H (GoT.oa a (pa, ca))) (hoka : GoT.ok n a) (hokk : GoT.ok n k) :
    Does Tryz.prog 151 #[.slice pa ((a).length) ca, .int .i64 (k)] w H (Post w H (fun _ : Unit => .int .i64 ((laws_markIntS a k).1)) (fun _ => GoT.oa ((laws_markIntS a k).2 : (List Int)) (pa, ca)) ((GoT.ok n ((laws_markIntS a k).1 : Int) ∧ GoT.ok n ((laws_markIntS a k).2 : (List Int))) ∧ ((laws_markIntS a k).2).length = (a).length)) := by
  have hbP := bd_pos n
  have hbB := bd_big (n := n) (by omega)
  refine WX.enterM (tt := tt) (Γ := []) 1 Tryz.func151 rfl (by kernel_rfl) rfl allS_nil hH hown (fun f hf => GoT.oak f hf) rfl ?_
  refine WX.opn (kk := 1) 501 1 2 rfl rfl rfl ?_
  intro xs1 hx1
  refine WX.run ttOk rfl ?_
  have r1 : (a).length ≤ bd n := (okl hoka).1
  refine WX.loop (ι := (List Value) × (List Int) × Int × Nat) ⟨fun | (xsa2, a2, k2, i) => (i ≤ (a).length) ∧ (a2.length = (a).length) ∧ (∀ z_ ∈ a2, GoT.ok n z_) ∧ (-9223372036854775808 ≤ k2 ∧ k2 ≤ 9223372036854775807) ∧ (laws_markIntS_L1 ((a).length) 0 (a : List Int) k = laws_markIntS_L1 ((a).length - i) i a2 k2), fun | (xsa2, a2, k2, i) => (a).length - i, fun | (xsa2, a2, k2, i) => [(0, .v (.slice pa ((a).length) ca)), (1, .v (.int .i64 (k2))), (5, .v (.int .i64 (((i : Nat) : Int))))], fun | (xsa2, a2, k2, i) => [], fun | (xsa2, a2, k2, i) => [(501, ⟨1, pa, (a).length, ca, xsa2⟩)], fun | (xsa2, a2, k2, i) => [(2, MF.ol xsa2 (a2 : List Int))]⟩ (xs1, (a : List Int), k, 0) ⟨(Nat.zero_le _), (by simp), (okl hoka).2, hokk, rfl⟩
    (.cons rfl (.cons rfl (.cons rfl (.nil)))) .nil (.cons rfl (.nil)) [2] rfl ?_
  rintro ⟨xsa2, a2, k2, i⟩ hpre
  have hpre_ : (i ≤ (a).length) ∧ (a2.length = (a).length) ∧ (∀ z_ ∈ a2, GoT.ok n z_) ∧ (-9223372036854775808 ≤ k2 ∧ k2 ≤ 9223372036854775807) ∧ (laws_markIntS_L1 ((a).length) 0 (a : List Int) k = laws_markIntS_L1 ((a).length - i) i a2 k2) := hpre
  clear hpre
  obtain ⟨v1, v2, v3, v4, v5⟩ := hpre_
  refine WX.run ttOk rfl ?_
  refine WX.cases 9 rfl (fun h1 => ?_) (fun h1 => ?_)
  · skip
    have h1d := B.dt h1
    refine WX.run ttOk rfl ?_
    have hr1 : i < (a).length := (by first | assumption | omega)
    refine WX.idxR 501 i ttOk rfl rfl rfl rfl rfl rfl rfl rfl rfl hr1 ?_
    rintro ad1 rfl
    have e1i : i < (a2).length := (by first | assumption | omega)
    obtain ⟨e1, e1h⟩ : ∃ e1, (a2)[i]? = some e1 := ⟨_, List.getElem?_eq_getElem e1i⟩
    have ok1 : GoT.ok n e1 := v3 _ (List.mem_of_getElem? e1h)
    refine WX.opnE (α := Int) (e := e1) 501 2 3 i rfl rfl rfl e1h (fun _ => rfl) (fun _ _ _ => rfl) (fun _ _ _ => rfl) ?_
    rintro A1 B1 ⟨⟩ hA1 hB1
    refine WX.stA 501 ttOk rfl rfl rfl rfl rfl rfl rfl rfl rfl rfl rfl rfl rfl rfl hA1 hr1 rfl rfl rfl rfl (by simp) rfl ?_
    refine WX.run ttOk rfl ?_
    refine WX.see rfl rfl rfl (fun _ hΓ => looks_wrap rfl rfl rfl rfl) ?_
    refine WX.run ttOk rfl ?_
    refine WX.see rfl rfl rfl (fun _ hΓ => looks_arith rfl rfl rfl rfl (by unfold I64; first | omega | (dsimp only; omega))) ?_
    refine WX.run ttOk rfl ?_
    refine WX.turn [3, 4] 5 rfl (fun h hs => cl_elem (α := Int) (e := k2) (x := ()) e1i hs) (gs := [MF.ol (A1 ++ [.int .i64 (k2)] ++ B1) (a2.set i k2)]) rfl ?_
    refine WX.turn [5] 2 rfl (fun _ h => h) rfl ?_
    exact WX.iter ((A1 ++ [.int .i64 (k2)] ++ B1), ((a2.set i k2) : List Int), IntKind.i64.wrap (k2 + 1), i + 1) ⟨(by omega), (by first | assumption | omega | (simp only [List.length_append, List.length_cons, List.length_nil, List.length_set, List.length_map, List.length_take, List.length_drop]; omega) | (simp; omega)), (all_set v3 (show GoT.ok n (k2 : Int) from v4)), (i64_wrap _), (by rw [v5, show (a).length - i = ((a).length - (i + 1)) + 1 by omega]; simp only [laws_markIntS_L1, e1h, cond_true, cond_false])⟩ (by dsimp only; omega) (.cons rfl (.cons rfl (.cons rfl (.nil)))) .nil (.cons rfl (.nil)) [2] rfl
  · skip
    have h1d := B.df h1
    refine WX.run ttOk rfl ?_
    have hX1 : laws_markIntS_L1 ((a).length) 0 (a : List Int) k = (((a2) : List Int), k2) := by rw [v5, show (a).length - i = 0 by omega]; simp only [laws_markIntS_L1, cond_true, cond_false]
    refine WX.seal 501 2 6 rfl rfl (show (a).length = (a2).length from by omega) rfl rfl ?_
    refine WX.slot 7 (y := .v (.slice pa (a2).length ca)) rfl (fun _ => by show (Value.slice pa ((a).length) ca : Value) = Value.slice pa (a2).length ca; rw [(show (a).length = (a2).length from by omega)]) ?_
    refine WX.slot 0 (y := .v (.slice pa (a2).length ca)) rfl (fun _ => by show (Value.slice pa ((a).length) ca : Value) = Value.slice pa (a2).length ca; rw [(show (a).length = (a2).length from by omega)]) ?_
    have hP1 : laws_markIntS a k = (k2, a2) := by simp only [laws_markIntS, hX1, cond_true, cond_false]
    refine WX.ret ttOk rfl ?_
    intro w1 G bs hI hΓ
    rw [hP1]
    exact Post.of [7] () hI hΓ rfl rfl rfl ⟨⟨v4, (okl_mk (by omega) v3 : GoT.ok n (a2 : List Int))⟩, (show (a2).length = (a).length from by omega)⟩
theorem f152 (w : World) (n : Nat) (hn : n + 0 ≤ 9) (a : (List PacketInFlight)) (pa : Option Addr) (ca : Nat) (k : Int) (H : GH) (hH : Le H (hp w)) (hown : Sep H (GoT.oa a (pa, ca))) (hoka : GoT.ok n a) (hokk : GoT.ok n k) :
    Does Tryz.prog 152 #[.slice pa ((a).length) ca, .int .i64 (k)] w H (Post w H (fun _ : Unit => .int .i64 ((laws_markPacketInFlightS a k).1)) (fun _ => GoT.oa ((laws_markPacketInFlightS a k).2 : (List PacketInFlight)) (pa, ca)) ((GoT.ok n ((laws_markPacketInFlightS a k).1 : Int) ∧ GoT.ok n ((laws_markPacketInFlightS a k).2 : (List PacketInFlight))) ∧ ((laws_markPacketInFlightS a k).2).length = (a).length)) := by
  have hbP := bd_pos n
  have hbB := bd_big (n := n) (by omega)
  refine WX.enterM (tt := tt) (Γ := []) 1 Tryz.func152 rfl (by kernel_rfl) rfl allS_nil hH hown (fun f hf => GoT.oak f hf) rfl ?_
  refine WX.opn (kk := 12) 501 1 2 rfl rfl rfl ?_
  intro xs1 hx1
  refine WX.run ttOk rfl ?_
  have r1 : (a).length ≤ bd n := (okl hoka).1
  refine WX.loop (ι := (List Value) × (List PacketInFlight) × Int × Nat) ⟨fun | (xsa2, a2, k2, i) => (i ≤ (a).length) ∧ (a2.length = (a).length) ∧ (∀ z_ ∈ a2, GoT.ok n z_) ∧ (-9223372036854775808 ≤ k2 ∧ k2 ≤ 9223372036854775807) ∧ (laws_markPacketInFlightS_L1 ((a).length) 0 (a : List PacketInFlight) k = laws_markPacketInFlightS_L1 ((a).length - i) i a2 k2), fun | (xsa2, a2, k2, i) => (a).length - i, fun | (xsa2, a2, k2, i) => [(0, .v (.slice pa ((a).length) ca)), (1, .v (.int .i64 (k2))), (5, .v (.int .i64 (((i : Nat) : Int))))], fun | (xsa2, a2, k2, i) => [], fun | (xsa2, a2, k2, i) => [(501, ⟨12, pa, (a).length, ca, xsa2⟩)], fun | (xsa2, a2, k2, i) => [(2, MF.ol xsa2 (a2 : List PacketInFlight))]⟩ (xs1, (a : List PacketInFlight), k, 0) ⟨(Nat.zero_le _), (by simp), (okl hoka).2, hokk, rfl⟩
    (.cons rfl (.cons rfl (.cons rfl (.nil)))) .nil (.cons rfl (.nil)) [2] rfl ?_
  rintro ⟨xsa2, a2, k2, i⟩ hpre
  have hpre_ : (i ≤ (a).length) ∧ (a2.length = (a).length) ∧ (∀ z_ ∈ a2, GoT.ok n z_) ∧ (-9223372036854775808 ≤ k2 ∧ k2 ≤ 9223372036854775807) ∧ (laws_markPacketInFlightS_L1 ((a).length) 0 (a : List PacketInFlight) k = laws_markPacketInFlightS_L1 ((a).length - i) i a2 k2) := hpre
  clear hpre
  obtain ⟨v1, v2, v3, v4, v5⟩ := hpre_
  refine WX.run ttOk rfl ?_
  refine WX.cases 9 rfl (fun h1 => ?_) (fun h1 => ?_)
  · skip
    have h1d := B.dt h1
    refine WX.run ttOk rfl ?_
    have hr1 : i < (a).length := (by first | assumption | omega)
    refine WX.idxR 501 i ttOk rfl rfl rfl rfl rfl rfl rfl rfl rfl hr1 ?_
    rintro ad1 rfl
    refine WX.run ttOk rfl ?_
    have e1i : i < (a2).length := (by first | assumption | omega)
    obtain ⟨e1, e1h⟩ : ∃ e1, (a2)[i]? = some e1 := ⟨_, List.getElem?_eq_getElem e1i⟩
    have ok1 : GoT.ok n e1 := v3 _ (List.mem_of_getElem? e1h)
    refine WX.opnE (α := PacketInFlight) (e := e1) 501 2 3 i rfl rfl rfl e1h (fun _ => rfl) (fun _ _ _ => rfl) (fun _ _ _ => rfl) ?_
    rintro A1 B1 ⟨⟨⟩, ⟨⟩, ⟨⟩, ⟨⟨p1, c1⟩, ⟨⟩, ⟨⟩, ⟨⟩⟩, ⟨⟨p2, c2⟩, ⟨p3, c3⟩, ⟨p4, c4⟩, ⟨⟩, ⟨⟩⟩⟩ hA1 hB1
    refine WX.stA 501 ttOk rfl rfl rfl rfl rfl rfl rfl rfl rfl rfl rfl rfl rfl rfl hA1 hr1 rfl rfl rfl rfl (by simp) rfl ?_
    refine WX.run ttOk rfl ?_
    refine WX.see rfl rfl rfl (fun _ hΓ => looks_wrap rfl rfl rfl rfl) ?_
    refine WX.run ttOk rfl ?_
    have hr2 : i < (a).length := (by first | assumption | omega)
    refine WX.idxR 501 i ttOk rfl rfl rfl rfl rfl rfl rfl rfl rfl hr2 ?_
    rintro ad2 ⟨⟩
    refine WX.run ttOk rfl ?_
    refine WX.stA 501 ttOk rfl rfl rfl rfl rfl rfl rfl rfl rfl rfl rfl rfl rfl rfl hA1 hr2 rfl rfl rfl rfl (by simp) rfl ?_
    refine WX.run ttOk rfl ?_
    refine WX.see rfl rfl rfl (fun _ hΓ => looks_wrap rfl rfl rfl rfl) ?_
    refine WX.run ttOk rfl ?_
    have r2 := tmod_rng (IntKind.i64.wrap ((IntKind.i64.wrap (k2 + 1)) + 1)) (show (0 : Int) < 3 by omega)
    refine WX.see rfl rfl rfl (fun _ hΓ => looks_rem rfl rfl rfl (by decide)) ?_
    refine WX.run ttOk rfl ?_
    have hr3 : i < (a).length := (by first | assumption | omega)
    refine WX.idxR 501 i ttOk rfl rfl rfl rfl rfl rfl rfl rfl rfl hr3 ?_
    rintro ad3 ⟨⟩
    refine WX.run ttOk rfl ?_
    refine WX.stA 501 ttOk rfl rfl rfl rfl rfl rfl rfl rfl rfl rfl rfl rfl rfl rfl hA1 hr3 rfl rfl rfl rfl (by simp) rfl ?_
    refine WX.run ttOk rfl ?_
    refine WX.see rfl rfl rfl (fun _ hΓ => looks_wrap rfl rfl rfl rfl) ?_
    refine WX.run ttOk rfl ?_
    have hr4 : i < (a).length := (by first | assumption | omega)
    refine WX.idxR 501 i ttOk rfl rfl rfl rfl rfl rfl rfl rfl rfl hr4 ?_
    rintro ad4 ⟨⟩
    refine WX.run ttOk rfl ?_
    refine WX.ldA 501 ttOk rfl rfl rfl rfl rfl rfl rfl rfl rfl rfl hA1 hr4 rfl ?_
    refine WX.run ttOk rfl ?_
    refine WX.callM [7] 13 rfl (fun _ _ h => GoT.ow_rd h) (fun _ f hf => GoT.fak f hf) rfl rfl rfl rfl rfl (fun _ => rfl) rfl (fun w G bs H hI hH hs hΓ => f198 w n (by omega) e1.interest.name.parts p1 c1 (IntKind.i64.wrap ((IntKind.i64.wrap ((IntKind.i64.wrap (k2 + 1)) + 1)) + 1)) H hH hs (ok_Name (ok_Interest (ok_PacketInFlight ok1).2.2.2.1).1) (i64_wrap _)) (fun _ => rfl) (fun _ => rfl) ?_
    rintro ⟨⟩ hq1
    have hl1 : ((laws_markStringS e1.interest.name.parts (IntKind.i64.wrap ((IntKind.i64.wrap ((IntKind.i64.wrap (k2 + 1)) + 1)) + 1))).2).length = (e1.interest.name.parts).length := hq1.2
    refine WX.run ttOk rfl ?_
    have hr5 : i < (a).length := (by first | assumption | omega)
    refine WX.idxR 501 i ttOk rfl rfl rfl rfl rfl rfl rfl rfl rfl hr5 ?_
    rintro ad5 ⟨⟩
    refine WX.run ttOk rfl ?_
    refine WX.stA 501 ttOk rfl rfl rfl rfl rfl rfl rfl rfl rfl rfl rfl rfl rfl rfl hA1 hr5 rfl rfl rfl rfl (by simp) rfl ?_
    refine WX.run ttOk rfl ?_
    refine WX.see rfl rfl rfl (fun _ hΓ => looks_wrap rfl rfl rfl rfl) ?_
    refine WX.run ttOk rfl ?_
    have hr6 : i < (a).length := (by first | assumption | omega)
    refine WX.idxR 501 i ttOk rfl rfl rfl rfl rfl rfl rfl rfl rfl hr6 ?_
    rintro ad6 ⟨⟩
    refine WX.run ttOk rfl ?_
    refine WX.stA 501 ttOk rfl rfl rfl rfl rfl rfl rfl rfl rfl rfl rfl rfl rfl rfl hA1 hr6 rfl rfl rfl rfl (by simp) rfl ?_
    refine WX.run ttOk rfl ?_
    refine WX.see rfl rfl rfl (fun _ hΓ => looks_wrap rfl rfl rfl rfl) ?_
    refine WX.run ttOk rfl ?_
    have hr7 : i < (a).length := (by first | assumption | omega)
    refine WX.idxR 501 i ttOk rfl rfl rfl rfl rfl rfl rfl rfl rfl hr7 ?_
    rintro ad7 ⟨⟩
    refine WX.run ttOk rfl ?_
    refine WX.stA 501 ttOk rfl rfl rfl rfl rfl rfl rfl rfl rfl rfl rfl rfl rfl rfl hA1 hr7 rfl rfl rfl rfl (by simp) rfl ?_
    refine WX.run ttOk rfl ?_
    refine WX.see rfl rfl rfl (fun _ hΓ => looks_wrap rfl rfl rfl rfl) ?_
    refine WX.run ttOk rfl ?_
    have hr8 : i < (a).length := (by first | assumption | omega)
    refine WX.idxR 501 i ttOk rfl rfl rfl rfl rfl rfl rfl rfl rfl hr8 ?_
    rintro ad8 ⟨⟩
    refine WX.run ttOk rfl ?_
    refine WX.ldA 501 ttOk rfl rfl rfl rfl rfl rfl rfl rfl rfl rfl hA1 hr8 rfl ?_
    refine WX.run ttOk rfl ?_
    refine WX.callM [8] 15 rfl (fun _ _ h => GoT.ow_rd h) (fun _ f hf => GoT.fak f hf) rfl rfl rfl rfl rfl (fun _ => rfl) rfl (fun w G bs H hI hH hs hΓ => f198 w n (by omega) e1.data.name.parts p2 c2 (IntKind.i64.wrap ((IntKind.i64.wrap ((IntKind.i64.wrap (((laws_markStringS e1.interest.name.parts (IntKind.i64.wrap ((IntKind.i64.wrap ((IntKind.i64.wrap (k2 + 1)) + 1)) + 1))).1) + 1)) + 1)) + 1)) H hH hs (ok_Name (ok_DataP (ok_PacketInFlight ok1).2.2.2.2).1) (i64_wrap _)) (fun _ => rfl) (fun _ => rfl) ?_
    rintro ⟨⟩ hq2
    have hl2 : ((laws_markStringS e1.data.name.parts (IntKind.i64.wrap ((IntKind.i64.wrap ((IntKind.i64.wrap (((laws_markStringS e1.interest.name.parts (IntKind.i64.wrap ((IntKind.i64.wrap ((IntKind.i64.wrap (k2 + 1)) + 1)) + 1))).1) + 1)) + 1)) + 1))).2).length = (e1.data.name.parts).length := hq2.2
    refine WX.run ttOk rfl ?_
    have hr9 : i < (a).length := (by first | assumption | omega)
    refine WX.idxR 501 i ttOk rfl rfl rfl rfl rfl rfl rfl rfl rfl hr9 ?_
    rintro ad9 ⟨⟩
    refine WX.run ttOk rfl ?_
    refine WX.ldA 501 ttOk rfl rfl rfl rfl rfl rfl rfl rfl rfl rfl hA1 hr9 rfl ?_
    refine WX.run ttOk rfl ?_
    refine WX.callM [9] 17 rfl (fun _ _ h => GoT.ow_rd h) (fun _ f hf => GoT.fak f hf) rfl rfl rfl rfl rfl (fun _ => rfl) rfl (fun w G bs H hI hH hs hΓ => f25 w n (by omega) e1.data.content p3 c3 ((laws_markStringS e1.data.name.parts (IntKind.i64.wrap ((IntKind.i64.wrap ((IntKind.i64.wrap (((laws_markStringS e1.interest.name.parts (IntKind.i64.wrap ((IntKind.i64.wrap ((IntKind.i64.wrap (k2 + 1)) + 1)) + 1))).1) + 1)) + 1)) + 1))).1) H hH hs ((ok_DataP (ok_PacketInFlight ok1).2.2.2.2).2.1) hq2.1.1) (fun _ => rfl) (fun _ => rfl) ?_
    rintro ⟨⟩ hq3
    have hl3 : ((laws_markByteS e1.data.content ((laws_markStringS e1.data.name.parts (IntKind.i64.wrap ((IntKind.i64.wrap ((IntKind.i64.wrap (((laws_markStringS e1.interest.name.parts (IntKind.i64.wrap ((IntKind.i64.wrap ((IntKind.i64.wrap (k2 + 1)) + 1)) + 1))).1) + 1)) + 1)) + 1))).1)).2).length = (e1.data.content).length := hq3.2
    refine WX.run ttOk rfl ?_
    have hr10 : i < (a).length := (by first | assumption | omega)
    refine WX.idxR 501 i ttOk rfl rfl rfl rfl rfl rfl rfl rfl rfl hr10 ?_
    rintro ad10 ⟨⟩
    refine WX.run ttOk rfl ?_
    refine WX.ldA 501 ttOk rfl rfl rfl rfl rfl rfl rfl rfl rfl rfl hA1 hr10 rfl ?_
    refine WX.run ttOk rfl ?_
    refine WX.callM [10] 19 rfl (fun _ _ h => GoT.ow_rd h) (fun _ f hf => GoT.fak f hf) rfl rfl rfl rfl rfl (fun _ => rfl) rfl (fun w G bs H hI hH hs hΓ => f198 w n (by omega) e1.data.keyName.parts p4 c4 ((laws_markByteS e1.data.content ((laws_markStringS e1.data.name.parts (IntKind.i64.wrap ((IntKind.i64.wrap ((IntKind.i64.wrap (((laws_markStringS e1.interest.name.parts (IntKind.i64.wrap ((IntKind.i64.wrap ((IntKind.i64.wrap (k2 + 1)) + 1)) + 1))).1) + 1)) + 1)) + 1))).1)).1) H hH hs (ok_Name (ok_DataP (ok_PacketInFlight ok1).2.2.2.2).2.2.1) hq3.1.1) (fun _ => rfl) (fun _ => rfl) ?_
    rintro ⟨⟩ hq4
    have hl4 : ((laws_markStringS e1.data.keyName.parts ((laws_markByteS e1.data.content ((laws_markStringS e1.data.name.parts (IntKind.i64.wrap ((IntKind.i64.wrap ((IntKind.i64.wrap (((laws_markStringS e1.interest.name.parts (IntKind.i64.wrap ((IntKind.i64.wrap ((IntKind.i64.wrap (k2 + 1)) + 1)) + 1))).1) + 1)) + 1)) + 1))).1)).1)).2).length = (e1.data.keyName.parts).length := hq4.2
    refine WX.run ttOk rfl ?_
    have hr11 : i < (a).length := (by first | assumption | omega)
    refine WX.idxR 501 i ttOk rfl rfl rfl rfl rfl rfl rfl rfl rfl hr11 ?_
    rintro ad11 ⟨⟩
    refine WX.run ttOk rfl ?_
    refine WX.stA 501 ttOk rfl rfl rfl rfl rfl rfl rfl rfl rfl rfl rfl rfl rfl rfl hA1 hr11 rfl rfl rfl rfl (by simp) rfl ?_
    refine WX.run ttOk rfl ?_
    refine WX.see rfl rfl rfl (fun _ hΓ => looks_wrap rfl rfl rfl rfl) ?_
    refine WX.run ttOk rfl ?_
    have hr12 : i < (a).length := (by first | assumption | omega)
    refine WX.idxR 501 i ttOk rfl rfl rfl rfl rfl rfl rfl rfl rfl hr12 ?_
    rintro ad12 ⟨⟩
    refine WX.run ttOk rfl ?_
    refine WX.stA 501 ttOk rfl rfl rfl rfl rfl rfl rfl rfl rfl rfl rfl rfl rfl rfl hA1 hr12 rfl rfl rfl rfl (by simp) rfl ?_
    refine WX.run ttOk rfl ?_
    refine WX.see rfl rfl rfl (fun _ hΓ => looks_wrap rfl rfl rfl rfl) ?_
    refine WX.run ttOk rfl ?_
    refine WX.see rfl rfl rfl (fun _ hΓ => looks_arith rfl rfl rfl rfl (by unfold I64; first | omega | (dsimp only; omega))) ?_
    refine WX.run ttOk rfl ?_
    refine WX.turn [14, 16, 18, 20, 11, 12] 21 rfl (fun h hs => by have z_ : Sep h [MF.ol (A1 ++ [.int .i64 (k2), .int .i64 (IntKind.i64.wrap (k2 + 1)), .bool (Int.tmod (IntKind.i64.wrap ((IntKind.i64.wrap (k2 + 1)) + 1)) 3 == 0), .slice p1 (((laws_markStringS e1.interest.name.parts (IntKind.i64.wrap ((IntKind.i64.wrap ((IntKind.i64.wrap (k2 + 1)) + 1)) + 1))).2).length) c1, .int .i64 ((laws_markStringS e1.interest.name.parts (IntKind.i64.wrap ((IntKind.i64.wrap ((IntKind.i64.wrap (k2 + 1)) + 1)) + 1))).1), .int .i64 (IntKind.i64.wrap (((laws_markStringS e1.interest.name.parts (IntKind.i64.wrap ((IntKind.i64.wrap ((IntKind.i64.wrap (k2 + 1)) + 1)) + 1))).1) + 1)), .int .i64 (IntKind.i64.wrap ((IntKind.i64.wrap (((laws_markStringS e1.interest.name.parts (IntKind.i64.wrap ((IntKind.i64.wrap ((IntKind.i64.wrap (k2 + 1)) + 1)) + 1))).1) + 1)) + 1)), .slice p2 (((laws_markStringS e1.data.name.parts (IntKind.i64.wrap ((IntKind.i64.wrap ((IntKind.i64.wrap (((laws_markStringS e1.interest.name.parts (IntKind.i64.wrap ((IntKind.i64.wrap ((IntKind.i64.wrap (k2 + 1)) + 1)) + 1))).1) + 1)) + 1)) + 1))).2).length) c2, .slice p3 (((laws_markByteS e1.data.content ((laws_markStringS e1.data.name.parts (IntKind.i64.wrap ((IntKind.i64.wrap ((IntKind.i64.wrap (((laws_markStringS e1.interest.name.parts (IntKind.i64.wrap ((IntKind.i64.wrap ((IntKind.i64.wrap (k2 + 1)) + 1)) + 1))).1) + 1)) + 1)) + 1))).1)).2).length) c3, .slice p4 (((laws_markStringS e1.data.keyName.parts ((laws_markByteS e1.data.content ((laws_markStringS e1.data.name.parts (IntKind.i64.wrap ((IntKind.i64.wrap ((IntKind.i64.wrap (((laws_markStringS e1.interest.name.parts (IntKind.i64.wrap ((IntKind.i64.wrap ((IntKind.i64.wrap (k2 + 1)) + 1)) + 1))).1) + 1)) + 1)) + 1))).1)).1)).2).length) c4, .int .i64 ((laws_markStringS e1.data.keyName.parts ((laws_markByteS e1.data.content ((laws_markStringS e1.data.name.parts (IntKind.i64.wrap ((IntKind.i64.wrap ((IntKind.i64.wrap (((laws_markStringS e1.interest.name.parts (IntKind.i64.wrap ((IntKind.i64.wrap ((IntKind.i64.wrap (k2 + 1)) + 1)) + 1))).1) + 1)) + 1)) + 1))).1)).1)).1), .int .i64 (IntKind.i64.wrap (((laws_markStringS e1.data.keyName.parts ((laws_markByteS e1.data.content ((laws_markStringS e1.data.name.parts (IntKind.i64.wrap ((IntKind.i64.wrap ((IntKind.i64.wrap (((laws_markStringS e1.interest.name.parts (IntKind.i64.wrap ((IntKind.i64.wrap ((IntKind.i64.wrap (k2 + 1)) + 1)) + 1))).1) + 1)) + 1)) + 1))).1)).1)).1) + 1))] ++ B1) (a2.set i (PacketInFlight.mk k2 (IntKind.i64.wrap (k2 + 1)) (Int.tmod (IntKind.i64.wrap ((IntKind.i64.wrap (k2 + 1)) + 1)) 3 == 0) (Interest.mk (Name.mk ((laws_markStringS e1.interest.name.parts (IntKind.i64.wrap ((IntKind.i64.wrap ((IntKind.i64.wrap (k2 + 1)) + 1)) + 1))).2)) ((laws_markStringS e1.interest.name.parts (IntKind.i64.wrap ((IntKind.i64.wrap ((IntKind.i64.wrap (k2 + 1)) + 1)) + 1))).1) (IntKind.i64.wrap (((laws_markStringS e1.interest.name.parts (IntKind.i64.wrap ((IntKind.i64.wrap ((IntKind.i64.wrap (k2 + 1)) + 1)) + 1))).1) + 1)) (IntKind.i64.wrap ((IntKind.i64.wrap (((laws_markStringS e1.interest.name.parts (IntKind.i64.wrap ((IntKind.i64.wrap ((IntKind.i64.wrap (k2 + 1)) + 1)) + 1))).1) + 1)) + 1))) (DataP.mk (Name.mk ((laws_markStringS e1.data.name.parts (IntKind.i64.wrap ((IntKind.i64.wrap ((IntKind.i64.wrap (((laws_markStringS e1.interest.name.parts (IntKind.i64.wrap ((IntKind.i64.wrap ((IntKind.i64.wrap (k2 + 1)) + 1)) + 1))).1) + 1)) + 1)) + 1))).2)) ((laws_markByteS e1.data.content ((laws_markStringS e1.data.name.parts (IntKind.i64.wrap ((IntKind.i64.wrap ((IntKind.i64.wrap (((laws_markStringS e1.interest.name.parts (IntKind.i64.wrap ((IntKind.i64.wrap ((IntKind.i64.wrap (k2 + 1)) + 1)) + 1))).1) + 1)) + 1)) + 1))).1)).2) (Name.mk ((laws_markStringS e1.data.keyName.parts ((laws_markByteS e1.data.content ((laws_markStringS e1.data.name.parts (IntKind.i64.wrap ((IntKind.i64.wrap ((IntKind.i64.wrap (((laws_markStringS e1.interest.name.parts (IntKind.i64.wrap ((IntKind.i64.wrap ((IntKind.i64.wrap (k2 + 1)) + 1)) + 1))).1) + 1)) + 1)) + 1))).1)).1)).2)) ((laws_markStringS e1.data.keyName.parts ((laws_markByteS e1.data.content ((laws_markStringS e1.data.name.parts (IntKind.i64.wrap ((IntKind.i64.wrap ((IntKind.i64.wrap (((laws_markStringS e1.interest.name.parts (IntKind.i64.wrap ((IntKind.i64.wrap ((IntKind.i64.wrap (k2 + 1)) + 1)) + 1))).1) + 1)) + 1)) + 1))).1)).1)).1) (IntKind.i64.wrap (((laws_markStringS e1.data.keyName.parts ((laws_markByteS e1.data.content ((laws_markStringS e1.data.name.parts (IntKind.i64.wrap ((IntKind.i64.wrap ((IntKind.i64.wrap (((laws_markStringS e1.interest.name.parts (IntKind.i64.wrap ((IntKind.i64.wrap ((IntKind.i64.wrap (k2 + 1)) + 1)) + 1))).1) + 1)) + 1)) + 1))).1)).1)).1) + 1)))))] := cl_elem (α := PacketInFlight) (e := (PacketInFlight.mk k2 (IntKind.i64.wrap (k2 + 1)) (Int.tmod (IntKind.i64.wrap ((IntKind.i64.wrap (k2 + 1)) + 1)) 3 == 0) (Interest.mk (Name.mk ((laws_markStringS e1.interest.name.parts (IntKind.i64.wrap ((IntKind.i64.wrap ((IntKind.i64.wrap (k2 + 1)) + 1)) + 1))).2)) ((laws_markStringS e1.interest.name.parts (IntKind.i64.wrap ((IntKind.i64.wrap ((IntKind.i64.wrap (k2 + 1)) + 1)) + 1))).1) (IntKind.i64.wrap (((laws_markStringS e1.interest.name.parts (IntKind.i64.wrap ((IntKind.i64.wrap ((IntKind.i64.wrap (k2 + 1)) + 1)) + 1))).1) + 1)) (IntKind.i64.wrap ((IntKind.i64.wrap (((laws_markStringS e1.interest.name.parts (IntKind.i64.wrap ((IntKind.i64.wrap ((IntKind.i64.wrap (k2 + 1)) + 1)) + 1))).1) + 1)) + 1))) (DataP.mk (Name.mk ((laws_markStringS e1.data.name.parts (IntKind.i64.wrap ((IntKind.i64.wrap ((IntKind.i64.wrap (((laws_markStringS e1.interest.name.parts (IntKind.i64.wrap ((IntKind.i64.wrap ((IntKind.i64.wrap (k2 + 1)) + 1)) + 1))).1) + 1)) + 1)) + 1))).2)) ((laws_markByteS e1.data.content ((laws_markStringS e1.data.name.parts (IntKind.i64.wrap ((IntKind.i64.wrap ((IntKind.i64.wrap (((laws_markStringS e1.interest.name.parts (IntKind.i64.wrap ((IntKind.i64.wrap ((IntKind.i64.wrap (k2 + 1)) + 1)) + 1))).1) + 1)) + 1)) + 1))).1)).2) (Name.mk ((laws_markStringS e1.data.keyName.parts ((laws_markByteS e1.data.content ((laws_markStringS e1.data.name.parts (IntKind.i64.wrap ((IntKind.i64.wrap ((IntKind.i64.wrap (((laws_markStringS e1.interest.name.parts (IntKind.i64.wrap ((IntKind.i64.wrap ((IntKind.i64.wrap (k2 + 1)) + 1)) + 1))).1) + 1)) + 1)) + 1))).1)).1)).2)) ((laws_markStringS e1.data.keyName.parts ((laws_markByteS e1.data.content ((laws_markStringS e1.data.name.parts (IntKind.i64.wrap ((IntKind.i64.wrap ((IntKind.i64.wrap (((laws_markStringS e1.interest.name.parts (IntKind.i64.wrap ((IntKind.i64.wrap ((IntKind.i64.wrap (k2 + 1)) + 1)) + 1))).1) + 1)) + 1)) + 1))).1)).1)).1) (IntKind.i64.wrap (((laws_markStringS e1.data.keyName.parts ((laws_markByteS e1.data.content ((laws_markStringS e1.data.name.parts (IntKind.i64.wrap ((IntKind.i64.wrap ((IntKind.i64.wrap (((laws_markStringS e1.interest.name.parts (IntKind.i64.wrap ((IntKind.i64.wrap ((IntKind.i64.wrap (k2 + 1)) + 1)) + 1))).1) + 1)) + 1)) + 1))).1)).1)).1) + 1))))) (x := ((), (), (), ((p1, c1), (), (), ()), ((p2, c2), (p3, c3), (p4, c4), (), ()))) e1i hs; rw [hl1, hl2, hl3, hl4] at z_; exact z_) (gs := [MF.ol (A1 ++ [.int .i64 (k2), .int .i64 (IntKind.i64.wrap (k2 + 1)), .bool (Int.tmod (IntKind.i64.wrap ((IntKind.i64.wrap (k2 + 1)) + 1)) 3 == 0), .slice p1 ((e1.interest.name.parts).length) c1, .int .i64 ((laws_markStringS e1.interest.name.parts (IntKind.i64.wrap ((IntKind.i64.wrap ((IntKind.i64.wrap (k2 + 1)) + 1)) + 1))).1), .int .i64 (IntKind.i64.wrap (((laws_markStringS e1.interest.name.parts (IntKind.i64.wrap ((IntKind.i64.wrap ((IntKind.i64.wrap (k2 + 1)) + 1)) + 1))).1) + 1)), .int .i64 (IntKind.i64.wrap ((IntKind.i64.wrap (((laws_markStringS e1.interest.name.parts (IntKind.i64.wrap ((IntKind.i64.wrap ((IntKind.i64.wrap (k2 + 1)) + 1)) + 1))).1) + 1)) + 1)), .slice p2 ((e1.data.name.parts).length) c2, .slice p3 ((e1.data.content).length) c3, .slice p4 ((e1.data.keyName.parts).length) c4, .int .i64 ((laws_markStringS e1.data.keyName.parts ((laws_markByteS e1.data.content ((laws_markStringS e1.data.name.parts (IntKind.i64.wrap ((IntKind.i64.wrap ((IntKind.i64.wrap (((laws_markStringS e1.interest.name.parts (IntKind.i64.wrap ((IntKind.i64.wrap ((IntKind.i64.wrap (k2 + 1)) + 1)) + 1))).1) + 1)) + 1)) + 1))).1)).1)).1), .int .i64 (IntKind.i64.wrap (((laws_markStringS e1.data.keyName.parts ((laws_markByteS e1.data.content ((laws_markStringS e1.data.name.parts (IntKind.i64.wrap ((IntKind.i64.wrap ((IntKind.i64.wrap (((laws_markStringS e1.interest.name.parts (IntKind.i64.wrap ((IntKind.i64.wrap ((IntKind.i64.wrap (k2 + 1)) + 1)) + 1))).1) + 1)) + 1)) + 1))).1)).1)).1) + 1))] ++ B1) (a2.set i (PacketInFlight.mk k2 (IntKind.i64.wrap (k2 + 1)) (Int.tmod (IntKind.i64.wrap ((IntKind.i64.wrap (k2 + 1)) + 1)) 3 == 0) (Interest.mk (Name.mk ((laws_markStringS e1.interest.name.parts (IntKind.i64.wrap ((IntKind.i64.wrap ((IntKind.i64.wrap (k2 + 1)) + 1)) + 1))).2)) ((laws_markStringS e1.interest.name.parts (IntKind.i64.wrap ((IntKind.i64.wrap ((IntKind.i64.wrap (k2 + 1)) + 1)) + 1))).1) (IntKind.i64.wrap (((laws_markStringS e1.interest.name.parts (IntKind.i64.wrap ((IntKind.i64.wrap ((IntKind.i64.wrap (k2 + 1)) + 1)) + 1))).1) + 1)) (IntKind.i64.wrap ((IntKind.i64.wrap (((laws_markStringS e1.interest.name.parts (IntKind.i64.wrap ((IntKind.i64.wrap ((IntKind.i64.wrap (k2 + 1)) + 1)) + 1))).1) + 1)) + 1))) (DataP.mk (Name.mk ((laws_markStringS e1.data.name.parts (IntKind.i64.wrap ((IntKind.i64.wrap ((IntKind.i64.wrap (((laws_markStringS e1.interest.name.parts (IntKind.i64.wrap ((IntKind.i64.wrap ((IntKind.i64.wrap (k2 + 1)) + 1)) + 1))).1) + 1)) + 1)) + 1))).2)) ((laws_markByteS e1.data.content ((laws_markStringS e1.data.name.parts (IntKind.i64.wrap ((IntKind.i64.wrap ((IntKind.i64.wrap (((laws_markStringS e1.interest.name.parts (IntKind.i64.wrap ((IntKind.i64.wrap ((IntKind.i64.wrap (k2 + 1)) + 1)) + 1))).1) + 1)) + 1)) + 1))).1)).2) (Name.mk ((laws_markStringS e1.data.keyName.parts ((laws_markByteS e1.data.content ((laws_markStringS e1.data.name.parts (IntKind.i64.wrap ((IntKind.i64.wrap ((IntKind.i64.wrap (((laws_markStringS e1.interest.name.parts (IntKind.i64.wrap ((IntKind.i64.wrap ((IntKind.i64.wrap (k2 + 1)) + 1)) + 1))).1) + 1)) + 1)) + 1))).1)).1)).2)) ((laws_markStringS e1.data.keyName.parts ((laws_markByteS e1.data.content ((laws_markStringS e1.data.name.parts (IntKind.i64.wrap ((IntKind.i64.wrap ((IntKind.i64.wrap (((laws_markStringS e1.interest.name.parts (IntKind.i64.wrap ((IntKind.i64.wrap ((IntKind.i64.wrap (k2 + 1)) + 1)) + 1))).1) + 1)) + 1)) + 1))).1)).1)).1) (IntKind.i64.wrap (((laws_markStringS e1.data.keyName.parts ((laws_markByteS e1.data.content ((laws_markStringS e1.data.name.parts (IntKind.i64.wrap ((IntKind.i64.wrap ((IntKind.i64.wrap (((laws_markStringS e1.interest.name.parts (IntKind.i64.wrap ((IntKind.i64.wrap ((IntKind.i64.wrap (k2 + 1)) + 1)) + 1))).1) + 1)) + 1)) + 1))).1)).1)).1) + 1)))))]) rfl ?_
    refine WX.turn [21] 2 rfl (fun _ h => h) rfl ?_
    exact WX.iter ((A1 ++ [.int .i64 (k2), .int .i64 (IntKind.i64.wrap (k2 + 1)), .bool (Int.tmod (IntKind.i64.wrap ((IntKind.i64.wrap (k2 + 1)) + 1)) 3 == 0), .slice p1 ((e1.interest.name.parts).length) c1, .int .i64 ((laws_markStringS e1.interest.name.parts (IntKind.i64.wrap ((IntKind.i64.wrap ((IntKind.i64.wrap (k2 + 1)) + 1)) + 1))).1), .int .i64 (IntKind.i64.wrap (((laws_markStringS e1.interest.name.parts (IntKind.i64.wrap ((IntKind.i64.wrap ((IntKind.i64.wrap (k2 + 1)) + 1)) + 1))).1) + 1)), .int .i64 (IntKind.i64.wrap ((IntKind.i64.wrap (((laws_markStringS e1.interest.name.parts (IntKind.i64.wrap ((IntKind.i64.wrap ((IntKind.i64.wrap (k2 + 1)) + 1)) + 1))).1) + 1)) + 1)), .slice p2 ((e1.data.name.parts).length) c2, .slice p3 ((e1.data.content).length) c3, .slice p4 ((e1.data.keyName.parts).length) c4, .int .i64 ((laws_markStringS e1.data.keyName.parts ((laws_markByteS e1.data.content ((laws_markStringS e1.data.name.parts (IntKind.i64.wrap ((IntKind.i64.wrap ((IntKind.i64.wrap (((laws_markStringS e1.interest.name.parts (IntKind.i64.wrap ((IntKind.i64.wrap ((IntKind.i64.wrap (k2 + 1)) + 1)) + 1))).1) + 1)) + 1)) + 1))).1)).1)).1), .int .i64 (IntKind.i64.wrap (((laws_markStringS e1.data.keyName.parts ((laws_markByteS e1.data.content ((laws_markStringS e1.data.name.parts (IntKind.i64.wrap ((IntKind.i64.wrap ((IntKind.i64.wrap (((laws_markStringS e1.interest.name.parts (IntKind.i64.wrap ((IntKind.i64.wrap ((IntKind.i64.wrap (k2 + 1)) + 1)) + 1))).1) + 1)) + 1)) + 1))).1)).1)).1) + 1))] ++ B1), ((a2.set i (PacketInFlight.mk k2 (IntKind.i64.wrap (k2 + 1)) (Int.tmod (IntKind.i64.wrap ((IntKind.i64.wrap (k2 + 1)) + 1)) 3 == 0) (Interest.mk (Name.mk ((laws_markStringS e1.interest.name.parts (IntKind.i64.wrap ((IntKind.i64.wrap ((IntKind.i64.wrap (k2 + 1)) + 1)) + 1))).2)) ((laws_markStringS e1.interest.name.parts (IntKind.i64.wrap ((IntKind.i64.wrap ((IntKind.i64.wrap (k2 + 1)) + 1)) + 1))).1) (IntKind.i64.wrap (((laws_markStringS e1.interest.name.parts (IntKind.i64.wrap ((IntKind.i64.wrap ((IntKind.i64.wrap (k2 + 1)) + 1)) + 1))).1) + 1)) (IntKind.i64.wrap ((IntKind.i64.wrap (((laws_markStringS e1.interest.name.parts (IntKind.i64.wrap ((IntKind.i64.wrap ((IntKind.i64.wrap (k2 + 1)) + 1)) + 1))).1) + 1)) + 1))) (DataP.mk (Name.mk ((laws_markStringS e1.data.name.parts (IntKind.i64.wrap ((IntKind.i64.wrap ((IntKind.i64.wrap (((laws_markStringS e1.interest.name.parts (IntKind.i64.wrap ((IntKind.i64.wrap ((IntKind.i64.wrap (k2 + 1)) + 1)) + 1))).1) + 1)) + 1)) + 1))).2)) ((laws_markByteS e1.data.content ((laws_markStringS e1.data.name.parts (IntKind.i64.wrap ((IntKind.i64.wrap ((IntKind.i64.wrap (((laws_markStringS e1.interest.name.parts (IntKind.i64.wrap ((IntKind.i64.wrap ((IntKind.i64.wrap (k2 + 1)) + 1)) + 1))).1) + 1)) + 1)) + 1))).1)).2) (Name.mk ((laws_markStringS e1.data.keyName.parts ((laws_markByteS e1.data.content ((laws_markStringS e1.data.name.parts (IntKind.i64.wrap ((IntKind.i64.wrap ((IntKind.i64.wrap (((laws_markStringS e1.interest.name.parts (IntKind.i64.wrap ((IntKind.i64.wrap ((IntKind.i64.wrap (k2 + 1)) + 1)) + 1))).1) + 1)) + 1)) + 1))).1)).1)).2)) ((laws_markStringS e1.data.keyName.parts ((laws_markByteS e1.data.content ((laws_markStringS e1.data.name.parts (IntKind.i64.wrap ((IntKind.i64.wrap ((IntKind.i64.wrap (((laws_markStringS e1.interest.name.parts (IntKind.i64.wrap ((IntKind.i64.wrap ((IntKind.i64.wrap (k2 + 1)) + 1)) + 1))).1) + 1)) + 1)) + 1))).1)).1)).1) (IntKind.i64.wrap (((laws_markStringS e1.data.keyName.parts ((laws_markByteS e1.data.content ((laws_markStringS e1.data.name.parts (IntKind.i64.wrap ((IntKind.i64.wrap ((IntKind.i64.wrap (((laws_markStringS e1.interest.name.parts (IntKind.i64.wrap ((IntKind.i64.wrap ((IntKind.i64.wrap (k2 + 1)) + 1)) + 1))).1) + 1)) + 1)) + 1))).1)).1)).1) + 1))))) : List PacketInFlight), IntKind.i64.wrap ((IntKind.i64.wrap (((laws_markStringS e1.data.keyName.parts ((laws_markByteS e1.data.content ((laws_markStringS e1.data.name.parts (IntKind.i64.wrap ((IntKind.i64.wrap ((IntKind.i64.wrap (((laws_markStringS e1.interest.name.parts (IntKind.i64.wrap ((IntKind.i64.wrap ((IntKind.i64.wrap (k2 + 1)) + 1)) + 1))).1) + 1)) + 1)) + 1))).1)).1)).1) + 1)) + 1), i + 1) ⟨(by omega), (by first | assumption | omega | (simp only [List.length_append, List.length_cons, List.length_nil, List.length_set, List.length_map, List.length_take, List.length_drop]; omega) | (simp; omega)), (all_set v3 (show GoT.ok n ((PacketInFlight.mk k2 (IntKind.i64.wrap (k2 + 1)) (Int.tmod (IntKind.i64.wrap ((IntKind.i64.wrap (k2 + 1)) + 1)) 3 == 0) (Interest.mk (Name.mk ((laws_markStringS e1.interest.name.parts (IntKind.i64.wrap ((IntKind.i64.wrap ((IntKind.i64.wrap (k2 + 1)) + 1)) + 1))).2)) ((laws_markStringS e1.interest.name.parts (IntKind.i64.wrap ((IntKind.i64.wrap ((IntKind.i64.wrap (k2 + 1)) + 1)) + 1))).1) (IntKind.i64.wrap (((laws_markStringS e1.interest.name.parts (IntKind.i64.wrap ((IntKind.i64.wrap ((IntKind.i64.wrap (k2 + 1)) + 1)) + 1))).1) + 1)) (IntKind.i64.wrap ((IntKind.i64.wrap (((laws_markStringS e1.interest.name.parts (IntKind.i64.wrap ((IntKind.i64.wrap ((IntKind.i64.wrap (k2 + 1)) + 1)) + 1))).1) + 1)) + 1))) (DataP.mk (Name.mk ((laws_markStringS e1.data.name.parts (IntKind.i64.wrap ((IntKind.i64.wrap ((IntKind.i64.wrap (((laws_markStringS e1.interest.name.parts (IntKind.i64.wrap ((IntKind.i64.wrap ((IntKind.i64.wrap (k2 + 1)) + 1)) + 1))).1) + 1)) + 1)) + 1))).2)) ((laws_markByteS e1.data.content ((laws_markStringS e1.data.name.parts (IntKind.i64.wrap ((IntKind.i64.wrap ((IntKind.i64.wrap (((laws_markStringS e1.interest.name.parts (IntKind.i64.wrap ((IntKind.i64.wrap ((IntKind.i64.wrap (k2 + 1)) + 1)) + 1))).1) + 1)) + 1)) + 1))).1)).2) (Name.mk ((laws_markStringS e1.data.keyName.parts ((laws_markByteS e1.data.content ((laws_markStringS e1.data.name.parts (IntKind.i64.wrap ((IntKind.i64.wrap ((IntKind.i64.wrap (((laws_markStringS e1.interest.name.parts (IntKind.i64.wrap ((IntKind.i64.wrap ((IntKind.i64.wrap (k2 + 1)) + 1)) + 1))).1) + 1)) + 1)) + 1))).1)).1)).2)) ((laws_markStringS e1.data.keyName.parts ((laws_markByteS e1.data.content ((laws_markStringS e1.data.name.parts (IntKind.i64.wrap ((IntKind.i64.wrap ((IntKind.i64.wrap (((laws_markStringS e1.interest.name.parts (IntKind.i64.wrap ((IntKind.i64.wrap ((IntKind.i64.wrap (k2 + 1)) + 1)) + 1))).1) + 1)) + 1)) + 1))).1)).1)).1) (IntKind.i64.wrap (((laws_markStringS e1.data.keyName.parts ((laws_markByteS e1.data.content ((laws_markStringS e1.data.name.parts (IntKind.i64.wrap ((IntKind.i64.wrap ((IntKind.i64.wrap (((laws_markStringS e1.interest.name.parts (IntKind.i64.wrap ((IntKind.i64.wrap ((IntKind.i64.wrap (k2 + 1)) + 1)) + 1))).1) + 1)) + 1)) + 1))).1)).1)).1) + 1)))) : PacketInFlight) from (And.intro v4 (And.intro (i64_wrap _) (And.intro trivial (And.intro (And.intro hq1.1.2 (And.intro hq1.1.1 (And.intro (i64_wrap _) (i64_wrap _)))) (And.intro hq2.1.2 (And.intro hq3.1.2 (And.intro hq4.1.2 (And.intro hq4.1.1 (i64_wrap _))))))))))), (i64_wrap _), (by rw [v5, show (a).length - i = ((a).length - (i + 1)) + 1 by omega]; simp only [laws_markPacketInFlightS_L1, e1h, cond_true, cond_false])⟩ (by dsimp only; omega) (.cons rfl (.cons rfl (.cons rfl (.nil)))) .nil (.cons rfl (.nil)) [2] rfl
  · skip
    have h1d := B.df h1
    refine WX.run ttOk rfl ?_
    have hX1 : laws_markPacketInFlightS_L1 ((a).length) 0 (a : List PacketInFlight) k = (((a2) : List PacketInFlight), k2) := by rw [v5, show (a).length - i = 0 by omega]; simp only [laws_markPacketInFlightS_L1, cond_true, cond_false]
    refine WX.seal 501 2 22 rfl rfl (show (a).length = (a2).length from by omega) rfl rfl ?_
    refine WX.slot 7 (y := .v (.slice pa (a2).length ca)) rfl (fun _ => by show (Value.slice pa ((a).length) ca : Value) = Value.slice pa (a2).length ca; rw [(show (a).length = (a2).length from by omega)]) ?_
    refine WX.slot 0 (y := .v (.slice pa (a2).length ca)) rfl (fun _ => by show (Value.slice pa ((a).length) ca : Value) = Value.slice pa (a2).length ca; rw [(show (a).length = (a2).length from by omega)]) ?_
    have hP1 : laws_markPacketInFlightS a k = (k2, a2) := by simp only [laws_markPacketInFlightS, hX1, cond_true, cond_false]
    refine WX.ret ttOk rfl ?_
    intro w1 G bs hI hΓ
    rw [hP1]
    exact Post.of [23] () hI hΓ rfl rfl rfl ⟨⟨v4, (okl_mk (by omega) v3 : GoT.ok n (a2 : List PacketInFlight))⟩, (show (a2).length = (a).length from by omega)⟩
end Go.Proofs.YtfffongneoegbaaGreat
