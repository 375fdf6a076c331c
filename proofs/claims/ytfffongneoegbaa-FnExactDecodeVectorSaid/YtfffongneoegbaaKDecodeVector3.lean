/-
  What the proof of one law needs: rules of the program logic, functions as Lean functions, contracts. No condition but what each says. Written by a program (pack.py) out of my own texts.
-/
import Derived.Laws.IdiomStrings
import Derived.Test.YtfffongneoegbaaKDecodeVector2
namespace Go.Proofs.Ytfffongneoegbaa
open Go.Stp
set_option linter.unusedVariables false
set_option linter.unusedSimpArgs false
theorem f69 (w : World) (n : Nat) (hn : n + 0 ≤ 9) (k : Int) (hokk : GoT.ok n k) :
    Does Try.prog 69 #[.int .i64 (k)] w emp (fun (rv : Value) (_ : World) => rv = .string (laws_markText k) ∧ GoT.ok n ((laws_markText k) : Str)) := by
  have hbP := bd_pos n
  have hbB := bd_big (n := n) (by omega)
  refine WX.enter (tt := tt) (Γ := []) Try.func69 rfl (by kernel_rfl) rfl allS_nil ?_
  refine WX.run ttOk rfl ?_
  refine WX.cases 5 rfl (fun h1 => ?_) (fun h1 => ?_)
  · skip
    have h1d := B.dt h1
    refine WX.run ttOk rfl ?_
    have hP1 : laws_markText k = (⟨#[109, 48]⟩ : Str) := by simp only [laws_markText, h1, cond_true, cond_false]
    refine WX.ret ttOk rfl ?_
    intro w1 G bs hI hΓ
    rw [hP1]
    exact ⟨rfl, (Nat.le_trans (by decide) (bd_pos _))⟩
  · skip
    have h1d := B.df h1
    refine WX.run ttOk rfl ?_
    have r1 : (⟨#[]⟩ : Str).size = 0 := rfl
    refine WX.loop (ι := Int × Str) ⟨fun | (k2, out) => (-9223372036854775808 ≤ k2 ∧ k2 ≤ 9223372036854775807) ∧ (out.size ≤ bd n) ∧ (mkInv k2 out.size) ∧ (laws_markText_L1 k (⟨#[]⟩ : Str) = laws_markText_L1 k2 out), fun | (k2, out) => k2.toNat, fun | (k2, out) => [(0, .v (.int .i64 (k2))), (3, .v (.string out))], fun | (k2, out) => [], fun | (k2, out) => [], fun | (k2, out) => []⟩ (k, (⟨#[]⟩ : Str)) ⟨hokk, (by first | assumption | omega), (mkInv_0 hokk.2), rfl⟩
      (.cons rfl (.cons rfl (.nil))) .nil .nil [] rfl ?_
    rintro ⟨k2, out⟩ hpre
    have hpre_ : (-9223372036854775808 ≤ k2 ∧ k2 ≤ 9223372036854775807) ∧ (out.size ≤ bd n) ∧ (mkInv k2 out.size) ∧ (laws_markText_L1 k (⟨#[]⟩ : Str) = laws_markText_L1 k2 out) := hpre
    clear hpre
    obtain ⟨v1, v2, v3, v4⟩ := hpre_
    have hz0 := mkInv_size v3
    refine WX.run ttOk rfl ?_
    refine WX.cases 7 rfl (fun h2 => ?_) (fun h2 => ?_)
    · skip
      have h2d := B.dt h2
      refine WX.run ttOk rfl ?_
      have r2 := tmod_rng k2 (show (0 : Int) < 10 by omega)
      refine WX.see rfl rfl rfl (fun _ hΓ => looks_rem rfl rfl rfl (by decide)) ?_
      refine WX.see rfl rfl rfl (fun _ hΓ => looks_wrap rfl rfl rfl rfl) ?_
      refine WX.see rfl rfl rfl (fun _ hΓ => looks_toU8 ttOk rfl rfl rfl rfl rfl rfl) ?_
      refine WX.bld ttOk rfl rfl rfl rfl rfl rfl rfl ?_
      intro p1
      refine WX.turn [] 0 rfl (fun h hs => ol_one (α := UInt8) (a := (toU8 (IntKind.i64.wrap (48 + (Int.tmod k2 10))))) (x := ()) hs) (gs := [MF.ol [.int .u8 ((toU8 (IntKind.i64.wrap (48 + (Int.tmod k2 10)))).toNat : Nat)] ([(toU8 (IntKind.i64.wrap (48 + (Int.tmod k2 10))))] : List UInt8)]) rfl ?_
      refine WX.seal 12 0 1 rfl rfl rfl rfl rfl ?_
      refine WX.see rfl rfl rfl (fun _ hΓ => looks_toStr ttOk (hΓ.get 1 rfl) rfl rfl rfl rfl rfl rfl rfl rfl rfl) ?_
      refine WX.run ttOk rfl ?_
      have r3 : (bstr ([(toU8 (IntKind.i64.wrap (48 + (Int.tmod k2 10))))])).size = 1 := bstr_size _
      refine WX.see rfl rfl rfl (fun _ hΓ => looks_cat rfl rfl rfl (by have := bd_le (n + 9); simp; omega)) ?_
      refine WX.run ttOk rfl ?_
      refine WX.see rfl rfl rfl (fun _ hΓ => looks_quo rfl rfl rfl (by decide)) ?_
      refine WX.run ttOk rfl ?_
      have hz1 : (bstr ([(toU8 (IntKind.i64.wrap (48 + (Int.tmod k2 10))))]) ++ out).size = out.size + 1 := by rw [ByteArray.size_append]; show 1 + out.size = out.size + 1; omega
      have hz2 := mkInv_size (mkInv_step h2d v3)
      exact WX.iter (IntKind.i64.wrap (Int.tdiv k2 10), ((bstr ([(toU8 (IntKind.i64.wrap (48 + (Int.tmod k2 10))))])) ++ out)) ⟨(i64_wrap _), (by first | assumption | omega | (simp; omega)), (by rw [hz1]; exact mkInv_step h2d v3), (by rw [v4]; rw [laws_markText_L1]; simp only [h2, h2d, cond_true, cond_false, ↓reduceIte, Bool.false_eq_true])⟩ (wrap_quo10 h2d) (.cons rfl (.cons rfl (.nil))) .nil .nil [] rfl
    · skip
      have h2d := B.df h2
      refine WX.run ttOk rfl ?_
      have hX1 : laws_markText_L1 k (⟨#[]⟩ : Str) = (k2, out) := by rw [v4]; rw [laws_markText_L1]; simp only [h2, h2d, cond_true, cond_false, ↓reduceIte, Bool.false_eq_true]
      have r4 : (⟨#[109]⟩ : Str).size = 1 := rfl
      refine WX.see rfl rfl rfl (fun _ hΓ => looks_cat rfl rfl rfl (by have := bd_le (n + 9); simp; omega)) ?_
      refine WX.run ttOk rfl ?_
      have hP2 : laws_markText k = ((⟨#[109]⟩ : Str) ++ out) := by simp only [laws_markText, h1, hX1, cond_true, cond_false]
      refine WX.ret ttOk rfl ?_
      intro w1 G bs hI hΓ
      rw [hP2]
      exact ⟨rfl, (show (((⟨#[109]⟩ : Str) ++ out)).size ≤ bd n from (by first | omega | (simp; omega)))⟩
theorem f55 (w : World) (n : Nat) (hn : n + 0 ≤ 9) (a : (List Str)) (pa : Option Addr) (ca : Nat) (k : Int) (H : GH) (hH : Le H (hp w)) (hown : Sep H (GoT.oa a (pa, ca))) (hoka : GoT.ok n a) (hokk : GoT.ok n k) :
    Does Try.prog 55 #[.slice pa ((a).length) ca, .int .i64 (k)] w H (Post w H (fun _ : Unit => .int .i64 ((laws_markStringS a k).1)) (fun _ => GoT.oa ((laws_markStringS a k).2 : (List Str)) (pa, ca)) ((GoT.ok n ((laws_markStringS a k).1 : Int) ∧ GoT.ok n ((laws_markStringS a k).2 : (List Str))) ∧ ((laws_markStringS a k).2).length = (a).length)) := by
  have hbP := bd_pos n
  have hbB := bd_big (n := n) (by omega)
  refine WX.enterM (tt := tt) (Γ := []) 1 Try.func55 rfl (by kernel_rfl) rfl allS_nil hH hown (fun f hf => GoT.oak f hf) rfl ?_
  refine WX.opn (kk := 1) 501 1 2 rfl rfl rfl ?_
  intro xs1 hx1
  refine WX.run ttOk rfl ?_
  have r1 : (a).length ≤ bd n := (okl hoka).1
  refine WX.loop (ι := (List Value) × (List Str) × Int × Nat) ⟨fun | (xsa2, a2, k2, i) => (i ≤ (a).length) ∧ (a2.length = (a).length) ∧ (∀ z_ ∈ a2, GoT.ok n z_) ∧ (-9223372036854775808 ≤ k2 ∧ k2 ≤ 9223372036854775807) ∧ (laws_markStringS_L1 ((a).length) 0 (a : List Str) k = laws_markStringS_L1 ((a).length - i) i a2 k2), fun | (xsa2, a2, k2, i) => (a).length - i, fun | (xsa2, a2, k2, i) => [(0, .v (.slice pa ((a).length) ca)), (1, .v (.int .i64 (k2))), (5, .v (.int .i64 (((i : Nat) : Int))))], fun | (xsa2, a2, k2, i) => [], fun | (xsa2, a2, k2, i) => [(501, ⟨1, pa, (a).length, ca, xsa2⟩)], fun | (xsa2, a2, k2, i) => [(2, MF.ol xsa2 (a2 : List Str))]⟩ (xs1, (a : List Str), k, 0) ⟨(Nat.zero_le _), (by simp), (okl hoka).2, hokk, rfl⟩
    (.cons rfl (.cons rfl (.cons rfl (.nil)))) .nil (.cons rfl (.nil)) [2] rfl ?_
  rintro ⟨xsa2, a2, k2, i⟩ hpre
  have hpre_ : (i ≤ (a).length) ∧ (a2.length = (a).length) ∧ (∀ z_ ∈ a2, GoT.ok n z_) ∧ (-9223372036854775808 ≤ k2 ∧ k2 ≤ 9223372036854775807) ∧ (laws_markStringS_L1 ((a).length) 0 (a : List Str) k = laws_markStringS_L1 ((a).length - i) i a2 k2) := hpre
  clear hpre
  obtain ⟨v1, v2, v3, v4, v5⟩ := hpre_
  refine WX.run ttOk rfl ?_
  refine WX.cases 9 rfl (fun h1 => ?_) (fun h1 => ?_)
  · skip
    have h1d := B.dt h1
    refine WX.run ttOk rfl ?_
    refine WX.callV rfl rfl rfl rfl rfl (fun _ => rfl) rfl (fun w G bs hI hΓ => f69 w n (by omega) k2 v4) ?_
    intro hq1
    have hr1 : i < (a).length := (by first | assumption | omega)
    refine WX.idxR 501 i ttOk rfl rfl rfl rfl rfl rfl rfl rfl rfl hr1 ?_
    rintro ad1 rfl
    have e1i : i < (a2).length := (by first | assumption | omega)
    obtain ⟨e1, e1h⟩ : ∃ e1, (a2)[i]? = some e1 := ⟨_, List.getElem?_eq_getElem e1i⟩
    have ok1 : GoT.ok n e1 := v3 _ (List.mem_of_getElem? e1h)
    refine WX.opnE (α := Str) (e := e1) 501 2 3 i rfl rfl rfl e1h (fun _ => rfl) (fun _ _ _ => rfl) (fun _ _ _ => rfl) ?_
    rintro A1 B1 ⟨⟩ hA1 hB1
    refine WX.stA 501 ttOk rfl rfl rfl rfl rfl rfl rfl rfl rfl rfl rfl rfl rfl rfl hA1 hr1 rfl rfl rfl rfl (by simp) rfl ?_
    refine WX.run ttOk rfl ?_
    refine WX.see rfl rfl rfl (fun _ hΓ => looks_wrap rfl rfl rfl rfl) ?_
    refine WX.run ttOk rfl ?_
    refine WX.see rfl rfl rfl (fun _ hΓ => looks_arith rfl rfl rfl rfl (by unfold I64; first | omega | (simp only [List.length_take, List.length_drop] at *; omega) | (dsimp only; omega))) ?_
    refine WX.run ttOk rfl ?_
    refine WX.turn [3, 4] 5 rfl (fun h hs => cl_elem (α := Str) (e := (laws_markText k2)) (x := ()) e1i hs) (gs := [MF.ol (A1 ++ [.string (laws_markText k2)] ++ B1) (a2.set i (laws_markText k2))]) rfl ?_
    refine WX.turn [5] 2 rfl (fun _ h => h) rfl ?_
    exact WX.iter ((A1 ++ [.string (laws_markText k2)] ++ B1), ((a2.set i (laws_markText k2)) : List Str), IntKind.i64.wrap (k2 + 1), i + 1) ⟨(by omega), (by first | assumption | omega | (simp only [List.length_append, List.length_cons, List.length_nil, List.length_set, List.length_map, List.length_take, List.length_drop]; omega) | (simp; omega)), (all_set v3 (show GoT.ok n ((laws_markText k2) : Str) from hq1)), (i64_wrap _), (by rw [v5, show (a).length - i = ((a).length - (i + 1)) + 1 by omega]; simp only [laws_markStringS_L1, e1h, cond_true, cond_false])⟩ (by first | (dsimp only; omega) | omega) (.cons rfl (.cons rfl (.cons rfl (.nil)))) .nil (.cons rfl (.nil)) [2] rfl
  · skip
    have h1d := B.df h1
    refine WX.run ttOk rfl ?_
    have hX1 : laws_markStringS_L1 ((a).length) 0 (a : List Str) k = (((a2) : List Str), k2) := by rw [v5, show (a).length - i = 0 by omega]; simp only [laws_markStringS_L1, cond_true, cond_false]
    refine WX.seal 501 2 6 rfl rfl (show (a).length = (a2).length from by omega) rfl rfl ?_
    refine WX.slot 7 (y := .v (.slice pa (a2).length ca)) rfl (fun _ => by show (Value.slice pa ((a).length) ca : Value) = Value.slice pa (a2).length ca; rw [(show (a).length = (a2).length from by omega)]) ?_
    refine WX.slot 0 (y := .v (.slice pa (a2).length ca)) rfl (fun _ => by show (Value.slice pa ((a).length) ca : Value) = Value.slice pa (a2).length ca; rw [(show (a).length = (a2).length from by omega)]) ?_
    have hP1 : laws_markStringS a k = (k2, a2) := by simp only [laws_markStringS, hX1, cond_true, cond_false]
    refine WX.ret ttOk rfl ?_
    intro w1 G bs hI hΓ
    rw [hP1]
    exact Post.of [7] () hI hΓ rfl rfl rfl ⟨⟨v4, (okl_mk (by omega) v3 : GoT.ok n (a2 : List Str))⟩, (show (a2).length = (a).length from by omega)⟩
theorem f34 (w : World) (n : Nat) (hn : n + 0 ≤ 9) (a : (List TableEntry)) (pa : Option Addr) (ca : Nat) (k : Int) (H : GH) (hH : Le H (hp w)) (hown : Sep H (GoT.oa a (pa, ca))) (hoka : GoT.ok n a) (hokk : GoT.ok n k) :
    Does Try.prog 34 #[.slice pa ((a).length) ca, .int .i64 (k)] w H (Post w H (fun _ : Unit => .int .i64 ((laws_markTableEntryS a k).1)) (fun _ => GoT.oa ((laws_markTableEntryS a k).2 : (List TableEntry)) (pa, ca)) ((GoT.ok n ((laws_markTableEntryS a k).1 : Int) ∧ GoT.ok n ((laws_markTableEntryS a k).2 : (List TableEntry))) ∧ ((laws_markTableEntryS a k).2).length = (a).length)) := by
  have hbP := bd_pos n
  have hbB := bd_big (n := n) (by omega)
  refine WX.enterM (tt := tt) (Γ := []) 1 Try.func34 rfl (by kernel_rfl) rfl allS_nil hH hown (fun f hf => GoT.oak f hf) rfl ?_
  refine WX.opn (kk := 2) 501 1 2 rfl rfl rfl ?_
  intro xs1 hx1
  refine WX.run ttOk rfl ?_
  have r1 : (a).length ≤ bd n := (okl hoka).1
  refine WX.loop (ι := (List Value) × (List TableEntry) × Int × Nat) ⟨fun | (xsa2, a2, k2, i) => (i ≤ (a).length) ∧ (a2.length = (a).length) ∧ (∀ z_ ∈ a2, GoT.ok n z_) ∧ (-9223372036854775808 ≤ k2 ∧ k2 ≤ 9223372036854775807) ∧ (laws_markTableEntryS_L1 ((a).length) 0 (a : List TableEntry) k = laws_markTableEntryS_L1 ((a).length - i) i a2 k2), fun | (xsa2, a2, k2, i) => (a).length - i, fun | (xsa2, a2, k2, i) => [(0, .v (.slice pa ((a).length) ca)), (1, .v (.int .i64 (k2))), (5, .v (.int .i64 (((i : Nat) : Int))))], fun | (xsa2, a2, k2, i) => [], fun | (xsa2, a2, k2, i) => [(501, ⟨2, pa, (a).length, ca, xsa2⟩)], fun | (xsa2, a2, k2, i) => [(2, MF.ol xsa2 (a2 : List TableEntry))]⟩ (xs1, (a : List TableEntry), k, 0) ⟨(Nat.zero_le _), (by simp), (okl hoka).2, hokk, rfl⟩
    (.cons rfl (.cons rfl (.cons rfl (.nil)))) .nil (.cons rfl (.nil)) [2] rfl ?_
  rintro ⟨xsa2, a2, k2, i⟩ hpre
  have hpre_ : (i ≤ (a).length) ∧ (a2.length = (a).length) ∧ (∀ z_ ∈ a2, GoT.ok n z_) ∧ (-9223372036854775808 ≤ k2 ∧ k2 ≤ 9223372036854775807) ∧ (laws_markTableEntryS_L1 ((a).length) 0 (a : List TableEntry) k = laws_markTableEntryS_L1 ((a).length - i) i a2 k2) := hpre
  clear hpre
  obtain ⟨v1, v2, v3, v4, v5⟩ := hpre_
  refine WX.run ttOk rfl ?_
  refine WX.cases 9 rfl (fun h1 => ?_) (fun h1 => ?_)
  · skip
    have h1d := B.dt h1
    refine WX.run ttOk rfl ?_
    have hr1 : i < (a).length := (by first | assumption | omega)
    refine WX.idxR 501 i ttOk rfl rfl rfl rfl rfl rfl rfl rfl rfl hr1 ?_
    rintro ad1 rfl
    refine WX.run ttOk rfl ?_
    have e1i : i < (a2).length := (by first | assumption | omega)
    obtain ⟨e1, e1h⟩ : ∃ e1, (a2)[i]? = some e1 := ⟨_, List.getElem?_eq_getElem e1i⟩
    have ok1 : GoT.ok n e1 := v3 _ (List.mem_of_getElem? e1h)
    refine WX.opnE (α := TableEntry) (e := e1) 501 2 3 i rfl rfl rfl e1h (fun _ => rfl) (fun _ _ _ => rfl) (fun _ _ _ => rfl) ?_
    rintro A1 B1 ⟨⟨p1, c1⟩, ⟨⟩⟩ hA1 hB1
    refine WX.ldA 501 ttOk rfl rfl rfl rfl rfl rfl rfl rfl rfl rfl hA1 hr1 rfl ?_
    refine WX.run ttOk rfl ?_
    refine WX.callM [4] 7 rfl (fun _ _ h => GoT.ow_rd h) (fun _ f hf => GoT.fak f hf) rfl rfl rfl rfl rfl (fun _ => rfl) rfl (fun w G bs H hI hH hs hΓ => f55 w n (by omega) e1.name.parts p1 c1 k2 H hH hs (ok_Name (ok_TableEntry ok1).1) v4) (fun _ => rfl) (fun _ => rfl) ?_
    rintro ⟨⟩ hq1
    have hl1 : ((laws_markStringS e1.name.parts k2).2).length = (e1.name.parts).length := hq1.2
    refine WX.run ttOk rfl ?_
    have hr2 : i < (a).length := (by first | assumption | omega)
    refine WX.idxR 501 i ttOk rfl rfl rfl rfl rfl rfl rfl rfl rfl hr2 ?_
    rintro ad2 ⟨⟩
    refine WX.run ttOk rfl ?_
    refine WX.stA 501 ttOk rfl rfl rfl rfl rfl rfl rfl rfl rfl rfl rfl rfl rfl rfl hA1 hr2 rfl rfl rfl rfl (by simp) rfl ?_
    refine WX.run ttOk rfl ?_
    refine WX.see rfl rfl rfl (fun _ hΓ => looks_wrap rfl rfl rfl rfl) ?_
    refine WX.run ttOk rfl ?_
    refine WX.see rfl rfl rfl (fun _ hΓ => looks_arith rfl rfl rfl rfl (by unfold I64; first | omega | (simp only [List.length_take, List.length_drop] at *; omega) | (dsimp only; omega))) ?_
    refine WX.run ttOk rfl ?_
    refine WX.turn [8, 5, 6] 9 rfl (fun h hs => by have z_ : Sep h [MF.ol (A1 ++ [.slice p1 (((laws_markStringS e1.name.parts k2).2).length) c1, .int .i64 ((laws_markStringS e1.name.parts k2).1)] ++ B1) (a2.set i (TableEntry.mk (Name.mk ((laws_markStringS e1.name.parts k2).2)) ((laws_markStringS e1.name.parts k2).1)))] := cl_elem (α := TableEntry) (e := (TableEntry.mk (Name.mk ((laws_markStringS e1.name.parts k2).2)) ((laws_markStringS e1.name.parts k2).1))) (x := ((p1, c1), ())) e1i hs; rw [hl1] at z_; exact z_) (gs := [MF.ol (A1 ++ [.slice p1 ((e1.name.parts).length) c1, .int .i64 ((laws_markStringS e1.name.parts k2).1)] ++ B1) (a2.set i (TableEntry.mk (Name.mk ((laws_markStringS e1.name.parts k2).2)) ((laws_markStringS e1.name.parts k2).1)))]) rfl ?_
    refine WX.turn [9] 2 rfl (fun _ h => h) rfl ?_
    exact WX.iter ((A1 ++ [.slice p1 ((e1.name.parts).length) c1, .int .i64 ((laws_markStringS e1.name.parts k2).1)] ++ B1), ((a2.set i (TableEntry.mk (Name.mk ((laws_markStringS e1.name.parts k2).2)) ((laws_markStringS e1.name.parts k2).1))) : List TableEntry), IntKind.i64.wrap (((laws_markStringS e1.name.parts k2).1) + 1), i + 1) ⟨(by omega), (by first | assumption | omega | (simp only [List.length_append, List.length_cons, List.length_nil, List.length_set, List.length_map, List.length_take, List.length_drop]; omega) | (simp; omega)), (all_set v3 (show GoT.ok n ((TableEntry.mk (Name.mk ((laws_markStringS e1.name.parts k2).2)) ((laws_markStringS e1.name.parts k2).1)) : TableEntry) from (And.intro hq1.1.2 hq1.1.1))), (i64_wrap _), (by rw [v5, show (a).length - i = ((a).length - (i + 1)) + 1 by omega]; simp only [laws_markTableEntryS_L1, e1h, cond_true, cond_false])⟩ (by first | (dsimp only; omega) | omega) (.cons rfl (.cons rfl (.cons rfl (.nil)))) .nil (.cons rfl (.nil)) [2] rfl
  · skip
    have h1d := B.df h1
    refine WX.run ttOk rfl ?_
    have hX1 : laws_markTableEntryS_L1 ((a).length) 0 (a : List TableEntry) k = (((a2) : List TableEntry), k2) := by rw [v5, show (a).length - i = 0 by omega]; simp only [laws_markTableEntryS_L1, cond_true, cond_false]
    refine WX.seal 501 2 10 rfl rfl (show (a).length = (a2).length from by omega) rfl rfl ?_
    refine WX.slot 7 (y := .v (.slice pa (a2).length ca)) rfl (fun _ => by show (Value.slice pa ((a).length) ca : Value) = Value.slice pa (a2).length ca; rw [(show (a).length = (a2).length from by omega)]) ?_
    refine WX.slot 0 (y := .v (.slice pa (a2).length ca)) rfl (fun _ => by show (Value.slice pa ((a).length) ca : Value) = Value.slice pa (a2).length ca; rw [(show (a).length = (a2).length from by omega)]) ?_
    have hP1 : laws_markTableEntryS a k = (k2, a2) := by simp only [laws_markTableEntryS, hX1, cond_true, cond_false]
    refine WX.ret ttOk rfl ?_
    intro w1 G bs hI hΓ
    rw [hP1]
    exact Post.of [11] () hI hΓ rfl rfl rfl ⟨⟨v4, (okl_mk (by omega) v3 : GoT.ok n (a2 : List TableEntry))⟩, (show (a2).length = (a).length from by omega)⟩
theorem f16 (w : World) (n : Nat) (hn : n + 0 ≤ 9) (a : StateVector) (pa : Option Addr) (ca : Nat) (k : Int) (H : GH) (hH : Le H (hp w)) (hown : Sep H (GoT.oa a (pa, ca))) (hoka : GoT.ok n a) (hokk : GoT.ok n k) :
    Does Try.prog 16 #[.agg #[.slice pa ((a.entries).length) ca], .int .i64 (k)] w H (Post w H (fun _ : Unit => .int .i64 ((laws_markStateVector a k).1)) (fun _ => GoT.oa ((laws_markStateVector a k).2 : StateVector) (pa, ca)) ((GoT.ok n ((laws_markStateVector a k).1 : Int) ∧ GoT.ok n ((laws_markStateVector a k).2 : StateVector)) ∧ ((laws_markStateVector a k).2.entries).length = (a.entries).length)) := by
  have hbP := bd_pos n
  have hbB := bd_big (n := n) (by omega)
  refine WX.enterM (tt := tt) (Γ := []) 1 Try.func16 rfl (by kernel_rfl) rfl allS_nil hH hown (fun f hf => GoT.oak f hf) rfl ?_
  refine WX.run ttOk rfl ?_
  refine WX.callM [1] 2 rfl (fun _ _ h => GoT.ow_rd h) (fun _ f hf => GoT.fak f hf) rfl rfl rfl rfl rfl (fun _ => rfl) rfl (fun w G bs H hI hH hs hΓ => f34 w n (by omega) a.entries pa ca k H hH hs (ok_StateVector hoka) hokk) (fun _ => rfl) (fun _ => rfl) ?_
  rintro ⟨⟩ hq1
  have hl1 : ((laws_markTableEntryS a.entries k).2).length = (a.entries).length := hq1.2
  refine WX.run ttOk rfl ?_
  have hP1 : laws_markStateVector a k = ((laws_markTableEntryS a.entries k).1, StateVector.mk ((laws_markTableEntryS a.entries k).2)) := by simp only [laws_markStateVector, cond_true, cond_false]
  refine WX.ret ttOk rfl ?_
  intro w1 G bs hI hΓ
  rw [hP1]
  exact Post.of [3] () hI hΓ rfl rfl rfl ⟨⟨hq1.1.1, hq1.1.2⟩, (show ((laws_markTableEntryS a.entries k).2).length = (a.entries).length from by omega)⟩
theorem f17 (w : World) (n : Nat) (hn : n + 0 ≤ 9) (a : (List UInt8)) (pa : Option Addr) (ca : Nat) (k : Int) (H : GH) (hH : Le H (hp w)) (hown : Sep H (GoT.oa a (pa, ca))) (hoka : GoT.ok n a) (hokk : GoT.ok n k) :
    Does Try.prog 17 #[.slice pa ((a).length) ca, .int .i64 (k)] w H (Post w H (fun _ : Unit => .int .i64 ((laws_markByteS a k).1)) (fun _ => GoT.oa ((laws_markByteS a k).2 : (List UInt8)) (pa, ca)) ((GoT.ok n ((laws_markByteS a k).1 : Int) ∧ GoT.ok n ((laws_markByteS a k).2 : (List UInt8))) ∧ ((laws_markByteS a k).2).length = (a).length)) := by
  have hbP := bd_pos n
  have hbB := bd_big (n := n) (by omega)
  refine WX.enterM (tt := tt) (Γ := []) 1 Try.func17 rfl (by kernel_rfl) rfl allS_nil hH hown (fun f hf => GoT.oak f hf) rfl ?_
  refine WX.opn (kk := 1) 501 1 2 rfl rfl rfl ?_
  intro xs1 hx1
  refine WX.run ttOk rfl ?_
  have r1 : (a).length ≤ bd n := (okl hoka).1
  refine WX.loop (ι := (List Value) × (List UInt8) × Int × Nat) ⟨fun | (xsa2, a2, k2, i) => (i ≤ (a).length) ∧ (a2.length = (a).length) ∧ (∀ z_ ∈ a2, GoT.ok n z_) ∧ (-9223372036854775808 ≤ k2 ∧ k2 ≤ 9223372036854775807) ∧ (laws_markByteS_L1 ((a).length) 0 (a : List UInt8) k = laws_markByteS_L1 ((a).length - i) i a2 k2), fun | (xsa2, a2, k2, i) => (a).length - i, fun | (xsa2, a2, k2, i) => [(0, .v (.slice pa ((a).length) ca)), (1, .v (.int .i64 (k2))), (5, .v (.int .i64 (((i : Nat) : Int))))], fun | (xsa2, a2, k2, i) => [], fun | (xsa2, a2, k2, i) => [(501, ⟨1, pa, (a).length, ca, xsa2⟩)], fun | (xsa2, a2, k2, i) => [(2, MF.ol xsa2 (a2 : List UInt8))]⟩ (xs1, (a : List UInt8), k, 0) ⟨(Nat.zero_le _), (by simp), (okl hoka).2, hokk, rfl⟩
    (.cons rfl (.cons rfl (.cons rfl (.nil)))) .nil (.cons rfl (.nil)) [2] rfl ?_
  rintro ⟨xsa2, a2, k2, i⟩ hpre
  have hpre_ : (i ≤ (a).length) ∧ (a2.length = (a).length) ∧ (∀ z_ ∈ a2, GoT.ok n z_) ∧ (-9223372036854775808 ≤ k2 ∧ k2 ≤ 9223372036854775807) ∧ (laws_markByteS_L1 ((a).length) 0 (a : List UInt8) k = laws_markByteS_L1 ((a).length - i) i a2 k2) := hpre
  clear hpre
  obtain ⟨v1, v2, v3, v4, v5⟩ := hpre_
  refine WX.run ttOk rfl ?_
  refine WX.cases 9 rfl (fun h1 => ?_) (fun h1 => ?_)
  · skip
    have h1d := B.dt h1
    refine WX.run ttOk rfl ?_
    refine WX.see rfl rfl rfl (fun _ hΓ => looks_toU8 ttOk rfl rfl rfl rfl rfl rfl) ?_
    have hr1 : i < (a).length := (by first | assumption | omega)
    refine WX.idxR 501 i ttOk rfl rfl rfl rfl rfl rfl rfl rfl rfl hr1 ?_
    rintro ad1 rfl
    have e1i : i < (a2).length := (by first | assumption | omega)
    obtain ⟨e1, e1h⟩ : ∃ e1, (a2)[i]? = some e1 := ⟨_, List.getElem?_eq_getElem e1i⟩
    refine WX.opnE (α := UInt8) (e := e1) 501 2 3 i rfl rfl rfl e1h (fun _ => rfl) (fun _ _ _ => rfl) (fun _ _ _ => rfl) ?_
    rintro A1 B1 ⟨⟩ hA1 hB1
    refine WX.stA 501 ttOk rfl rfl rfl rfl rfl rfl rfl rfl rfl rfl rfl rfl rfl rfl hA1 hr1 rfl rfl rfl rfl (by simp) rfl ?_
    refine WX.run ttOk rfl ?_
    refine WX.see rfl rfl rfl (fun _ hΓ => looks_wrap rfl rfl rfl rfl) ?_
    refine WX.run ttOk rfl ?_
    refine WX.see rfl rfl rfl (fun _ hΓ => looks_arith rfl rfl rfl rfl (by unfold I64; first | omega | (simp only [List.length_take, List.length_drop] at *; omega) | (dsimp only; omega))) ?_
    refine WX.run ttOk rfl ?_
    refine WX.turn [3, 4] 5 rfl (fun h hs => cl_elem (α := UInt8) (e := (toU8 k2)) (x := ()) e1i hs) (gs := [MF.ol (A1 ++ [.int .u8 ((toU8 k2).toNat : Nat)] ++ B1) (a2.set i (toU8 k2))]) rfl ?_
    refine WX.turn [5] 2 rfl (fun _ h => h) rfl ?_
    exact WX.iter ((A1 ++ [.int .u8 ((toU8 k2).toNat : Nat)] ++ B1), ((a2.set i (toU8 k2)) : List UInt8), IntKind.i64.wrap (k2 + 1), i + 1) ⟨(by omega), (by first | assumption | omega | (simp only [List.length_append, List.length_cons, List.length_nil, List.length_set, List.length_map, List.length_take, List.length_drop]; omega) | (simp; omega)), (all_set v3 (show GoT.ok n ((toU8 k2) : UInt8) from trivial)), (i64_wrap _), (by rw [v5, show (a).length - i = ((a).length - (i + 1)) + 1 by omega]; simp only [laws_markByteS_L1, e1h, cond_true, cond_false])⟩ (by first | (dsimp only; omega) | omega) (.cons rfl (.cons rfl (.cons rfl (.nil)))) .nil (.cons rfl (.nil)) [2] rfl
  · skip
    have h1d := B.df h1
    refine WX.run ttOk rfl ?_
    have hX1 : laws_markByteS_L1 ((a).length) 0 (a : List UInt8) k = (((a2) : List UInt8), k2) := by rw [v5, show (a).length - i = 0 by omega]; simp only [laws_markByteS_L1, cond_true, cond_false]
    refine WX.seal 501 2 6 rfl rfl (show (a).length = (a2).length from by omega) rfl rfl ?_
    refine WX.slot 7 (y := .v (.slice pa (a2).length ca)) rfl (fun _ => by show (Value.slice pa ((a).length) ca : Value) = Value.slice pa (a2).length ca; rw [(show (a).length = (a2).length from by omega)]) ?_
    refine WX.slot 0 (y := .v (.slice pa (a2).length ca)) rfl (fun _ => by show (Value.slice pa ((a).length) ca : Value) = Value.slice pa (a2).length ca; rw [(show (a).length = (a2).length from by omega)]) ?_
    have hP1 : laws_markByteS a k = (k2, a2) := by simp only [laws_markByteS, hX1, cond_true, cond_false]
    refine WX.ret ttOk rfl ?_
    intro w1 G bs hI hΓ
    rw [hP1]
    exact Post.of [7] () hI hΓ rfl rfl rfl ⟨⟨v4, (okl_mk (by omega) v3 : GoT.ok n (a2 : List UInt8))⟩, (show (a2).length = (a).length from by omega)⟩
end Go.Proofs.Ytfffongneoegbaa

namespace Go.Stp
set_option linter.unusedVariables false
set_option linter.unusedSimpArgs false
def laws_heldByteS_L1 : List UInt8 → Int → Ctl (Int) (Int)
  | [], k2 => (Ctl.nxt k2)
  | e1 :: rest_, k2 =>
    bif (((e1).toNat : Int) != ((toU8 k2).toNat : Int)) then
      (Ctl.ret (-1))
    else
      laws_heldByteS_L1 rest_ (IntKind.i64.wrap (k2 + 1))
def laws_heldByteS (a : (List UInt8)) (k : Int) : Int :=
  match laws_heldByteS_L1 a k with
    | .ret r_ => r_
    | .nxt k2 =>
      k2
def laws_heldStringS_L1 : List Str → Int → Ctl (Int) (Int)
  | [], k2 => (Ctl.nxt k2)
  | e1 :: rest_, k2 =>
    bif (!((e1).toList == ((laws_markText k2)).toList)) then
      (Ctl.ret (-1))
    else
      laws_heldStringS_L1 rest_ (IntKind.i64.wrap (k2 + 1))
def laws_heldStringS (a : (List Str)) (k : Int) : Int :=
  match laws_heldStringS_L1 a k with
    | .ret r_ => r_
    | .nxt k2 =>
      k2
def laws_heldTableEntryS_L1 : List TableEntry → Int → Ctl (Int) (Int)
  | [], k2 => (Ctl.nxt k2)
  | e1 :: rest_, k2 =>
    bif decide ((laws_heldStringS e1.name.parts k2) < 0) then
      (Ctl.ret (-1))
    else
      bif (e1.value != (laws_heldStringS e1.name.parts k2)) then
        (Ctl.ret (-1))
      else
        laws_heldTableEntryS_L1 rest_ (IntKind.i64.wrap ((laws_heldStringS e1.name.parts k2) + 1))
def laws_heldTableEntryS (a : (List TableEntry)) (k : Int) : Int :=
  match laws_heldTableEntryS_L1 a k with
    | .ret r_ => r_
    | .nxt k2 =>
      k2
def laws_heldStateVector (a : StateVector) (k : Int) : Int :=
  bif decide ((laws_heldTableEntryS a.entries k) < 0) then
    (-1)
  else
    (laws_heldTableEntryS a.entries k)
end Go.Stp

namespace Go.Proofs.Ytfffongneoegbaa
open Go.Stp
set_option linter.unusedVariables false
set_option linter.unusedSimpArgs false
theorem f58 (w : World) (n : Nat) (hn : n + 0 ≤ 9) (a : (List Str)) (pa : Option Addr) (ca : Nat) (hpa : RdSl (hp w) pa ca a) (k : Int) (hoka : GoT.ok n a) (hokk : GoT.ok n k) :
    Does Try.prog 58 #[.slice pa ((a).length) ca, .int .i64 (k)] w emp (fun (rv : Value) (_ : World) => rv = .int .i64 ((laws_heldStringS a k)) ∧ GoT.ok n ((laws_heldStringS a k) : Int)) := by
  have hbP := bd_pos n
  have hbB := bd_big (n := n) (by omega)
  refine WX.enter (tt := tt) (Γ := [(0, MF.rs .stb pa ca a)]) Try.func58 rfl (by kernel_rfl) rfl (allS_cons rfl hpa allS_nil) ?_
  refine WX.run ttOk rfl ?_
  have r1 : (a).length ≤ bd n := (okl hoka).1
  refine WX.loop (ι := Int × Nat) ⟨fun | (k2, i) => (i ≤ (a).length) ∧ (-9223372036854775808 ≤ k2 ∧ k2 ≤ 9223372036854775807) ∧ (laws_heldStringS_L1 a k = laws_heldStringS_L1 ((a).drop i) k2), fun | (k2, i) => (a).length - i, fun | (k2, i) => [(1, .v (.int .i64 (k2))), (5, .v (.int .i64 (((i : Nat) : Int)))), (0, .v (.slice pa ((a).length) ca))], fun | (k2, i) => [], fun | (k2, i) => [], fun | (k2, i) => [(0, MF.rs .stb pa ca a)]⟩ (k, 0) ⟨(Nat.zero_le _), hokk, rfl⟩
    (.cons rfl (.cons rfl (.cons rfl (.nil)))) .nil .nil [0] rfl ?_
  rintro ⟨k2, i⟩ hpre
  have hpre_ : (i ≤ (a).length) ∧ (-9223372036854775808 ≤ k2 ∧ k2 ≤ 9223372036854775807) ∧ (laws_heldStringS_L1 a k = laws_heldStringS_L1 ((a).drop i) k2) := hpre
  clear hpre
  obtain ⟨v1, v2, v3⟩ := hpre_
  refine WX.run ttOk rfl ?_
  refine WX.cases 9 rfl (fun h1 => ?_) (fun h1 => ?_)
  · skip
    have h1d := B.dt h1
    have e1i : i < (a).length := (by omega)
    obtain ⟨e1, e1h⟩ : ∃ e1, (a)[i]? = some e1 := ⟨_, List.getElem?_eq_getElem e1i⟩
    have ok1 : GoT.ok n e1 := (okl hoka).2 _ (List.mem_of_getElem? e1h)
    refine WX.run ttOk rfl ?_
    refine WX.draw [] mixed ?_
    intro bs G0 hΓ0
    refine DX.takes (fuel := 5) ttOk [(0, true), (1, true)] (by kernel_rfl) rfl ?_
    refine DX.idx 2 0 i ttOk hΓ0 (by kernel_rfl) rfl rfl rfl rfl rfl rfl rfl rfl rfl rfl rfl e1i ?_
    rintro ad1 rfl
    refine DX.ldE 3 0 1 e1 ttOk hΓ0 (by kernel_rfl) rfl rfl rfl rfl rfl rfl rfl rfl e1h (fun _ => rfl) (fun _ => rfl) ?_
    rintro ⟨⟩
    refine DX.takes (fuel := 2) ttOk [(4, true)] (by kernel_rfl) rfl ?_
    refine DX.callV 5 rfl (by kernel_rfl) rfl rfl rfl rfl rfl rfl (fun _ => rfl) rfl (fun w G bs hI hΓ => f69 w n (by omega) k2 v2) ?_
    intro hq1
    refine DX.takes (fuel := 0) ttOk [(6, true)] (by kernel_rfl) rfl ?_
    refine DX.tail2 [] rfl rfl (by kernel_rfl) ?_
    refine WX.run ttOk rfl ?_
    refine WX.cases 18 rfl (fun h2 => ?_) (fun h2 => ?_)
    · skip
      have h2d := B.ef (B.nt h2)
      refine WX.run ttOk rfl ?_
      have hP1 : laws_heldStringS_L1 a k = (Ctl.ret (-1)) := by rw [v3, drop_get e1h]; simp only [laws_heldStringS_L1, h2, cond_true, cond_false]
      have hP2 : laws_heldStringS a k = (-1) := by simp only [laws_heldStringS, hP1, cond_true, cond_false]
      refine WX.ret ttOk rfl ?_
      intro w1 G bs hI hΓ
      rw [hP2]
      exact ⟨rfl, (show I64 (-1) from (by unfold I64; omega))⟩
    · skip
      have h2d := B.et (B.nf h2)
      refine WX.run ttOk rfl ?_
      refine WX.see rfl rfl rfl (fun _ hΓ => looks_wrap rfl rfl rfl rfl) ?_
      refine WX.run ttOk rfl ?_
      refine WX.see rfl rfl rfl (fun _ hΓ => looks_arith rfl rfl rfl rfl (by unfold I64; first | omega | (simp only [List.length_take, List.length_drop] at *; omega) | (dsimp only; omega))) ?_
      refine WX.run ttOk rfl ?_
      exact WX.iter (IntKind.i64.wrap (k2 + 1), i + 1) ⟨(by omega), (i64_wrap _), (by rw [v3, drop_get e1h]; simp only [laws_heldStringS_L1, h2, cond_true, cond_false])⟩ (by first | (dsimp only; omega) | omega) (.cons rfl (.cons rfl (.cons rfl (.nil)))) .nil .nil [0] rfl
  · skip
    have h1d := B.df h1
    refine WX.run ttOk rfl ?_
    have hX1 : laws_heldStringS_L1 a k = (Ctl.nxt k2) := by rw [v3, List.drop_eq_nil_of_le (show (a).length ≤ i by omega)]; simp only [laws_heldStringS_L1, cond_true, cond_false]
    have hP3 : laws_heldStringS a k = k2 := by simp only [laws_heldStringS, hX1, cond_true, cond_false]
    refine WX.ret ttOk rfl ?_
    intro w1 G bs hI hΓ
    rw [hP3]
    exact ⟨rfl, v2⟩
theorem f39 (w : World) (n : Nat) (hn : n + 0 ≤ 9) (a : (List TableEntry)) (pa : Option Addr) (ca : Nat) (hpa : RdSl (hp w) pa ca a) (k : Int) (hoka : GoT.ok n a) (hokk : GoT.ok n k) :
    Does Try.prog 39 #[.slice pa ((a).length) ca, .int .i64 (k)] w emp (fun (rv : Value) (_ : World) => rv = .int .i64 ((laws_heldTableEntryS a k)) ∧ GoT.ok n ((laws_heldTableEntryS a k) : Int)) := by
  have hbP := bd_pos n
  have hbB := bd_big (n := n) (by omega)
  refine WX.enter (tt := tt) (Γ := [(0, MF.rs .stb pa ca a)]) Try.func39 rfl (by kernel_rfl) rfl (allS_cons rfl hpa allS_nil) ?_
  refine WX.run ttOk rfl ?_
  have r1 : (a).length ≤ bd n := (okl hoka).1
  refine WX.loop (ι := Int × Nat) ⟨fun | (k2, i) => (i ≤ (a).length) ∧ (-9223372036854775808 ≤ k2 ∧ k2 ≤ 9223372036854775807) ∧ (laws_heldTableEntryS_L1 a k = laws_heldTableEntryS_L1 ((a).drop i) k2), fun | (k2, i) => (a).length - i, fun | (k2, i) => [(1, .v (.int .i64 (k2))), (5, .v (.int .i64 (((i : Nat) : Int)))), (0, .v (.slice pa ((a).length) ca))], fun | (k2, i) => [], fun | (k2, i) => [], fun | (k2, i) => [(0, MF.rs .stb pa ca a)]⟩ (k, 0) ⟨(Nat.zero_le _), hokk, rfl⟩
    (.cons rfl (.cons rfl (.cons rfl (.nil)))) .nil .nil [0] rfl ?_
  rintro ⟨k2, i⟩ hpre
  have hpre_ : (i ≤ (a).length) ∧ (-9223372036854775808 ≤ k2 ∧ k2 ≤ 9223372036854775807) ∧ (laws_heldTableEntryS_L1 a k = laws_heldTableEntryS_L1 ((a).drop i) k2) := hpre
  clear hpre
  obtain ⟨v1, v2, v3⟩ := hpre_
  refine WX.run ttOk rfl ?_
  refine WX.cases 9 rfl (fun h1 => ?_) (fun h1 => ?_)
  · skip
    have h1d := B.dt h1
    have e1i : i < (a).length := (by omega)
    obtain ⟨e1, e1h⟩ : ∃ e1, (a)[i]? = some e1 := ⟨_, List.getElem?_eq_getElem e1i⟩
    have ok1 : GoT.ok n e1 := (okl hoka).2 _ (List.mem_of_getElem? e1h)
    refine WX.run ttOk rfl ?_
    refine WX.idx 0 i ttOk rfl rfl rfl rfl rfl rfl rfl rfl rfl rfl e1i ?_
    rintro ad1 rfl
    refine WX.run ttOk rfl ?_
    refine WX.ldE 0 1 e1 ttOk rfl rfl rfl rfl rfl rfl rfl rfl e1h (fun _ => rfl) (fun _ => rfl) ?_
    rintro ⟨⟨p1, c1⟩, ⟨⟩⟩
    refine WX.run ttOk rfl ?_
    refine WX.callV rfl rfl rfl rfl rfl (fun _ => rfl) rfl (fun w G bs hI hΓ => f58 w n (by omega) e1.name.parts p1 c1 (hΓ.get 1 rfl) k2 (ok_Name (ok_TableEntry ok1).1) v2) ?_
    intro hq1
    refine WX.run ttOk rfl ?_
    refine WX.cases 21 rfl (fun h2 => ?_) (fun h2 => ?_)
    · skip
      have h2d := B.dt h2
      refine WX.run ttOk rfl ?_
      have hP1 : laws_heldTableEntryS_L1 a k = (Ctl.ret (-1)) := by rw [v3, drop_get e1h]; simp only [laws_heldTableEntryS_L1, h2, cond_true, cond_false]
      have hP2 : laws_heldTableEntryS a k = (-1) := by simp only [laws_heldTableEntryS, hP1, cond_true, cond_false]
      refine WX.ret ttOk rfl ?_
      intro w1 G bs hI hΓ
      rw [hP2]
      exact ⟨rfl, (show I64 (-1) from (by unfold I64; omega))⟩
    · skip
      have h2d := B.df h2
      refine WX.run ttOk rfl ?_
      refine WX.idx 0 i ttOk rfl rfl rfl rfl rfl rfl rfl rfl rfl rfl e1i ?_
      rintro ad2 ⟨⟩
      refine WX.run ttOk rfl ?_
      refine WX.ldE 0 2 e1 ttOk rfl rfl rfl rfl rfl rfl rfl rfl e1h (fun _ => rfl) (fun _ => rfl) ?_
      rintro ⟨⟨p2, c2⟩, ⟨⟩⟩
      refine WX.run ttOk rfl ?_
      refine WX.cases 28 rfl (fun h3 => ?_) (fun h3 => ?_)
      · skip
        have h3d := B.nt' h3
        refine WX.run ttOk rfl ?_
        have hP3 : laws_heldTableEntryS_L1 a k = (Ctl.ret (-1)) := by rw [v3, drop_get e1h]; simp only [laws_heldTableEntryS_L1, h2, h3, cond_true, cond_false]
        have hP4 : laws_heldTableEntryS a k = (-1) := by simp only [laws_heldTableEntryS, hP3, cond_true, cond_false]
        refine WX.ret ttOk rfl ?_
        intro w1 G bs hI hΓ
        rw [hP4]
        exact ⟨rfl, (show I64 (-1) from (by unfold I64; omega))⟩
      · skip
        have h3d := B.nf' h3
        refine WX.run ttOk rfl ?_
        refine WX.see rfl rfl rfl (fun _ hΓ => looks_wrap rfl rfl rfl rfl) ?_
        refine WX.run ttOk rfl ?_
        refine WX.see rfl rfl rfl (fun _ hΓ => looks_arith rfl rfl rfl rfl (by unfold I64; first | omega | (simp only [List.length_take, List.length_drop] at *; omega) | (dsimp only; omega))) ?_
        refine WX.run ttOk rfl ?_
        exact WX.iter (IntKind.i64.wrap ((laws_heldStringS e1.name.parts k2) + 1), i + 1) ⟨(by omega), (i64_wrap _), (by rw [v3, drop_get e1h]; simp only [laws_heldTableEntryS_L1, h2, h3, cond_true, cond_false])⟩ (by first | (dsimp only; omega) | omega) (.cons rfl (.cons rfl (.cons rfl (.nil)))) .nil .nil [0] rfl
  · skip
    have h1d := B.df h1
    refine WX.run ttOk rfl ?_
    have hX1 : laws_heldTableEntryS_L1 a k = (Ctl.nxt k2) := by rw [v3, List.drop_eq_nil_of_le (show (a).length ≤ i by omega)]; simp only [laws_heldTableEntryS_L1, cond_true, cond_false]
    have hP5 : laws_heldTableEntryS a k = k2 := by simp only [laws_heldTableEntryS, hX1, cond_true, cond_false]
    refine WX.ret ttOk rfl ?_
    intro w1 G bs hI hΓ
    rw [hP5]
    exact ⟨rfl, v2⟩
theorem f22 (w : World) (n : Nat) (hn : n + 0 ≤ 9) (a : StateVector) (pa : Option Addr) (ca : Nat) (hpa : RdSl (hp w) pa ca a.entries) (k : Int) (hoka : GoT.ok n a) (hokk : GoT.ok n k) :
    Does Try.prog 22 #[.agg #[.slice pa ((a.entries).length) ca], .int .i64 (k)] w emp (fun (rv : Value) (_ : World) => rv = .int .i64 ((laws_heldStateVector a k)) ∧ GoT.ok n ((laws_heldStateVector a k) : Int)) := by
  have hbP := bd_pos n
  have hbB := bd_big (n := n) (by omega)
  refine WX.enter (tt := tt) (Γ := [(0, MF.rs .stb pa ca a.entries)]) Try.func22 rfl (by kernel_rfl) rfl (allS_cons rfl hpa allS_nil) ?_
  refine WX.run ttOk rfl ?_
  refine WX.callV rfl rfl rfl rfl rfl (fun _ => rfl) rfl (fun w G bs hI hΓ => f39 w n (by omega) a.entries pa ca (hΓ.get 0 rfl) k (ok_StateVector hoka) hokk) ?_
  intro hq1
  refine WX.run ttOk rfl ?_
  refine WX.cases 10 rfl (fun h1 => ?_) (fun h1 => ?_)
  · skip
    have h1d := B.dt h1
    refine WX.run ttOk rfl ?_
    have hP1 : laws_heldStateVector a k = (-1) := by simp only [laws_heldStateVector, h1, cond_true, cond_false]
    refine WX.ret ttOk rfl ?_
    intro w1 G bs hI hΓ
    rw [hP1]
    exact ⟨rfl, (show I64 (-1) from (by unfold I64; omega))⟩
  · skip
    have h1d := B.df h1
    refine WX.run ttOk rfl ?_
    have hP2 : laws_heldStateVector a k = (laws_heldTableEntryS a.entries k) := by simp only [laws_heldStateVector, h1, cond_true, cond_false]
    refine WX.ret ttOk rfl ?_
    intro w1 G bs hI hΓ
    rw [hP2]
    exact ⟨rfl, hq1⟩
end Go.Proofs.Ytfffongneoegbaa

namespace Go.Stp
set_option linter.unusedVariables false
set_option linter.unusedSimpArgs false
def spec_l4Cmp (a : Str) (b : Str) : Int :=
  bif (Op.bytesLess (a).toList (b).toList) then
    (-1)
  else
    bif (!(Op.bytesLess (a).toList (b).toList || (a).toList == (b).toList)) then
      1
    else
      0
def spec_CompareNames_L1 (b : Name) : List Str → Nat → Option (Int)
  | [], i => none
  | e1 :: rest_, i =>
    bif decide (((i : Nat) : Int) < (((b.parts).length : Nat) : Int)) then
      match (b.parts)[i]? with
        | none => default
        | some e2 =>
          bif ((spec_l4Cmp e1 e2) != 0) then
            (some (spec_l4Cmp e1 e2))
          else
            spec_CompareNames_L1 b rest_ (i + 1)
    else
      none
def spec_CompareNames (a : Name) (b : Name) : Int :=
  match spec_CompareNames_L1 b a.parts 0 with
    | some r_ => r_
    | none =>
      bif decide ((((a.parts).length : Nat) : Int) < (((b.parts).length : Nat) : Int)) then
        (-1)
      else
        bif decide ((((a.parts).length : Nat) : Int) > (((b.parts).length : Nat) : Int)) then
          1
        else
          0
end Go.Stp

namespace Go.Proofs.Ytfffongneoegbaa
open Go.Stp
set_option linter.unusedVariables false
set_option linter.unusedSimpArgs false
theorem f71 (w : World) (n : Nat) (hn : n + 0 ≤ 9) (a : Str) (b : Str) (hoka : GoT.ok n a) (hokb : GoT.ok n b) :
    Does Try.prog 71 #[.string a, .string b] w emp (fun (rv : Value) (_ : World) => rv = .int .i64 ((spec_l4Cmp a b)) ∧ GoT.ok n ((spec_l4Cmp a b) : Int)) := by
  have hbP := bd_pos n
  have hbB := bd_big (n := n) (by omega)
  refine WX.enter (tt := tt) (Γ := []) Try.func71 rfl (by kernel_rfl) rfl allS_nil ?_
  refine WX.run ttOk rfl ?_
  refine WX.cases 5 rfl (fun h1 => ?_) (fun h1 => ?_)
  · skip
    refine WX.run ttOk rfl ?_
    have hP1 : spec_l4Cmp a b = (-1) := by simp only [spec_l4Cmp, h1, cond_true, cond_false]
    refine WX.ret ttOk rfl ?_
    intro w1 G bs hI hΓ
    rw [hP1]
    exact ⟨rfl, (show I64 (-1) from (by unfold I64; omega))⟩
  · skip
    refine WX.run ttOk rfl ?_
    refine WX.cases 9 rfl (fun h2 => ?_) (fun h2 => ?_)
    · skip
      refine WX.run ttOk rfl ?_
      have hP2 : spec_l4Cmp a b = 1 := by first | (simp only [spec_l4Cmp, h1, h2, cond_true, cond_false]; done) | (unfold spec_l4Cmp; rw [h2, h1]; simp only [cond_true, cond_false])
      refine WX.ret ttOk rfl ?_
      intro w1 G bs hI hΓ
      rw [hP2]
      exact ⟨rfl, (show I64 1 from (by unfold I64; omega))⟩
    · skip
      refine WX.run ttOk rfl ?_
      have hP3 : spec_l4Cmp a b = 0 := by first | (simp only [spec_l4Cmp, h1, h2, cond_true, cond_false]; done) | (unfold spec_l4Cmp; rw [h2, h1]; simp only [cond_true, cond_false])
      refine WX.ret ttOk rfl ?_
      intro w1 G bs hI hΓ
      rw [hP3]
      exact ⟨rfl, (show I64 0 from (by unfold I64; omega))⟩
theorem f60 (w : World) (n : Nat) (hn : n + 0 ≤ 9) (a : Name) (pa : Option Addr) (ca : Nat) (hpa : RdSl (hp w) pa ca a.parts) (b : Name) (pb : Option Addr) (cb : Nat) (hpb : RdSl (hp w) pb cb b.parts) (hoka : GoT.ok n a) (hokb : GoT.ok n b) :
    Does Try.prog 60 #[.agg #[.slice pa ((a.parts).length) ca], .agg #[.slice pb ((b.parts).length) cb]] w emp (fun (rv : Value) (_ : World) => rv = .int .i64 ((spec_CompareNames a b)) ∧ GoT.ok n ((spec_CompareNames a b) : Int)) := by
  have hbP := bd_pos n
  have hbB := bd_big (n := n) (by omega)
  refine WX.enter (tt := tt) (Γ := [(0, MF.rs .stb pa ca a.parts), (1, MF.rs .stb pb cb b.parts)]) Try.func60 rfl (by kernel_rfl) rfl (allS_cons rfl hpa (allS_cons rfl hpb allS_nil)) ?_
  refine WX.run ttOk rfl ?_
  have r1 : (a.parts).length ≤ bd n := (okl (ok_Name hoka)).1
  refine WX.loop (ι := Nat) ⟨fun i => (i ≤ (a.parts).length) ∧ (spec_CompareNames_L1 b a.parts 0 = spec_CompareNames_L1 b ((a.parts).drop i) i), fun i => (a.parts).length - i, fun i => [(5, .v (.int .i64 (((i : Nat) : Int)))), (3, .p 3 0), (2, .p 2 0)], fun i => [(3, ⟨53, [.slice pb ((b.parts).length) cb]⟩), (2, ⟨53, [.slice pa ((a.parts).length) ca]⟩)], fun i => [], fun i => [(0, MF.rs .stb pa ca a.parts), (1, MF.rs .stb pb cb b.parts)]⟩ 0 ⟨(Nat.zero_le _), rfl⟩
    (.cons rfl (.cons rfl (.cons rfl (.nil)))) (.cons rfl (.cons rfl (.nil))) .nil [0, 1] rfl ?_
  rintro i hpre
  have hpre_ : (i ≤ (a.parts).length) ∧ (spec_CompareNames_L1 b a.parts 0 = spec_CompareNames_L1 b ((a.parts).drop i) i) := hpre
  clear hpre
  obtain ⟨v1, v2⟩ := hpre_
  refine WX.run ttOk rfl ?_
  refine WX.cases 12 rfl (fun h1 => ?_) (fun h1 => ?_)
  · skip
    have h1d := B.dt h1
    have e1i : i < (a.parts).length := (by omega)
    obtain ⟨e1, e1h⟩ : ∃ e1, (a.parts)[i]? = some e1 := ⟨_, List.getElem?_eq_getElem e1i⟩
    have ok1 : GoT.ok n e1 := (okl (ok_Name hoka)).2 _ (List.mem_of_getElem? e1h)
    refine WX.run ttOk rfl ?_
    refine WX.cases 18 rfl (fun h2 => ?_) (fun h2 => ?_)
    · skip
      have h2d := B.dt h2
      refine WX.run ttOk rfl ?_
      refine WX.draw [] mixed ?_
      intro bs G0 hΓ0
      refine DX.takes (fuel := 9) ttOk [(0, true), (1, false), (2, true)] (by kernel_rfl) rfl ?_
      refine DX.idx 3 0 i ttOk hΓ0 (by kernel_rfl) rfl rfl rfl rfl rfl rfl rfl rfl rfl rfl rfl e1i ?_
      rintro ad1 rfl
      refine DX.ldE 4 0 2 e1 ttOk hΓ0 (by kernel_rfl) rfl rfl rfl rfl rfl rfl rfl rfl e1h (fun _ => rfl) (fun _ => rfl) ?_
      rintro ⟨⟩
      refine DX.takes (fuel := 4) ttOk [(5, true), (6, false), (7, true)] (by kernel_rfl) rfl ?_
      have e2i : i < (b.parts).length := (by first | assumption | omega)
      obtain ⟨e2, e2h⟩ : ∃ e2, (b.parts)[i]? = some e2 := ⟨_, List.getElem?_eq_getElem e2i⟩
      have ok2 : GoT.ok n e2 := (okl (ok_Name hokb)).2 _ (List.mem_of_getElem? e2h)
      refine DX.idx 8 1 i ttOk hΓ0 (by kernel_rfl) rfl rfl rfl rfl rfl rfl rfl rfl rfl rfl rfl e2i ?_
      rintro ad2 rfl
      refine DX.ldE 9 1 2 e2 ttOk hΓ0 (by kernel_rfl) rfl rfl rfl rfl rfl rfl rfl rfl e2h (fun _ => rfl) (fun _ => rfl) ?_
      rintro ⟨⟩
      refine DX.callV 10 rfl (by kernel_rfl) rfl rfl rfl rfl rfl rfl (fun _ => rfl) rfl (fun w G bs hI hΓ => f71 w n (by omega) e1 e2 ok1 ok2) ?_
      intro hq1
      refine DX.takes (fuel := 0) ttOk [(11, true)] (by kernel_rfl) rfl ?_
      refine DX.tail2 [] rfl rfl (by kernel_rfl) ?_
      refine WX.run ttOk rfl ?_
      refine WX.cases 33 rfl (fun h3 => ?_) (fun h3 => ?_)
      · skip
        have h3d := B.nt' h3
        refine WX.run ttOk rfl ?_
        have hP1 : spec_CompareNames_L1 b a.parts 0 = (some (spec_l4Cmp e1 e2)) := by rw [v2, drop_get e1h]; simp only [spec_CompareNames_L1, h2, e2h, h3, cond_true, cond_false]
        have hP2 : spec_CompareNames a b = (spec_l4Cmp e1 e2) := by simp only [spec_CompareNames, hP1, cond_true, cond_false]
        refine WX.ret ttOk rfl ?_
        intro w1 G bs hI hΓ
        rw [hP2]
        exact ⟨rfl, hq1⟩
      · skip
        have h3d := B.nf' h3
        refine WX.run ttOk rfl ?_
        refine WX.see rfl rfl rfl (fun _ hΓ => looks_arith rfl rfl rfl rfl (by unfold I64; first | omega | (simp only [List.length_take, List.length_drop] at *; omega) | (dsimp only; omega))) ?_
        refine WX.run ttOk rfl ?_
        exact WX.iter (i + 1) ⟨(by omega), (by rw [v2, drop_get e1h]; simp only [spec_CompareNames_L1, h2, e2h, h3, cond_true, cond_false])⟩ (by first | (dsimp only; omega) | omega) (.cons rfl (.cons rfl (.cons rfl (.nil)))) (.cons rfl (.cons rfl (.nil))) .nil [0, 1] rfl
    · skip
      have h2d := B.df h2
      refine WX.run ttOk rfl ?_
      have hX1 : spec_CompareNames_L1 b a.parts 0 = none := by rw [v2, drop_get e1h]; simp only [spec_CompareNames_L1, h2, cond_true, cond_false]
      refine WX.cases 35 rfl (fun h4 => ?_) (fun h4 => ?_)
      · skip
        have h4d := B.dt h4
        refine WX.run ttOk rfl ?_
        have hP3 : spec_CompareNames a b = (-1) := by simp only [spec_CompareNames, hX1, h4, cond_true, cond_false]
        refine WX.ret ttOk rfl ?_
        intro w1 G bs hI hΓ
        rw [hP3]
        exact ⟨rfl, (show I64 (-1) from (by unfold I64; omega))⟩
      · skip
        have h4d := B.df h4
        refine WX.run ttOk rfl ?_
        refine WX.cases 43 rfl (fun h5 => ?_) (fun h5 => ?_)
        · skip
          have h5d := B.dt h5
          refine WX.run ttOk rfl ?_
          have hP4 : spec_CompareNames a b = 1 := by simp only [spec_CompareNames, hX1, h4, h5, cond_true, cond_false]
          refine WX.ret ttOk rfl ?_
          intro w1 G bs hI hΓ
          rw [hP4]
          exact ⟨rfl, (show I64 1 from (by unfold I64; omega))⟩
        · skip
          have h5d := B.df h5
          refine WX.run ttOk rfl ?_
          have hP5 : spec_CompareNames a b = 0 := by simp only [spec_CompareNames, hX1, h4, h5, cond_true, cond_false]
          refine WX.ret ttOk rfl ?_
          intro w1 G bs hI hΓ
          rw [hP5]
          exact ⟨rfl, (show I64 0 from (by unfold I64; omega))⟩
  · skip
    have h1d := B.df h1
    refine WX.run ttOk rfl ?_
    have hX2 : spec_CompareNames_L1 b a.parts 0 = none := by rw [v2, List.drop_eq_nil_of_le (show (a.parts).length ≤ i by omega)]; simp only [spec_CompareNames_L1, cond_true, cond_false]
    refine WX.cases 35 rfl (fun h6 => ?_) (fun h6 => ?_)
    · skip
      have h6d := B.dt h6
      refine WX.run ttOk rfl ?_
      have hP6 : spec_CompareNames a b = (-1) := by simp only [spec_CompareNames, hX2, h6, cond_true, cond_false]
      refine WX.ret ttOk rfl ?_
      intro w1 G bs hI hΓ
      rw [hP6]
      exact ⟨rfl, (show I64 (-1) from (by unfold I64; omega))⟩
    · skip
      have h6d := B.df h6
      refine WX.run ttOk rfl ?_
      refine WX.cases 43 rfl (fun h7 => ?_) (fun h7 => ?_)
      · skip
        have h7d := B.dt h7
        refine WX.run ttOk rfl ?_
        have hP7 : spec_CompareNames a b = 1 := by simp only [spec_CompareNames, hX2, h6, h7, cond_true, cond_false]
        refine WX.ret ttOk rfl ?_
        intro w1 G bs hI hΓ
        rw [hP7]
        exact ⟨rfl, (show I64 1 from (by unfold I64; omega))⟩
      · skip
        have h7d := B.df h7
        refine WX.run ttOk rfl ?_
        have hP8 : spec_CompareNames a b = 0 := by simp only [spec_CompareNames, hX2, h6, h7, cond_true, cond_false]
        refine WX.ret ttOk rfl ?_
        intro w1 G bs hI hΓ
        rw [hP8]
        exact ⟨rfl, (show I64 0 from (by unfold I64; omega))⟩
end Go.Proofs.Ytfffongneoegbaa

namespace Go.Stp
set_option linter.unusedVariables false
set_option linter.unusedSimpArgs false
def impl_ValidPart_L1 : List UInt8 → Option (Bool)
  | [] => none
  | e1 :: rest_ =>
    bif decide (((e1).toNat : Int) ≥ 97) then
      bif decide (((e1).toNat : Int) ≤ 122) then
        impl_ValidPart_L1 rest_
      else
        bif decide (((e1).toNat : Int) ≥ 48) then
          bif decide (((e1).toNat : Int) ≤ 57) then
            impl_ValidPart_L1 rest_
          else
            bif (!(((e1).toNat : Int) == 45)) then
              (some false)
            else
              impl_ValidPart_L1 rest_
        else
          bif (!(((e1).toNat : Int) == 45)) then
            (some false)
          else
            impl_ValidPart_L1 rest_
    else
      bif decide (((e1).toNat : Int) ≥ 48) then
        bif decide (((e1).toNat : Int) ≤ 57) then
          impl_ValidPart_L1 rest_
        else
          bif (!(((e1).toNat : Int) == 45)) then
            (some false)
          else
            impl_ValidPart_L1 rest_
      else
        bif (!(((e1).toNat : Int) == 45)) then
          (some false)
        else
          impl_ValidPart_L1 rest_
def impl_ValidPart (s : Str) : Bool :=
  match impl_ValidPart_L1 ((s).data.toList) with
    | some r_ => r_
    | none =>
      (impl_InRange (((s).size : Nat) : Int) 1 8)
def spec_ValidPart_L1 : List UInt8 → Option (Bool)
  | [] => none
  | e1 :: rest_ =>
    bif (!(spec_l1In ((e1).toNat : Int) 97 122)) then
      bif (!(spec_l1In ((e1).toNat : Int) 48 57)) then
        bif (((e1).toNat : Int) != 45) then
          (some false)
        else
          spec_ValidPart_L1 rest_
      else
        spec_ValidPart_L1 rest_
    else
      spec_ValidPart_L1 rest_
def spec_ValidPart (s : Str) : Bool :=
  bif (!(spec_l1In (((s).size : Nat) : Int) 1 8)) then
    false
  else
    match spec_ValidPart_L1 ((s).data.toList) with
      | some r_ => r_
      | none =>
        true
def slices_IndexFunc_string_L1 (fq : Str → Bool) : List Str → Nat → Option (Int)
  | [], i => none
  | e1 :: rest_, i =>
    bif fq e1 then
      (some ((i : Nat) : Int))
    else
      slices_IndexFunc_string_L1 fq rest_ (i + 1)
def slices_IndexFunc_string (s : (List Str)) (fq : Str → Bool) : Int :=
  match slices_IndexFunc_string_L1 fq s 0 with
    | some r_ => r_
    | none =>
      (-1)
def slices_ContainsFunc_string (s : (List Str)) (fq : Str → Bool) : Bool :=
  (decide ((slices_IndexFunc_string s fq) ≥ 0))
def impl_ValidName_c1 (p_ : Str) : Bool :=
  (!(impl_ValidPart p_))
def impl_ValidName (n_ : Name) : Bool :=
  bif decide ((((n_.parts).length : Nat) : Int) ≤ 6) then
    (!(slices_ContainsFunc_string n_.parts (fun e0_ => (impl_ValidName_c1 e0_))))
  else
    false
def spec_ValidName_L1 : List Str → Option (Bool)
  | [] => none
  | e1 :: rest_ =>
    bif (!(spec_ValidPart e1)) then
      (some false)
    else
      spec_ValidName_L1 rest_
def spec_ValidName (n_ : Name) : Bool :=
  match spec_ValidName_L1 n_.parts with
    | some r_ => r_
    | none =>
      (decide ((((n_.parts).length : Nat) : Int) ≤ 6))
end Go.Stp

namespace Go.Proofs.Ytfffongneoegbaa
open Go.Stp
set_option linter.unusedVariables false
set_option linter.unusedSimpArgs false
theorem f67 (w : World) (n : Nat) (hn : n + 0 ≤ 9) (s : Str) (hoks : GoT.ok n s) :
    Does Try.prog 67 #[.string s] w emp (fun (rv : Value) (_ : World) => rv = .bool (impl_ValidPart s) ∧ True) := by
  have hbP := bd_pos n
  have hbB := bd_big (n := n) (by omega)
  refine WX.enter (tt := tt) (Γ := []) Try.func67 rfl (by kernel_rfl) rfl allS_nil ?_
  refine WX.run ttOk rfl ?_
  have r1 : (s).size ≤ bd n := hoks
  refine WX.loop (ι := Nat) ⟨fun i => (i ≤ ((s).data.toList).length) ∧ (impl_ValidPart_L1 ((s).data.toList) = impl_ValidPart_L1 (((s).data.toList).drop i)), fun i => ((s).data.toList).length - i, fun i => [(7, .v (.int .i64 (((i : Nat) : Int)))), (6, .v (.int .i64 ((((s).size : Nat) : Int)))), (0, .v (.string s))], fun i => [], fun i => [], fun i => []⟩ 0 ⟨(Nat.zero_le _), rfl⟩
    (.cons rfl (.cons rfl (.cons rfl (.nil)))) .nil .nil [] rfl ?_
  rintro i hpre
  have hpre_ : (i ≤ ((s).data.toList).length) ∧ (impl_ValidPart_L1 ((s).data.toList) = impl_ValidPart_L1 (((s).data.toList).drop i)) := hpre
  clear hpre
  obtain ⟨v1, v2⟩ := hpre_
  refine WX.run ttOk rfl ?_
  refine WX.cases 8 rfl (fun h1 => ?_) (fun h1 => ?_)
  · skip
    have h1d := B.dt h1
    have e1i : i < ((s).data.toList).length := (by (have hz_ : ((s).data.toList).length = (s).size := by simp); omega)
    obtain ⟨e1, e1h⟩ : ∃ e1, ((s).data.toList)[i]? = some e1 := ⟨_, List.getElem?_eq_getElem e1i⟩
    refine WX.run ttOk rfl ?_
    refine WX.see rfl rfl rfl (fun _ hΓ => looks_strIdx ttOk rfl rfl rfl rfl rfl e1h) ?_
    refine WX.run ttOk rfl ?_
    refine WX.cases 15 rfl (fun h2 => ?_) (fun h2 => ?_)
    · skip
      have h2d := B.dt h2
      refine WX.run ttOk rfl ?_
      refine WX.cases 19 rfl (fun h3 => ?_) (fun h3 => ?_)
      · skip
        have h3d := B.dt h3
        refine WX.run ttOk rfl ?_
        refine WX.see rfl rfl rfl (fun _ hΓ => looks_arith rfl rfl rfl rfl (by unfold I64; first | omega | (simp only [List.length_take, List.length_drop] at *; omega) | (dsimp only; omega))) ?_
        refine WX.run ttOk rfl ?_
        exact WX.iter (i + 1) ⟨(by omega), (by rw [v2, drop_get e1h]; simp only [impl_ValidPart_L1, h2, h3, cond_true, cond_false])⟩ (by first | (dsimp only; omega) | omega) (.cons rfl (.cons rfl (.cons rfl (.nil)))) .nil .nil [] rfl
      · skip
        have h3d := B.df h3
        refine WX.run ttOk rfl ?_
        refine WX.cases 22 rfl (fun h4 => ?_) (fun h4 => ?_)
        · skip
          have h4d := B.dt h4
          refine WX.run ttOk rfl ?_
          refine WX.cases 27 rfl (fun h5 => ?_) (fun h5 => ?_)
          · skip
            have h5d := B.dt h5
            refine WX.run ttOk rfl ?_
            refine WX.see rfl rfl rfl (fun _ hΓ => looks_arith rfl rfl rfl rfl (by unfold I64; first | omega | (simp only [List.length_take, List.length_drop] at *; omega) | (dsimp only; omega))) ?_
            refine WX.run ttOk rfl ?_
            exact WX.iter (i + 1) ⟨(by omega), (by rw [v2, drop_get e1h]; simp only [impl_ValidPart_L1, h2, h3, h4, h5, cond_true, cond_false])⟩ (by first | (dsimp only; omega) | omega) (.cons rfl (.cons rfl (.cons rfl (.nil)))) .nil .nil [] rfl
          · skip
            have h5d := B.df h5
            refine WX.run ttOk rfl ?_
            refine WX.cases 31 rfl (fun h6 => ?_) (fun h6 => ?_)
            · skip
              have h6d := B.ef (B.nt h6)
              refine WX.run ttOk rfl ?_
              have hP1 : impl_ValidPart_L1 ((s).data.toList) = (some false) := by rw [v2, drop_get e1h]; simp only [impl_ValidPart_L1, h2, h3, h4, h5, h6, cond_true, cond_false]
              have hP2 : impl_ValidPart s = false := by simp only [impl_ValidPart, hP1, cond_true, cond_false]
              refine WX.ret ttOk rfl ?_
              intro w1 G bs hI hΓ
              rw [hP2]
              exact ⟨rfl, trivial⟩
            · skip
              have h6d := B.et (B.nf h6)
              refine WX.run ttOk rfl ?_
              refine WX.see rfl rfl rfl (fun _ hΓ => looks_arith rfl rfl rfl rfl (by unfold I64; first | omega | (simp only [List.length_take, List.length_drop] at *; omega) | (dsimp only; omega))) ?_
              refine WX.run ttOk rfl ?_
              exact WX.iter (i + 1) ⟨(by omega), (by rw [v2, drop_get e1h]; simp only [impl_ValidPart_L1, h2, h3, h4, h5, h6, cond_true, cond_false])⟩ (by first | (dsimp only; omega) | omega) (.cons rfl (.cons rfl (.cons rfl (.nil)))) .nil .nil [] rfl
        · skip
          have h4d := B.df h4
          refine WX.run ttOk rfl ?_
          refine WX.cases 31 rfl (fun h7 => ?_) (fun h7 => ?_)
          · skip
            have h7d := B.ef (B.nt h7)
            refine WX.run ttOk rfl ?_
            have hP3 : impl_ValidPart_L1 ((s).data.toList) = (some false) := by rw [v2, drop_get e1h]; simp only [impl_ValidPart_L1, h2, h3, h4, h7, cond_true, cond_false]
            have hP4 : impl_ValidPart s = false := by simp only [impl_ValidPart, hP3, cond_true, cond_false]
            refine WX.ret ttOk rfl ?_
            intro w1 G bs hI hΓ
            rw [hP4]
            exact ⟨rfl, trivial⟩
          · skip
            have h7d := B.et (B.nf h7)
            refine WX.run ttOk rfl ?_
            refine WX.see rfl rfl rfl (fun _ hΓ => looks_arith rfl rfl rfl rfl (by unfold I64; first | omega | (simp only [List.length_take, List.length_drop] at *; omega) | (dsimp only; omega))) ?_
            refine WX.run ttOk rfl ?_
            exact WX.iter (i + 1) ⟨(by omega), (by rw [v2, drop_get e1h]; simp only [impl_ValidPart_L1, h2, h3, h4, h7, cond_true, cond_false])⟩ (by first | (dsimp only; omega) | omega) (.cons rfl (.cons rfl (.cons rfl (.nil)))) .nil .nil [] rfl
    · skip
      have h2d := B.df h2
      refine WX.run ttOk rfl ?_
      refine WX.cases 22 rfl (fun h8 => ?_) (fun h8 => ?_)
      · skip
        have h8d := B.dt h8
        refine WX.run ttOk rfl ?_
        refine WX.cases 27 rfl (fun h9 => ?_) (fun h9 => ?_)
        · skip
          have h9d := B.dt h9
          refine WX.run ttOk rfl ?_
          refine WX.see rfl rfl rfl (fun _ hΓ => looks_arith rfl rfl rfl rfl (by unfold I64; first | omega | (simp only [List.length_take, List.length_drop] at *; omega) | (dsimp only; omega))) ?_
          refine WX.run ttOk rfl ?_
          exact WX.iter (i + 1) ⟨(by omega), (by rw [v2, drop_get e1h]; simp only [impl_ValidPart_L1, h2, h8, h9, cond_true, cond_false])⟩ (by first | (dsimp only; omega) | omega) (.cons rfl (.cons rfl (.cons rfl (.nil)))) .nil .nil [] rfl
        · skip
          have h9d := B.df h9
          refine WX.run ttOk rfl ?_
          refine WX.cases 31 rfl (fun h10 => ?_) (fun h10 => ?_)
          · skip
            have h10d := B.ef (B.nt h10)
            refine WX.run ttOk rfl ?_
            have hP5 : impl_ValidPart_L1 ((s).data.toList) = (some false) := by rw [v2, drop_get e1h]; simp only [impl_ValidPart_L1, h2, h8, h9, h10, cond_true, cond_false]
            have hP6 : impl_ValidPart s = false := by simp only [impl_ValidPart, hP5, cond_true, cond_false]
            refine WX.ret ttOk rfl ?_
            intro w1 G bs hI hΓ
            rw [hP6]
            exact ⟨rfl, trivial⟩
          · skip
            have h10d := B.et (B.nf h10)
            refine WX.run ttOk rfl ?_
            refine WX.see rfl rfl rfl (fun _ hΓ => looks_arith rfl rfl rfl rfl (by unfold I64; first | omega | (simp only [List.length_take, List.length_drop] at *; omega) | (dsimp only; omega))) ?_
            refine WX.run ttOk rfl ?_
            exact WX.iter (i + 1) ⟨(by omega), (by rw [v2, drop_get e1h]; simp only [impl_ValidPart_L1, h2, h8, h9, h10, cond_true, cond_false])⟩ (by first | (dsimp only; omega) | omega) (.cons rfl (.cons rfl (.cons rfl (.nil)))) .nil .nil [] rfl
      · skip
        have h8d := B.df h8
        refine WX.run ttOk rfl ?_
        refine WX.cases 31 rfl (fun h11 => ?_) (fun h11 => ?_)
        · skip
          have h11d := B.ef (B.nt h11)
          refine WX.run ttOk rfl ?_
          have hP7 : impl_ValidPart_L1 ((s).data.toList) = (some false) := by rw [v2, drop_get e1h]; simp only [impl_ValidPart_L1, h2, h8, h11, cond_true, cond_false]
          have hP8 : impl_ValidPart s = false := by simp only [impl_ValidPart, hP7, cond_true, cond_false]
          refine WX.ret ttOk rfl ?_
          intro w1 G bs hI hΓ
          rw [hP8]
          exact ⟨rfl, trivial⟩
        · skip
          have h11d := B.et (B.nf h11)
          refine WX.run ttOk rfl ?_
          refine WX.see rfl rfl rfl (fun _ hΓ => looks_arith rfl rfl rfl rfl (by unfold I64; first | omega | (simp only [List.length_take, List.length_drop] at *; omega) | (dsimp only; omega))) ?_
          refine WX.run ttOk rfl ?_
          exact WX.iter (i + 1) ⟨(by omega), (by rw [v2, drop_get e1h]; simp only [impl_ValidPart_L1, h2, h8, h11, cond_true, cond_false])⟩ (by first | (dsimp only; omega) | omega) (.cons rfl (.cons rfl (.cons rfl (.nil)))) .nil .nil [] rfl
  · skip
    have h1d := B.df h1
    refine WX.run ttOk rfl ?_
    have hX1 : impl_ValidPart_L1 ((s).data.toList) = none := by rw [v2, List.drop_eq_nil_of_le (show ((s).data.toList).length ≤ i by (have hz_ : ((s).data.toList).length = (s).size := by simp); omega)]; simp only [impl_ValidPart_L1, cond_true, cond_false]
    refine WX.callV rfl rfl rfl rfl rfl (fun _ => rfl) rfl (fun w G bs hI hΓ => f50 w n (by omega) (((s).size : Nat) : Int) 1 8 (show I64 (((s).size : Nat) : Int) from (by unfold I64; omega)) (show I64 1 from (by unfold I64; omega)) (show I64 8 from (by unfold I64; omega))) ?_
    intro hq1
    refine WX.run ttOk rfl ?_
    have hP9 : impl_ValidPart s = (impl_InRange (((s).size : Nat) : Int) 1 8) := by simp only [impl_ValidPart, hX1, cond_true, cond_false]
    refine WX.ret ttOk rfl ?_
    intro w1 G bs hI hΓ
    rw [hP9]
    exact ⟨rfl, trivial⟩
theorem f61 (w : World) (n : Nat) (hn : n + 0 ≤ 9) (s : Str) (hoks : GoT.ok n s) :
    Does Try.prog 61 #[.string s] w emp (fun (rv : Value) (_ : World) => rv = .bool (spec_ValidPart s) ∧ True) := by
  have hbP := bd_pos n
  have hbB := bd_big (n := n) (by omega)
  refine WX.enter (tt := tt) (Γ := []) Try.func61 rfl (by kernel_rfl) rfl allS_nil ?_
  refine WX.run ttOk rfl ?_
  have r1 : (s).size ≤ bd n := hoks
  refine WX.callV rfl rfl rfl rfl rfl (fun _ => rfl) rfl (fun w G bs hI hΓ => f42 w n (by omega) (((s).size : Nat) : Int) 1 8 (show I64 (((s).size : Nat) : Int) from (by unfold I64; omega)) (show I64 1 from (by unfold I64; omega)) (show I64 8 from (by unfold I64; omega))) ?_
  intro hq1
  refine WX.run ttOk rfl ?_
  refine WX.cases 8 rfl (fun h1 => ?_) (fun h1 => ?_)
  · skip
    have h1d := (B.nt h1)
    refine WX.run ttOk rfl ?_
    have hP1 : spec_ValidPart s = false := by simp only [spec_ValidPart, h1, cond_true, cond_false]
    refine WX.ret ttOk rfl ?_
    intro w1 G bs hI hΓ
    rw [hP1]
    exact ⟨rfl, trivial⟩
  · skip
    have h1d := (B.nf h1)
    have h1r := inR_spec (B.nf h1)
    refine WX.run ttOk rfl ?_
    refine WX.loop (ι := Nat) ⟨fun i => (i ≤ ((s).data.toList).length) ∧ (spec_ValidPart_L1 ((s).data.toList) = spec_ValidPart_L1 (((s).data.toList).drop i)), fun i => ((s).data.toList).length - i, fun i => [(3, .v (.int .i64 (((i : Nat) : Int)))), (0, .v (.string s))], fun i => [], fun i => [], fun i => []⟩ 0 ⟨(Nat.zero_le _), rfl⟩
      (.cons rfl (.cons rfl (.nil))) .nil .nil [] rfl ?_
    rintro i hpre
    have hpre_ : (i ≤ ((s).data.toList).length) ∧ (spec_ValidPart_L1 ((s).data.toList) = spec_ValidPart_L1 (((s).data.toList).drop i)) := hpre
    clear hpre
    obtain ⟨v1, v2⟩ := hpre_
    refine WX.run ttOk rfl ?_
    refine WX.cases 12 rfl (fun h2 => ?_) (fun h2 => ?_)
    · skip
      have h2d := B.dt h2
      have e1i : i < ((s).data.toList).length := (by (have hz_ : ((s).data.toList).length = (s).size := by simp); omega)
      obtain ⟨e1, e1h⟩ : ∃ e1, ((s).data.toList)[i]? = some e1 := ⟨_, List.getElem?_eq_getElem e1i⟩
      refine WX.run ttOk rfl ?_
      refine WX.see rfl rfl rfl (fun _ hΓ => looks_strIdx ttOk rfl rfl rfl rfl rfl e1h) ?_
      refine WX.see rfl rfl rfl (fun _ hΓ => looks_ofU8 ttOk rfl rfl rfl rfl rfl rfl) ?_
      refine WX.run ttOk rfl ?_
      have r2 : (e1).toNat < 256 := UInt8.toNat_lt _
      refine WX.callV rfl rfl rfl rfl rfl (fun _ => rfl) rfl (fun w G bs hI hΓ => f42 w n (by omega) ((e1).toNat : Int) 97 122 (show I64 ((e1).toNat : Int) from (by unfold I64; omega)) (show I64 97 from (by unfold I64; omega)) (show I64 122 from (by unfold I64; omega))) ?_
      intro hq2
      refine WX.run ttOk rfl ?_
      refine WX.cases 22 rfl (fun h3 => ?_) (fun h3 => ?_)
      · skip
        have h3d := (B.nt h3)
        refine WX.run ttOk rfl ?_
        refine WX.callV rfl rfl rfl rfl rfl (fun _ => rfl) rfl (fun w G bs hI hΓ => f42 w n (by omega) ((e1).toNat : Int) 48 57 (show I64 ((e1).toNat : Int) from (by unfold I64; omega)) (show I64 48 from (by unfold I64; omega)) (show I64 57 from (by unfold I64; omega))) ?_
        intro hq3
        refine WX.run ttOk rfl ?_
        refine WX.cases 27 rfl (fun h4 => ?_) (fun h4 => ?_)
        · skip
          have h4d := (B.nt h4)
          refine WX.run ttOk rfl ?_
          refine WX.cases 30 rfl (fun h5 => ?_) (fun h5 => ?_)
          · skip
            have h5d := B.nt' h5
            refine WX.run ttOk rfl ?_
            have hP2 : spec_ValidPart_L1 ((s).data.toList) = (some false) := by rw [v2, drop_get e1h]; simp only [spec_ValidPart_L1, h3, h4, h5, cond_true, cond_false]
            have hP3 : spec_ValidPart s = false := by simp only [spec_ValidPart, h1, hP2, cond_true, cond_false]
            refine WX.ret ttOk rfl ?_
            intro w1 G bs hI hΓ
            rw [hP3]
            exact ⟨rfl, trivial⟩
          · skip
            have h5d := B.nf' h5
            refine WX.run ttOk rfl ?_
            refine WX.see rfl rfl rfl (fun _ hΓ => looks_arith rfl rfl rfl rfl (by unfold I64; first | omega | (simp only [List.length_take, List.length_drop] at *; omega) | (dsimp only; omega))) ?_
            refine WX.run ttOk rfl ?_
            exact WX.iter (i + 1) ⟨(by omega), (by rw [v2, drop_get e1h]; simp only [spec_ValidPart_L1, h3, h4, h5, cond_true, cond_false])⟩ (by first | (dsimp only; omega) | omega) (.cons rfl (.cons rfl (.nil))) .nil .nil [] rfl
        · skip
          have h4d := (B.nf h4)
          have h4r := inR_spec (B.nf h4)
          refine WX.run ttOk rfl ?_
          refine WX.see rfl rfl rfl (fun _ hΓ => looks_arith rfl rfl rfl rfl (by unfold I64; first | omega | (simp only [List.length_take, List.length_drop] at *; omega) | (dsimp only; omega))) ?_
          refine WX.run ttOk rfl ?_
          exact WX.iter (i + 1) ⟨(by omega), (by rw [v2, drop_get e1h]; simp only [spec_ValidPart_L1, h3, h4, cond_true, cond_false])⟩ (by first | (dsimp only; omega) | omega) (.cons rfl (.cons rfl (.nil))) .nil .nil [] rfl
      · skip
        have h3d := (B.nf h3)
        have h3r := inR_spec (B.nf h3)
        refine WX.run ttOk rfl ?_
        refine WX.see rfl rfl rfl (fun _ hΓ => looks_arith rfl rfl rfl rfl (by unfold I64; first | omega | (simp only [List.length_take, List.length_drop] at *; omega) | (dsimp only; omega))) ?_
        refine WX.run ttOk rfl ?_
        exact WX.iter (i + 1) ⟨(by omega), (by rw [v2, drop_get e1h]; simp only [spec_ValidPart_L1, h3, cond_true, cond_false])⟩ (by first | (dsimp only; omega) | omega) (.cons rfl (.cons rfl (.nil))) .nil .nil [] rfl
    · skip
      have h2d := B.df h2
      refine WX.run ttOk rfl ?_
      have hX1 : spec_ValidPart_L1 ((s).data.toList) = none := by rw [v2, List.drop_eq_nil_of_le (show ((s).data.toList).length ≤ i by (have hz_ : ((s).data.toList).length = (s).size := by simp); omega)]; simp only [spec_ValidPart_L1, cond_true, cond_false]
      have hP4 : spec_ValidPart s = true := by simp only [spec_ValidPart, h1, hX1, cond_true, cond_false]
      refine WX.ret ttOk rfl ?_
      intro w1 G bs hI hΓ
      rw [hP4]
      exact ⟨rfl, trivial⟩
theorem f74 (w : World) (n : Nat) (hn : n + 0 ≤ 9) (s : (List Str)) (ps : Option Addr) (cs : Nat) (hps : RdSl (hp w) ps cs s) (fg : FuncId) (fc : List Value) (fq : Str → Bool) (ff : ∀ w1, Kp emp w w1 → ∀ (e0 : Str) (x0 : GoT.X Str), GoT.ok n e0 → All (hp w1) (GoT.fa .der e0 x0) → Does Try.prog fg ([(GoT.sh e0 x0).headD undef] ++ fc).toArray w1 emp (fun rv _ => rv = .bool (fq e0) ∧ True)) (hoks : GoT.ok n s) :
    Does Try.prog 74 #[.slice ps ((s).length) cs, .func (.func fg) #[] fc.toArray] w emp (fun (rv : Value) (_ : World) => rv = .int .i64 ((slices_IndexFunc_string s fq)) ∧ GoT.ok n ((slices_IndexFunc_string s fq) : Int)) := by
  have hbP := bd_pos n
  have hbB := bd_big (n := n) (by omega)
  refine WX.enter (tt := tt) (Γ := [(0, MF.rs .stb ps cs s)]) Try.func74 rfl (by kernel_rfl) rfl (allS_cons rfl hps allS_nil) ?_
  refine WX.run ttOk rfl ?_
  have r1 : (s).length ≤ bd n := (okl hoks).1
  refine WX.loop (ι := Nat) ⟨fun i => (i ≤ (s).length) ∧ (slices_IndexFunc_string_L1 fq s 0 = slices_IndexFunc_string_L1 fq ((s).drop i) i), fun i => (s).length - i, fun i => [(8, .v (.int .i64 (((i : Nat) : Int)))), (7, .v (.int .i64 ((((s).length : Nat) : Int)))), (0, .v (.slice ps ((s).length) cs)), (1, .v (.func (.func fg) #[] fc.toArray))], fun i => [], fun i => [], fun i => [(0, MF.rs .stb ps cs s)]⟩ 0 ⟨(Nat.zero_le _), rfl⟩
    (.cons rfl (.cons rfl (.cons rfl (.cons rfl (.nil))))) .nil .nil [0] rfl ?_
  rintro i hpre
  have hpre_ : (i ≤ (s).length) ∧ (slices_IndexFunc_string_L1 fq s 0 = slices_IndexFunc_string_L1 fq ((s).drop i) i) := hpre
  clear hpre
  obtain ⟨v1, v2⟩ := hpre_
  refine WX.run ttOk rfl ?_
  refine WX.cases 9 rfl (fun h1 => ?_) (fun h1 => ?_)
  · skip
    have h1d := B.dt h1
    have e1i : i < (s).length := (by omega)
    obtain ⟨e1, e1h⟩ : ∃ e1, (s)[i]? = some e1 := ⟨_, List.getElem?_eq_getElem e1i⟩
    have ok1 : GoT.ok n e1 := (okl hoks).2 _ (List.mem_of_getElem? e1h)
    refine WX.run ttOk rfl ?_
    refine WX.idx 0 i ttOk rfl rfl rfl rfl rfl rfl rfl rfl rfl rfl e1i ?_
    rintro ad1 rfl
    refine WX.ldE 0 1 e1 ttOk rfl rfl rfl rfl rfl rfl rfl rfl e1h (fun _ => rfl) (fun _ => rfl) ?_
    rintro ⟨⟩
    refine WX.callV rfl rfl rfl rfl rfl (fun _ => rfl) rfl (fun w G bs hI hΓ => ff w hI.keep e1 () ok1 All.nil) ?_
    intro hq1
    refine WX.run ttOk rfl ?_
    refine WX.cases 16 rfl (fun h2 => ?_) (fun h2 => ?_)
    · skip
      refine WX.run ttOk rfl ?_
      have hP1 : slices_IndexFunc_string_L1 fq s 0 = (some ((i : Nat) : Int)) := by rw [v2, drop_get e1h]; simp only [slices_IndexFunc_string_L1, h2, cond_true, cond_false]
      have hP2 : slices_IndexFunc_string s fq = ((i : Nat) : Int) := by simp only [slices_IndexFunc_string, hP1, cond_true, cond_false]
      refine WX.ret ttOk rfl ?_
      intro w1 G bs hI hΓ
      rw [hP2]
      exact ⟨rfl, (show I64 ((i : Nat) : Int) from (by unfold I64; omega))⟩
    · skip
      refine WX.run ttOk rfl ?_
      refine WX.see rfl rfl rfl (fun _ hΓ => looks_arith rfl rfl rfl rfl (by unfold I64; first | omega | (simp only [List.length_take, List.length_drop] at *; omega) | (dsimp only; omega))) ?_
      refine WX.run ttOk rfl ?_
      exact WX.iter (i + 1) ⟨(by omega), (by rw [v2, drop_get e1h]; simp only [slices_IndexFunc_string_L1, h2, cond_true, cond_false])⟩ (by first | (dsimp only; omega) | omega) (.cons rfl (.cons rfl (.cons rfl (.cons rfl (.nil))))) .nil .nil [0] rfl
  · skip
    have h1d := B.df h1
    refine WX.run ttOk rfl ?_
    have hX1 : slices_IndexFunc_string_L1 fq s 0 = none := by rw [v2, List.drop_eq_nil_of_le (show (s).length ≤ i by omega)]; simp only [slices_IndexFunc_string_L1, cond_true, cond_false]
    have hP3 : slices_IndexFunc_string s fq = (-1) := by simp only [slices_IndexFunc_string, hX1, cond_true, cond_false]
    refine WX.ret ttOk rfl ?_
    intro w1 G bs hI hΓ
    rw [hP3]
    exact ⟨rfl, (show I64 (-1) from (by unfold I64; omega))⟩
theorem ltL_slices_IndexFunc_string : ∀ (f : Str → Bool) (l : List Str) (i : Nat) (j : Int), slices_IndexFunc_string_L1 f l i = some j → j < ((i + l.length : Nat) : Int)
  | f, [], i, j, h => by cases h
  | f, x :: l, i, j, h => by
    simp only [slices_IndexFunc_string_L1] at h
    cases hx : f x
    · rw [hx, cond_false] at h
      have := ltL_slices_IndexFunc_string f l (i + 1) j h
      simp only [List.length_cons]; omega
    · rw [hx, cond_true] at h
      cases h
      simp only [List.length_cons]; omega
theorem ltI_slices_IndexFunc_string (l : List Str) (f : Str → Bool) : slices_IndexFunc_string l f < ((l.length : Nat) : Int) := by
  unfold slices_IndexFunc_string
  cases h : slices_IndexFunc_string_L1 f l 0 with
  | none => show (-1 : Int) < _; omega
  | some j => have := ltL_slices_IndexFunc_string f l 0 j h; show j < _; omega
theorem f65 (w : World) (n : Nat) (hn : n + 0 ≤ 9) (s : (List Str)) (ps : Option Addr) (cs : Nat) (hps : RdSl (hp w) ps cs s) (fg : FuncId) (fc : List Value) (fq : Str → Bool) (ff : ∀ w1, Kp emp w w1 → ∀ (e0 : Str) (x0 : GoT.X Str), GoT.ok n e0 → All (hp w1) (GoT.fa .der e0 x0) → Does Try.prog fg ([(GoT.sh e0 x0).headD undef] ++ fc).toArray w1 emp (fun rv _ => rv = .bool (fq e0) ∧ True)) (hoks : GoT.ok n s) :
    Does Try.prog 65 #[.slice ps ((s).length) cs, .func (.func fg) #[] fc.toArray] w emp (fun (rv : Value) (_ : World) => rv = .bool (slices_ContainsFunc_string s fq) ∧ True) := by
  have hbP := bd_pos n
  have hbB := bd_big (n := n) (by omega)
  refine WX.enter (tt := tt) (Γ := [(0, MF.rs .stb ps cs s)]) Try.func65 rfl (by kernel_rfl) rfl (allS_cons rfl hps allS_nil) ?_
  refine WX.run ttOk rfl ?_
  refine WX.callV rfl rfl rfl rfl rfl (fun _ => rfl) rfl (fun w G bs hI hΓ => f74 w n (by omega) s ps cs (hΓ.get 0 rfl) fg fc fq (fun w1_ hb_ => ff w1_ (hI.keep.trans hb_)) hoks) ?_
  intro hq1
  have q1 := ltI_slices_IndexFunc_string s fq
  refine WX.run ttOk rfl ?_
  have hP1 : slices_ContainsFunc_string s fq = (decide ((slices_IndexFunc_string s fq) ≥ 0)) := by simp only [slices_ContainsFunc_string, cond_true, cond_false]
  refine WX.ret ttOk rfl ?_
  intro w1 G bs hI hΓ
  rw [hP1]
  exact ⟨rfl, trivial⟩
theorem f66 (w : World) (n : Nat) (hn : n + 0 ≤ 9) (p_ : Str) (hokp_ : GoT.ok n p_) :
    Does Try.prog 66 #[.string p_] w emp (fun (rv : Value) (_ : World) => rv = .bool (impl_ValidName_c1 p_) ∧ True) := by
  have hbP := bd_pos n
  have hbB := bd_big (n := n) (by omega)
  refine WX.enter (tt := tt) (Γ := []) Try.func66 rfl (by kernel_rfl) rfl allS_nil ?_
  refine WX.run ttOk rfl ?_
  refine WX.callV rfl rfl rfl rfl rfl (fun _ => rfl) rfl (fun w G bs hI hΓ => f67 w n (by omega) p_ hokp_) ?_
  intro hq1
  refine WX.run ttOk rfl ?_
  have hP1 : impl_ValidName_c1 p_ = (!(impl_ValidPart p_)) := by simp only [impl_ValidName_c1, cond_true, cond_false]
  refine WX.ret ttOk rfl ?_
  intro w1 G bs hI hΓ
  rw [hP1]
  exact ⟨rfl, trivial⟩
theorem f52 (w : World) (n : Nat) (hn : n + 0 ≤ 9) (n_ : Name) (pn_ : Option Addr) (cn_ : Nat) (hpn_ : RdSl (hp w) pn_ cn_ n_.parts) (hokn_ : GoT.ok n n_) :
    Does Try.prog 52 #[.agg #[.slice pn_ ((n_.parts).length) cn_]] w emp (fun (rv : Value) (_ : World) => rv = .bool (impl_ValidName n_) ∧ True) := by
  have hbP := bd_pos n
  have hbB := bd_big (n := n) (by omega)
  refine WX.enter (tt := tt) (Γ := [(0, MF.rs .stb pn_ cn_ n_.parts)]) Try.func52 rfl (by kernel_rfl) rfl (allS_cons rfl hpn_ allS_nil) ?_
  refine WX.run ttOk rfl ?_
  refine WX.cases 7 rfl (fun h1 => ?_) (fun h1 => ?_)
  · skip
    have h1d := B.dt h1
    refine WX.run ttOk rfl ?_
    refine WX.callV rfl rfl rfl rfl rfl (fun _ => rfl) rfl (fun w G bs hI hΓ => f65 w n (by omega) n_.parts pn_ cn_ (hΓ.get 0 rfl) 66 [] (fun e0_ => (impl_ValidName_c1 e0_)) (fun w1_ hb_ e0_ x0_ hk0_ hx0_ => f66 w1_ n (by omega) e0_ hk0_) (ok_Name hokn_)) ?_
    intro hq1
    refine WX.run ttOk rfl ?_
    have hP1 : impl_ValidName n_ = (!(slices_ContainsFunc_string n_.parts (fun e0_ => (impl_ValidName_c1 e0_)))) := by simp only [impl_ValidName, h1, cond_true, cond_false]
    refine WX.ret ttOk rfl ?_
    intro w1 G bs hI hΓ
    rw [hP1]
    exact ⟨rfl, trivial⟩
  · skip
    have h1d := B.df h1
    refine WX.run ttOk rfl ?_
    have hP2 : impl_ValidName n_ = false := by simp only [impl_ValidName, h1, cond_true, cond_false]
    refine WX.ret ttOk rfl ?_
    intro w1 G bs hI hΓ
    rw [hP2]
    exact ⟨rfl, trivial⟩
theorem f44 (w : World) (n : Nat) (hn : n + 0 ≤ 9) (n_ : Name) (pn_ : Option Addr) (cn_ : Nat) (hpn_ : RdSl (hp w) pn_ cn_ n_.parts) (hokn_ : GoT.ok n n_) :
    Does Try.prog 44 #[.agg #[.slice pn_ ((n_.parts).length) cn_]] w emp (fun (rv : Value) (_ : World) => rv = .bool (spec_ValidName n_) ∧ True) := by
  have hbP := bd_pos n
  have hbB := bd_big (n := n) (by omega)
  refine WX.enter (tt := tt) (Γ := [(0, MF.rs .stb pn_ cn_ n_.parts)]) Try.func44 rfl (by kernel_rfl) rfl (allS_cons rfl hpn_ allS_nil) ?_
  refine WX.run ttOk rfl ?_
  have r1 : (n_.parts).length ≤ bd n := (okl (ok_Name hokn_)).1
  refine WX.loop (ι := Nat) ⟨fun i => (i ≤ (n_.parts).length) ∧ (spec_ValidName_L1 n_.parts = spec_ValidName_L1 ((n_.parts).drop i)), fun i => (n_.parts).length - i, fun i => [(3, .v (.int .i64 (((i : Nat) : Int)))), (1, .p 1 0)], fun i => [(1, ⟨53, [.slice pn_ ((n_.parts).length) cn_]⟩)], fun i => [], fun i => [(0, MF.rs .stb pn_ cn_ n_.parts)]⟩ 0 ⟨(Nat.zero_le _), rfl⟩
    (.cons rfl (.cons rfl (.nil))) (.cons rfl (.nil)) .nil [0] rfl ?_
  rintro i hpre
  have hpre_ : (i ≤ (n_.parts).length) ∧ (spec_ValidName_L1 n_.parts = spec_ValidName_L1 ((n_.parts).drop i)) := hpre
  clear hpre
  obtain ⟨v1, v2⟩ := hpre_
  refine WX.run ttOk rfl ?_
  refine WX.cases 8 rfl (fun h1 => ?_) (fun h1 => ?_)
  · skip
    have h1d := B.dt h1
    have e1i : i < (n_.parts).length := (by omega)
    obtain ⟨e1, e1h⟩ : ∃ e1, (n_.parts)[i]? = some e1 := ⟨_, List.getElem?_eq_getElem e1i⟩
    have ok1 : GoT.ok n e1 := (okl (ok_Name hokn_)).2 _ (List.mem_of_getElem? e1h)
    refine WX.run ttOk rfl ?_
    refine WX.idx 0 i ttOk rfl rfl rfl rfl rfl rfl rfl rfl rfl rfl e1i ?_
    rintro ad1 rfl
    refine WX.ldE 0 1 e1 ttOk rfl rfl rfl rfl rfl rfl rfl rfl e1h (fun _ => rfl) (fun _ => rfl) ?_
    rintro ⟨⟩
    refine WX.callV rfl rfl rfl rfl rfl (fun _ => rfl) rfl (fun w G bs hI hΓ => f61 w n (by omega) e1 ok1) ?_
    intro hq1
    refine WX.run ttOk rfl ?_
    refine WX.cases 17 rfl (fun h2 => ?_) (fun h2 => ?_)
    · skip
      have h2d := (B.nt h2)
      refine WX.run ttOk rfl ?_
      have hP1 : spec_ValidName_L1 n_.parts = (some false) := by rw [v2, drop_get e1h]; simp only [spec_ValidName_L1, h2, cond_true, cond_false]
      have hP2 : spec_ValidName n_ = false := by simp only [spec_ValidName, hP1, cond_true, cond_false]
      refine WX.ret ttOk rfl ?_
      intro w1 G bs hI hΓ
      rw [hP2]
      exact ⟨rfl, trivial⟩
    · skip
      have h2d := (B.nf h2)
      refine WX.run ttOk rfl ?_
      refine WX.see rfl rfl rfl (fun _ hΓ => looks_arith rfl rfl rfl rfl (by unfold I64; first | omega | (simp only [List.length_take, List.length_drop] at *; omega) | (dsimp only; omega))) ?_
      refine WX.run ttOk rfl ?_
      exact WX.iter (i + 1) ⟨(by omega), (by rw [v2, drop_get e1h]; simp only [spec_ValidName_L1, h2, cond_true, cond_false])⟩ (by first | (dsimp only; omega) | omega) (.cons rfl (.cons rfl (.nil))) (.cons rfl (.nil)) .nil [0] rfl
  · skip
    have h1d := B.df h1
    refine WX.run ttOk rfl ?_
    have hX1 : spec_ValidName_L1 n_.parts = none := by rw [v2, List.drop_eq_nil_of_le (show (n_.parts).length ≤ i by omega)]; simp only [spec_ValidName_L1, cond_true, cond_false]
    have hP3 : spec_ValidName n_ = (decide ((((n_.parts).length : Nat) : Int) ≤ 6)) := by simp only [spec_ValidName, hX1, cond_true, cond_false]
    refine WX.ret ttOk rfl ?_
    intro w1 G bs hI hΓ
    rw [hP3]
    exact ⟨rfl, trivial⟩
end Go.Proofs.Ytfffongneoegbaa

namespace Go.Stp
set_option linter.unusedVariables false
set_option linter.unusedSimpArgs false
def cmp_isNaN_string (x_ : Str) : Bool :=
  (!((x_).toList == (x_).toList))
def cmp_Compare_string (x_ : Str) (y : Str) : Int :=
  bif (cmp_isNaN_string x_) then
    bif (cmp_isNaN_string y) then
      0
    else
      (-1)
  else
    bif (cmp_isNaN_string y) then
      1
    else
      bif (Op.bytesLess (x_).toList (y).toList) then
        (-1)
      else
        bif (!(Op.bytesLess (x_).toList (y).toList || (x_).toList == (y).toList)) then
          1
        else
          0
def slices_Compare_string_L1 (s2 : (List Str)) : List Str → Nat → Option (Int)
  | [], i => none
  | e1 :: rest_, i =>
    bif decide (((i : Nat) : Int) ≥ (((s2).length : Nat) : Int)) then
      (some 1)
    else
      match (s2)[i]? with
        | none => default
        | some e2 =>
          bif ((cmp_Compare_string e1 e2) != 0) then
            (some (cmp_Compare_string e1 e2))
          else
            slices_Compare_string_L1 s2 rest_ (i + 1)
def slices_Compare_string (s1 : (List Str)) (s2 : (List Str)) : Int :=
  match slices_Compare_string_L1 s2 s1 0 with
    | some r_ => r_
    | none =>
      bif decide ((((s1).length : Nat) : Int) < (((s2).length : Nat) : Int)) then
        (-1)
      else
        0
def impl_CompareNames (a : Name) (b : Name) : Int :=
  (slices_Compare_string a.parts b.parts)
def impl_ValidTable_L1 (l : (List TableEntry)) : List TableEntry → Nat → Option (Bool)
  | [], i => none
  | e1 :: rest_, i =>
    bif (!(impl_ValidName e1.name)) then
      (some false)
    else
      bif decide (((i : Nat) : Int) > 0) then
        match (l)[(((i : Nat) : Int) - 1).toNat]? with
          | none => default
          | some e2 =>
            bif decide ((impl_CompareNames e2.name e1.name) ≥ 0) then
              (some false)
            else
              impl_ValidTable_L1 l rest_ (i + 1)
      else
        impl_ValidTable_L1 l rest_ (i + 1)
def impl_ValidTable (l : (List TableEntry)) : Bool :=
  match impl_ValidTable_L1 l l 0 with
    | some r_ => r_
    | none =>
      (decide ((((l).length : Nat) : Int) ≤ 20))
def spec_ValidTable_L1 (l : (List TableEntry)) : List TableEntry → Nat → Option (Bool)
  | [], i => none
  | e1 :: rest_, i =>
    bif (!(spec_ValidName e1.name)) then
      (some false)
    else
      bif decide (((i : Nat) : Int) > 0) then
        match (l)[(((i : Nat) : Int) - 1).toNat]? with
          | none => default
          | some e2 =>
            bif decide ((spec_CompareNames e2.name e1.name) ≥ 0) then
              (some false)
            else
              spec_ValidTable_L1 l rest_ (i + 1)
      else
        spec_ValidTable_L1 l rest_ (i + 1)
def spec_ValidTable (l : (List TableEntry)) : Bool :=
  match spec_ValidTable_L1 l l 0 with
    | some r_ => r_
    | none =>
      (decide ((((l).length : Nat) : Int) ≤ 20))
def slices_IndexFunc_TableEntry_L1 (fq : TableEntry → Bool) : List TableEntry → Nat → Option (Int)
  | [], i => none
  | e1 :: rest_, i =>
    bif fq e1 then
      (some ((i : Nat) : Int))
    else
      slices_IndexFunc_TableEntry_L1 fq rest_ (i + 1)
def slices_IndexFunc_TableEntry (s : (List TableEntry)) (fq : TableEntry → Bool) : Int :=
  match slices_IndexFunc_TableEntry_L1 fq s 0 with
    | some r_ => r_
    | none =>
      (-1)
def slices_ContainsFunc_TableEntry (s : (List TableEntry)) (fq : TableEntry → Bool) : Bool :=
  (decide ((slices_IndexFunc_TableEntry s fq) ≥ 0))
def impl_ValidVector_c1 (e_ : TableEntry) : Bool :=
  (!(impl_InRange e_.value 1 1000))
def impl_ValidVector (v : StateVector) : Bool :=
  bif (impl_ValidTable v.entries) then
    (!(slices_ContainsFunc_TableEntry v.entries (fun e0_ => (impl_ValidVector_c1 e0_))))
  else
    false
def spec_ValidVector_L1 : List TableEntry → Option (Bool)
  | [] => none
  | e1 :: rest_ =>
    bif (!(spec_l1In e1.value 1 1000)) then
      (some false)
    else
      spec_ValidVector_L1 rest_
def spec_ValidVector (v : StateVector) : Bool :=
  match spec_ValidVector_L1 v.entries with
    | some r_ => r_
    | none =>
      (spec_ValidTable v.entries)
end Go.Stp

namespace Go.Proofs.Ytfffongneoegbaa
open Go.Stp
set_option linter.unusedVariables false
set_option linter.unusedSimpArgs false
theorem f77 (w : World) (n : Nat) (hn : n + 0 ≤ 9) (x_ : Str) (hokx_ : GoT.ok n x_) :
    Does Try.prog 77 #[.string x_] w emp (fun (rv : Value) (_ : World) => rv = .bool (cmp_isNaN_string x_) ∧ True) := by
  refine WX.enter (tt := tt) (Γ := []) Try.func77 rfl (by kernel_rfl) rfl allS_nil ?_
  refine WX.run ttOk rfl ?_
  have hP1 : cmp_isNaN_string x_ = (!((x_).toList == (x_).toList)) := by simp only [cmp_isNaN_string, cond_true, cond_false]
  refine WX.ret ttOk rfl ?_
  intro w1 G bs hI hΓ
  rw [hP1]
  exact ⟨rfl, trivial⟩
theorem f76 (w : World) (n : Nat) (hn : n + 0 ≤ 9) (x_ : Str) (y : Str) (hokx_ : GoT.ok n x_) (hoky : GoT.ok n y) :
    Does Try.prog 76 #[.string x_, .string y] w emp (fun (rv : Value) (_ : World) => rv = .int .i64 ((cmp_Compare_string x_ y)) ∧ GoT.ok n ((cmp_Compare_string x_ y) : Int)) := by
  have hbP := bd_pos n
  have hbB := bd_big (n := n) (by omega)
  refine WX.enter (tt := tt) (Γ := []) Try.func76 rfl (by kernel_rfl) rfl allS_nil ?_
  refine WX.run ttOk rfl ?_
  refine WX.callV rfl rfl rfl rfl rfl (fun _ => rfl) rfl (fun w G bs hI hΓ => f77 w n (by omega) x_ hokx_) ?_
  intro hq1
  refine WX.run ttOk rfl ?_
  refine WX.callV rfl rfl rfl rfl rfl (fun _ => rfl) rfl (fun w G bs hI hΓ => f77 w n (by omega) y hoky) ?_
  intro hq2
  refine WX.run ttOk rfl ?_
  refine WX.cases 11 rfl (fun h1 => ?_) (fun h1 => ?_)
  · skip
    refine WX.run ttOk rfl ?_
    refine WX.cases 12 rfl (fun h2 => ?_) (fun h2 => ?_)
    · skip
      refine WX.run ttOk rfl ?_
      have hP1 : cmp_Compare_string x_ y = 0 := by simp only [cmp_Compare_string, h1, h2, cond_true, cond_false]
      refine WX.ret ttOk rfl ?_
      intro w1 G bs hI hΓ
      rw [hP1]
      exact ⟨rfl, (show I64 0 from (by unfold I64; omega))⟩
    · skip
      refine WX.run ttOk rfl ?_
      have hP2 : cmp_Compare_string x_ y = (-1) := by simp only [cmp_Compare_string, h1, h2, cond_true, cond_false]
      refine WX.ret ttOk rfl ?_
      intro w1 G bs hI hΓ
      rw [hP2]
      exact ⟨rfl, (show I64 (-1) from (by unfold I64; omega))⟩
  · skip
    refine WX.run ttOk rfl ?_
    refine WX.cases 13 rfl (fun h3 => ?_) (fun h3 => ?_)
    · skip
      refine WX.run ttOk rfl ?_
      have hP3 : cmp_Compare_string x_ y = 1 := by simp only [cmp_Compare_string, h1, h3, cond_true, cond_false]
      refine WX.ret ttOk rfl ?_
      intro w1 G bs hI hΓ
      rw [hP3]
      exact ⟨rfl, (show I64 1 from (by unfold I64; omega))⟩
    · skip
      refine WX.run ttOk rfl ?_
      refine WX.cases 16 rfl (fun h4 => ?_) (fun h4 => ?_)
      · skip
        refine WX.run ttOk rfl ?_
        have hP4 : cmp_Compare_string x_ y = (-1) := by simp only [cmp_Compare_string, h1, h3, h4, cond_true, cond_false]
        refine WX.ret ttOk rfl ?_
        intro w1 G bs hI hΓ
        rw [hP4]
        exact ⟨rfl, (show I64 (-1) from (by unfold I64; omega))⟩
      · skip
        refine WX.run ttOk rfl ?_
        refine WX.cases 19 rfl (fun h5 => ?_) (fun h5 => ?_)
        · skip
          refine WX.run ttOk rfl ?_
          have hP5 : cmp_Compare_string x_ y = 1 := by first | (simp only [cmp_Compare_string, h1, h3, h4, h5, cond_true, cond_false]; done) | (unfold cmp_Compare_string; rw [h5, h4, h3, h1]; simp only [cond_true, cond_false])
          refine WX.ret ttOk rfl ?_
          intro w1 G bs hI hΓ
          rw [hP5]
          exact ⟨rfl, (show I64 1 from (by unfold I64; omega))⟩
        · skip
          refine WX.run ttOk rfl ?_
          have hP6 : cmp_Compare_string x_ y = 0 := by first | (simp only [cmp_Compare_string, h1, h3, h4, h5, cond_true, cond_false]; done) | (unfold cmp_Compare_string; rw [h5, h4, h3, h1]; simp only [cond_true, cond_false])
          refine WX.ret ttOk rfl ?_
          intro w1 G bs hI hΓ
          rw [hP6]
          exact ⟨rfl, (show I64 0 from (by unfold I64; omega))⟩
theorem f73 (w : World) (n : Nat) (hn : n + 0 ≤ 9) (s1 : (List Str)) (ps1 : Option Addr) (cs1 : Nat) (hps1 : RdSl (hp w) ps1 cs1 s1) (s2 : (List Str)) (ps2 : Option Addr) (cs2 : Nat) (hps2 : RdSl (hp w) ps2 cs2 s2) (hoks1 : GoT.ok n s1) (hoks2 : GoT.ok n s2) :
    Does Try.prog 73 #[.slice ps1 ((s1).length) cs1, .slice ps2 ((s2).length) cs2] w emp (fun (rv : Value) (_ : World) => rv = .int .i64 ((slices_Compare_string s1 s2)) ∧ GoT.ok n ((slices_Compare_string s1 s2) : Int)) := by
  have hbP := bd_pos n
  have hbB := bd_big (n := n) (by omega)
  refine WX.enter (tt := tt) (Γ := [(0, MF.rs .stb ps1 cs1 s1), (1, MF.rs .stb ps2 cs2 s2)]) Try.func73 rfl (by kernel_rfl) rfl (allS_cons rfl hps1 (allS_cons rfl hps2 allS_nil)) ?_
  refine WX.run ttOk rfl ?_
  have r1 : (s1).length ≤ bd n := (okl hoks1).1
  refine WX.loop (ι := Nat) ⟨fun i => (i ≤ (s1).length) ∧ (slices_Compare_string_L1 s2 s1 0 = slices_Compare_string_L1 s2 ((s1).drop i) i), fun i => (s1).length - i, fun i => [(11, .v (.int .i64 (((i : Nat) : Int)))), (10, .v (.int .i64 ((((s1).length : Nat) : Int)))), (9, .v (.slice ps1 ((s1).length) cs1)), (0, .v (.slice ps1 ((s1).length) cs1)), (1, .v (.slice ps2 ((s2).length) cs2))], fun i => [], fun i => [], fun i => [(0, MF.rs .stb ps1 cs1 s1), (1, MF.rs .stb ps2 cs2 s2)]⟩ 0 ⟨(Nat.zero_le _), rfl⟩
    (.cons rfl (.cons rfl (.cons rfl (.cons rfl (.cons rfl (.nil)))))) .nil .nil [0, 1] rfl ?_
  rintro i hpre
  have hpre_ : (i ≤ (s1).length) ∧ (slices_Compare_string_L1 s2 s1 0 = slices_Compare_string_L1 s2 ((s1).drop i) i) := hpre
  clear hpre
  obtain ⟨v1, v2⟩ := hpre_
  refine WX.run ttOk rfl ?_
  refine WX.cases 12 rfl (fun h1 => ?_) (fun h1 => ?_)
  · skip
    have h1d := B.dt h1
    have e1i : i < (s1).length := (by omega)
    obtain ⟨e1, e1h⟩ : ∃ e1, (s1)[i]? = some e1 := ⟨_, List.getElem?_eq_getElem e1i⟩
    have ok1 : GoT.ok n e1 := (okl hoks1).2 _ (List.mem_of_getElem? e1h)
    refine WX.run ttOk rfl ?_
    refine WX.idx 0 i ttOk rfl rfl rfl rfl rfl rfl rfl rfl rfl rfl e1i ?_
    rintro ad1 rfl
    refine WX.ldE 0 2 e1 ttOk rfl rfl rfl rfl rfl rfl rfl rfl e1h (fun _ => rfl) (fun _ => rfl) ?_
    rintro ⟨⟩
    refine WX.run ttOk rfl ?_
    refine WX.cases 19 rfl (fun h2 => ?_) (fun h2 => ?_)
    · skip
      have h2d := B.dt h2
      refine WX.run ttOk rfl ?_
      have hP1 : slices_Compare_string_L1 s2 s1 0 = (some 1) := by rw [v2, drop_get e1h]; simp only [slices_Compare_string_L1, h2, cond_true, cond_false]
      have hP2 : slices_Compare_string s1 s2 = 1 := by simp only [slices_Compare_string, hP1, cond_true, cond_false]
      refine WX.ret ttOk rfl ?_
      intro w1 G bs hI hΓ
      rw [hP2]
      exact ⟨rfl, (show I64 1 from (by unfold I64; omega))⟩
    · skip
      have h2d := B.df h2
      refine WX.run ttOk rfl ?_
      have e2i : i < (s2).length := (by first | assumption | omega)
      obtain ⟨e2, e2h⟩ : ∃ e2, (s2)[i]? = some e2 := ⟨_, List.getElem?_eq_getElem e2i⟩
      have ok2 : GoT.ok n e2 := (okl hoks2).2 _ (List.mem_of_getElem? e2h)
      refine WX.idx 1 i ttOk rfl rfl rfl rfl rfl rfl rfl rfl rfl rfl e2i ?_
      rintro ad2 rfl
      refine WX.ldE 1 2 e2 ttOk rfl rfl rfl rfl rfl rfl rfl rfl e2h (fun _ => rfl) (fun _ => rfl) ?_
      rintro ⟨⟩
      refine WX.run ttOk rfl ?_
      refine WX.callV rfl rfl rfl rfl rfl (fun _ => rfl) rfl (fun w G bs hI hΓ => f76 w n (by omega) e1 e2 ok1 ok2) ?_
      intro hq1
      refine WX.run ttOk rfl ?_
      refine WX.cases 28 rfl (fun h3 => ?_) (fun h3 => ?_)
      · skip
        have h3d := B.nt' h3
        refine WX.run ttOk rfl ?_
        have hP3 : slices_Compare_string_L1 s2 s1 0 = (some (cmp_Compare_string e1 e2)) := by rw [v2, drop_get e1h]; simp only [slices_Compare_string_L1, h2, e2h, h3, cond_true, cond_false]
        have hP4 : slices_Compare_string s1 s2 = (cmp_Compare_string e1 e2) := by simp only [slices_Compare_string, hP3, cond_true, cond_false]
        refine WX.ret ttOk rfl ?_
        intro w1 G bs hI hΓ
        rw [hP4]
        exact ⟨rfl, hq1⟩
      · skip
        have h3d := B.nf' h3
        refine WX.run ttOk rfl ?_
        refine WX.see rfl rfl rfl (fun _ hΓ => looks_arith rfl rfl rfl rfl (by unfold I64; first | omega | (simp only [List.length_take, List.length_drop] at *; omega) | (dsimp only; omega))) ?_
        refine WX.run ttOk rfl ?_
        exact WX.iter (i + 1) ⟨(by omega), (by rw [v2, drop_get e1h]; simp only [slices_Compare_string_L1, h2, e2h, h3, cond_true, cond_false])⟩ (by first | (dsimp only; omega) | omega) (.cons rfl (.cons rfl (.cons rfl (.cons rfl (.cons rfl (.nil)))))) .nil .nil [0, 1] rfl
  · skip
    have h1d := B.df h1
    refine WX.run ttOk rfl ?_
    have hX1 : slices_Compare_string_L1 s2 s1 0 = none := by rw [v2, List.drop_eq_nil_of_le (show (s1).length ≤ i by omega)]; simp only [slices_Compare_string_L1, cond_true, cond_false]
    refine WX.cases 35 rfl (fun h4 => ?_) (fun h4 => ?_)
    · skip
      have h4d := B.dt h4
      refine WX.run ttOk rfl ?_
      have hP5 : slices_Compare_string s1 s2 = (-1) := by simp only [slices_Compare_string, hX1, h4, cond_true, cond_false]
      refine WX.ret ttOk rfl ?_
      intro w1 G bs hI hΓ
      rw [hP5]
      exact ⟨rfl, (show I64 (-1) from (by unfold I64; omega))⟩
    · skip
      have h4d := B.df h4
      refine WX.run ttOk rfl ?_
      have hP6 : slices_Compare_string s1 s2 = 0 := by simp only [slices_Compare_string, hX1, h4, cond_true, cond_false]
      refine WX.ret ttOk rfl ?_
      intro w1 G bs hI hΓ
      rw [hP6]
      exact ⟨rfl, (show I64 0 from (by unfold I64; omega))⟩
theorem f63 (w : World) (n : Nat) (hn : n + 0 ≤ 9) (a : Name) (pa : Option Addr) (ca : Nat) (hpa : RdSl (hp w) pa ca a.parts) (b : Name) (pb : Option Addr) (cb : Nat) (hpb : RdSl (hp w) pb cb b.parts) (hoka : GoT.ok n a) (hokb : GoT.ok n b) :
    Does Try.prog 63 #[.agg #[.slice pa ((a.parts).length) ca], .agg #[.slice pb ((b.parts).length) cb]] w emp (fun (rv : Value) (_ : World) => rv = .int .i64 ((impl_CompareNames a b)) ∧ GoT.ok n ((impl_CompareNames a b) : Int)) := by
  have hbP := bd_pos n
  have hbB := bd_big (n := n) (by omega)
  refine WX.enter (tt := tt) (Γ := [(0, MF.rs .stb pa ca a.parts), (1, MF.rs .stb pb cb b.parts)]) Try.func63 rfl (by kernel_rfl) rfl (allS_cons rfl hpa (allS_cons rfl hpb allS_nil)) ?_
  refine WX.run ttOk rfl ?_
  refine WX.callV rfl rfl rfl rfl rfl (fun _ => rfl) rfl (fun w G bs hI hΓ => f73 w n (by omega) a.parts pa ca (hΓ.get 0 rfl) b.parts pb cb (hΓ.get 1 rfl) (ok_Name hoka) (ok_Name hokb)) ?_
  intro hq1
  refine WX.run ttOk rfl ?_
  have hP1 : impl_CompareNames a b = (slices_Compare_string a.parts b.parts) := by simp only [impl_CompareNames, cond_true, cond_false]
  refine WX.ret ttOk rfl ?_
  intro w1 G bs hI hΓ
  rw [hP1]
  exact ⟨rfl, hq1⟩
theorem f47 (w : World) (n : Nat) (hn : n + 0 ≤ 9) (l : (List TableEntry)) (pl : Option Addr) (cl : Nat) (hpl : RdSl (hp w) pl cl l) (hokl : GoT.ok n l) :
    Does Try.prog 47 #[.slice pl ((l).length) cl] w emp (fun (rv : Value) (_ : World) => rv = .bool (impl_ValidTable l) ∧ True) := by
  have hbP := bd_pos n
  have hbB := bd_big (n := n) (by omega)
  refine WX.enter (tt := tt) (Γ := [(0, MF.rs .stb pl cl l)]) Try.func47 rfl (by kernel_rfl) rfl (allS_cons rfl hpl allS_nil) ?_
  refine WX.run ttOk rfl ?_
  have r1 : (l).length ≤ bd n := (okl hokl).1
  refine WX.loop (ι := Nat) ⟨fun i => (i ≤ (l).length) ∧ (impl_ValidTable_L1 l l 0 = impl_ValidTable_L1 l ((l).drop i) i), fun i => (l).length - i, fun i => [(7, .v (.int .i64 (((i : Nat) : Int)))), (6, .v (.int .i64 ((((l).length : Nat) : Int)))), (5, .v (.slice pl ((l).length) cl)), (0, .v (.slice pl ((l).length) cl))], fun i => [], fun i => [], fun i => [(0, MF.rs .stb pl cl l)]⟩ 0 ⟨(Nat.zero_le _), rfl⟩
    (.cons rfl (.cons rfl (.cons rfl (.cons rfl (.nil))))) .nil .nil [0] rfl ?_
  rintro i hpre
  have hpre_ : (i ≤ (l).length) ∧ (impl_ValidTable_L1 l l 0 = impl_ValidTable_L1 l ((l).drop i) i) := hpre
  clear hpre
  obtain ⟨v1, v2⟩ := hpre_
  refine WX.run ttOk rfl ?_
  refine WX.cases 8 rfl (fun h1 => ?_) (fun h1 => ?_)
  · skip
    have h1d := B.dt h1
    have e1i : i < (l).length := (by omega)
    obtain ⟨e1, e1h⟩ : ∃ e1, (l)[i]? = some e1 := ⟨_, List.getElem?_eq_getElem e1i⟩
    have ok1 : GoT.ok n e1 := (okl hokl).2 _ (List.mem_of_getElem? e1h)
    refine WX.run ttOk rfl ?_
    refine WX.idx 0 i ttOk rfl rfl rfl rfl rfl rfl rfl rfl rfl rfl e1i ?_
    rintro ad1 rfl
    refine WX.ldE 0 1 e1 ttOk rfl rfl rfl rfl rfl rfl rfl rfl e1h (fun _ => rfl) (fun _ => rfl) ?_
    rintro ⟨⟨p1, c1⟩, ⟨⟩⟩
    refine WX.run ttOk rfl ?_
    refine WX.draw [] mixed ?_
    intro bs G0 hΓ0
    refine DX.takes (fuel := 18) ttOk [(0, true), (1, false)] (by kernel_rfl) rfl ?_
    refine DX.callV 2 rfl (by kernel_rfl) rfl rfl rfl rfl rfl rfl (fun _ => rfl) rfl (fun w G bs hI hΓ => f52 w n (by omega) e1.name p1 c1 (hΓ.get 1 rfl) ((ok_TableEntry ok1).1)) ?_
    intro hq1
    refine DX.takes (fuel := 15) ttOk [(3, true), (4, true)] (by kernel_rfl) rfl ?_
    refine DX.cases 16 rfl (fun h2 => ?_) (fun h2 => ?_)
    · skip
      have h2d := (B.nt h2)
      refine DX.takes (fuel := 0) ttOk [(5, true), (6, true), (7, true), (8, true), (9, true), (10, true), (11, true), (12, true), (13, true), (14, true), (15, true), (16, true), (17, true), (18, true), (19, true)] (by kernel_rfl) rfl ?_
      refine DX.tail2 [] rfl rfl (by kernel_rfl) ?_
      refine WX.run ttOk rfl ?_
      have hP1 : impl_ValidTable_L1 l l 0 = (some false) := by rw [v2, drop_get e1h]; simp only [impl_ValidTable_L1, h2, cond_true, cond_false]
      have hP2 : impl_ValidTable l = false := by simp only [impl_ValidTable, hP1, cond_true, cond_false]
      refine WX.ret ttOk rfl ?_
      intro w1 G bs hI hΓ
      rw [hP2]
      exact ⟨rfl, trivial⟩
    · skip
      have h2d := (B.nf h2)
      refine DX.takes (fuel := 12) ttOk [(5, true), (6, true), (7, true)] (by kernel_rfl) rfl ?_
      refine DX.cases 19 rfl (fun h3 => ?_) (fun h3 => ?_)
      · skip
        have h3d := B.dt h3
        refine DX.takes (fuel := 10) ttOk [(8, true), (9, true)] (by kernel_rfl) rfl ?_
        refine DX.seeP 10 (by kernel_rfl) rfl rfl rfl rfl (looksP_arith rfl rfl rfl rfl (by unfold I64; first | omega | (simp only [List.length_take, List.length_drop] at *; omega) | (dsimp only; omega))) ?_
        refine DX.slot 22 (y := .v (.int .i64 (((((i : Nat) : Int) - 1).toNat : Nat) : Int))) rfl (fun _ => congrArg (Value.int .i64) (show ((i : Nat) : Int) - 1 = (((((i : Nat) : Int) - 1).toNat : Nat) : Int) from by omega)) ?_
        have e2i : (((i : Nat) : Int) - 1).toNat < (l).length := (by first | assumption | omega)
        obtain ⟨e2, e2h⟩ : ∃ e2, (l)[(((i : Nat) : Int) - 1).toNat]? = some e2 := ⟨_, List.getElem?_eq_getElem e2i⟩
        have ok2 : GoT.ok n e2 := (okl hokl).2 _ (List.mem_of_getElem? e2h)
        refine DX.idx 11 0 ((((i : Nat) : Int) - 1).toNat) ttOk hΓ0 (by kernel_rfl) rfl rfl rfl rfl rfl rfl rfl rfl rfl rfl rfl e2i ?_
        rintro ad2 ⟨⟩
        refine DX.takes (fuel := 7) ttOk [(12, true)] (by kernel_rfl) rfl ?_
        refine DX.ldE 13 0 2 e2 ttOk hΓ0 (by kernel_rfl) rfl rfl rfl rfl rfl rfl rfl rfl e2h (fun _ => rfl) (fun _ => rfl) ?_
        rintro ⟨⟨p2, c2⟩, ⟨⟩⟩
        refine DX.takes (fuel := 4) ttOk [(14, true), (15, false)] (by kernel_rfl) rfl ?_
        refine DX.callV 16 rfl (by kernel_rfl) rfl rfl rfl rfl rfl rfl (fun _ => rfl) rfl (fun w G bs hI hΓ => f63 w n (by omega) e2.name p2 c2 (hΓ.get 2 rfl) e1.name p1 c1 (hΓ.get 1 rfl) ((ok_TableEntry ok2).1) ((ok_TableEntry ok1).1)) ?_
        intro hq2
        refine DX.takes (fuel := 0) ttOk [(17, true), (18, true), (19, true)] (by kernel_rfl) rfl ?_
        refine DX.tail2 [] rfl rfl (by kernel_rfl) ?_
        refine WX.run ttOk rfl ?_
        refine WX.cases 31 rfl (fun h4 => ?_) (fun h4 => ?_)
        · skip
          have h4d := B.dt h4
          refine WX.run ttOk rfl ?_
          have hP3 : impl_ValidTable_L1 l l 0 = (some false) := by rw [v2, drop_get e1h]; simp only [impl_ValidTable_L1, h2, h3, e2h, h4, cond_true, cond_false]
          have hP4 : impl_ValidTable l = false := by simp only [impl_ValidTable, hP3, cond_true, cond_false]
          refine WX.ret ttOk rfl ?_
          intro w1 G bs hI hΓ
          rw [hP4]
          exact ⟨rfl, trivial⟩
        · skip
          have h4d := B.df h4
          refine WX.run ttOk rfl ?_
          refine WX.see rfl rfl rfl (fun _ hΓ => looks_arith rfl rfl rfl rfl (by unfold I64; first | omega | (simp only [List.length_take, List.length_drop] at *; omega) | (dsimp only; omega))) ?_
          refine WX.run ttOk rfl ?_
          exact WX.iter (i + 1) ⟨(by omega), (by rw [v2, drop_get e1h]; simp only [impl_ValidTable_L1, h2, h3, e2h, h4, cond_true, cond_false])⟩ (by first | (dsimp only; omega) | omega) (.cons rfl (.cons rfl (.cons rfl (.cons rfl (.nil))))) .nil .nil [0] rfl
      · skip
        have h3d := B.df h3
        refine DX.takes (fuel := 0) ttOk [(8, true), (9, true), (10, true), (11, true), (12, true), (13, true), (14, true), (15, true), (16, true), (17, true), (18, true), (19, true)] (by kernel_rfl) rfl ?_
        refine DX.tail2 [] rfl rfl (by kernel_rfl) ?_
        refine WX.run ttOk rfl ?_
        refine WX.see rfl rfl rfl (fun _ hΓ => looks_arith rfl rfl rfl rfl (by unfold I64; first | omega | (simp only [List.length_take, List.length_drop] at *; omega) | (dsimp only; omega))) ?_
        refine WX.run ttOk rfl ?_
        exact WX.iter (i + 1) ⟨(by omega), (by rw [v2, drop_get e1h]; simp only [impl_ValidTable_L1, h2, h3, cond_true, cond_false])⟩ (by first | (dsimp only; omega) | omega) (.cons rfl (.cons rfl (.cons rfl (.cons rfl (.nil))))) .nil .nil [0] rfl
  · skip
    have h1d := B.df h1
    refine WX.run ttOk rfl ?_
    have hX1 : impl_ValidTable_L1 l l 0 = none := by rw [v2, List.drop_eq_nil_of_le (show (l).length ≤ i by omega)]; simp only [impl_ValidTable_L1, cond_true, cond_false]
    have hP5 : impl_ValidTable l = (decide ((((l).length : Nat) : Int) ≤ 20)) := by simp only [impl_ValidTable, hX1, cond_true, cond_false]
    refine WX.ret ttOk rfl ?_
    intro w1 G bs hI hΓ
    rw [hP5]
    exact ⟨rfl, trivial⟩
theorem f43 (w : World) (n : Nat) (hn : n + 0 ≤ 9) (l : (List TableEntry)) (pl : Option Addr) (cl : Nat) (hpl : RdSl (hp w) pl cl l) (hokl : GoT.ok n l) :
    Does Try.prog 43 #[.slice pl ((l).length) cl] w emp (fun (rv : Value) (_ : World) => rv = .bool (spec_ValidTable l) ∧ True) := by
  have hbP := bd_pos n
  have hbB := bd_big (n := n) (by omega)
  refine WX.enter (tt := tt) (Γ := [(0, MF.rs .stb pl cl l)]) Try.func43 rfl (by kernel_rfl) rfl (allS_cons rfl hpl allS_nil) ?_
  refine WX.run ttOk rfl ?_
  have r1 : (l).length ≤ bd n := (okl hokl).1
  refine WX.loop (ι := Nat) ⟨fun i => (i ≤ (l).length) ∧ (spec_ValidTable_L1 l l 0 = spec_ValidTable_L1 l ((l).drop i) i), fun i => (l).length - i, fun i => [(3, .v (.int .i64 (((i : Nat) : Int)))), (0, .v (.slice pl ((l).length) cl))], fun i => [], fun i => [], fun i => [(0, MF.rs .stb pl cl l)]⟩ 0 ⟨(Nat.zero_le _), rfl⟩
    (.cons rfl (.cons rfl (.nil))) .nil .nil [0] rfl ?_
  rintro i hpre
  have hpre_ : (i ≤ (l).length) ∧ (spec_ValidTable_L1 l l 0 = spec_ValidTable_L1 l ((l).drop i) i) := hpre
  clear hpre
  obtain ⟨v1, v2⟩ := hpre_
  refine WX.run ttOk rfl ?_
  refine WX.cases 7 rfl (fun h1 => ?_) (fun h1 => ?_)
  · skip
    have h1d := B.dt h1
    have e1i : i < (l).length := (by omega)
    obtain ⟨e1, e1h⟩ : ∃ e1, (l)[i]? = some e1 := ⟨_, List.getElem?_eq_getElem e1i⟩
    have ok1 : GoT.ok n e1 := (okl hokl).2 _ (List.mem_of_getElem? e1h)
    refine WX.run ttOk rfl ?_
    refine WX.draw [] mixed ?_
    intro bs G0 hΓ0
    refine DX.takes (fuel := 24) ttOk [(0, true), (1, true)] (by kernel_rfl) rfl ?_
    refine DX.idx 2 0 i ttOk hΓ0 (by kernel_rfl) rfl rfl rfl rfl rfl rfl rfl rfl rfl rfl rfl e1i ?_
    rintro ad1 rfl
    refine DX.takes (fuel := 22) ttOk [(3, true)] (by kernel_rfl) rfl ?_
    refine DX.ldE 4 0 1 e1 ttOk hΓ0 (by kernel_rfl) rfl rfl rfl rfl rfl rfl rfl rfl e1h (fun _ => rfl) (fun _ => rfl) ?_
    rintro ⟨⟨p1, c1⟩, ⟨⟩⟩
    refine DX.callV 5 rfl (by kernel_rfl) rfl rfl rfl rfl rfl rfl (fun _ => rfl) rfl (fun w G bs hI hΓ => f44 w n (by omega) e1.name p1 c1 (hΓ.get 1 rfl) ((ok_TableEntry ok1).1)) ?_
    intro hq1
    refine DX.takes (fuel := 18) ttOk [(6, true), (7, true)] (by kernel_rfl) rfl ?_
    refine DX.cases 17 rfl (fun h2 => ?_) (fun h2 => ?_)
    · skip
      have h2d := (B.nt h2)
      refine DX.takes (fuel := 0) ttOk [(8, true), (9, true), (10, true), (11, true), (12, true), (13, true), (14, true), (15, true), (16, true), (17, true), (18, true), (19, true), (20, true), (21, true), (22, true), (23, true), (24, true), (25, true)] (by kernel_rfl) rfl ?_
      refine DX.tail2 [] rfl rfl (by kernel_rfl) ?_
      refine WX.run ttOk rfl ?_
      have hP1 : spec_ValidTable_L1 l l 0 = (some false) := by rw [v2, drop_get e1h]; simp only [spec_ValidTable_L1, h2, cond_true, cond_false]
      have hP2 : spec_ValidTable l = false := by simp only [spec_ValidTable, hP1, cond_true, cond_false]
      refine WX.ret ttOk rfl ?_
      intro w1 G bs hI hΓ
      rw [hP2]
      exact ⟨rfl, trivial⟩
    · skip
      have h2d := (B.nf h2)
      refine DX.takes (fuel := 15) ttOk [(8, true), (9, true), (10, true)] (by kernel_rfl) rfl ?_
      refine DX.cases 20 rfl (fun h3 => ?_) (fun h3 => ?_)
      · skip
        have h3d := B.dt h3
        refine DX.takes (fuel := 13) ttOk [(11, true), (12, true)] (by kernel_rfl) rfl ?_
        refine DX.seeP 13 (by kernel_rfl) rfl rfl rfl rfl (looksP_arith rfl rfl rfl rfl (by unfold I64; first | omega | (simp only [List.length_take, List.length_drop] at *; omega) | (dsimp only; omega))) ?_
        refine DX.slot 23 (y := .v (.int .i64 (((((i : Nat) : Int) - 1).toNat : Nat) : Int))) rfl (fun _ => congrArg (Value.int .i64) (show ((i : Nat) : Int) - 1 = (((((i : Nat) : Int) - 1).toNat : Nat) : Int) from by omega)) ?_
        have e2i : (((i : Nat) : Int) - 1).toNat < (l).length := (by first | assumption | omega)
        obtain ⟨e2, e2h⟩ : ∃ e2, (l)[(((i : Nat) : Int) - 1).toNat]? = some e2 := ⟨_, List.getElem?_eq_getElem e2i⟩
        have ok2 : GoT.ok n e2 := (okl hokl).2 _ (List.mem_of_getElem? e2h)
        refine DX.idx 14 0 ((((i : Nat) : Int) - 1).toNat) ttOk hΓ0 (by kernel_rfl) rfl rfl rfl rfl rfl rfl rfl rfl rfl rfl rfl e2i ?_
        rintro ad2 ⟨⟩
        refine DX.takes (fuel := 10) ttOk [(15, true)] (by kernel_rfl) rfl ?_
        refine DX.ldE 16 0 2 e2 ttOk hΓ0 (by kernel_rfl) rfl rfl rfl rfl rfl rfl rfl rfl e2h (fun _ => rfl) (fun _ => rfl) ?_
        rintro ⟨⟨p2, c2⟩, ⟨⟩⟩
        refine DX.takes (fuel := 7) ttOk [(17, true), (18, true)] (by kernel_rfl) rfl ?_
        refine DX.idx 19 0 i ttOk hΓ0 (by kernel_rfl) rfl rfl rfl rfl rfl rfl rfl rfl rfl rfl rfl e1i ?_
        rintro ad3 ⟨⟩
        refine DX.takes (fuel := 5) ttOk [(20, true)] (by kernel_rfl) rfl ?_
        refine DX.ldE 21 0 3 e1 ttOk hΓ0 (by kernel_rfl) rfl rfl rfl rfl rfl rfl rfl rfl e1h (fun _ => rfl) (fun _ => rfl) ?_
        rintro ⟨⟨p3, c3⟩, ⟨⟩⟩
        refine DX.callV 22 rfl (by kernel_rfl) rfl rfl rfl rfl rfl rfl (fun _ => rfl) rfl (fun w G bs hI hΓ => f60 w n (by omega) e2.name p2 c2 (hΓ.get 2 rfl) e1.name p3 c3 (hΓ.get 3 rfl) ((ok_TableEntry ok2).1) ((ok_TableEntry ok1).1)) ?_
        intro hq2
        refine DX.takes (fuel := 0) ttOk [(23, true), (24, true), (25, true)] (by kernel_rfl) rfl ?_
        refine DX.tail2 [] rfl rfl (by kernel_rfl) ?_
        refine WX.run ttOk rfl ?_
        refine WX.cases 35 rfl (fun h4 => ?_) (fun h4 => ?_)
        · skip
          have h4d := B.dt h4
          refine WX.run ttOk rfl ?_
          have hP3 : spec_ValidTable_L1 l l 0 = (some false) := by rw [v2, drop_get e1h]; simp only [spec_ValidTable_L1, h2, h3, e2h, h4, cond_true, cond_false]
          have hP4 : spec_ValidTable l = false := by simp only [spec_ValidTable, hP3, cond_true, cond_false]
          refine WX.ret ttOk rfl ?_
          intro w1 G bs hI hΓ
          rw [hP4]
          exact ⟨rfl, trivial⟩
        · skip
          have h4d := B.df h4
          refine WX.run ttOk rfl ?_
          refine WX.see rfl rfl rfl (fun _ hΓ => looks_arith rfl rfl rfl rfl (by unfold I64; first | omega | (simp only [List.length_take, List.length_drop] at *; omega) | (dsimp only; omega))) ?_
          refine WX.run ttOk rfl ?_
          exact WX.iter (i + 1) ⟨(by omega), (by rw [v2, drop_get e1h]; simp only [spec_ValidTable_L1, h2, h3, e2h, h4, cond_true, cond_false])⟩ (by first | (dsimp only; omega) | omega) (.cons rfl (.cons rfl (.nil))) .nil .nil [0] rfl
      · skip
        have h3d := B.df h3
        refine DX.takes (fuel := 0) ttOk [(11, true), (12, true), (13, true), (14, true), (15, true), (16, true), (17, true), (18, true), (19, true), (20, true), (21, true), (22, true), (23, true), (24, true), (25, true)] (by kernel_rfl) rfl ?_
        refine DX.tail2 [] rfl rfl (by kernel_rfl) ?_
        refine WX.run ttOk rfl ?_
        refine WX.see rfl rfl rfl (fun _ hΓ => looks_arith rfl rfl rfl rfl (by unfold I64; first | omega | (simp only [List.length_take, List.length_drop] at *; omega) | (dsimp only; omega))) ?_
        refine WX.run ttOk rfl ?_
        exact WX.iter (i + 1) ⟨(by omega), (by rw [v2, drop_get e1h]; simp only [spec_ValidTable_L1, h2, h3, cond_true, cond_false])⟩ (by first | (dsimp only; omega) | omega) (.cons rfl (.cons rfl (.nil))) .nil .nil [0] rfl
  · skip
    have h1d := B.df h1
    refine WX.run ttOk rfl ?_
    have hX1 : spec_ValidTable_L1 l l 0 = none := by rw [v2, List.drop_eq_nil_of_le (show (l).length ≤ i by omega)]; simp only [spec_ValidTable_L1, cond_true, cond_false]
    have hP5 : spec_ValidTable l = (decide ((((l).length : Nat) : Int) ≤ 20)) := by simp only [spec_ValidTable, hX1, cond_true, cond_false]
    refine WX.ret ttOk rfl ?_
    intro w1 G bs hI hΓ
    rw [hP5]
    exact ⟨rfl, trivial⟩
theorem f64 (w : World) (n : Nat) (hn : n + 0 ≤ 9) (s : (List TableEntry)) (ps : Option Addr) (cs : Nat) (hps : RdSl (hp w) ps cs s) (fg : FuncId) (fc : List Value) (fq : TableEntry → Bool) (ff : ∀ w1, Kp emp w w1 → ∀ (e0 : TableEntry) (x0 : GoT.X TableEntry), GoT.ok n e0 → All (hp w1) (GoT.fa .der e0 x0) → Does Try.prog fg ([Value.agg ⟨GoT.sh e0 x0⟩] ++ fc).toArray w1 emp (fun rv _ => rv = .bool (fq e0) ∧ True)) (hoks : GoT.ok n s) :
    Does Try.prog 64 #[.slice ps ((s).length) cs, .func (.func fg) #[] fc.toArray] w emp (fun (rv : Value) (_ : World) => rv = .int .i64 ((slices_IndexFunc_TableEntry s fq)) ∧ GoT.ok n ((slices_IndexFunc_TableEntry s fq) : Int)) := by
  have hbP := bd_pos n
  have hbB := bd_big (n := n) (by omega)
  refine WX.enter (tt := tt) (Γ := [(0, MF.rs .stb ps cs s)]) Try.func64 rfl (by kernel_rfl) rfl (allS_cons rfl hps allS_nil) ?_
  refine WX.run ttOk rfl ?_
  have r1 : (s).length ≤ bd n := (okl hoks).1
  refine WX.loop (ι := Nat) ⟨fun i => (i ≤ (s).length) ∧ (slices_IndexFunc_TableEntry_L1 fq s 0 = slices_IndexFunc_TableEntry_L1 fq ((s).drop i) i), fun i => (s).length - i, fun i => [(8, .v (.int .i64 (((i : Nat) : Int)))), (7, .v (.int .i64 ((((s).length : Nat) : Int)))), (0, .v (.slice ps ((s).length) cs)), (1, .v (.func (.func fg) #[] fc.toArray))], fun i => [], fun i => [], fun i => [(0, MF.rs .stb ps cs s)]⟩ 0 ⟨(Nat.zero_le _), rfl⟩
    (.cons rfl (.cons rfl (.cons rfl (.cons rfl (.nil))))) .nil .nil [0] rfl ?_
  rintro i hpre
  have hpre_ : (i ≤ (s).length) ∧ (slices_IndexFunc_TableEntry_L1 fq s 0 = slices_IndexFunc_TableEntry_L1 fq ((s).drop i) i) := hpre
  clear hpre
  obtain ⟨v1, v2⟩ := hpre_
  refine WX.run ttOk rfl ?_
  refine WX.cases 9 rfl (fun h1 => ?_) (fun h1 => ?_)
  · skip
    have h1d := B.dt h1
    have e1i : i < (s).length := (by omega)
    obtain ⟨e1, e1h⟩ : ∃ e1, (s)[i]? = some e1 := ⟨_, List.getElem?_eq_getElem e1i⟩
    have ok1 : GoT.ok n e1 := (okl hoks).2 _ (List.mem_of_getElem? e1h)
    refine WX.run ttOk rfl ?_
    refine WX.idx 0 i ttOk rfl rfl rfl rfl rfl rfl rfl rfl rfl rfl e1i ?_
    rintro ad1 rfl
    refine WX.ldE 0 1 e1 ttOk rfl rfl rfl rfl rfl rfl rfl rfl e1h (fun _ => rfl) (fun _ => rfl) ?_
    rintro ⟨⟨p1, c1⟩, ⟨⟩⟩
    refine WX.callV rfl rfl rfl rfl rfl (fun _ => rfl) rfl (fun w G bs hI hΓ => ff w hI.keep e1 ((p1, c1), ()) ok1 (All.cons (hΓ.get 1 rfl : RdSl _ _ _ _) All.nil)) ?_
    intro hq1
    refine WX.run ttOk rfl ?_
    refine WX.cases 16 rfl (fun h2 => ?_) (fun h2 => ?_)
    · skip
      refine WX.run ttOk rfl ?_
      have hP1 : slices_IndexFunc_TableEntry_L1 fq s 0 = (some ((i : Nat) : Int)) := by rw [v2, drop_get e1h]; simp only [slices_IndexFunc_TableEntry_L1, h2, cond_true, cond_false]
      have hP2 : slices_IndexFunc_TableEntry s fq = ((i : Nat) : Int) := by simp only [slices_IndexFunc_TableEntry, hP1, cond_true, cond_false]
      refine WX.ret ttOk rfl ?_
      intro w1 G bs hI hΓ
      rw [hP2]
      exact ⟨rfl, (show I64 ((i : Nat) : Int) from (by unfold I64; omega))⟩
    · skip
      refine WX.run ttOk rfl ?_
      refine WX.see rfl rfl rfl (fun _ hΓ => looks_arith rfl rfl rfl rfl (by unfold I64; first | omega | (simp only [List.length_take, List.length_drop] at *; omega) | (dsimp only; omega))) ?_
      refine WX.run ttOk rfl ?_
      exact WX.iter (i + 1) ⟨(by omega), (by rw [v2, drop_get e1h]; simp only [slices_IndexFunc_TableEntry_L1, h2, cond_true, cond_false])⟩ (by first | (dsimp only; omega) | omega) (.cons rfl (.cons rfl (.cons rfl (.cons rfl (.nil))))) .nil .nil [0] rfl
  · skip
    have h1d := B.df h1
    refine WX.run ttOk rfl ?_
    have hX1 : slices_IndexFunc_TableEntry_L1 fq s 0 = none := by rw [v2, List.drop_eq_nil_of_le (show (s).length ≤ i by omega)]; simp only [slices_IndexFunc_TableEntry_L1, cond_true, cond_false]
    have hP3 : slices_IndexFunc_TableEntry s fq = (-1) := by simp only [slices_IndexFunc_TableEntry, hX1, cond_true, cond_false]
    refine WX.ret ttOk rfl ?_
    intro w1 G bs hI hΓ
    rw [hP3]
    exact ⟨rfl, (show I64 (-1) from (by unfold I64; omega))⟩
theorem ltL_slices_IndexFunc_TableEntry : ∀ (f : TableEntry → Bool) (l : List TableEntry) (i : Nat) (j : Int), slices_IndexFunc_TableEntry_L1 f l i = some j → j < ((i + l.length : Nat) : Int)
  | f, [], i, j, h => by cases h
  | f, x :: l, i, j, h => by
    simp only [slices_IndexFunc_TableEntry_L1] at h
    cases hx : f x
    · rw [hx, cond_false] at h
      have := ltL_slices_IndexFunc_TableEntry f l (i + 1) j h
      simp only [List.length_cons]; omega
    · rw [hx, cond_true] at h
      cases h
      simp only [List.length_cons]; omega
theorem ltI_slices_IndexFunc_TableEntry (l : List TableEntry) (f : TableEntry → Bool) : slices_IndexFunc_TableEntry l f < ((l.length : Nat) : Int) := by
  unfold slices_IndexFunc_TableEntry
  cases h : slices_IndexFunc_TableEntry_L1 f l 0 with
  | none => show (-1 : Int) < _; omega
  | some j => have := ltL_slices_IndexFunc_TableEntry f l 0 j h; show j < _; omega
theorem f48 (w : World) (n : Nat) (hn : n + 0 ≤ 9) (s : (List TableEntry)) (ps : Option Addr) (cs : Nat) (hps : RdSl (hp w) ps cs s) (fg : FuncId) (fc : List Value) (fq : TableEntry → Bool) (ff : ∀ w1, Kp emp w w1 → ∀ (e0 : TableEntry) (x0 : GoT.X TableEntry), GoT.ok n e0 → All (hp w1) (GoT.fa .der e0 x0) → Does Try.prog fg ([Value.agg ⟨GoT.sh e0 x0⟩] ++ fc).toArray w1 emp (fun rv _ => rv = .bool (fq e0) ∧ True)) (hoks : GoT.ok n s) :
    Does Try.prog 48 #[.slice ps ((s).length) cs, .func (.func fg) #[] fc.toArray] w emp (fun (rv : Value) (_ : World) => rv = .bool (slices_ContainsFunc_TableEntry s fq) ∧ True) := by
  have hbP := bd_pos n
  have hbB := bd_big (n := n) (by omega)
  refine WX.enter (tt := tt) (Γ := [(0, MF.rs .stb ps cs s)]) Try.func48 rfl (by kernel_rfl) rfl (allS_cons rfl hps allS_nil) ?_
  refine WX.run ttOk rfl ?_
  refine WX.callV rfl rfl rfl rfl rfl (fun _ => rfl) rfl (fun w G bs hI hΓ => f64 w n (by omega) s ps cs (hΓ.get 0 rfl) fg fc fq (fun w1_ hb_ => ff w1_ (hI.keep.trans hb_)) hoks) ?_
  intro hq1
  have q1 := ltI_slices_IndexFunc_TableEntry s fq
  refine WX.run ttOk rfl ?_
  have hP1 : slices_ContainsFunc_TableEntry s fq = (decide ((slices_IndexFunc_TableEntry s fq) ≥ 0)) := by simp only [slices_ContainsFunc_TableEntry, cond_true, cond_false]
  refine WX.ret ttOk rfl ?_
  intro w1 G bs hI hΓ
  rw [hP1]
  exact ⟨rfl, trivial⟩
theorem f49 (w : World) (n : Nat) (hn : n + 0 ≤ 9) (e_ : TableEntry) (pe_Name : Option Addr) (ce_Name : Nat) (hpe_Name : RdSl (hp w) pe_Name ce_Name e_.name.parts) (hoke_ : GoT.ok n e_) :
    Does Try.prog 49 #[.agg #[.slice pe_Name ((e_.name.parts).length) ce_Name, .int .i64 (e_.value)]] w emp (fun (rv : Value) (_ : World) => rv = .bool (impl_ValidVector_c1 e_) ∧ True) := by
  have hbP := bd_pos n
  have hbB := bd_big (n := n) (by omega)
  refine WX.enter (tt := tt) (Γ := [(0, MF.rs .stb pe_Name ce_Name e_.name.parts)]) Try.func49 rfl (by kernel_rfl) rfl (allS_cons rfl hpe_Name allS_nil) ?_
  refine WX.run ttOk rfl ?_
  refine WX.callV rfl rfl rfl rfl rfl (fun _ => rfl) rfl (fun w G bs hI hΓ => f50 w n (by omega) e_.value 1 1000 ((ok_TableEntry hoke_).2) (show I64 1 from (by unfold I64; omega)) (show I64 1000 from (by unfold I64; omega))) ?_
  intro hq1
  refine WX.run ttOk rfl ?_
  have hP1 : impl_ValidVector_c1 e_ = (!(impl_InRange e_.value 1 1000)) := by simp only [impl_ValidVector_c1, cond_true, cond_false]
  refine WX.ret ttOk rfl ?_
  intro w1 G bs hI hΓ
  rw [hP1]
  exact ⟨rfl, trivial⟩
theorem f30 (w : World) (n : Nat) (hn : n + 0 ≤ 9) (v : StateVector) (pv : Option Addr) (cv : Nat) (hpv : RdSl (hp w) pv cv v.entries) (hokv : GoT.ok n v) :
    Does Try.prog 30 #[.agg #[.slice pv ((v.entries).length) cv]] w emp (fun (rv : Value) (_ : World) => rv = .bool (impl_ValidVector v) ∧ True) := by
  have hbP := bd_pos n
  have hbB := bd_big (n := n) (by omega)
  refine WX.enter (tt := tt) (Γ := [(0, MF.rs .stb pv cv v.entries)]) Try.func30 rfl (by kernel_rfl) rfl (allS_cons rfl hpv allS_nil) ?_
  refine WX.run ttOk rfl ?_
  refine WX.callV rfl rfl rfl rfl rfl (fun _ => rfl) rfl (fun w G bs hI hΓ => f47 w n (by omega) v.entries pv cv (hΓ.get 0 rfl) (ok_StateVector hokv)) ?_
  intro hq1
  refine WX.run ttOk rfl ?_
  refine WX.cases 6 rfl (fun h1 => ?_) (fun h1 => ?_)
  · skip
    refine WX.run ttOk rfl ?_
    refine WX.callV rfl rfl rfl rfl rfl (fun _ => rfl) rfl (fun w G bs hI hΓ => f48 w n (by omega) v.entries pv cv (hΓ.get 0 rfl) 49 [] (fun e0_ => (impl_ValidVector_c1 e0_)) (fun w1_ hb_ e0_ x0_ hk0_ hx0_ => f49 w1_ n (by omega) e0_ x0_.1.1 x0_.1.2 (hx0_ _ List.mem_cons_self) hk0_) (ok_StateVector hokv)) ?_
    intro hq2
    refine WX.run ttOk rfl ?_
    have hP1 : impl_ValidVector v = (!(slices_ContainsFunc_TableEntry v.entries (fun e0_ => (impl_ValidVector_c1 e0_)))) := by simp only [impl_ValidVector, h1, cond_true, cond_false]
    refine WX.ret ttOk rfl ?_
    intro w1 G bs hI hΓ
    rw [hP1]
    exact ⟨rfl, trivial⟩
  · skip
    refine WX.run ttOk rfl ?_
    have hP2 : impl_ValidVector v = false := by simp only [impl_ValidVector, h1, cond_true, cond_false]
    refine WX.ret ttOk rfl ?_
    intro w1 G bs hI hΓ
    rw [hP2]
    exact ⟨rfl, trivial⟩
theorem f26 (w : World) (n : Nat) (hn : n + 0 ≤ 9) (v : StateVector) (pv : Option Addr) (cv : Nat) (hpv : RdSl (hp w) pv cv v.entries) (hokv : GoT.ok n v) :
    Does Try.prog 26 #[.agg #[.slice pv ((v.entries).length) cv]] w emp (fun (rv : Value) (_ : World) => rv = .bool (spec_ValidVector v) ∧ True) := by
  have hbP := bd_pos n
  have hbB := bd_big (n := n) (by omega)
  refine WX.enter (tt := tt) (Γ := [(0, MF.rs .stb pv cv v.entries)]) Try.func26 rfl (by kernel_rfl) rfl (allS_cons rfl hpv allS_nil) ?_
  refine WX.run ttOk rfl ?_
  have r1 : (v.entries).length ≤ bd n := (okl (ok_StateVector hokv)).1
  refine WX.loop (ι := Nat) ⟨fun i => (i ≤ (v.entries).length) ∧ (spec_ValidVector_L1 v.entries = spec_ValidVector_L1 ((v.entries).drop i)), fun i => (v.entries).length - i, fun i => [(3, .v (.int .i64 (((i : Nat) : Int)))), (1, .p 1 0)], fun i => [(1, ⟨35, [.slice pv ((v.entries).length) cv]⟩)], fun i => [], fun i => [(0, MF.rs .stb pv cv v.entries)]⟩ 0 ⟨(Nat.zero_le _), rfl⟩
    (.cons rfl (.cons rfl (.nil))) (.cons rfl (.nil)) .nil [0] rfl ?_
  rintro i hpre
  have hpre_ : (i ≤ (v.entries).length) ∧ (spec_ValidVector_L1 v.entries = spec_ValidVector_L1 ((v.entries).drop i)) := hpre
  clear hpre
  obtain ⟨v1, v2⟩ := hpre_
  refine WX.run ttOk rfl ?_
  refine WX.cases 8 rfl (fun h1 => ?_) (fun h1 => ?_)
  · skip
    have h1d := B.dt h1
    have e1i : i < (v.entries).length := (by omega)
    obtain ⟨e1, e1h⟩ : ∃ e1, (v.entries)[i]? = some e1 := ⟨_, List.getElem?_eq_getElem e1i⟩
    have ok1 : GoT.ok n e1 := (okl (ok_StateVector hokv)).2 _ (List.mem_of_getElem? e1h)
    refine WX.run ttOk rfl ?_
    refine WX.idx 0 i ttOk rfl rfl rfl rfl rfl rfl rfl rfl rfl rfl e1i ?_
    rintro ad1 rfl
    refine WX.run ttOk rfl ?_
    refine WX.ldE 0 1 e1 ttOk rfl rfl rfl rfl rfl rfl rfl rfl e1h (fun _ => rfl) (fun _ => rfl) ?_
    rintro ⟨⟨p1, c1⟩, ⟨⟩⟩
    refine WX.callV rfl rfl rfl rfl rfl (fun _ => rfl) rfl (fun w G bs hI hΓ => f42 w n (by omega) e1.value 1 1000 ((ok_TableEntry ok1).2) (show I64 1 from (by unfold I64; omega)) (show I64 1000 from (by unfold I64; omega))) ?_
    intro hq1
    refine WX.run ttOk rfl ?_
    refine WX.cases 18 rfl (fun h2 => ?_) (fun h2 => ?_)
    · skip
      have h2d := (B.nt h2)
      refine WX.run ttOk rfl ?_
      have hP1 : spec_ValidVector_L1 v.entries = (some false) := by rw [v2, drop_get e1h]; simp only [spec_ValidVector_L1, h2, cond_true, cond_false]
      have hP2 : spec_ValidVector v = false := by simp only [spec_ValidVector, hP1, cond_true, cond_false]
      refine WX.ret ttOk rfl ?_
      intro w1 G bs hI hΓ
      rw [hP2]
      exact ⟨rfl, trivial⟩
    · skip
      have h2d := (B.nf h2)
      have h2r := inR_spec (B.nf h2)
      refine WX.run ttOk rfl ?_
      refine WX.see rfl rfl rfl (fun _ hΓ => looks_arith rfl rfl rfl rfl (by unfold I64; first | omega | (simp only [List.length_take, List.length_drop] at *; omega) | (dsimp only; omega))) ?_
      refine WX.run ttOk rfl ?_
      exact WX.iter (i + 1) ⟨(by omega), (by rw [v2, drop_get e1h]; simp only [spec_ValidVector_L1, h2, cond_true, cond_false])⟩ (by first | (dsimp only; omega) | omega) (.cons rfl (.cons rfl (.nil))) (.cons rfl (.nil)) .nil [0] rfl
  · skip
    have h1d := B.df h1
    refine WX.run ttOk rfl ?_
    have hX1 : spec_ValidVector_L1 v.entries = none := by rw [v2, List.drop_eq_nil_of_le (show (v.entries).length ≤ i by omega)]; simp only [spec_ValidVector_L1, cond_true, cond_false]
    refine WX.callV rfl rfl rfl rfl rfl (fun _ => rfl) rfl (fun w G bs hI hΓ => f43 w n (by omega) v.entries pv cv (hΓ.get 0 rfl) (ok_StateVector hokv)) ?_
    intro hq2
    refine WX.run ttOk rfl ?_
    have hP3 : spec_ValidVector v = (spec_ValidTable v.entries) := by simp only [spec_ValidVector, hX1, cond_true, cond_false]
    refine WX.ret ttOk rfl ?_
    intro w1 G bs hI hΓ
    rw [hP3]
    exact ⟨rfl, trivial⟩
end Go.Proofs.Ytfffongneoegbaa

namespace Go.Stp
set_option linter.unusedVariables false
set_option linter.unusedSimpArgs false
instance ctlInh27 {α β : Type} [Inhabited α] : Inhabited (Ctl α β) := ⟨.ret default⟩
theorem inR_specP {n a b : Int} (h : spec_l1In n a b = true) : a ≤ n ∧ n ≤ b := by
  unfold spec_l1In at h
  cases hd : decide (a ≤ n)
  · exact absurd (show false = true by rw [show decide (a ≤ n) = false from hd] at h; exact h) Bool.false_ne_true
  · rw [show decide (a ≤ n) = true from hd] at h
    exact ⟨of_decide_eq_true hd, of_decide_eq_true (show decide (n ≤ b) = true from h)⟩

theorem vpB_spec {s : Str} (h : spec_ValidPart s = true) : s.size ≤ 8 := by
  unfold spec_ValidPart at h
  cases hr : spec_l1In (((s).size : Nat) : Int) 1 8
  · rw [hr] at h; cases h
  · have := inR_specP hr
    omega
theorem vnL_spec : ∀ (l : List Str), (spec_ValidName_L1 l = none ∧ ∀ p ∈ l, p.size ≤ 8) ∨ spec_ValidName_L1 l = some false
  | [] => .inl ⟨rfl, fun p hp => by cases hp⟩
  | x :: l => by
    simp only [spec_ValidName_L1]
    cases hx : spec_ValidPart x
    · exact .inr rfl
    · rcases vnL_spec l with ⟨h1, h2⟩ | h
      · exact .inl ⟨h1, fun p hp => (List.mem_cons.1 hp).elim (fun e => e ▸ vpB_spec hx) (h2 p)⟩
      · exact .inr h
theorem vnB_spec {n_ : Name} (h : spec_ValidName n_ = true) : n_.parts.length ≤ 6 ∧ ∀ p ∈ n_.parts, p.size ≤ 8 := by
  unfold spec_ValidName at h
  rcases vnL_spec n_.parts with ⟨h1, h2⟩ | h1 <;> rw [h1] at h
  · have := of_decide_eq_true h
    exact ⟨by omega, h2⟩
  · cases h
def impl_ReadVarint_L1 (b : (List UInt8)) : Nat → Nat → Int → Int → Ctl (Int × Int × Bool) (Int × Int)
  | 0, i, at_2, n_ => (Ctl.nxt (at_2, n_))
  | m_ + 1, i, at_2, n_ =>
    bif decide (at_2 < (((b).length : Nat) : Int)) then
      match (b)[(at_2).toNat]? with
        | none => default
        | some e1 =>
          bif decide (((e1).toNat : Int) < 128) then
            bif (((e1).toNat : Int) == 0) then
              bif decide (((i : Nat) : Int) > 0) then
                (Ctl.ret (0, 0, false))
              else
                bif decide (bitO .or n_ (IntKind.i64.wrap ((bitO .and ((e1).toNat : Int) 127) * 2 ^ (min (Int.toNat (7 * ((i : Nat) : Int))) 64))) > 1000000000000) then
                  (Ctl.ret (0, 0, false))
                else
                  (Ctl.ret ((bitO .or n_ (IntKind.i64.wrap ((bitO .and ((e1).toNat : Int) 127) * 2 ^ (min (Int.toNat (7 * ((i : Nat) : Int))) 64)))), (at_2 + 1), true))
            else
              bif decide (bitO .or n_ (IntKind.i64.wrap ((bitO .and ((e1).toNat : Int) 127) * 2 ^ (min (Int.toNat (7 * ((i : Nat) : Int))) 64))) > 1000000000000) then
                (Ctl.ret (0, 0, false))
              else
                (Ctl.ret ((bitO .or n_ (IntKind.i64.wrap ((bitO .and ((e1).toNat : Int) 127) * 2 ^ (min (Int.toNat (7 * ((i : Nat) : Int))) 64)))), (at_2 + 1), true))
          else
            impl_ReadVarint_L1 b m_ (i + 1) (at_2 + 1) (bitO .or n_ (IntKind.i64.wrap ((bitO .and ((e1).toNat : Int) 127) * 2 ^ (min (Int.toNat (7 * ((i : Nat) : Int))) 64))))
    else
      (Ctl.nxt (at_2, n_))
def impl_ReadVarint (b : (List UInt8)) (at_ : Int) : Int × Int × Bool :=
  bif decide (at_ < 0) then
    (0, 0, false)
  else
    match impl_ReadVarint_L1 b 6 0 at_ 0 with
      | .ret r_ => r_
      | .nxt (at_2, n_) =>
        (0, 0, false)
def spec_ReadVarint_L1 (b : (List UInt8)) (at_ : Int) : Nat → Nat → Int → Ctl (Int × Int × Bool) (Int)
  | 0, i, n_ => (Ctl.nxt n_)
  | m_ + 1, i, n_ =>
    bif decide (at_ < 0) then
      (Ctl.ret (0, 0, false))
    else
      bif decide (at_ ≥ (((b).length : Nat) : Int) - ((i : Nat) : Int)) then
        (Ctl.ret (0, 0, false))
      else
        match (b)[(at_ + ((i : Nat) : Int)).toNat]? with
          | none => default
          | some e1 =>
            bif decide (((e1).toNat : Int) < 128) then
              bif (((e1).toNat : Int) == 0) then
                bif decide (((i : Nat) : Int) > 0) then
                  (Ctl.ret (0, 0, false))
                else
                  bif decide (bitO .or n_ (IntKind.i64.wrap ((bitO .and ((e1).toNat : Int) 127) * 2 ^ (min (Int.toNat (7 * ((i : Nat) : Int))) 64))) > 1000000000000) then
                    (Ctl.ret (0, 0, false))
                  else
                    (Ctl.ret ((bitO .or n_ (IntKind.i64.wrap ((bitO .and ((e1).toNat : Int) 127) * 2 ^ (min (Int.toNat (7 * ((i : Nat) : Int))) 64)))), ((at_ + ((i : Nat) : Int)) + 1), true))
              else
                bif decide (bitO .or n_ (IntKind.i64.wrap ((bitO .and ((e1).toNat : Int) 127) * 2 ^ (min (Int.toNat (7 * ((i : Nat) : Int))) 64))) > 1000000000000) then
                  (Ctl.ret (0, 0, false))
                else
                  (Ctl.ret ((bitO .or n_ (IntKind.i64.wrap ((bitO .and ((e1).toNat : Int) 127) * 2 ^ (min (Int.toNat (7 * ((i : Nat) : Int))) 64)))), ((at_ + ((i : Nat) : Int)) + 1), true))
            else
              spec_ReadVarint_L1 b at_ m_ (i + 1) (bitO .or n_ (IntKind.i64.wrap ((bitO .and ((e1).toNat : Int) 127) * 2 ^ (min (Int.toNat (7 * ((i : Nat) : Int))) 64))))
def spec_ReadVarint (b : (List UInt8)) (at_ : Int) : Int × Int × Bool :=
  match spec_ReadVarint_L1 b at_ 6 0 0 with
    | .ret r_ => r_
    | .nxt n_ =>
      (0, 0, false)
theorem i64w {x : Int} (h : -9223372036854775808 ≤ x ∧ x ≤ 9223372036854775807) : IntKind.i64.wrap x = x := by
  simp [IntKind.wrap, IntKind.bits, IntKind.signed]
  omega
theorem ofI64 {x : Int} (h : 0 ≤ x ∧ x ≤ 9223372036854775807) : (BitVec.ofInt 64 x).toNat = x.toNat := by
  rw [BitVec.toNat_ofInt]
  omega
theorem bitOr_nn {x y : Int} (hx : 0 ≤ x ∧ x ≤ 9223372036854775807) (hy : 0 ≤ y ∧ y ≤ 9223372036854775807) : 0 ≤ bitO .or x y := by
  have h : x.toNat ||| y.toNat < 2 ^ 63 := Nat.or_lt_two_pow (by omega) (by omega)
  simp only [bitO, BitVec.toNat_or, ofI64 hx, ofI64 hy]
  rw [i64w (by omega)]
  omega
theorem bitAnd127 {x : Int} (hx : 0 ≤ x ∧ x ≤ 9223372036854775807) : 0 ≤ bitO .and x 127 ∧ bitO .and x 127 ≤ 127 := by
  have h : x.toNat &&& 127 ≤ 127 := Nat.and_le_right
  have h2 : (BitVec.ofInt 64 (127 : Int)).toNat = 127 := by decide
  simp only [bitO, BitVec.toNat_and, ofI64 hx, h2]
  rw [i64w (by omega)]
  omega
theorem shN {x : Int} {i : Nat} (hx : 0 ≤ x ∧ x ≤ 127) (hi : i < 6) : 0 ≤ IntKind.i64.wrap (x * 2 ^ (min (Int.toNat (7 * ((i : Nat) : Int))) 64)) ∧ IntKind.i64.wrap (x * 2 ^ (min (Int.toNat (7 * ((i : Nat) : Int))) 64)) ≤ 9223372036854775807 := by
  have e : ∀ k : Nat, k ≤ 35 → IntKind.i64.wrap (x * 2 ^ k) = x * 2 ^ k := fun k hk => by
    have h1 : (2 : Int) ^ k ≤ 2 ^ 35 := by exact_mod_cast Nat.pow_le_pow_right (by decide : 0 < 2) hk
    have h0 : (0 : Int) ≤ 2 ^ k := by exact_mod_cast Nat.zero_le (2 ^ k)
    have h2 : x * 2 ^ k ≤ 127 * 2 ^ 35 := Int.mul_le_mul hx.2 h1 h0 (by decide)
    have h3 : 0 ≤ x * 2 ^ k := Int.mul_nonneg hx.1 h0
    exact i64w ⟨by omega, by omega⟩
  have hk : min (Int.toNat (7 * ((i : Nat) : Int))) 64 ≤ 35 := by omega
  rw [e _ hk]
  have h1 : (2 : Int) ^ (min (Int.toNat (7 * ((i : Nat) : Int))) 64) ≤ 2 ^ 35 := by exact_mod_cast Nat.pow_le_pow_right (by decide : 0 < 2) hk
  have h0 : (0 : Int) ≤ 2 ^ (min (Int.toNat (7 * ((i : Nat) : Int))) 64) := by exact_mod_cast Nat.zero_le _
  have h2 : x * 2 ^ (min (Int.toNat (7 * ((i : Nat) : Int))) 64) ≤ 127 * 2 ^ 35 := Int.mul_le_mul hx.2 h1 h0 (by decide)
  exact ⟨Int.mul_nonneg hx.1 h0, by omega⟩
theorem u8n (e : UInt8) : 0 ≤ ((e.toNat : Nat) : Int) ∧ ((e.toNat : Nat) : Int) ≤ 9223372036854775807 := by
  have := UInt8.toNat_lt e
  omega
def rvQ (b : List UInt8) (r : Int × Int × Bool) : Prop := r.2.2 = true → 0 ≤ r.1 ∧ r.1 ≤ 1000000000000 ∧ 0 ≤ r.2.1 ∧ r.2.1 ≤ ((b.length : Nat) : Int)
def rvR {σ : Type} (b : List UInt8) : Ctl (Int × Int × Bool) σ → Prop
  | .ret r => rvQ b r
  | .nxt _ => True
theorem rvC {σ : Type} {b : List UInt8} {c : Bool} {x y : Ctl (Int × Int × Bool) σ} (hx : c = true → rvR b x) (hy : c = false → rvR b y) : rvR b (bif c then x else y) := by
  cases c
  · exact hy rfl
  · exact hx rfl
theorem rvF {σ : Type} {b : List UInt8} : rvR (σ := σ) b (.ret (0, 0, false)) := fun h => by cases h
theorem rvL_impl (b : List UInt8) : ∀ (m i : Nat) (a n_ : Int), i + m ≤ 6 → 0 ≤ a → (0 ≤ n_ ∧ n_ ≤ 9223372036854775807) → rvR b (impl_ReadVarint_L1 b m i a n_)
  | 0, i, a, n_, _, _, _ => trivial
  | m + 1, i, a, n_, hi, ha, hn => by
    simp only [impl_ReadVarint_L1]
    refine rvC (fun h => ?_) (fun _ => trivial)
    have h1 := of_decide_eq_true h
    cases b[(a).toNat]? with
    | none => exact rvF
    | some e1 =>
      dsimp only
      have hb := bitOr_nn hn (shN (bitAnd127 (u8n e1)) (show i < 6 by omega))
      have hc := bitO_I64 .or n_ (IntKind.i64.wrap ((bitO .and ((e1).toNat : Int) 127) * 2 ^ (min (Int.toNat (7 * ((i : Nat) : Int))) 64)))
      unfold I64 at hc
      generalize bitO .or n_ (IntKind.i64.wrap ((bitO .and ((e1).toNat : Int) 127) * 2 ^ (min (Int.toNat (7 * ((i : Nat) : Int))) 64))) = v at hb hc ⊢
      have fin : decide (v > 1000000000000) = false → rvR (σ := Int × Int) b (.ret (v, a + 1, true)) := fun h _ => by
        have := of_decide_eq_false h
        dsimp only
        omega
      cases decide (((e1).toNat : Int) < 128)
      · simp only [cond_false]
        exact rvL_impl b m (i + 1) (a + 1) _ (by omega) (by omega) ⟨hb, hc.2⟩
      · simp only [cond_true]
        cases (((e1).toNat : Int) == 0)
        · simp only [cond_false]
          cases hD : decide (v > 1000000000000)
          · simp only [cond_false]; exact fin hD
          · simp only [cond_true]; exact rvF
        · simp only [cond_true]
          cases decide (((i : Nat) : Int) > 0)
          · simp only [cond_false]
            cases hD : decide (v > 1000000000000)
            · simp only [cond_false]; exact fin hD
            · simp only [cond_true]; exact rvF
          · simp only [cond_true]; exact rvF
theorem rv_impl (b : List UInt8) (at_ : Int) : rvQ b (impl_ReadVarint b at_) := by
  unfold impl_ReadVarint
  cases hd : decide (at_ < 0)
  · have := of_decide_eq_false hd
    have h := rvL_impl b 6 0 at_ 0 (by omega) (by omega) (by omega)
    simp only [cond_false]
    revert h
    cases impl_ReadVarint_L1 b 6 0 at_ 0 with
    | ret r => exact fun h => h
    | nxt x => exact fun _ h => by cases h
  · exact fun h => by cases h
theorem rvL_spec (b : List UInt8) (at_ : Int) : ∀ (m i : Nat) (n_ : Int), i + m ≤ 6 → (0 ≤ n_ ∧ n_ ≤ 9223372036854775807) → rvR b (spec_ReadVarint_L1 b at_ m i n_)
  | 0, i, n_, _, _ => trivial
  | m + 1, i, n_, hi, hn => by
    simp only [spec_ReadVarint_L1]
    refine rvC (fun _ => rvF) (fun h0 => rvC (fun _ => rvF) (fun h => ?_))
    have h1 := of_decide_eq_false h
    have h2 := of_decide_eq_false h0
    cases b[(at_ + ((i : Nat) : Int)).toNat]? with
    | none => exact rvF
    | some e1 =>
      dsimp only
      have hb := bitOr_nn hn (shN (bitAnd127 (u8n e1)) (show i < 6 by omega))
      have hc := bitO_I64 .or n_ (IntKind.i64.wrap ((bitO .and ((e1).toNat : Int) 127) * 2 ^ (min (Int.toNat (7 * ((i : Nat) : Int))) 64)))
      unfold I64 at hc
      generalize bitO .or n_ (IntKind.i64.wrap ((bitO .and ((e1).toNat : Int) 127) * 2 ^ (min (Int.toNat (7 * ((i : Nat) : Int))) 64))) = v at hb hc ⊢
      have fin : decide (v > 1000000000000) = false → rvR (σ := Int) b (.ret (v, at_ + ((i : Nat) : Int) + 1, true)) := fun h _ => by
        have := of_decide_eq_false h
        dsimp only
        omega
      cases decide (((e1).toNat : Int) < 128)
      · simp only [cond_false]
        exact rvL_spec b at_ m (i + 1) _ (by omega) ⟨hb, hc.2⟩
      · simp only [cond_true]
        cases (((e1).toNat : Int) == 0)
        · simp only [cond_false]
          cases hD : decide (v > 1000000000000)
          · simp only [cond_false]; exact fin hD
          · simp only [cond_true]; exact rvF
        · simp only [cond_true]
          cases decide (((i : Nat) : Int) > 0)
          · simp only [cond_false]
            cases hD : decide (v > 1000000000000)
            · simp only [cond_false]; exact fin hD
            · simp only [cond_true]; exact rvF
          · simp only [cond_true]; exact rvF
theorem rv_spec (b : List UInt8) (at_ : Int) : rvQ b (spec_ReadVarint b at_) := by
  unfold spec_ReadVarint
  have h := rvL_spec b at_ 6 0 0 (by omega) (by omega)
  revert h
  cases spec_ReadVarint_L1 b at_ 6 0 0 with
  | ret r => exact fun h => h
  | nxt x => exact fun _ h => by cases h
def impl_ReadBytes (b : (List UInt8)) (at_ : Int) (most : Int) : (List UInt8) × Int × Bool :=
  bif (!((impl_ReadVarint b at_).2.2)) then
    (([] : List UInt8), 0, false)
  else
    bif decide ((impl_ReadVarint b at_).1 > most) then
      (([] : List UInt8), 0, false)
    else
      bif decide ((impl_ReadVarint b at_).1 > (((b).length : Nat) : Int) - ((impl_ReadVarint b at_).2.1)) then
        (([] : List UInt8), 0, false)
      else
        ((List.take ((Int.toNat (((impl_ReadVarint b at_).2.1) + ((impl_ReadVarint b at_).1))) - (Int.toNat ((impl_ReadVarint b at_).2.1))) (List.drop (Int.toNat ((impl_ReadVarint b at_).2.1)) b)), (((impl_ReadVarint b at_).2.1) + ((impl_ReadVarint b at_).1)), true)
def spec_ReadBytes (b : (List UInt8)) (at_ : Int) (most : Int) : (List UInt8) × Int × Bool :=
  bif (!((spec_ReadVarint b at_).2.2)) then
    (([]), 0, false)
  else
    bif decide ((spec_ReadVarint b at_).1 > most) then
      (([]), 0, false)
    else
      bif decide ((spec_ReadVarint b at_).1 > (((b).length : Nat) : Int) - ((spec_ReadVarint b at_).2.1)) then
        (([]), 0, false)
      else
        ((List.take ((Int.toNat (((spec_ReadVarint b at_).2.1) + ((spec_ReadVarint b at_).1))) - (Int.toNat ((spec_ReadVarint b at_).2.1))) (List.drop (Int.toNat ((spec_ReadVarint b at_).2.1)) b)), (((spec_ReadVarint b at_).2.1) + ((spec_ReadVarint b at_).1)), true)
def impl_ReadName_L1 (b : (List UInt8)) : Nat → Int → (List Str) → Ctl (Name × Int × Bool) (Int × (List Str))
  | 0, next, n_ => (Ctl.nxt (next, ((n_) : List Str)))
  | m_ + 1, next, n_ =>
    bif (!((impl_ReadBytes b next 8).2.2)) then
      (Ctl.ret ((Name.mk ([])), 0, false))
    else
      impl_ReadName_L1 b m_ ((impl_ReadBytes b next 8).2.1) (((n_ ++ [(bstr ((impl_ReadBytes b next 8).1))])) : List Str)
def impl_ReadName (b : (List UInt8)) (at_ : Int) : Name × Int × Bool :=
  bif (!((impl_ReadVarint b at_).2.2)) then
    ((Name.mk ([])), 0, false)
  else
    bif decide ((impl_ReadVarint b at_).1 > 6) then
      ((Name.mk ([])), 0, false)
    else
      match impl_ReadName_L1 b (((impl_ReadVarint b at_).1).toNat) ((impl_ReadVarint b at_).2.1) ([] : List Str) with
        | .ret r_ => r_
        | .nxt (next, n_) =>
          bif (!(impl_ValidName (Name.mk n_))) then
            ((Name.mk ([])), 0, false)
          else
            ((Name.mk n_), next, true)
def spec_ReadName_L1 (b : (List UInt8)) : Nat → Int → (List Str) → Ctl (Name × Int × Bool) (Int × (List Str))
  | 0, next, n_ => (Ctl.nxt (next, ((n_) : List Str)))
  | m_ + 1, next, n_ =>
    bif (!((spec_ReadBytes b next 8).2.2)) then
      (Ctl.ret ((Name.mk ([])), 0, false))
    else
      spec_ReadName_L1 b m_ ((spec_ReadBytes b next 8).2.1) (((n_ ++ [(bstr ((spec_ReadBytes b next 8).1))])) : List Str)
def spec_ReadName (b : (List UInt8)) (at_ : Int) : Name × Int × Bool :=
  bif (!((spec_ReadVarint b at_).2.2)) then
    ((Name.mk ([])), 0, false)
  else
    bif decide ((spec_ReadVarint b at_).1 > 6) then
      ((Name.mk ([])), 0, false)
    else
      match spec_ReadName_L1 b (((spec_ReadVarint b at_).1).toNat) ((spec_ReadVarint b at_).2.1) ([] : List Str) with
        | .ret r_ => r_
        | .nxt (next, n_) =>
          bif (!(spec_ValidName (Name.mk n_))) then
            ((Name.mk ([])), 0, false)
          else
            ((Name.mk n_), next, true)
end Go.Stp

namespace Go.Stp
open GoT (X k ok sh fa oa)
theorem RdL.bytes (G : GH) : ∀ (l : List UInt8), RdL G (l.map fun b => Value.int .u8 b.toNat) l
  | [] => rfl
  | _ :: l => ⟨(), _, rfl, All.nil, RdL.bytes G l⟩
theorem looks_slB {C : Cx} {env : Env} {L : Locs} {R : Rows} {G : GH} {o : Oper} {x y z : Operand} {T n c kk : Nat} {p : Option Addr} {l h : Int} (m m2 : Nat) (ht : TabOk C.P C.tt) (ho : o.op = .slice T x (some y) (some z) none) (hT : elemO C.tt T = some kk)
    (hx : ev env x = some (.v (.slice p n c))) (hy : ev env y = some (.v (.int .i64 l))) (hz : ev env z = some (.v (.int .i64 h))) (h0 : l = (m : Int)) (h1 : h = (m2 : Int)) (h2 : m ≤ m2) (h3 : m2 ≤ c) : Looks C env L R G o (.v (.slice (offP p c m kk) (m2 - m) (c - m))) := by
  intro a w G' bs _ hA hI
  subst h0 h1
  obtain ⟨hu, hs⟩ := elemO_info ht hT w
  unfold execOp
  simp only [ho, Option.map, ev_conc hA hx, ev_conc hA hy, ev_conc hA hz, conc, Sem.run_bind, run_sliceAt_slice w T _ _ _ _ hu, run_slice_lh w T p n c hu .i64 .i64 (m : Int) (m2 : Int) (by omega) (by omega) (by omega), hs, Result.andThen_ok]
  simp only [sliced, Int.toNat_natCast, offP]
  rfl
end Go.Stp

