/-
  What the proof of one law needs: rules of the program logic, functions as Lean functions, contracts. No condition but what each says. Written by a program (pack.py) out of my own texts.
-/
import Derived.Laws.IdiomStrings
import Derived.Test.YtolepebgdfdciaaGreatKAcceptData3
namespace Go.Proofs.YtolepebgdfdciaaGreat
open Go.Stp
set_option linter.unusedVariables false
set_option linter.unusedSimpArgs false
theorem f243 (w : World) (n : Nat) (hn : n + 0 ≤ 9) (k : Int) (hokk : GoT.ok n k) :
  Does Tryz.prog 243 #[.int .i64 (k)] w emp (fun (rv : Value) (_ : World) => rv = .string (laws_markText k) ∧ GoT.ok n ((laws_markText k) : Str)) := by
 have hbP := bd_pos n
 have hbB := bd_big (n := n) (by omega)
 refine WX.enter (tt := tt) (Γ := []) Tryz.func243 rfl (by kernel_rfl) rfl allS_nil ?_
 refine R0 ?_
 refine WX.cases 5 rfl (fun h1 => ?_) (fun h1 => ?_)
 ·skip
  have h1d := B.dt h1
  refine R0 ?_
  have hP1 : laws_markText k = (⟨#[109, 48]⟩ : Str) := by simp only [laws_markText, h1, ct, cf]
  refine R1 ?_
  intro w1 G bs hI hΓ
  rw [hP1]
  exact ⟨rfl, (Nat.le_trans (by decide) (bd_pos _))⟩
 ·skip
  have h1d := B.df h1
  refine R0 ?_
  have r1 : (⟨#[]⟩ : Str).size = 0 := rfl
  refine WX.loop (ι := Int × Str) ⟨fun | (k2, out) => (-9223372036854775808 ≤ k2 ∧ k2 ≤ 9223372036854775807) ∧ (out.size ≤ bd n) ∧ (mkInv k2 out.size) ∧ (laws_markText_L1 k (⟨#[]⟩ : Str) = laws_markText_L1 k2 out), fun | (k2, out) => k2.toNat, fun | (k2, out) => [(0, .v (.int .i64 (k2))), (3, .v (.string out))], fun | (k2, out) => [], fun | (k2, out) => [], fun | (k2, out) => []⟩ (k, (⟨#[]⟩ : Str)) ⟨hokk, (by first | assumption | omega), (mkInv_0 hokk.2), rfl⟩
   (.cons rfl (.cons rfl (.nil))) .nil .nil [] rfl ?_
  rintro ⟨k2, out⟩ hpre
  have hpre_ : (-9223372036854775808 ≤ k2 ∧ k2 ≤ 9223372036854775807) ∧ (out.size ≤ bd n) ∧ (mkInv k2 out.size) ∧ (laws_markText_L1 k (⟨#[]⟩ : Str) = laws_markText_L1 k2 out) := hpre
  clear hpre
  obtain ⟨v1, v2, v3, v4⟩ := hpre_
  have hz0 := mkInv_size v3
  refine R0 ?_
  refine WX.cases 7 rfl (fun h2 => ?_) (fun h2 => ?_)
  ·skip
   have h2d := B.dt h2
   refine R0 ?_
   have r2 := tmod_rng k2 (show (0 : Int) < 10 by omega)
   refine WX.see rfl rfl rfl (fun _ hΓ => looks_rem rfl rfl rfl (by decide)) ?_
   refine WX.see rfl rfl rfl (fun _ hΓ => looks_wrap rfl rfl rfl rfl) ?_
   refine WX.see rfl rfl rfl (fun _ hΓ => looks_toU8 ttOk rfl rfl rfl rfl rfl rfl) ?_
   refine WX.bld ttOk rfl rfl rfl rfl rfl rfl rfl ?_
   intro p1
   refine WX.turn [] 0 rfl (fun h hs => ol_one (α := UInt8) (a := (toU8 (IntKind.i64.wrap (48 + (Int.tmod k2 10))))) (x := ()) hs) (gs := [MF.ol [.int .u8 ((toU8 (IntKind.i64.wrap (48 + (Int.tmod k2 10)))).toNat : Nat)] ([(toU8 (IntKind.i64.wrap (48 + (Int.tmod k2 10))))] : List UInt8)]) rfl ?_
   refine WX.seal 12 0 1 rfl rfl rfl rfl rfl ?_
   refine WX.see rfl rfl rfl (fun _ hΓ => looks_toStr ttOk (hΓ.get 1 rfl) rfl rfl rfl rfl rfl rfl rfl rfl rfl) ?_
   refine R0 ?_
   have r3 : (bstr ([(toU8 (IntKind.i64.wrap (48 + (Int.tmod k2 10))))])).size = 1 := bstr_size _
   refine WX.see rfl rfl rfl (fun _ hΓ => looks_cat rfl rfl rfl (by have := bd_le (n + 9); simp; omega)) ?_
   refine R0 ?_
   refine WX.see rfl rfl rfl (fun _ hΓ => looks_quo rfl rfl rfl (by decide)) ?_
   refine R0 ?_
   have hz1 : (bstr ([(toU8 (IntKind.i64.wrap (48 + (Int.tmod k2 10))))]) ++ out).size = out.size + 1 := by rw [ByteArray.size_append]; show 1 + out.size = out.size + 1; omega
   have hz2 := mkInv_size (mkInv_step h2d v3)
   exact WX.iter (IntKind.i64.wrap (Int.tdiv k2 10), ((bstr ([(toU8 (IntKind.i64.wrap (48 + (Int.tmod k2 10))))])) ++ out)) ⟨(i64_wrap _), (by first | assumption | omega | (simp; omega)), (by rw [hz1]; exact mkInv_step h2d v3), (by rw [v4]; rw [laws_markText_L1]; simp only [h2, h2d, ct, cf, ↓reduceIte, Bool.false_eq_true])⟩ (wrap_quo10 h2d) (.cons rfl (.cons rfl (.nil))) .nil .nil [] rfl
  ·skip
   have h2d := B.df h2
   refine R0 ?_
   have hX1 : laws_markText_L1 k (⟨#[]⟩ : Str) = (k2, out) := by rw [v4]; rw [laws_markText_L1]; simp only [h2, h2d, ct, cf, ↓reduceIte, Bool.false_eq_true]
   have r4 : (⟨#[109]⟩ : Str).size = 1 := rfl
   refine WX.see rfl rfl rfl (fun _ hΓ => looks_cat rfl rfl rfl (by have := bd_le (n + 9); simp; omega)) ?_
   refine R0 ?_
   have hP2 : laws_markText k = ((⟨#[109]⟩ : Str) ++ out) := by simp only [laws_markText, h1, hX1, ct, cf]
   refine R1 ?_
   intro w1 G bs hI hΓ
   rw [hP2]
   exact ⟨rfl, (show (((⟨#[109]⟩ : Str) ++ out)).size ≤ bd n from (by first | omega | (simp; omega)))⟩
theorem f219 (w : World) (n : Nat) (hn : n + 0 ≤ 9) (a : (List Str)) (pa : Option Addr) (ca : Nat) (k : Int) (H : GH) (hH : Le H (hp w)) (hown : Sep H (GoT.oa a (pa, ca))) (hoka : GoT.ok n a) (hokk : GoT.ok n k) :
  Does Tryz.prog 219 #[.slice pa ((a).length) ca, .int .i64 (k)] w H (Post w H (fun _ : Unit => .int .i64 ((laws_markStringS a k).1)) (fun _ => GoT.oa ((laws_markStringS a k).2 : (List Str)) (pa, ca)) ((GoT.ok n ((laws_markStringS a k).1 : Int) ∧ GoT.ok n ((laws_markStringS a k).2 : (List Str))) ∧ ((laws_markStringS a k).2).length = (a).length)) := by
 have hbP := bd_pos n
 have hbB := bd_big (n := n) (by omega)
 refine WX.enterM (tt := tt) (Γ := []) 1 Tryz.func219 rfl (by kernel_rfl) rfl allS_nil hH hown (fun f hf => GoT.oak f hf) rfl ?_
 refine WX.opn (kk := 1) 501 1 2 rfl rfl rfl ?_
 intro xs1 hx1
 refine R0 ?_
 have r1 : (a).length ≤ bd n := (okl hoka).1
 refine WX.loop (ι := (List Value) × (List Str) × Int × Nat) ⟨fun | (xsa2, a2, k2, i) => (i ≤ (a).length) ∧ (a2.length = (a).length) ∧ (∀ z_ ∈ a2, GoT.ok n z_) ∧ (-9223372036854775808 ≤ k2 ∧ k2 ≤ 9223372036854775807) ∧ (laws_markStringS_L1 ((a).length) 0 (a : List Str) k = laws_markStringS_L1 ((a).length - i) i a2 k2), fun | (xsa2, a2, k2, i) => (a).length - i, fun | (xsa2, a2, k2, i) => [(0, .v (.slice pa ((a).length) ca)), (1, .v (.int .i64 (k2))), (5, .v (.int .i64 (((i : Nat) : Int))))], fun | (xsa2, a2, k2, i) => [], fun | (xsa2, a2, k2, i) => [(501, ⟨1, pa, (a).length, ca, xsa2⟩)], fun | (xsa2, a2, k2, i) => [(2, MF.ol xsa2 (a2 : List Str))]⟩ (xs1, (a : List Str), k, 0) ⟨(Nat.zero_le _), (by simp), (okl hoka).2, hokk, rfl⟩
  (.cons rfl (.cons rfl (.cons rfl (.nil)))) .nil (.cons rfl (.nil)) [2] rfl ?_
 rintro ⟨xsa2, a2, k2, i⟩ hpre
 have hpre_ : (i ≤ (a).length) ∧ (a2.length = (a).length) ∧ (∀ z_ ∈ a2, GoT.ok n z_) ∧ (-9223372036854775808 ≤ k2 ∧ k2 ≤ 9223372036854775807) ∧ (laws_markStringS_L1 ((a).length) 0 (a : List Str) k = laws_markStringS_L1 ((a).length - i) i a2 k2) := hpre
 clear hpre
 obtain ⟨v1, v2, v3, v4, v5⟩ := hpre_
 refine R0 ?_
 refine WX.cases 9 rfl (fun h1 => ?_) (fun h1 => ?_)
 ·skip
  have h1d := B.dt h1
  refine R0 ?_
  refine WX.callV rfl rfl rfl rfl rfl (fun _ => rfl) rfl (fun w G bs hI hΓ => f243 w n (by omega) k2 v4) ?_
  intro hq1
  have hr1 : i < (a).length := (by first | assumption | omega)
  refine WX.idxR 501 i ttOk rfl rfl rfl rfl rfl rfl rfl rfl rfl hr1 ?_
  rintro ad1 rfl
  have e1i : i < (a2).length := (by first | assumption | omega)
  obtain ⟨e1, e1h⟩ : ∃ e1, (a2)[i]? = some e1 := ⟨_, List.getElem?_eq_getElem e1i⟩
  have ok1 : GoT.ok n e1 := v3 _ (List.mem_of_getElem? e1h)
  refine WX.opnE (α := Str) (e := e1) 501 2 3 i rfl rfl rfl e1h (fun _ => rfl) (fun _ _ _ => rfl) (fun _ _ _ => rfl) ?_
  rintro A1 B1 ⟨⟩ hA1 hB1
  refine WX.stA 501 ttOk rfl rfl rfl rfl rfl rfl rfl rfl rfl rfl rfl rfl rfl rfl hA1 hr1 rfl rfl rfl rfl (by simp) rfl ?_
  refine R0 ?_
  refine WX.see rfl rfl rfl (fun _ hΓ => looks_wrap rfl rfl rfl rfl) ?_
  refine R0 ?_
  refine WX.see rfl rfl rfl (fun _ hΓ => looks_arith rfl rfl rfl rfl (by unfold I64; first | omega | (simp only [List.length_take] at *; omega))) ?_
  refine R0 ?_
  refine WX.turn [3, 4] 5 rfl (fun h hs => cl_elem (α := Str) (e := (laws_markText k2)) (x := ()) e1i hs) (gs := [MF.ol (A1 ++ [.string (laws_markText k2)] ++ B1) (a2.set i (laws_markText k2))]) rfl ?_
  refine WX.turn [5] 2 rfl (fun _ h => h) rfl ?_
  exact WX.iter ((A1 ++ [.string (laws_markText k2)] ++ B1), ((a2.set i (laws_markText k2)) : List Str), IntKind.i64.wrap (k2 + 1), i + 1) ⟨(by omega), (by first | assumption | omega | (simp; omega)), (all_set v3 (show GoT.ok n ((laws_markText k2) : Str) from hq1)), (i64_wrap _), (by rw [v5, show (a).length - i = ((a).length - (i + 1)) + 1 by omega]; simp only [laws_markStringS_L1, e1h, ct, cf])⟩ (by first | (dsimp only; omega) | omega) (.cons rfl (.cons rfl (.cons rfl (.nil)))) .nil (.cons rfl (.nil)) [2] rfl
 ·skip
  have h1d := B.df h1
  refine R0 ?_
  have hX1 : laws_markStringS_L1 ((a).length) 0 (a : List Str) k = (((a2) : List Str), k2) := by rw [v5, show (a).length - i = 0 by omega]; simp only [laws_markStringS_L1, ct, cf]
  refine WX.seal 501 2 6 rfl rfl (show (a).length = (a2).length from by omega) rfl rfl ?_
  refine WX.slot 7 (y := .v (.slice pa (a2).length ca)) rfl (fun _ => by show (Value.slice pa ((a).length) ca : Value) = Value.slice pa (a2).length ca; rw [(show (a).length = (a2).length from by omega)]) ?_
  refine WX.slot 0 (y := .v (.slice pa (a2).length ca)) rfl (fun _ => by show (Value.slice pa ((a).length) ca : Value) = Value.slice pa (a2).length ca; rw [(show (a).length = (a2).length from by omega)]) ?_
  have hP1 : laws_markStringS a k = (k2, a2) := by simp only [laws_markStringS, hX1, ct, cf]
  refine R1 ?_
  intro w1 G bs hI hΓ
  rw [hP1]
  exact Post.of [7] () hI hΓ rfl rfl rfl ⟨⟨v4, (okl_mk (by omega) v3 : GoT.ok n (a2 : List Str))⟩, (show (a2).length = (a).length from by omega)⟩
theorem f162 (w : World) (n : Nat) (hn : n + 0 ≤ 9) (a : Name) (pa : Option Addr) (ca : Nat) (k : Int) (H : GH) (hH : Le H (hp w)) (hown : Sep H (GoT.oa a (pa, ca))) (hoka : GoT.ok n a) (hokk : GoT.ok n k) :
  Does Tryz.prog 162 #[.agg #[.slice pa ((a.parts).length) ca], .int .i64 (k)] w H (Post w H (fun _ : Unit => .int .i64 ((laws_markName a k).1)) (fun _ => GoT.oa ((laws_markName a k).2 : Name) (pa, ca)) ((GoT.ok n ((laws_markName a k).1 : Int) ∧ GoT.ok n ((laws_markName a k).2 : Name)) ∧ ((laws_markName a k).2.parts).length = (a.parts).length)) := by
 have hbP := bd_pos n
 have hbB := bd_big (n := n) (by omega)
 refine WX.enterM (tt := tt) (Γ := []) 1 Tryz.func162 rfl (by kernel_rfl) rfl allS_nil hH hown (fun f hf => GoT.oak f hf) rfl ?_
 refine R0 ?_
 refine WX.callM [1] 2 rfl (fun _ _ h => GoT.ow_rd h) (fun _ f hf => GoT.fak f hf) rfl rfl rfl rfl rfl (fun _ => rfl) rfl (fun w G bs H hI hH hs hΓ => f219 w n (by omega) a.parts pa ca k H hH hs (ok_Name hoka) hokk) (fun _ => rfl) (fun _ => rfl) ?_
 rintro ⟨⟩ hq1
 have hl1 : ((laws_markStringS a.parts k).2).length = (a.parts).length := hq1.2
 refine R0 ?_
 have hP1 : laws_markName a k = ((laws_markStringS a.parts k).1, Name.mk ((laws_markStringS a.parts k).2)) := by simp only [laws_markName, ct, cf]
 refine R1 ?_
 intro w1 G bs hI hΓ
 rw [hP1]
 exact Post.of [3] () hI hΓ rfl rfl rfl ⟨⟨hq1.1.1, hq1.1.2⟩, (show ((laws_markStringS a.parts k).2).length = (a.parts).length from by omega)⟩
theorem f167 (w : World) (n : Nat) (hn : n + 0 ≤ 9) (a : (List UInt8)) (pa : Option Addr) (ca : Nat) (k : Int) (H : GH) (hH : Le H (hp w)) (hown : Sep H (GoT.oa a (pa, ca))) (hoka : GoT.ok n a) (hokk : GoT.ok n k) :
  Does Tryz.prog 167 #[.slice pa ((a).length) ca, .int .i64 (k)] w H (Post w H (fun _ : Unit => .int .i64 ((laws_markByteS a k).1)) (fun _ => GoT.oa ((laws_markByteS a k).2 : (List UInt8)) (pa, ca)) ((GoT.ok n ((laws_markByteS a k).1 : Int) ∧ GoT.ok n ((laws_markByteS a k).2 : (List UInt8))) ∧ ((laws_markByteS a k).2).length = (a).length)) := by
 have hbP := bd_pos n
 have hbB := bd_big (n := n) (by omega)
 refine WX.enterM (tt := tt) (Γ := []) 1 Tryz.func167 rfl (by kernel_rfl) rfl allS_nil hH hown (fun f hf => GoT.oak f hf) rfl ?_
 refine WX.opn (kk := 1) 501 1 2 rfl rfl rfl ?_
 intro xs1 hx1
 refine R0 ?_
 have r1 : (a).length ≤ bd n := (okl hoka).1
 refine WX.loop (ι := (List Value) × (List UInt8) × Int × Nat) ⟨fun | (xsa2, a2, k2, i) => (i ≤ (a).length) ∧ (a2.length = (a).length) ∧ (∀ z_ ∈ a2, GoT.ok n z_) ∧ (-9223372036854775808 ≤ k2 ∧ k2 ≤ 9223372036854775807) ∧ (laws_markByteS_L1 ((a).length) 0 (a : List UInt8) k = laws_markByteS_L1 ((a).length - i) i a2 k2), fun | (xsa2, a2, k2, i) => (a).length - i, fun | (xsa2, a2, k2, i) => [(0, .v (.slice pa ((a).length) ca)), (1, .v (.int .i64 (k2))), (5, .v (.int .i64 (((i : Nat) : Int))))], fun | (xsa2, a2, k2, i) => [], fun | (xsa2, a2, k2, i) => [(501, ⟨1, pa, (a).length, ca, xsa2⟩)], fun | (xsa2, a2, k2, i) => [(2, MF.ol xsa2 (a2 : List UInt8))]⟩ (xs1, (a : List UInt8), k, 0) ⟨(Nat.zero_le _), (by simp), (okl hoka).2, hokk, rfl⟩
  (.cons rfl (.cons rfl (.cons rfl (.nil)))) .nil (.cons rfl (.nil)) [2] rfl ?_
 rintro ⟨xsa2, a2, k2, i⟩ hpre
 have hpre_ : (i ≤ (a).length) ∧ (a2.length = (a).length) ∧ (∀ z_ ∈ a2, GoT.ok n z_) ∧ (-9223372036854775808 ≤ k2 ∧ k2 ≤ 9223372036854775807) ∧ (laws_markByteS_L1 ((a).length) 0 (a : List UInt8) k = laws_markByteS_L1 ((a).length - i) i a2 k2) := hpre
 clear hpre
 obtain ⟨v1, v2, v3, v4, v5⟩ := hpre_
 refine R0 ?_
 refine WX.cases 9 rfl (fun h1 => ?_) (fun h1 => ?_)
 ·skip
  have h1d := B.dt h1
  refine R0 ?_
  refine WX.see rfl rfl rfl (fun _ hΓ => looks_toU8 ttOk rfl rfl rfl rfl rfl rfl) ?_
  have hr1 : i < (a).length := (by first | assumption | omega)
  refine WX.idxR 501 i ttOk rfl rfl rfl rfl rfl rfl rfl rfl rfl hr1 ?_
  rintro ad1 rfl
  have e1i : i < (a2).length := (by first | assumption | omega)
  obtain ⟨e1, e1h⟩ : ∃ e1, (a2)[i]? = some e1 := ⟨_, List.getElem?_eq_getElem e1i⟩
  refine WX.opnE (α := UInt8) (e := e1) 501 2 3 i rfl rfl rfl e1h (fun _ => rfl) (fun _ _ _ => rfl) (fun _ _ _ => rfl) ?_
  rintro A1 B1 ⟨⟩ hA1 hB1
  refine WX.stA 501 ttOk rfl rfl rfl rfl rfl rfl rfl rfl rfl rfl rfl rfl rfl rfl hA1 hr1 rfl rfl rfl rfl (by simp) rfl ?_
  refine R0 ?_
  refine WX.see rfl rfl rfl (fun _ hΓ => looks_wrap rfl rfl rfl rfl) ?_
  refine R0 ?_
  refine WX.see rfl rfl rfl (fun _ hΓ => looks_arith rfl rfl rfl rfl (by unfold I64; first | omega | (simp only [List.length_take] at *; omega))) ?_
  refine R0 ?_
  refine WX.turn [3, 4] 5 rfl (fun h hs => cl_elem (α := UInt8) (e := (toU8 k2)) (x := ()) e1i hs) (gs := [MF.ol (A1 ++ [.int .u8 ((toU8 k2).toNat : Nat)] ++ B1) (a2.set i (toU8 k2))]) rfl ?_
  refine WX.turn [5] 2 rfl (fun _ h => h) rfl ?_
  exact WX.iter ((A1 ++ [.int .u8 ((toU8 k2).toNat : Nat)] ++ B1), ((a2.set i (toU8 k2)) : List UInt8), IntKind.i64.wrap (k2 + 1), i + 1) ⟨(by omega), (by first | assumption | omega | (simp; omega)), (all_set v3 (show GoT.ok n ((toU8 k2) : UInt8) from trivial)), (i64_wrap _), (by rw [v5, show (a).length - i = ((a).length - (i + 1)) + 1 by omega]; simp only [laws_markByteS_L1, e1h, ct, cf])⟩ (by first | (dsimp only; omega) | omega) (.cons rfl (.cons rfl (.cons rfl (.nil)))) .nil (.cons rfl (.nil)) [2] rfl
 ·skip
  have h1d := B.df h1
  refine R0 ?_
  have hX1 : laws_markByteS_L1 ((a).length) 0 (a : List UInt8) k = (((a2) : List UInt8), k2) := by rw [v5, show (a).length - i = 0 by omega]; simp only [laws_markByteS_L1, ct, cf]
  refine WX.seal 501 2 6 rfl rfl (show (a).length = (a2).length from by omega) rfl rfl ?_
  refine WX.slot 7 (y := .v (.slice pa (a2).length ca)) rfl (fun _ => by show (Value.slice pa ((a).length) ca : Value) = Value.slice pa (a2).length ca; rw [(show (a).length = (a2).length from by omega)]) ?_
  refine WX.slot 0 (y := .v (.slice pa (a2).length ca)) rfl (fun _ => by show (Value.slice pa ((a).length) ca : Value) = Value.slice pa (a2).length ca; rw [(show (a).length = (a2).length from by omega)]) ?_
  have hP1 : laws_markByteS a k = (k2, a2) := by simp only [laws_markByteS, hX1, ct, cf]
  refine R1 ?_
  intro w1 G bs hI hΓ
  rw [hP1]
  exact Post.of [7] () hI hΓ rfl rfl rfl ⟨⟨v4, (okl_mk (by omega) (fun _ _ => trivial) : GoT.ok n (a2 : List UInt8))⟩, (show (a2).length = (a).length from by omega)⟩
theorem f74 (w : World) (n : Nat) (hn : n + 0 ≤ 9) (a : DataP) (K0 : Option Addr) (M0 : Nat) (K1 : Option Addr) (M1 : Nat) (K2 : Option Addr) (M2 : Nat) (k : Int) (H : GH) (hH : Le H (hp w)) (hown : Sep H (GoT.oa a ((K0, M0), (K1, M1), (K2, M2), (), ()))) (hoka : GoT.ok n a) (hokk : GoT.ok n k) :
  Does Tryz.prog 74 #[.agg #[.slice K0 ((a.name.parts).length) M0, .slice K1 ((a.content).length) M1, .slice K2 ((a.keyName.parts).length) M2, .int .i64 (a.freshUntil), .int .i64 (a.signature)], .int .i64 (k)] w H (Post w H (fun _ : Unit => .int .i64 ((laws_markData a k).1)) (fun _ => GoT.oa ((laws_markData a k).2 : DataP) ((K0, M0), (K1, M1), (K2, M2), (), ())) ((GoT.ok n ((laws_markData a k).1 : Int) ∧ GoT.ok n ((laws_markData a k).2 : DataP)) ∧ ((laws_markData a k).2.name.parts).length = (a.name.parts).length ∧ ((laws_markData a k).2.content).length = (a.content).length ∧ ((laws_markData a k).2.keyName.parts).length = (a.keyName.parts).length ∧ (laws_markData a k).2.freshUntil = a.freshUntil ∧ (laws_markData a k).2.signature = a.signature)) := by
 have hbP := bd_pos n
 have hbB := bd_big (n := n) (by omega)
 refine WX.enterM (tt := tt) (Γ := []) 3 Tryz.func74 rfl (by kernel_rfl) rfl allS_nil hH hown (fun f hf => GoT.oak f hf) rfl ?_
 refine R0 ?_
 refine WX.callM [3] 6 rfl (fun _ _ h => GoT.ow_rd h) (fun _ f hf => GoT.fak f hf) rfl rfl rfl rfl rfl (fun _ => rfl) rfl (fun w G bs H hI hH hs hΓ => f162 w n (by omega) a.name K0 M0 k H hH hs ((ok_DataP hoka).1) hokk) (fun _ => rfl) (fun _ => rfl) ?_
 rintro ⟨⟩ hq1
 have hl1 : ((laws_markName a.name k).2.parts).length = (a.name.parts).length := hq1.2
 refine R0 ?_
 refine WX.callM [4] 8 rfl (fun _ _ h => GoT.ow_rd h) (fun _ f hf => GoT.fak f hf) rfl rfl rfl rfl rfl (fun _ => rfl) rfl (fun w G bs H hI hH hs hΓ => f167 w n (by omega) a.content K1 M1 ((laws_markName a.name k).1) H hH hs ((ok_DataP hoka).2.1) hq1.1.1) (fun _ => rfl) (fun _ => rfl) ?_
 rintro ⟨⟩ hq2
 have hl2 : ((laws_markByteS a.content ((laws_markName a.name k).1)).2).length = (a.content).length := hq2.2
 refine R0 ?_
 refine WX.callM [5] 10 rfl (fun _ _ h => GoT.ow_rd h) (fun _ f hf => GoT.fak f hf) rfl rfl rfl rfl rfl (fun _ => rfl) rfl (fun w G bs H hI hH hs hΓ => f162 w n (by omega) a.keyName K2 M2 ((laws_markByteS a.content ((laws_markName a.name k).1)).1) H hH hs ((ok_DataP hoka).2.2.1) hq2.1.1) (fun _ => rfl) (fun _ => rfl) ?_
 rintro ⟨⟩ hq3
 have hl3 : ((laws_markName a.keyName ((laws_markByteS a.content ((laws_markName a.name k).1)).1)).2.parts).length = (a.keyName.parts).length := hq3.2
 refine R0 ?_
 have hP1 : laws_markData a k = ((laws_markName a.keyName ((laws_markByteS a.content ((laws_markName a.name k).1)).1)).1, DataP.mk ((laws_markName a.name k).2) ((laws_markByteS a.content ((laws_markName a.name k).1)).2) ((laws_markName a.keyName ((laws_markByteS a.content ((laws_markName a.name k).1)).1)).2) a.freshUntil a.signature) := by simp only [laws_markData, ct, cf]
 refine R1 ?_
 intro w1 G bs hI hΓ
 rw [hP1]
 exact Post.of [7, 9, 11] () hI hΓ rfl rfl rfl ⟨⟨hq3.1.1, (And.intro hq1.1.2 (And.intro hq2.1.2 (And.intro hq3.1.2 (And.intro (ok_DataP hoka).2.2.2.1 (ok_DataP hoka).2.2.2.2))))⟩, ⟨(show ((laws_markName a.name k).2.parts).length = (a.name.parts).length from by omega), ⟨(show ((laws_markByteS a.content ((laws_markName a.name k).1)).2).length = (a.content).length from by omega), ⟨(show ((laws_markName a.keyName ((laws_markByteS a.content ((laws_markName a.name k).1)).1)).2.parts).length = (a.keyName.parts).length from by omega), ⟨rfl, rfl⟩⟩⟩⟩⟩
theorem f72 (w : World) (n : Nat) (hn : n + 0 ≤ 9) (a : Consumer) (K0 : Option Addr) (M0 : Nat) (K1 : Option Addr) (M1 : Nat) (K2 : Option Addr) (M2 : Nat) (K3 : Option Addr) (M3 : Nat) (k : Int) (H : GH) (hH : Le H (hp w)) (hown : Sep H (GoT.oa a ((), (), (K0, M0), (), (), (), ((K1, M1), (K2, M2), (K3, M3), (), ())))) (hoka : GoT.ok n a) (hokk : GoT.ok n k) :
  Does Tryz.prog 72 #[.agg #[.int .i64 (a.node), .int .i64 (a.index), .slice K0 ((a.name.parts).length) M0, .int .i64 (a.attempts), .int .i64 (a.wait), .bool a.satisfied, .slice K1 ((a.data.name.parts).length) M1, .slice K2 ((a.data.content).length) M2, .slice K3 ((a.data.keyName.parts).length) M3, .int .i64 (a.data.freshUntil), .int .i64 (a.data.signature)], .int .i64 (k)] w H (Post w H (fun _ : Unit => .int .i64 ((laws_markConsumer a k).1)) (fun _ => GoT.oa ((laws_markConsumer a k).2 : Consumer) ((), (), (K0, M0), (), (), (), ((K1, M1), (K2, M2), (K3, M3), (), ()))) ((GoT.ok n ((laws_markConsumer a k).1 : Int) ∧ GoT.ok n ((laws_markConsumer a k).2 : Consumer)) ∧ (laws_markConsumer a k).2.node = a.node ∧ (laws_markConsumer a k).2.index = a.index ∧ ((laws_markConsumer a k).2.name.parts).length = (a.name.parts).length ∧ (laws_markConsumer a k).2.attempts = a.attempts ∧ (laws_markConsumer a k).2.wait = a.wait ∧ (laws_markConsumer a k).2.satisfied = a.satisfied ∧ ((laws_markConsumer a k).2.data.name.parts).length = (a.data.name.parts).length ∧ ((laws_markConsumer a k).2.data.content).length = (a.data.content).length ∧ ((laws_markConsumer a k).2.data.keyName.parts).length = (a.data.keyName.parts).length ∧ (laws_markConsumer a k).2.data.freshUntil = a.data.freshUntil ∧ (laws_markConsumer a k).2.data.signature = a.data.signature)) := by
 have hbP := bd_pos n
 have hbB := bd_big (n := n) (by omega)
 refine WX.enterM (tt := tt) (Γ := []) 4 Tryz.func72 rfl (by kernel_rfl) rfl allS_nil hH hown (fun f hf => GoT.oak f hf) rfl ?_
 refine R0 ?_
 refine WX.callM [4] 8 rfl (fun _ _ h => GoT.ow_rd h) (fun _ f hf => GoT.fak f hf) rfl rfl rfl rfl rfl (fun _ => rfl) rfl (fun w G bs H hI hH hs hΓ => f162 w n (by omega) a.name K0 M0 k H hH hs ((ok_Consumer hoka).2.2.1) hokk) (fun _ => rfl) (fun _ => rfl) ?_
 rintro ⟨⟩ hq1
 have hl1 : ((laws_markName a.name k).2.parts).length = (a.name.parts).length := hq1.2
 refine R0 ?_
 refine WX.callM [5, 6, 7] 10 rfl (fun _ _ h => GoT.ow_rd h) (fun _ f hf => GoT.fak f hf) rfl rfl rfl rfl rfl (fun _ => rfl) rfl (fun w G bs H hI hH hs hΓ => f74 w n (by omega) a.data K1 M1 K2 M2 K3 M3 ((laws_markName a.name k).1) H hH hs ((ok_Consumer hoka).2.2.2.2.2.2) hq1.1.1) (fun _ => rfl) (fun _ => rfl) ?_
 rintro ⟨⟩ hq2
 have hl2 : ((laws_markData a.data ((laws_markName a.name k).1)).2.name.parts).length = (a.data.name.parts).length := hq2.2.1
 have hl3 : ((laws_markData a.data ((laws_markName a.name k).1)).2.content).length = (a.data.content).length := hq2.2.2.1
 have hl4 : ((laws_markData a.data ((laws_markName a.name k).1)).2.keyName.parts).length = (a.data.keyName.parts).length := hq2.2.2.2.1
 refine R0 ?_
 have hP1 : laws_markConsumer a k = ((laws_markData a.data ((laws_markName a.name k).1)).1, Consumer.mk a.node a.index ((laws_markName a.name k).2) a.attempts a.wait a.satisfied (DataP.mk ((laws_markData a.data ((laws_markName a.name k).1)).2.name) ((laws_markData a.data ((laws_markName a.name k).1)).2.content) ((laws_markData a.data ((laws_markName a.name k).1)).2.keyName) a.data.freshUntil a.data.signature)) := by simp only [laws_markConsumer, ct, cf]
 refine R1 ?_
 intro w1 G bs hI hΓ
 rw [hP1]
 exact Post.of [9, 13, 14, 15] () hI hΓ rfl rfl rfl ⟨⟨hq2.1.1, (And.intro (ok_Consumer hoka).1 (And.intro (ok_Consumer hoka).2.1 (And.intro hq1.1.2 (And.intro (ok_Consumer hoka).2.2.2.1 (And.intro (ok_Consumer hoka).2.2.2.2.1 (And.intro trivial (And.intro (ok_DataP hq2.1.2).1 (And.intro (ok_DataP hq2.1.2).2.1 (And.intro (ok_DataP hq2.1.2).2.2.1 (And.intro (ok_DataP (ok_Consumer hoka).2.2.2.2.2.2).2.2.2.1 (ok_DataP (ok_Consumer hoka).2.2.2.2.2.2).2.2.2.2))))))))))⟩, ⟨rfl, ⟨rfl, ⟨(show ((laws_markName a.name k).2.parts).length = (a.name.parts).length from by omega), ⟨rfl, ⟨rfl, ⟨rfl, ⟨(show ((laws_markData a.data ((laws_markName a.name k).1)).2.name.parts).length = (a.data.name.parts).length from by omega), ⟨(show ((laws_markData a.data ((laws_markName a.name k).1)).2.content).length = (a.data.content).length from by omega), ⟨(show ((laws_markData a.data ((laws_markName a.name k).1)).2.keyName.parts).length = (a.data.keyName.parts).length from by omega), ⟨rfl, rfl⟩⟩⟩⟩⟩⟩⟩⟩⟩⟩⟩
theorem f163 (w : World) (n : Nat) (hn : n + 0 ≤ 9) (a : (List Key)) (pa : Option Addr) (ca : Nat) (k : Int) (H : GH) (hH : Le H (hp w)) (hown : Sep H (GoT.oa a (pa, ca))) (hoka : GoT.ok n a) (hokk : GoT.ok n k) :
  Does Tryz.prog 163 #[.slice pa ((a).length) ca, .int .i64 (k)] w H (Post w H (fun _ : Unit => .int .i64 ((laws_markKeyS a k).1)) (fun _ => GoT.oa ((laws_markKeyS a k).2 : (List Key)) (pa, ca)) ((GoT.ok n ((laws_markKeyS a k).1 : Int) ∧ GoT.ok n ((laws_markKeyS a k).2 : (List Key))) ∧ ((laws_markKeyS a k).2).length = (a).length)) := by
 have hbP := bd_pos n
 have hbB := bd_big (n := n) (by omega)
 refine WX.enterM (tt := tt) (Γ := []) 1 Tryz.func163 rfl (by kernel_rfl) rfl allS_nil hH hown (fun f hf => GoT.oak f hf) rfl ?_
 refine WX.opn (kk := 2) 501 1 2 rfl rfl rfl ?_
 intro xs1 hx1
 refine R0 ?_
 have r1 : (a).length ≤ bd n := (okl hoka).1
 refine WX.loop (ι := (List Value) × (List Key) × Int × Nat) ⟨fun | (xsa2, a2, k2, i) => (i ≤ (a).length) ∧ (a2.length = (a).length) ∧ (∀ z_ ∈ a2, GoT.ok n z_) ∧ (-9223372036854775808 ≤ k2 ∧ k2 ≤ 9223372036854775807) ∧ (laws_markKeyS_L1 ((a).length) 0 (a : List Key) k = laws_markKeyS_L1 ((a).length - i) i a2 k2), fun | (xsa2, a2, k2, i) => (a).length - i, fun | (xsa2, a2, k2, i) => [(0, .v (.slice pa ((a).length) ca)), (1, .v (.int .i64 (k2))), (5, .v (.int .i64 (((i : Nat) : Int))))], fun | (xsa2, a2, k2, i) => [], fun | (xsa2, a2, k2, i) => [(501, ⟨2, pa, (a).length, ca, xsa2⟩)], fun | (xsa2, a2, k2, i) => [(2, MF.ol xsa2 (a2 : List Key))]⟩ (xs1, (a : List Key), k, 0) ⟨(Nat.zero_le _), (by simp), (okl hoka).2, hokk, rfl⟩
  (.cons rfl (.cons rfl (.cons rfl (.nil)))) .nil (.cons rfl (.nil)) [2] rfl ?_
 rintro ⟨xsa2, a2, k2, i⟩ hpre
 have hpre_ : (i ≤ (a).length) ∧ (a2.length = (a).length) ∧ (∀ z_ ∈ a2, GoT.ok n z_) ∧ (-9223372036854775808 ≤ k2 ∧ k2 ≤ 9223372036854775807) ∧ (laws_markKeyS_L1 ((a).length) 0 (a : List Key) k = laws_markKeyS_L1 ((a).length - i) i a2 k2) := hpre
 clear hpre
 obtain ⟨v1, v2, v3, v4, v5⟩ := hpre_
 refine R0 ?_
 refine WX.cases 9 rfl (fun h1 => ?_) (fun h1 => ?_)
 ·skip
  have h1d := B.dt h1
  refine R0 ?_
  have hr1 : i < (a).length := (by first | assumption | omega)
  refine WX.idxR 501 i ttOk rfl rfl rfl rfl rfl rfl rfl rfl rfl hr1 ?_
  rintro ad1 rfl
  refine R0 ?_
  have e1i : i < (a2).length := (by first | assumption | omega)
  obtain ⟨e1, e1h⟩ : ∃ e1, (a2)[i]? = some e1 := ⟨_, List.getElem?_eq_getElem e1i⟩
  have ok1 : GoT.ok n e1 := v3 _ (List.mem_of_getElem? e1h)
  refine WX.opnE (α := Key) (e := e1) 501 2 3 i rfl rfl rfl e1h (fun _ => rfl) (fun _ _ _ => rfl) (fun _ _ _ => rfl) ?_
  rintro A1 B1 ⟨⟨p1, c1⟩, ⟨⟩⟩ hA1 hB1
  refine WX.ldA 501 ttOk rfl rfl rfl rfl rfl rfl rfl rfl rfl rfl hA1 hr1 rfl ?_
  refine R0 ?_
  refine WX.callM [4] 7 rfl (fun _ _ h => GoT.ow_rd h) (fun _ f hf => GoT.fak f hf) rfl rfl rfl rfl rfl (fun _ => rfl) rfl (fun w G bs H hI hH hs hΓ => f219 w n (by omega) e1.name.parts p1 c1 k2 H hH hs (ok_Name (ok_Key ok1).1) v4) (fun _ => rfl) (fun _ => rfl) ?_
  rintro ⟨⟩ hq1
  have hl1 : ((laws_markStringS e1.name.parts k2).2).length = (e1.name.parts).length := hq1.2
  refine R0 ?_
  have hr2 : i < (a).length := (by first | assumption | omega)
  refine WX.idxR 501 i ttOk rfl rfl rfl rfl rfl rfl rfl rfl rfl hr2 ?_
  rintro ad2 ⟨⟩
  refine R0 ?_
  refine WX.stA 501 ttOk rfl rfl rfl rfl rfl rfl rfl rfl rfl rfl rfl rfl rfl rfl hA1 hr2 rfl rfl rfl rfl (by simp) rfl ?_
  refine R0 ?_
  refine WX.see rfl rfl rfl (fun _ hΓ => looks_wrap rfl rfl rfl rfl) ?_
  refine R0 ?_
  refine WX.see rfl rfl rfl (fun _ hΓ => looks_arith rfl rfl rfl rfl (by unfold I64; first | omega | (simp only [List.length_take] at *; omega))) ?_
  refine R0 ?_
  refine WX.turn [8, 5, 6] 9 rfl (fun h hs => by have z_ : Sep h [MF.ol (A1 ++ [.slice p1 (((laws_markStringS e1.name.parts k2).2).length) c1, .int .i64 ((laws_markStringS e1.name.parts k2).1)] ++ B1) (a2.set i (Key.mk (Name.mk ((laws_markStringS e1.name.parts k2).2)) ((laws_markStringS e1.name.parts k2).1)))] := cl_elem (α := Key) (e := (Key.mk (Name.mk ((laws_markStringS e1.name.parts k2).2)) ((laws_markStringS e1.name.parts k2).1))) (x := ((p1, c1), ())) e1i hs; rw [hl1] at z_; exact z_) (gs := [MF.ol (A1 ++ [.slice p1 ((e1.name.parts).length) c1, .int .i64 ((laws_markStringS e1.name.parts k2).1)] ++ B1) (a2.set i (Key.mk (Name.mk ((laws_markStringS e1.name.parts k2).2)) ((laws_markStringS e1.name.parts k2).1)))]) rfl ?_
  refine WX.turn [9] 2 rfl (fun _ h => h) rfl ?_
  exact WX.iter ((A1 ++ [.slice p1 ((e1.name.parts).length) c1, .int .i64 ((laws_markStringS e1.name.parts k2).1)] ++ B1), ((a2.set i (Key.mk (Name.mk ((laws_markStringS e1.name.parts k2).2)) ((laws_markStringS e1.name.parts k2).1))) : List Key), IntKind.i64.wrap (((laws_markStringS e1.name.parts k2).1) + 1), i + 1) ⟨(by omega), (by first | assumption | omega | (simp; omega)), (all_set v3 (show GoT.ok n ((Key.mk (Name.mk ((laws_markStringS e1.name.parts k2).2)) ((laws_markStringS e1.name.parts k2).1)) : Key) from (And.intro hq1.1.2 hq1.1.1))), (i64_wrap _), (by rw [v5, show (a).length - i = ((a).length - (i + 1)) + 1 by omega]; simp only [laws_markKeyS_L1, e1h, ct, cf])⟩ (by first | (dsimp only; omega) | omega) (.cons rfl (.cons rfl (.cons rfl (.nil)))) .nil (.cons rfl (.nil)) [2] rfl
 ·skip
  have h1d := B.df h1
  refine R0 ?_
  have hX1 : laws_markKeyS_L1 ((a).length) 0 (a : List Key) k = (((a2) : List Key), k2) := by rw [v5, show (a).length - i = 0 by omega]; simp only [laws_markKeyS_L1, ct, cf]
  refine WX.seal 501 2 10 rfl rfl (show (a).length = (a2).length from by omega) rfl rfl ?_
  refine WX.slot 7 (y := .v (.slice pa (a2).length ca)) rfl (fun _ => by show (Value.slice pa ((a).length) ca : Value) = Value.slice pa (a2).length ca; rw [(show (a).length = (a2).length from by omega)]) ?_
  refine WX.slot 0 (y := .v (.slice pa (a2).length ca)) rfl (fun _ => by show (Value.slice pa ((a).length) ca : Value) = Value.slice pa (a2).length ca; rw [(show (a).length = (a2).length from by omega)]) ?_
  have hP1 : laws_markKeyS a k = (k2, a2) := by simp only [laws_markKeyS, hX1, ct, cf]
  refine R1 ?_
  intro w1 G bs hI hΓ
  rw [hP1]
  exact Post.of [11] () hI hΓ rfl rfl rfl ⟨⟨v4, (okl_mk (by omega) v3 : GoT.ok n (a2 : List Key))⟩, (show (a2).length = (a).length from by omega)⟩
theorem f164 (w : World) (n : Nat) (hn : n + 0 ≤ 9) (a : (List Rule)) (pa : Option Addr) (ca : Nat) (k : Int) (H : GH) (hH : Le H (hp w)) (hown : Sep H (GoT.oa a (pa, ca))) (hoka : GoT.ok n a) (hokk : GoT.ok n k) :
  Does Tryz.prog 164 #[.slice pa ((a).length) ca, .int .i64 (k)] w H (Post w H (fun _ : Unit => .int .i64 ((laws_markRuleS a k).1)) (fun _ => GoT.oa ((laws_markRuleS a k).2 : (List Rule)) (pa, ca)) ((GoT.ok n ((laws_markRuleS a k).1 : Int) ∧ GoT.ok n ((laws_markRuleS a k).2 : (List Rule))) ∧ ((laws_markRuleS a k).2).length = (a).length)) := by
 have hbP := bd_pos n
 have hbB := bd_big (n := n) (by omega)
 refine WX.enterM (tt := tt) (Γ := []) 1 Tryz.func164 rfl (by kernel_rfl) rfl allS_nil hH hown (fun f hf => GoT.oak f hf) rfl ?_
 refine WX.opn (kk := 2) 501 1 2 rfl rfl rfl ?_
 intro xs1 hx1
 refine R0 ?_
 have r1 : (a).length ≤ bd n := (okl hoka).1
 refine WX.loop (ι := (List Value) × (List Rule) × Int × Nat) ⟨fun | (xsa2, a2, k2, i) => (i ≤ (a).length) ∧ (a2.length = (a).length) ∧ (∀ z_ ∈ a2, GoT.ok n z_) ∧ (-9223372036854775808 ≤ k2 ∧ k2 ≤ 9223372036854775807) ∧ (laws_markRuleS_L1 ((a).length) 0 (a : List Rule) k = laws_markRuleS_L1 ((a).length - i) i a2 k2), fun | (xsa2, a2, k2, i) => (a).length - i, fun | (xsa2, a2, k2, i) => [(0, .v (.slice pa ((a).length) ca)), (1, .v (.int .i64 (k2))), (5, .v (.int .i64 (((i : Nat) : Int))))], fun | (xsa2, a2, k2, i) => [], fun | (xsa2, a2, k2, i) => [(501, ⟨2, pa, (a).length, ca, xsa2⟩)], fun | (xsa2, a2, k2, i) => [(2, MF.ol xsa2 (a2 : List Rule))]⟩ (xs1, (a : List Rule), k, 0) ⟨(Nat.zero_le _), (by simp), (okl hoka).2, hokk, rfl⟩
  (.cons rfl (.cons rfl (.cons rfl (.nil)))) .nil (.cons rfl (.nil)) [2] rfl ?_
 rintro ⟨xsa2, a2, k2, i⟩ hpre
 have hpre_ : (i ≤ (a).length) ∧ (a2.length = (a).length) ∧ (∀ z_ ∈ a2, GoT.ok n z_) ∧ (-9223372036854775808 ≤ k2 ∧ k2 ≤ 9223372036854775807) ∧ (laws_markRuleS_L1 ((a).length) 0 (a : List Rule) k = laws_markRuleS_L1 ((a).length - i) i a2 k2) := hpre
 clear hpre
 obtain ⟨v1, v2, v3, v4, v5⟩ := hpre_
 refine R0 ?_
 refine WX.cases 9 rfl (fun h1 => ?_) (fun h1 => ?_)
 ·skip
  have h1d := B.dt h1
  refine R0 ?_
  have hr1 : i < (a).length := (by first | assumption | omega)
  refine WX.idxR 501 i ttOk rfl rfl rfl rfl rfl rfl rfl rfl rfl hr1 ?_
  rintro ad1 rfl
  refine R0 ?_
  have e1i : i < (a2).length := (by first | assumption | omega)
  obtain ⟨e1, e1h⟩ : ∃ e1, (a2)[i]? = some e1 := ⟨_, List.getElem?_eq_getElem e1i⟩
  have ok1 : GoT.ok n e1 := v3 _ (List.mem_of_getElem? e1h)
  refine WX.opnE (α := Rule) (e := e1) 501 2 3 i rfl rfl rfl e1h (fun _ => rfl) (fun _ _ _ => rfl) (fun _ _ _ => rfl) ?_
  rintro A1 B1 ⟨⟨p1, c1⟩, ⟨p2, c2⟩⟩ hA1 hB1
  refine WX.ldA 501 ttOk rfl rfl rfl rfl rfl rfl rfl rfl rfl rfl hA1 hr1 rfl ?_
  refine R0 ?_
  refine WX.callM [5] 9 rfl (fun _ _ h => GoT.ow_rd h) (fun _ f hf => GoT.fak f hf) rfl rfl rfl rfl rfl (fun _ => rfl) rfl (fun w G bs H hI hH hs hΓ => f219 w n (by omega) e1.dataPattern.parts p1 c1 k2 H hH hs (ok_Pattern (ok_Rule ok1).1) v4) (fun _ => rfl) (fun _ => rfl) ?_
  rintro ⟨⟩ hq1
  have hl1 : ((laws_markStringS e1.dataPattern.parts k2).2).length = (e1.dataPattern.parts).length := hq1.2
  refine R0 ?_
  have hr2 : i < (a).length := (by first | assumption | omega)
  refine WX.idxR 501 i ttOk rfl rfl rfl rfl rfl rfl rfl rfl rfl hr2 ?_
  rintro ad2 ⟨⟩
  refine R0 ?_
  refine WX.ldA 501 ttOk rfl rfl rfl rfl rfl rfl rfl rfl rfl rfl hA1 hr2 rfl ?_
  refine R0 ?_
  refine WX.callM [6] 11 rfl (fun _ _ h => GoT.ow_rd h) (fun _ f hf => GoT.fak f hf) rfl rfl rfl rfl rfl (fun _ => rfl) rfl (fun w G bs H hI hH hs hΓ => f219 w n (by omega) e1.keyPattern.parts p2 c2 ((laws_markStringS e1.dataPattern.parts k2).1) H hH hs (ok_Pattern (ok_Rule ok1).2) hq1.1.1) (fun _ => rfl) (fun _ => rfl) ?_
  rintro ⟨⟩ hq2
  have hl2 : ((laws_markStringS e1.keyPattern.parts ((laws_markStringS e1.dataPattern.parts k2).1)).2).length = (e1.keyPattern.parts).length := hq2.2
  refine R0 ?_
  refine WX.see rfl rfl rfl (fun _ hΓ => looks_arith rfl rfl rfl rfl (by unfold I64; first | omega | (simp only [List.length_take] at *; omega))) ?_
  refine R0 ?_
  refine WX.turn [10, 12, 7, 8] 13 rfl (fun h hs => by have z_ : Sep h [MF.ol (A1 ++ [.slice p1 (((laws_markStringS e1.dataPattern.parts k2).2).length) c1, .slice p2 (((laws_markStringS e1.keyPattern.parts ((laws_markStringS e1.dataPattern.parts k2).1)).2).length) c2] ++ B1) (a2.set i (Rule.mk (Pattern.mk ((laws_markStringS e1.dataPattern.parts k2).2)) (Pattern.mk ((laws_markStringS e1.keyPattern.parts ((laws_markStringS e1.dataPattern.parts k2).1)).2))))] := cl_elem (α := Rule) (e := (Rule.mk (Pattern.mk ((laws_markStringS e1.dataPattern.parts k2).2)) (Pattern.mk ((laws_markStringS e1.keyPattern.parts ((laws_markStringS e1.dataPattern.parts k2).1)).2)))) (x := ((p1, c1), (p2, c2))) e1i hs; rw [hl1, hl2] at z_; exact z_) (gs := [MF.ol (A1 ++ [.slice p1 ((e1.dataPattern.parts).length) c1, .slice p2 ((e1.keyPattern.parts).length) c2] ++ B1) (a2.set i (Rule.mk (Pattern.mk ((laws_markStringS e1.dataPattern.parts k2).2)) (Pattern.mk ((laws_markStringS e1.keyPattern.parts ((laws_markStringS e1.dataPattern.parts k2).1)).2))))]) rfl ?_
  refine WX.turn [13] 2 rfl (fun _ h => h) rfl ?_
  exact WX.iter ((A1 ++ [.slice p1 ((e1.dataPattern.parts).length) c1, .slice p2 ((e1.keyPattern.parts).length) c2] ++ B1), ((a2.set i (Rule.mk (Pattern.mk ((laws_markStringS e1.dataPattern.parts k2).2)) (Pattern.mk ((laws_markStringS e1.keyPattern.parts ((laws_markStringS e1.dataPattern.parts k2).1)).2)))) : List Rule), (laws_markStringS e1.keyPattern.parts ((laws_markStringS e1.dataPattern.parts k2).1)).1, i + 1) ⟨(by omega), (by first | assumption | omega | (simp; omega)), (all_set v3 (show GoT.ok n ((Rule.mk (Pattern.mk ((laws_markStringS e1.dataPattern.parts k2).2)) (Pattern.mk ((laws_markStringS e1.keyPattern.parts ((laws_markStringS e1.dataPattern.parts k2).1)).2))) : Rule) from (And.intro hq1.1.2 hq2.1.2))), hq2.1.1, (by rw [v5, show (a).length - i = ((a).length - (i + 1)) + 1 by omega]; simp only [laws_markRuleS_L1, e1h, ct, cf])⟩ (by first | (dsimp only; omega) | omega) (.cons rfl (.cons rfl (.cons rfl (.nil)))) .nil (.cons rfl (.nil)) [2] rfl
 ·skip
  have h1d := B.df h1
  refine R0 ?_
  have hX1 : laws_markRuleS_L1 ((a).length) 0 (a : List Rule) k = (((a2) : List Rule), k2) := by rw [v5, show (a).length - i = 0 by omega]; simp only [laws_markRuleS_L1, ct, cf]
  refine WX.seal 501 2 14 rfl rfl (show (a).length = (a2).length from by omega) rfl rfl ?_
  refine WX.slot 7 (y := .v (.slice pa (a2).length ca)) rfl (fun _ => by show (Value.slice pa ((a).length) ca : Value) = Value.slice pa (a2).length ca; rw [(show (a).length = (a2).length from by omega)]) ?_
  refine WX.slot 0 (y := .v (.slice pa (a2).length ca)) rfl (fun _ => by show (Value.slice pa ((a).length) ca : Value) = Value.slice pa (a2).length ca; rw [(show (a).length = (a2).length from by omega)]) ?_
  have hP1 : laws_markRuleS a k = (k2, a2) := by simp only [laws_markRuleS, hX1, ct, cf]
  refine R1 ?_
  intro w1 G bs hI hΓ
  rw [hP1]
  exact Post.of [15] () hI hΓ rfl rfl rfl ⟨⟨v4, (okl_mk (by omega) v3 : GoT.ok n (a2 : List Rule))⟩, (show (a2).length = (a).length from by omega)⟩
theorem f165 (w : World) (n : Nat) (hn : n + 0 ≤ 9) (a : (List Name)) (pa : Option Addr) (ca : Nat) (k : Int) (H : GH) (hH : Le H (hp w)) (hown : Sep H (GoT.oa a (pa, ca))) (hoka : GoT.ok n a) (hokk : GoT.ok n k) :
  Does Tryz.prog 165 #[.slice pa ((a).length) ca, .int .i64 (k)] w H (Post w H (fun _ : Unit => .int .i64 ((laws_markNameS a k).1)) (fun _ => GoT.oa ((laws_markNameS a k).2 : (List Name)) (pa, ca)) ((GoT.ok n ((laws_markNameS a k).1 : Int) ∧ GoT.ok n ((laws_markNameS a k).2 : (List Name))) ∧ ((laws_markNameS a k).2).length = (a).length)) := by
 have hbP := bd_pos n
 have hbB := bd_big (n := n) (by omega)
 refine WX.enterM (tt := tt) (Γ := []) 1 Tryz.func165 rfl (by kernel_rfl) rfl allS_nil hH hown (fun f hf => GoT.oak f hf) rfl ?_
 refine WX.opn (kk := 1) 501 1 2 rfl rfl rfl ?_
 intro xs1 hx1
 refine R0 ?_
 have r1 : (a).length ≤ bd n := (okl hoka).1
 refine WX.loop (ι := (List Value) × (List Name) × Int × Nat) ⟨fun | (xsa2, a2, k2, i) => (i ≤ (a).length) ∧ (a2.length = (a).length) ∧ (∀ z_ ∈ a2, GoT.ok n z_) ∧ (-9223372036854775808 ≤ k2 ∧ k2 ≤ 9223372036854775807) ∧ (laws_markNameS_L1 ((a).length) 0 (a : List Name) k = laws_markNameS_L1 ((a).length - i) i a2 k2), fun | (xsa2, a2, k2, i) => (a).length - i, fun | (xsa2, a2, k2, i) => [(0, .v (.slice pa ((a).length) ca)), (1, .v (.int .i64 (k2))), (5, .v (.int .i64 (((i : Nat) : Int))))], fun | (xsa2, a2, k2, i) => [], fun | (xsa2, a2, k2, i) => [(501, ⟨1, pa, (a).length, ca, xsa2⟩)], fun | (xsa2, a2, k2, i) => [(2, MF.ol xsa2 (a2 : List Name))]⟩ (xs1, (a : List Name), k, 0) ⟨(Nat.zero_le _), (by simp), (okl hoka).2, hokk, rfl⟩
  (.cons rfl (.cons rfl (.cons rfl (.nil)))) .nil (.cons rfl (.nil)) [2] rfl ?_
 rintro ⟨xsa2, a2, k2, i⟩ hpre
 have hpre_ : (i ≤ (a).length) ∧ (a2.length = (a).length) ∧ (∀ z_ ∈ a2, GoT.ok n z_) ∧ (-9223372036854775808 ≤ k2 ∧ k2 ≤ 9223372036854775807) ∧ (laws_markNameS_L1 ((a).length) 0 (a : List Name) k = laws_markNameS_L1 ((a).length - i) i a2 k2) := hpre
 clear hpre
 obtain ⟨v1, v2, v3, v4, v5⟩ := hpre_
 refine R0 ?_
 refine WX.cases 9 rfl (fun h1 => ?_) (fun h1 => ?_)
 ·skip
  have h1d := B.dt h1
  refine R0 ?_
  have hr1 : i < (a).length := (by first | assumption | omega)
  refine WX.idxR 501 i ttOk rfl rfl rfl rfl rfl rfl rfl rfl rfl hr1 ?_
  rintro ad1 rfl
  refine R0 ?_
  have e1i : i < (a2).length := (by first | assumption | omega)
  obtain ⟨e1, e1h⟩ : ∃ e1, (a2)[i]? = some e1 := ⟨_, List.getElem?_eq_getElem e1i⟩
  have ok1 : GoT.ok n e1 := v3 _ (List.mem_of_getElem? e1h)
  refine WX.opnE (α := Name) (e := e1) 501 2 3 i rfl rfl rfl e1h (fun _ => rfl) (fun _ _ _ => rfl) (fun _ _ _ => rfl) ?_
  rintro A1 B1 ⟨p1, c1⟩ hA1 hB1
  refine WX.ldA 501 ttOk rfl rfl rfl rfl rfl rfl rfl rfl rfl rfl hA1 hr1 rfl ?_
  refine R0 ?_
  refine WX.callM [4] 7 rfl (fun _ _ h => GoT.ow_rd h) (fun _ f hf => GoT.fak f hf) rfl rfl rfl rfl rfl (fun _ => rfl) rfl (fun w G bs H hI hH hs hΓ => f219 w n (by omega) e1.parts p1 c1 k2 H hH hs (ok_Name ok1) v4) (fun _ => rfl) (fun _ => rfl) ?_
  rintro ⟨⟩ hq1
  have hl1 : ((laws_markStringS e1.parts k2).2).length = (e1.parts).length := hq1.2
  refine R0 ?_
  refine WX.see rfl rfl rfl (fun _ hΓ => looks_arith rfl rfl rfl rfl (by unfold I64; first | omega | (simp only [List.length_take] at *; omega))) ?_
  refine R0 ?_
  refine WX.turn [8, 5, 6] 9 rfl (fun h hs => by have z_ : Sep h [MF.ol (A1 ++ [.slice p1 (((laws_markStringS e1.parts k2).2).length) c1] ++ B1) (a2.set i (Name.mk ((laws_markStringS e1.parts k2).2)))] := cl_elem (α := Name) (e := (Name.mk ((laws_markStringS e1.parts k2).2))) (x := (p1, c1)) e1i hs; rw [hl1] at z_; exact z_) (gs := [MF.ol (A1 ++ [.slice p1 ((e1.parts).length) c1] ++ B1) (a2.set i (Name.mk ((laws_markStringS e1.parts k2).2)))]) rfl ?_
  refine WX.turn [9] 2 rfl (fun _ h => h) rfl ?_
  exact WX.iter ((A1 ++ [.slice p1 ((e1.parts).length) c1] ++ B1), ((a2.set i (Name.mk ((laws_markStringS e1.parts k2).2))) : List Name), (laws_markStringS e1.parts k2).1, i + 1) ⟨(by omega), (by first | assumption | omega | (simp; omega)), (all_set v3 (show GoT.ok n ((Name.mk ((laws_markStringS e1.parts k2).2)) : Name) from hq1.1.2)), hq1.1.1, (by rw [v5, show (a).length - i = ((a).length - (i + 1)) + 1 by omega]; simp only [laws_markNameS_L1, e1h, ct, cf])⟩ (by first | (dsimp only; omega) | omega) (.cons rfl (.cons rfl (.cons rfl (.nil)))) .nil (.cons rfl (.nil)) [2] rfl
 ·skip
  have h1d := B.df h1
  refine R0 ?_
  have hX1 : laws_markNameS_L1 ((a).length) 0 (a : List Name) k = (((a2) : List Name), k2) := by rw [v5, show (a).length - i = 0 by omega]; simp only [laws_markNameS_L1, ct, cf]
  refine WX.seal 501 2 10 rfl rfl (show (a).length = (a2).length from by omega) rfl rfl ?_
  refine WX.slot 7 (y := .v (.slice pa (a2).length ca)) rfl (fun _ => by show (Value.slice pa ((a).length) ca : Value) = Value.slice pa (a2).length ca; rw [(show (a).length = (a2).length from by omega)]) ?_
  refine WX.slot 0 (y := .v (.slice pa (a2).length ca)) rfl (fun _ => by show (Value.slice pa ((a).length) ca : Value) = Value.slice pa (a2).length ca; rw [(show (a).length = (a2).length from by omega)]) ?_
  have hP1 : laws_markNameS a k = (k2, a2) := by simp only [laws_markNameS, hX1, ct, cf]
  refine R1 ?_
  intro w1 G bs hI hΓ
  rw [hP1]
  exact Post.of [11] () hI hΓ rfl rfl rfl ⟨⟨v4, (okl_mk (by omega) v3 : GoT.ok n (a2 : List Name))⟩, (show (a2).length = (a).length from by omega)⟩
theorem f166 (w : World) (n : Nat) (hn : n + 0 ≤ 9) (a : (List DataP)) (pa : Option Addr) (ca : Nat) (k : Int) (H : GH) (hH : Le H (hp w)) (hown : Sep H (GoT.oa a (pa, ca))) (hoka : GoT.ok n a) (hokk : GoT.ok n k) :
  Does Tryz.prog 166 #[.slice pa ((a).length) ca, .int .i64 (k)] w H (Post w H (fun _ : Unit => .int .i64 ((laws_markDataS a k).1)) (fun _ => GoT.oa ((laws_markDataS a k).2 : (List DataP)) (pa, ca)) ((GoT.ok n ((laws_markDataS a k).1 : Int) ∧ GoT.ok n ((laws_markDataS a k).2 : (List DataP))) ∧ ((laws_markDataS a k).2).length = (a).length)) := by
 have hbP := bd_pos n
 have hbB := bd_big (n := n) (by omega)
 refine WX.enterM (tt := tt) (Γ := []) 1 Tryz.func166 rfl (by kernel_rfl) rfl allS_nil hH hown (fun f hf => GoT.oak f hf) rfl ?_
 refine WX.opn (kk := 5) 501 1 2 rfl rfl rfl ?_
 intro xs1 hx1
 refine R0 ?_
 have r1 : (a).length ≤ bd n := (okl hoka).1
 refine WX.loop (ι := (List Value) × (List DataP) × Int × Nat) ⟨fun | (xsa2, a2, k2, i) => (i ≤ (a).length) ∧ (a2.length = (a).length) ∧ (∀ z_ ∈ a2, GoT.ok n z_) ∧ (-9223372036854775808 ≤ k2 ∧ k2 ≤ 9223372036854775807) ∧ (laws_markDataS_L1 ((a).length) 0 (a : List DataP) k = laws_markDataS_L1 ((a).length - i) i a2 k2), fun | (xsa2, a2, k2, i) => (a).length - i, fun | (xsa2, a2, k2, i) => [(0, .v (.slice pa ((a).length) ca)), (1, .v (.int .i64 (k2))), (5, .v (.int .i64 (((i : Nat) : Int))))], fun | (xsa2, a2, k2, i) => [], fun | (xsa2, a2, k2, i) => [(501, ⟨5, pa, (a).length, ca, xsa2⟩)], fun | (xsa2, a2, k2, i) => [(2, MF.ol xsa2 (a2 : List DataP))]⟩ (xs1, (a : List DataP), k, 0) ⟨(Nat.zero_le _), (by simp), (okl hoka).2, hokk, rfl⟩
  (.cons rfl (.cons rfl (.cons rfl (.nil)))) .nil (.cons rfl (.nil)) [2] rfl ?_
 rintro ⟨xsa2, a2, k2, i⟩ hpre
 have hpre_ : (i ≤ (a).length) ∧ (a2.length = (a).length) ∧ (∀ z_ ∈ a2, GoT.ok n z_) ∧ (-9223372036854775808 ≤ k2 ∧ k2 ≤ 9223372036854775807) ∧ (laws_markDataS_L1 ((a).length) 0 (a : List DataP) k = laws_markDataS_L1 ((a).length - i) i a2 k2) := hpre
 clear hpre
 obtain ⟨v1, v2, v3, v4, v5⟩ := hpre_
 refine R0 ?_
 refine WX.cases 9 rfl (fun h1 => ?_) (fun h1 => ?_)
 ·skip
  have h1d := B.dt h1
  refine R0 ?_
  have hr1 : i < (a).length := (by first | assumption | omega)
  refine WX.idxR 501 i ttOk rfl rfl rfl rfl rfl rfl rfl rfl rfl hr1 ?_
  rintro ad1 rfl
  refine R0 ?_
  have e1i : i < (a2).length := (by first | assumption | omega)
  obtain ⟨e1, e1h⟩ : ∃ e1, (a2)[i]? = some e1 := ⟨_, List.getElem?_eq_getElem e1i⟩
  have ok1 : GoT.ok n e1 := v3 _ (List.mem_of_getElem? e1h)
  refine WX.opnE (α := DataP) (e := e1) 501 2 3 i rfl rfl rfl e1h (fun _ => rfl) (fun _ _ _ => rfl) (fun _ _ _ => rfl) ?_
  rintro A1 B1 ⟨⟨p1, c1⟩, ⟨p2, c2⟩, ⟨p3, c3⟩, ⟨⟩, ⟨⟩⟩ hA1 hB1
  refine WX.ldA 501 ttOk rfl rfl rfl rfl rfl rfl rfl rfl rfl rfl hA1 hr1 rfl ?_
  refine R0 ?_
  refine WX.callM [6] 11 rfl (fun _ _ h => GoT.ow_rd h) (fun _ f hf => GoT.fak f hf) rfl rfl rfl rfl rfl (fun _ => rfl) rfl (fun w G bs H hI hH hs hΓ => f219 w n (by omega) e1.name.parts p1 c1 k2 H hH hs (ok_Name (ok_DataP ok1).1) v4) (fun _ => rfl) (fun _ => rfl) ?_
  rintro ⟨⟩ hq1
  have hl1 : ((laws_markStringS e1.name.parts k2).2).length = (e1.name.parts).length := hq1.2
  refine R0 ?_
  have hr2 : i < (a).length := (by first | assumption | omega)
  refine WX.idxR 501 i ttOk rfl rfl rfl rfl rfl rfl rfl rfl rfl hr2 ?_
  rintro ad2 ⟨⟩
  refine R0 ?_
  refine WX.ldA 501 ttOk rfl rfl rfl rfl rfl rfl rfl rfl rfl rfl hA1 hr2 rfl ?_
  refine R0 ?_
  refine WX.callM [7] 13 rfl (fun _ _ h => GoT.ow_rd h) (fun _ f hf => GoT.fak f hf) rfl rfl rfl rfl rfl (fun _ => rfl) rfl (fun w G bs H hI hH hs hΓ => f167 w n (by omega) e1.content p2 c2 ((laws_markStringS e1.name.parts k2).1) H hH hs ((ok_DataP ok1).2.1) hq1.1.1) (fun _ => rfl) (fun _ => rfl) ?_
  rintro ⟨⟩ hq2
  have hl2 : ((laws_markByteS e1.content ((laws_markStringS e1.name.parts k2).1)).2).length = (e1.content).length := hq2.2
  refine R0 ?_
  have hr3 : i < (a).length := (by first | assumption | omega)
  refine WX.idxR 501 i ttOk rfl rfl rfl rfl rfl rfl rfl rfl rfl hr3 ?_
  rintro ad3 ⟨⟩
  refine R0 ?_
  refine WX.ldA 501 ttOk rfl rfl rfl rfl rfl rfl rfl rfl rfl rfl hA1 hr3 rfl ?_
  refine R0 ?_
  refine WX.callM [8] 15 rfl (fun _ _ h => GoT.ow_rd h) (fun _ f hf => GoT.fak f hf) rfl rfl rfl rfl rfl (fun _ => rfl) rfl (fun w G bs H hI hH hs hΓ => f219 w n (by omega) e1.keyName.parts p3 c3 ((laws_markByteS e1.content ((laws_markStringS e1.name.parts k2).1)).1) H hH hs (ok_Name (ok_DataP ok1).2.2.1) hq2.1.1) (fun _ => rfl) (fun _ => rfl) ?_
  rintro ⟨⟩ hq3
  have hl3 : ((laws_markStringS e1.keyName.parts ((laws_markByteS e1.content ((laws_markStringS e1.name.parts k2).1)).1)).2).length = (e1.keyName.parts).length := hq3.2
  refine R0 ?_
  have hr4 : i < (a).length := (by first | assumption | omega)
  refine WX.idxR 501 i ttOk rfl rfl rfl rfl rfl rfl rfl rfl rfl hr4 ?_
  rintro ad4 ⟨⟩
  refine R0 ?_
  refine WX.stA 501 ttOk rfl rfl rfl rfl rfl rfl rfl rfl rfl rfl rfl rfl rfl rfl hA1 hr4 rfl rfl rfl rfl (by simp) rfl ?_
  refine R0 ?_
  refine WX.see rfl rfl rfl (fun _ hΓ => looks_wrap rfl rfl rfl rfl) ?_
  refine R0 ?_
  have hr5 : i < (a).length := (by first | assumption | omega)
  refine WX.idxR 501 i ttOk rfl rfl rfl rfl rfl rfl rfl rfl rfl hr5 ?_
  rintro ad5 ⟨⟩
  refine R0 ?_
  refine WX.stA 501 ttOk rfl rfl rfl rfl rfl rfl rfl rfl rfl rfl rfl rfl rfl rfl hA1 hr5 rfl rfl rfl rfl (by simp) rfl ?_
  refine R0 ?_
  refine WX.see rfl rfl rfl (fun _ hΓ => looks_wrap rfl rfl rfl rfl) ?_
  refine R0 ?_
  refine WX.see rfl rfl rfl (fun _ hΓ => looks_arith rfl rfl rfl rfl (by unfold I64; first | omega | (simp only [List.length_take] at *; omega))) ?_
  refine R0 ?_
  refine WX.turn [12, 14, 16, 9, 10] 17 rfl (fun h hs => by have z_ : Sep h [MF.ol (A1 ++ [.slice p1 (((laws_markStringS e1.name.parts k2).2).length) c1, .slice p2 (((laws_markByteS e1.content ((laws_markStringS e1.name.parts k2).1)).2).length) c2, .slice p3 (((laws_markStringS e1.keyName.parts ((laws_markByteS e1.content ((laws_markStringS e1.name.parts k2).1)).1)).2).length) c3, .int .i64 ((laws_markStringS e1.keyName.parts ((laws_markByteS e1.content ((laws_markStringS e1.name.parts k2).1)).1)).1), .int .i64 (IntKind.i64.wrap (((laws_markStringS e1.keyName.parts ((laws_markByteS e1.content ((laws_markStringS e1.name.parts k2).1)).1)).1) + 1))] ++ B1) (a2.set i (DataP.mk (Name.mk ((laws_markStringS e1.name.parts k2).2)) ((laws_markByteS e1.content ((laws_markStringS e1.name.parts k2).1)).2) (Name.mk ((laws_markStringS e1.keyName.parts ((laws_markByteS e1.content ((laws_markStringS e1.name.parts k2).1)).1)).2)) ((laws_markStringS e1.keyName.parts ((laws_markByteS e1.content ((laws_markStringS e1.name.parts k2).1)).1)).1) (IntKind.i64.wrap (((laws_markStringS e1.keyName.parts ((laws_markByteS e1.content ((laws_markStringS e1.name.parts k2).1)).1)).1) + 1))))] := cl_elem (α := DataP) (e := (DataP.mk (Name.mk ((laws_markStringS e1.name.parts k2).2)) ((laws_markByteS e1.content ((laws_markStringS e1.name.parts k2).1)).2) (Name.mk ((laws_markStringS e1.keyName.parts ((laws_markByteS e1.content ((laws_markStringS e1.name.parts k2).1)).1)).2)) ((laws_markStringS e1.keyName.parts ((laws_markByteS e1.content ((laws_markStringS e1.name.parts k2).1)).1)).1) (IntKind.i64.wrap (((laws_markStringS e1.keyName.parts ((laws_markByteS e1.content ((laws_markStringS e1.name.parts k2).1)).1)).1) + 1)))) (x := ((p1, c1), (p2, c2), (p3, c3), (), ())) e1i hs; rw [hl1, hl2, hl3] at z_; exact z_) (gs := [MF.ol (A1 ++ [.slice p1 ((e1.name.parts).length) c1, .slice p2 ((e1.content).length) c2, .slice p3 ((e1.keyName.parts).length) c3, .int .i64 ((laws_markStringS e1.keyName.parts ((laws_markByteS e1.content ((laws_markStringS e1.name.parts k2).1)).1)).1), .int .i64 (IntKind.i64.wrap (((laws_markStringS e1.keyName.parts ((laws_markByteS e1.content ((laws_markStringS e1.name.parts k2).1)).1)).1) + 1))] ++ B1) (a2.set i (DataP.mk (Name.mk ((laws_markStringS e1.name.parts k2).2)) ((laws_markByteS e1.content ((laws_markStringS e1.name.parts k2).1)).2) (Name.mk ((laws_markStringS e1.keyName.parts ((laws_markByteS e1.content ((laws_markStringS e1.name.parts k2).1)).1)).2)) ((laws_markStringS e1.keyName.parts ((laws_markByteS e1.content ((laws_markStringS e1.name.parts k2).1)).1)).1) (IntKind.i64.wrap (((laws_markStringS e1.keyName.parts ((laws_markByteS e1.content ((laws_markStringS e1.name.parts k2).1)).1)).1) + 1))))]) rfl ?_
  refine WX.turn [17] 2 rfl (fun _ h => h) rfl ?_
  exact WX.iter ((A1 ++ [.slice p1 ((e1.name.parts).length) c1, .slice p2 ((e1.content).length) c2, .slice p3 ((e1.keyName.parts).length) c3, .int .i64 ((laws_markStringS e1.keyName.parts ((laws_markByteS e1.content ((laws_markStringS e1.name.parts k2).1)).1)).1), .int .i64 (IntKind.i64.wrap (((laws_markStringS e1.keyName.parts ((laws_markByteS e1.content ((laws_markStringS e1.name.parts k2).1)).1)).1) + 1))] ++ B1), ((a2.set i (DataP.mk (Name.mk ((laws_markStringS e1.name.parts k2).2)) ((laws_markByteS e1.content ((laws_markStringS e1.name.parts k2).1)).2) (Name.mk ((laws_markStringS e1.keyName.parts ((laws_markByteS e1.content ((laws_markStringS e1.name.parts k2).1)).1)).2)) ((laws_markStringS e1.keyName.parts ((laws_markByteS e1.content ((laws_markStringS e1.name.parts k2).1)).1)).1) (IntKind.i64.wrap (((laws_markStringS e1.keyName.parts ((laws_markByteS e1.content ((laws_markStringS e1.name.parts k2).1)).1)).1) + 1)))) : List DataP), IntKind.i64.wrap ((IntKind.i64.wrap (((laws_markStringS e1.keyName.parts ((laws_markByteS e1.content ((laws_markStringS e1.name.parts k2).1)).1)).1) + 1)) + 1), i + 1) ⟨(by omega), (by first | assumption | omega | (simp; omega)), (all_set v3 (show GoT.ok n ((DataP.mk (Name.mk ((laws_markStringS e1.name.parts k2).2)) ((laws_markByteS e1.content ((laws_markStringS e1.name.parts k2).1)).2) (Name.mk ((laws_markStringS e1.keyName.parts ((laws_markByteS e1.content ((laws_markStringS e1.name.parts k2).1)).1)).2)) ((laws_markStringS e1.keyName.parts ((laws_markByteS e1.content ((laws_markStringS e1.name.parts k2).1)).1)).1) (IntKind.i64.wrap (((laws_markStringS e1.keyName.parts ((laws_markByteS e1.content ((laws_markStringS e1.name.parts k2).1)).1)).1) + 1))) : DataP) from (And.intro hq1.1.2 (And.intro hq2.1.2 (And.intro hq3.1.2 (And.intro hq3.1.1 (i64_wrap _))))))), (i64_wrap _), (by rw [v5, show (a).length - i = ((a).length - (i + 1)) + 1 by omega]; simp only [laws_markDataS_L1, e1h, ct, cf])⟩ (by first | (dsimp only; omega) | omega) (.cons rfl (.cons rfl (.cons rfl (.nil)))) .nil (.cons rfl (.nil)) [2] rfl
 ·skip
  have h1d := B.df h1
  refine R0 ?_
  have hX1 : laws_markDataS_L1 ((a).length) 0 (a : List DataP) k = (((a2) : List DataP), k2) := by rw [v5, show (a).length - i = 0 by omega]; simp only [laws_markDataS_L1, ct, cf]
  refine WX.seal 501 2 18 rfl rfl (show (a).length = (a2).length from by omega) rfl rfl ?_
  refine WX.slot 7 (y := .v (.slice pa (a2).length ca)) rfl (fun _ => by show (Value.slice pa ((a).length) ca : Value) = Value.slice pa (a2).length ca; rw [(show (a).length = (a2).length from by omega)]) ?_
  refine WX.slot 0 (y := .v (.slice pa (a2).length ca)) rfl (fun _ => by show (Value.slice pa ((a).length) ca : Value) = Value.slice pa (a2).length ca; rw [(show (a).length = (a2).length from by omega)]) ?_
  have hP1 : laws_markDataS a k = (k2, a2) := by simp only [laws_markDataS, hX1, ct, cf]
  refine R1 ?_
  intro w1 G bs hI hΓ
  rw [hP1]
  exact Post.of [19] () hI hΓ rfl rfl rfl ⟨⟨v4, (okl_mk (by omega) v3 : GoT.ok n (a2 : List DataP))⟩, (show (a2).length = (a).length from by omega)⟩
theorem f73 (w : World) (n : Nat) (hn : n + 0 ≤ 9) (a : TrustPolicy) (K0 : Option Addr) (M0 : Nat) (K1 : Option Addr) (M1 : Nat) (K2 : Option Addr) (M2 : Nat) (K3 : Option Addr) (M3 : Nat) (k : Int) (H : GH) (hH : Le H (hp w)) (hown : Sep H (GoT.oa a ((K0, M0), (K1, M1), (K2, M2), (K3, M3)))) (hoka : GoT.ok n a) (hokk : GoT.ok n k) :
  Does Tryz.prog 73 #[.agg #[.slice K0 ((a.keys).length) M0, .slice K1 ((a.rules).length) M1, .slice K2 ((a.anchors).length) M2, .slice K3 ((a.certificates).length) M3], .int .i64 (k)] w H (Post w H (fun _ : Unit => .int .i64 ((laws_markTrustPolicy a k).1)) (fun _ => GoT.oa ((laws_markTrustPolicy a k).2 : TrustPolicy) ((K0, M0), (K1, M1), (K2, M2), (K3, M3))) ((GoT.ok n ((laws_markTrustPolicy a k).1 : Int) ∧ GoT.ok n ((laws_markTrustPolicy a k).2 : TrustPolicy)) ∧ ((laws_markTrustPolicy a k).2.keys).length = (a.keys).length ∧ ((laws_markTrustPolicy a k).2.rules).length = (a.rules).length ∧ ((laws_markTrustPolicy a k).2.anchors).length = (a.anchors).length ∧ ((laws_markTrustPolicy a k).2.certificates).length = (a.certificates).length)) := by
 have hbP := bd_pos n
 have hbB := bd_big (n := n) (by omega)
 refine WX.enterM (tt := tt) (Γ := []) 4 Tryz.func73 rfl (by kernel_rfl) rfl allS_nil hH hown (fun f hf => GoT.oak f hf) rfl ?_
 refine R0 ?_
 refine WX.callM [4] 8 rfl (fun _ _ h => GoT.ow_rd h) (fun _ f hf => GoT.fak f hf) rfl rfl rfl rfl rfl (fun _ => rfl) rfl (fun w G bs H hI hH hs hΓ => f163 w n (by omega) a.keys K0 M0 k H hH hs ((ok_TrustPolicy hoka).1) hokk) (fun _ => rfl) (fun _ => rfl) ?_
 rintro ⟨⟩ hq1
 have hl1 : ((laws_markKeyS a.keys k).2).length = (a.keys).length := hq1.2
 refine R0 ?_
 refine WX.callM [5] 10 rfl (fun _ _ h => GoT.ow_rd h) (fun _ f hf => GoT.fak f hf) rfl rfl rfl rfl rfl (fun _ => rfl) rfl (fun w G bs H hI hH hs hΓ => f164 w n (by omega) a.rules K1 M1 ((laws_markKeyS a.keys k).1) H hH hs ((ok_TrustPolicy hoka).2.1) hq1.1.1) (fun _ => rfl) (fun _ => rfl) ?_
 rintro ⟨⟩ hq2
 have hl2 : ((laws_markRuleS a.rules ((laws_markKeyS a.keys k).1)).2).length = (a.rules).length := hq2.2
 refine R0 ?_
 refine WX.callM [6] 12 rfl (fun _ _ h => GoT.ow_rd h) (fun _ f hf => GoT.fak f hf) rfl rfl rfl rfl rfl (fun _ => rfl) rfl (fun w G bs H hI hH hs hΓ => f165 w n (by omega) a.anchors K2 M2 ((laws_markRuleS a.rules ((laws_markKeyS a.keys k).1)).1) H hH hs ((ok_TrustPolicy hoka).2.2.1) hq2.1.1) (fun _ => rfl) (fun _ => rfl) ?_
 rintro ⟨⟩ hq3
 have hl3 : ((laws_markNameS a.anchors ((laws_markRuleS a.rules ((laws_markKeyS a.keys k).1)).1)).2).length = (a.anchors).length := hq3.2
 refine R0 ?_
 refine WX.callM [7] 14 rfl (fun _ _ h => GoT.ow_rd h) (fun _ f hf => GoT.fak f hf) rfl rfl rfl rfl rfl (fun _ => rfl) rfl (fun w G bs H hI hH hs hΓ => f166 w n (by omega) a.certificates K3 M3 ((laws_markNameS a.anchors ((laws_markRuleS a.rules ((laws_markKeyS a.keys k).1)).1)).1) H hH hs ((ok_TrustPolicy hoka).2.2.2) hq3.1.1) (fun _ => rfl) (fun _ => rfl) ?_
 rintro ⟨⟩ hq4
 have hl4 : ((laws_markDataS a.certificates ((laws_markNameS a.anchors ((laws_markRuleS a.rules ((laws_markKeyS a.keys k).1)).1)).1)).2).length = (a.certificates).length := hq4.2
 refine R0 ?_
 have hP1 : laws_markTrustPolicy a k = ((laws_markDataS a.certificates ((laws_markNameS a.anchors ((laws_markRuleS a.rules ((laws_markKeyS a.keys k).1)).1)).1)).1, TrustPolicy.mk ((laws_markKeyS a.keys k).2) ((laws_markRuleS a.rules ((laws_markKeyS a.keys k).1)).2) ((laws_markNameS a.anchors ((laws_markRuleS a.rules ((laws_markKeyS a.keys k).1)).1)).2) ((laws_markDataS a.certificates ((laws_markNameS a.anchors ((laws_markRuleS a.rules ((laws_markKeyS a.keys k).1)).1)).1)).2)) := by simp only [laws_markTrustPolicy, ct, cf]
 refine R1 ?_
 intro w1 G bs hI hΓ
 rw [hP1]
 exact Post.of [9, 11, 13, 15] () hI hΓ rfl rfl rfl ⟨⟨hq4.1.1, (And.intro hq1.1.2 (And.intro hq2.1.2 (And.intro hq3.1.2 hq4.1.2)))⟩, ⟨(show ((laws_markKeyS a.keys k).2).length = (a.keys).length from by omega), ⟨(show ((laws_markRuleS a.rules ((laws_markKeyS a.keys k).1)).2).length = (a.rules).length from by omega), ⟨(show ((laws_markNameS a.anchors ((laws_markRuleS a.rules ((laws_markKeyS a.keys k).1)).1)).2).length = (a.anchors).length from by omega), (show ((laws_markDataS a.certificates ((laws_markNameS a.anchors ((laws_markRuleS a.rules ((laws_markKeyS a.keys k).1)).1)).1)).2).length = (a.certificates).length from by omega)⟩⟩⟩⟩
end Go.Proofs.YtolepebgdfdciaaGreat

namespace Go.Stp
set_option linter.unusedVariables false
set_option linter.unusedSimpArgs false
def laws_heldStringS_L1 : List Str → Int → Ctl (Int) (Int)
  | [], k2 => (Ctl.nxt k2)
  | e1 :: rest_, k2 =>
    bif (!((e1).toList == ((laws_markText k2)).toList)) then
      (Ctl.ret (-1))
    else
      laws_heldStringS_L1 rest_ (IntKind.i64.wrap (k2 + 1))
def laws_heldStringS (a : (List Str)) (k : Int) : Int :=
  match laws_heldStringS_L1 a k with
    | .ret r_ => r_
    | .nxt k2 =>
      k2
def laws_heldName (a : Name) (k : Int) : Int :=
  bif decide ((laws_heldStringS a.parts k) < 0) then
    (-1)
  else
    (laws_heldStringS a.parts k)
def laws_heldByteS_L1 : List UInt8 → Int → Ctl (Int) (Int)
  | [], k2 => (Ctl.nxt k2)
  | e1 :: rest_, k2 =>
    bif (((e1).toNat : Int) != ((toU8 k2).toNat : Int)) then
      (Ctl.ret (-1))
    else
      laws_heldByteS_L1 rest_ (IntKind.i64.wrap (k2 + 1))
def laws_heldByteS (a : (List UInt8)) (k : Int) : Int :=
  match laws_heldByteS_L1 a k with
    | .ret r_ => r_
    | .nxt k2 =>
      k2
def laws_heldData (a : DataP) (k : Int) : Int :=
  bif decide ((laws_heldName a.name k) < 0) then
    (-1)
  else
    bif decide ((laws_heldByteS a.content (laws_heldName a.name k)) < 0) then
      (-1)
    else
      bif decide ((laws_heldName a.keyName (laws_heldByteS a.content (laws_heldName a.name k))) < 0) then
        (-1)
      else
        (laws_heldName a.keyName (laws_heldByteS a.content (laws_heldName a.name k)))
def laws_heldConsumer (a : Consumer) (k : Int) : Int :=
  bif decide ((laws_heldName a.name k) < 0) then
    (-1)
  else
    bif decide ((laws_heldData a.data (laws_heldName a.name k)) < 0) then
      (-1)
    else
      (laws_heldData a.data (laws_heldName a.name k))
end Go.Stp

namespace Go.Proofs.YtolepebgdfdciaaGreat
open Go.Stp
set_option linter.unusedVariables false
set_option linter.unusedSimpArgs false
theorem f220 (w : World) (n : Nat) (hn : n + 0 ≤ 9) (a : (List Str)) (pa : Option Addr) (ca : Nat) (N0 : RdSl (hp w) pa ca a) (k : Int) (hoka : GoT.ok n a) (hokk : GoT.ok n k) :
  Does Tryz.prog 220 #[.slice pa ((a).length) ca, .int .i64 (k)] w emp (fun (rv : Value) (_ : World) => rv = .int .i64 ((laws_heldStringS a k)) ∧ GoT.ok n ((laws_heldStringS a k) : Int)) := by
 have hbP := bd_pos n
 have hbB := bd_big (n := n) (by omega)
 refine WX.enter (tt := tt) (Γ := [(0, MF.rs .stb pa ca a)]) Tryz.func220 rfl (by kernel_rfl) rfl (allS_cons rfl N0 allS_nil) ?_
 refine R0 ?_
 have r1 : (a).length ≤ bd n := (okl hoka).1
 refine WX.loop (ι := Int × Nat) ⟨fun | (k2, i) => (i ≤ (a).length) ∧ (-9223372036854775808 ≤ k2 ∧ k2 ≤ 9223372036854775807) ∧ (laws_heldStringS_L1 a k = laws_heldStringS_L1 ((a).drop i) k2), fun | (k2, i) => (a).length - i, fun | (k2, i) => [(1, .v (.int .i64 (k2))), (5, .v (.int .i64 (((i : Nat) : Int)))), (0, .v (.slice pa ((a).length) ca))], fun | (k2, i) => [], fun | (k2, i) => [], fun | (k2, i) => [(0, MF.rs .stb pa ca a)]⟩ (k, 0) ⟨(Nat.zero_le _), hokk, rfl⟩
  (.cons rfl (.cons rfl (.cons rfl (.nil)))) .nil .nil [0] rfl ?_
 rintro ⟨k2, i⟩ hpre
 have hpre_ : (i ≤ (a).length) ∧ (-9223372036854775808 ≤ k2 ∧ k2 ≤ 9223372036854775807) ∧ (laws_heldStringS_L1 a k = laws_heldStringS_L1 ((a).drop i) k2) := hpre
 clear hpre
 obtain ⟨v1, v2, v3⟩ := hpre_
 refine R0 ?_
 refine WX.cases 9 rfl (fun h1 => ?_) (fun h1 => ?_)
 ·skip
  have h1d := B.dt h1
  have e1i : i < (a).length := (by omega)
  obtain ⟨e1, e1h⟩ : ∃ e1, (a)[i]? = some e1 := ⟨_, List.getElem?_eq_getElem e1i⟩
  have ok1 : GoT.ok n e1 := (okl hoka).2 _ (List.mem_of_getElem? e1h)
  refine R0 ?_
  refine WX.draw [] mixed ?_
  intro bs G0 hΓ0
  refine DX.takes (fuel := 5) ttOk [(0, true), (1, true)] (by kernel_rfl) rfl ?_
  refine DX.idx 2 0 i ttOk hΓ0 (by kernel_rfl) rfl rfl rfl rfl rfl rfl rfl rfl rfl rfl rfl e1i ?_
  rintro ad1 rfl
  refine DX.ldE 3 0 1 e1 ttOk hΓ0 (by kernel_rfl) rfl rfl rfl rfl rfl rfl rfl rfl e1h (fun _ => rfl) (fun _ => rfl) ?_
  rintro ⟨⟩
  refine DX.takes (fuel := 2) ttOk [(4, true)] (by kernel_rfl) rfl ?_
  refine DX.callV 5 rfl (by kernel_rfl) rfl rfl rfl rfl rfl rfl (fun _ => rfl) rfl (fun w G bs hI hΓ => f243 w n (by omega) k2 v2) ?_
  intro hq1
  refine DX.takes (fuel := 0) ttOk [(6, true)] (by kernel_rfl) rfl ?_
  refine DX.tail2 [] rfl rfl (by kernel_rfl) ?_
  refine R0 ?_
  refine WX.cases 18 rfl (fun h2 => ?_) (fun h2 => ?_)
  ·skip
   have h2d := B.ef (B.nt h2)
   refine R0 ?_
   have hP1 : laws_heldStringS_L1 a k = (Ctl.ret (-1)) := by rw [v3, drop_get e1h]; simp only [laws_heldStringS_L1, h2, ct, cf]
   have hP2 : laws_heldStringS a k = (-1) := by simp only [laws_heldStringS, hP1, ct, cf]
   refine R1 ?_
   intro w1 G bs hI hΓ
   rw [hP2]
   exact ⟨rfl, (show I64 (-1) from (by unfold I64; omega))⟩
  ·skip
   have h2d := B.et (B.nf h2)
   refine R0 ?_
   refine WX.see rfl rfl rfl (fun _ hΓ => looks_wrap rfl rfl rfl rfl) ?_
   refine R0 ?_
   refine WX.see rfl rfl rfl (fun _ hΓ => looks_arith rfl rfl rfl rfl (by unfold I64; first | omega | (simp only [List.length_take] at *; omega))) ?_
   refine R0 ?_
   exact WX.iter (IntKind.i64.wrap (k2 + 1), i + 1) ⟨(by omega), (i64_wrap _), (by rw [v3, drop_get e1h]; simp only [laws_heldStringS_L1, h2, ct, cf])⟩ (by first | (dsimp only; omega) | omega) (.cons rfl (.cons rfl (.cons rfl (.nil)))) .nil .nil [0] rfl
 ·skip
  have h1d := B.df h1
  refine R0 ?_
  have hX1 : laws_heldStringS_L1 a k = (Ctl.nxt k2) := by rw [v3, List.drop_eq_nil_of_le (show (a).length ≤ i by omega)]; simp only [laws_heldStringS_L1, ct, cf]
  have hP3 : laws_heldStringS a k = k2 := by simp only [laws_heldStringS, hX1, ct, cf]
  refine R1 ?_
  intro w1 G bs hI hΓ
  rw [hP3]
  exact ⟨rfl, v2⟩
theorem f168 (w : World) (n : Nat) (hn : n + 0 ≤ 9) (a : Name) (pa : Option Addr) (ca : Nat) (N0 : RdSl (hp w) pa ca a.parts) (k : Int) (hoka : GoT.ok n a) (hokk : GoT.ok n k) :
  Does Tryz.prog 168 #[.agg #[.slice pa ((a.parts).length) ca], .int .i64 (k)] w emp (fun (rv : Value) (_ : World) => rv = .int .i64 ((laws_heldName a k)) ∧ GoT.ok n ((laws_heldName a k) : Int)) := by
 have hbP := bd_pos n
 have hbB := bd_big (n := n) (by omega)
 refine WX.enter (tt := tt) (Γ := [(0, MF.rs .stb pa ca a.parts)]) Tryz.func168 rfl (by kernel_rfl) rfl (allS_cons rfl N0 allS_nil) ?_
 refine R0 ?_
 refine WX.callV rfl rfl rfl rfl rfl (fun _ => rfl) rfl (fun w G bs hI hΓ => f220 w n (by omega) a.parts pa ca (hΓ.get 0 rfl) k (ok_Name hoka) hokk) ?_
 intro hq1
 refine R0 ?_
 refine WX.cases 10 rfl (fun h1 => ?_) (fun h1 => ?_)
 ·skip
  have h1d := B.dt h1
  refine R0 ?_
  have hP1 : laws_heldName a k = (-1) := by simp only [laws_heldName, h1, ct, cf]
  refine R1 ?_
  intro w1 G bs hI hΓ
  rw [hP1]
  exact ⟨rfl, (show I64 (-1) from (by unfold I64; omega))⟩
 ·skip
  have h1d := B.df h1
  refine R0 ?_
  have hP2 : laws_heldName a k = (laws_heldStringS a.parts k) := by simp only [laws_heldName, h1, ct, cf]
  refine R1 ?_
  intro w1 G bs hI hΓ
  rw [hP2]
  exact ⟨rfl, hq1⟩
theorem f221 (w : World) (n : Nat) (hn : n + 0 ≤ 9) (a : (List UInt8)) (pa : Option Addr) (ca : Nat) (N0 : RdSl (hp w) pa ca a) (k : Int) (hoka : GoT.ok n a) (hokk : GoT.ok n k) :
  Does Tryz.prog 221 #[.slice pa ((a).length) ca, .int .i64 (k)] w emp (fun (rv : Value) (_ : World) => rv = .int .i64 ((laws_heldByteS a k)) ∧ GoT.ok n ((laws_heldByteS a k) : Int)) := by
 have hbP := bd_pos n
 have hbB := bd_big (n := n) (by omega)
 refine WX.enter (tt := tt) (Γ := [(0, MF.rs .stb pa ca a)]) Tryz.func221 rfl (by kernel_rfl) rfl (allS_cons rfl N0 allS_nil) ?_
 refine R0 ?_
 have r1 : (a).length ≤ bd n := (okl hoka).1
 refine WX.loop (ι := Int × Nat) ⟨fun | (k2, i) => (i ≤ (a).length) ∧ (-9223372036854775808 ≤ k2 ∧ k2 ≤ 9223372036854775807) ∧ (laws_heldByteS_L1 a k = laws_heldByteS_L1 ((a).drop i) k2), fun | (k2, i) => (a).length - i, fun | (k2, i) => [(1, .v (.int .i64 (k2))), (5, .v (.int .i64 (((i : Nat) : Int)))), (0, .v (.slice pa ((a).length) ca))], fun | (k2, i) => [], fun | (k2, i) => [], fun | (k2, i) => [(0, MF.rs .stb pa ca a)]⟩ (k, 0) ⟨(Nat.zero_le _), hokk, rfl⟩
  (.cons rfl (.cons rfl (.cons rfl (.nil)))) .nil .nil [0] rfl ?_
 rintro ⟨k2, i⟩ hpre
 have hpre_ : (i ≤ (a).length) ∧ (-9223372036854775808 ≤ k2 ∧ k2 ≤ 9223372036854775807) ∧ (laws_heldByteS_L1 a k = laws_heldByteS_L1 ((a).drop i) k2) := hpre
 clear hpre
 obtain ⟨v1, v2, v3⟩ := hpre_
 refine R0 ?_
 refine WX.cases 9 rfl (fun h1 => ?_) (fun h1 => ?_)
 ·skip
  have h1d := B.dt h1
  have e1i : i < (a).length := (by omega)
  obtain ⟨e1, e1h⟩ : ∃ e1, (a)[i]? = some e1 := ⟨_, List.getElem?_eq_getElem e1i⟩
  refine R0 ?_
  refine WX.idx 0 i ttOk rfl rfl rfl rfl rfl rfl rfl rfl rfl rfl e1i ?_
  rintro ad1 rfl
  refine WX.ldE 0 1 e1 ttOk rfl rfl rfl rfl rfl rfl rfl rfl e1h (fun _ => rfl) (fun _ => rfl) ?_
  rintro ⟨⟩
  refine R0 ?_
  refine WX.see rfl rfl rfl (fun _ hΓ => looks_toU8 ttOk rfl rfl rfl rfl rfl rfl) ?_
  refine R0 ?_
  refine WX.cases 18 rfl (fun h2 => ?_) (fun h2 => ?_)
  ·skip
   have h2d := B.nt' h2
   refine R0 ?_
   have hP1 : laws_heldByteS_L1 a k = (Ctl.ret (-1)) := by rw [v3, drop_get e1h]; simp only [laws_heldByteS_L1, h2, ct, cf]
   have hP2 : laws_heldByteS a k = (-1) := by simp only [laws_heldByteS, hP1, ct, cf]
   refine R1 ?_
   intro w1 G bs hI hΓ
   rw [hP2]
   exact ⟨rfl, (show I64 (-1) from (by unfold I64; omega))⟩
  ·skip
   have h2d := B.nf' h2
   refine R0 ?_
   refine WX.see rfl rfl rfl (fun _ hΓ => looks_wrap rfl rfl rfl rfl) ?_
   refine R0 ?_
   refine WX.see rfl rfl rfl (fun _ hΓ => looks_arith rfl rfl rfl rfl (by unfold I64; first | omega | (simp only [List.length_take] at *; omega))) ?_
   refine R0 ?_
   exact WX.iter (IntKind.i64.wrap (k2 + 1), i + 1) ⟨(by omega), (i64_wrap _), (by rw [v3, drop_get e1h]; simp only [laws_heldByteS_L1, h2, ct, cf])⟩ (by first | (dsimp only; omega) | omega) (.cons rfl (.cons rfl (.cons rfl (.nil)))) .nil .nil [0] rfl
 ·skip
  have h1d := B.df h1
  refine R0 ?_
  have hX1 : laws_heldByteS_L1 a k = (Ctl.nxt k2) := by rw [v3, List.drop_eq_nil_of_le (show (a).length ≤ i by omega)]; simp only [laws_heldByteS_L1, ct, cf]
  have hP3 : laws_heldByteS a k = k2 := by simp only [laws_heldByteS, hX1, ct, cf]
  refine R1 ?_
  intro w1 G bs hI hΓ
  rw [hP3]
  exact ⟨rfl, v2⟩
theorem f169 (w : World) (n : Nat) (hn : n + 0 ≤ 9) (a : DataP) (K0 : Option Addr) (M0 : Nat) (N0 : RdSl (hp w) K0 M0 a.name.parts) (K1 : Option Addr) (M1 : Nat) (N1 : RdSl (hp w) K1 M1 a.content) (K2 : Option Addr) (M2 : Nat) (N2 : RdSl (hp w) K2 M2 a.keyName.parts) (k : Int) (hoka : GoT.ok n a) (hokk : GoT.ok n k) :
  Does Tryz.prog 169 #[.agg #[.slice K0 ((a.name.parts).length) M0, .slice K1 ((a.content).length) M1, .slice K2 ((a.keyName.parts).length) M2, .int .i64 (a.freshUntil), .int .i64 (a.signature)], .int .i64 (k)] w emp (fun (rv : Value) (_ : World) => rv = .int .i64 ((laws_heldData a k)) ∧ GoT.ok n ((laws_heldData a k) : Int)) := by
 have hbP := bd_pos n
 have hbB := bd_big (n := n) (by omega)
 refine WX.enter (tt := tt) (Γ := [(0, MF.rs .stb K0 M0 a.name.parts), (1, MF.rs .stb K1 M1 a.content), (2, MF.rs .stb K2 M2 a.keyName.parts)]) Tryz.func169 rfl (by kernel_rfl) rfl (allS_cons rfl N0 (allS_cons rfl N1 (allS_cons rfl N2 allS_nil))) ?_
 refine R0 ?_
 refine WX.callV rfl rfl rfl rfl rfl (fun _ => rfl) rfl (fun w G bs hI hΓ => f168 w n (by omega) a.name K0 M0 (hΓ.get 0 rfl) k ((ok_DataP hoka).1) hokk) ?_
 intro hq1
 refine R0 ?_
 refine WX.cases 10 rfl (fun h1 => ?_) (fun h1 => ?_)
 ·skip
  have h1d := B.dt h1
  refine R0 ?_
  have hP1 : laws_heldData a k = (-1) := by simp only [laws_heldData, h1, ct, cf]
  refine R1 ?_
  intro w1 G bs hI hΓ
  rw [hP1]
  exact ⟨rfl, (show I64 (-1) from (by unfold I64; omega))⟩
 ·skip
  have h1d := B.df h1
  refine R0 ?_
  refine WX.callV rfl rfl rfl rfl rfl (fun _ => rfl) rfl (fun w G bs hI hΓ => f221 w n (by omega) a.content K1 M1 (hΓ.get 1 rfl) (laws_heldName a.name k) ((ok_DataP hoka).2.1) hq1) ?_
  intro hq2
  refine R0 ?_
  refine WX.cases 16 rfl (fun h2 => ?_) (fun h2 => ?_)
  ·skip
   have h2d := B.dt h2
   refine R0 ?_
   have hP2 : laws_heldData a k = (-1) := by simp only [laws_heldData, h1, h2, ct, cf]
   refine R1 ?_
   intro w1 G bs hI hΓ
   rw [hP2]
   exact ⟨rfl, (show I64 (-1) from (by unfold I64; omega))⟩
  ·skip
   have h2d := B.df h2
   refine R0 ?_
   refine WX.callV rfl rfl rfl rfl rfl (fun _ => rfl) rfl (fun w G bs hI hΓ => f168 w n (by omega) a.keyName K2 M2 (hΓ.get 2 rfl) (laws_heldByteS a.content (laws_heldName a.name k)) ((ok_DataP hoka).2.2.1) hq2) ?_
   intro hq3
   refine R0 ?_
   refine WX.cases 22 rfl (fun h3 => ?_) (fun h3 => ?_)
   ·skip
    have h3d := B.dt h3
    refine R0 ?_
    have hP3 : laws_heldData a k = (-1) := by simp only [laws_heldData, h1, h2, h3, ct, cf]
    refine R1 ?_
    intro w1 G bs hI hΓ
    rw [hP3]
    exact ⟨rfl, (show I64 (-1) from (by unfold I64; omega))⟩
   ·skip
    have h3d := B.df h3
    refine R0 ?_
    have hP4 : laws_heldData a k = (laws_heldName a.keyName (laws_heldByteS a.content (laws_heldName a.name k))) := by simp only [laws_heldData, h1, h2, h3, ct, cf]
    refine R1 ?_
    intro w1 G bs hI hΓ
    rw [hP4]
    exact ⟨rfl, hq3⟩
theorem f75 (w : World) (n : Nat) (hn : n + 0 ≤ 9) (a : Consumer) (K0 : Option Addr) (M0 : Nat) (N0 : RdSl (hp w) K0 M0 a.name.parts) (K1 : Option Addr) (M1 : Nat) (N1 : RdSl (hp w) K1 M1 a.data.name.parts) (K2 : Option Addr) (M2 : Nat) (N2 : RdSl (hp w) K2 M2 a.data.content) (K3 : Option Addr) (M3 : Nat) (N3 : RdSl (hp w) K3 M3 a.data.keyName.parts) (k : Int) (hoka : GoT.ok n a) (hokk : GoT.ok n k) :
  Does Tryz.prog 75 #[.agg #[.int .i64 (a.node), .int .i64 (a.index), .slice K0 ((a.name.parts).length) M0, .int .i64 (a.attempts), .int .i64 (a.wait), .bool a.satisfied, .slice K1 ((a.data.name.parts).length) M1, .slice K2 ((a.data.content).length) M2, .slice K3 ((a.data.keyName.parts).length) M3, .int .i64 (a.data.freshUntil), .int .i64 (a.data.signature)], .int .i64 (k)] w emp (fun (rv : Value) (_ : World) => rv = .int .i64 ((laws_heldConsumer a k)) ∧ GoT.ok n ((laws_heldConsumer a k) : Int)) := by
 have hbP := bd_pos n
 have hbB := bd_big (n := n) (by omega)
 refine WX.enter (tt := tt) (Γ := [(0, MF.rs .stb K0 M0 a.name.parts), (1, MF.rs .stb K1 M1 a.data.name.parts), (2, MF.rs .stb K2 M2 a.data.content), (3, MF.rs .stb K3 M3 a.data.keyName.parts)]) Tryz.func75 rfl (by kernel_rfl) rfl (allS_cons rfl N0 (allS_cons rfl N1 (allS_cons rfl N2 (allS_cons rfl N3 allS_nil)))) ?_
 refine R0 ?_
 refine WX.callV rfl rfl rfl rfl rfl (fun _ => rfl) rfl (fun w G bs hI hΓ => f168 w n (by omega) a.name K0 M0 (hΓ.get 0 rfl) k ((ok_Consumer hoka).2.2.1) hokk) ?_
 intro hq1
 refine R0 ?_
 refine WX.cases 10 rfl (fun h1 => ?_) (fun h1 => ?_)
 ·skip
  have h1d := B.dt h1
  refine R0 ?_
  have hP1 : laws_heldConsumer a k = (-1) := by simp only [laws_heldConsumer, h1, ct, cf]
  refine R1 ?_
  intro w1 G bs hI hΓ
  rw [hP1]
  exact ⟨rfl, (show I64 (-1) from (by unfold I64; omega))⟩
 ·skip
  have h1d := B.df h1
  refine R0 ?_
  refine WX.callV rfl rfl rfl rfl rfl (fun _ => rfl) rfl (fun w G bs hI hΓ => f169 w n (by omega) a.data K1 M1 (hΓ.get 1 rfl) K2 M2 (hΓ.get 2 rfl) K3 M3 (hΓ.get 3 rfl) (laws_heldName a.name k) ((ok_Consumer hoka).2.2.2.2.2.2) hq1) ?_
  intro hq2
  refine R0 ?_
  refine WX.cases 16 rfl (fun h2 => ?_) (fun h2 => ?_)
  ·skip
   have h2d := B.dt h2
   refine R0 ?_
   have hP2 : laws_heldConsumer a k = (-1) := by simp only [laws_heldConsumer, h1, h2, ct, cf]
   refine R1 ?_
   intro w1 G bs hI hΓ
   rw [hP2]
   exact ⟨rfl, (show I64 (-1) from (by unfold I64; omega))⟩
  ·skip
   have h2d := B.df h2
   refine R0 ?_
   have hP3 : laws_heldConsumer a k = (laws_heldData a.data (laws_heldName a.name k)) := by simp only [laws_heldConsumer, h1, h2, ct, cf]
   refine R1 ?_
   intro w1 G bs hI hΓ
   rw [hP3]
   exact ⟨rfl, hq2⟩
end Go.Proofs.YtolepebgdfdciaaGreat

namespace Go.Stp
set_option linter.unusedVariables false
set_option linter.unusedSimpArgs false
def slices_Equal_string_L1 (s2 : (List Str)) : List Str → Nat → Option (Bool)
  | [], i => none
  | e1 :: rest_, i =>
    match (s2)[i]? with
      | none => default
      | some e2 =>
        bif (!((e1).toList == (e2).toList)) then
          (some false)
        else
          slices_Equal_string_L1 s2 rest_ (i + 1)
def slices_Equal_string (s1 : (List Str)) (s2 : (List Str)) : Bool :=
  bif ((((s1).length : Nat) : Int) != (((s2).length : Nat) : Int)) then
    false
  else
    match slices_Equal_string_L1 s2 s1 0 with
      | some r_ => r_
      | none =>
        true
def slices_Equal_byte_L1 (s2 : (List UInt8)) : List UInt8 → Nat → Option (Bool)
  | [], i => none
  | e1 :: rest_, i =>
    match (s2)[i]? with
      | none => default
      | some e2 =>
        bif (((e1).toNat : Int) != ((e2).toNat : Int)) then
          (some false)
        else
          slices_Equal_byte_L1 s2 rest_ (i + 1)
def slices_Equal_byte (s1 : (List UInt8)) (s2 : (List UInt8)) : Bool :=
  bif ((((s1).length : Nat) : Int) != (((s2).length : Nat) : Int)) then
    false
  else
    match slices_Equal_byte_L1 s2 s1 0 with
      | some r_ => r_
      | none =>
        true
def impl_EqualNames (a : Name) (b : Name) : Bool :=
  (slices_Equal_string a.parts b.parts)
def spec_l4Cmp (a : Str) (b : Str) : Int :=
  bif (Op.bytesLess (a).toList (b).toList) then
    (-1)
  else
    bif (!(Op.bytesLess (a).toList (b).toList || (a).toList == (b).toList)) then
      1
    else
      0
def spec_CompareNames_L1 (b : Name) : List Str → Nat → Option (Int)
  | [], i => none
  | e1 :: rest_, i =>
    bif decide (((i : Nat) : Int) < (((b.parts).length : Nat) : Int)) then
      match (b.parts)[i]? with
        | none => default
        | some e2 =>
          bif ((spec_l4Cmp e1 e2) != 0) then
            (some (spec_l4Cmp e1 e2))
          else
            spec_CompareNames_L1 b rest_ (i + 1)
    else
      none
def spec_CompareNames (a : Name) (b : Name) : Int :=
  match spec_CompareNames_L1 b a.parts 0 with
    | some r_ => r_
    | none =>
      bif decide ((((a.parts).length : Nat) : Int) < (((b.parts).length : Nat) : Int)) then
        (-1)
      else
        bif decide ((((a.parts).length : Nat) : Int) > (((b.parts).length : Nat) : Int)) then
          1
        else
          0
def spec_EqualNames (a : Name) (b : Name) : Bool :=
  ((spec_CompareNames a b) == 0)
def spec_EqualBytes (a : (List UInt8)) (b : (List UInt8)) : Bool :=
  (((bstr a)).toList == ((bstr b)).toList)
end Go.Stp

namespace Go.Proofs.YtolepebgdfdciaaGreat
open Go.Stp
set_option linter.unusedVariables false
set_option linter.unusedSimpArgs false
theorem f174 (w : World) (n : Nat) (hn : n + 0 ≤ 9) (s1 : (List Str)) (K0 : Option Addr) (M0 : Nat) (N0 : RdSl (hp w) K0 M0 s1) (s2 : (List Str)) (K1 : Option Addr) (M1 : Nat) (N1 : RdSl (hp w) K1 M1 s2) (hoks1 : GoT.ok n s1) (hoks2 : GoT.ok n s2) :
  Does Tryz.prog 174 #[.slice K0 ((s1).length) M0, .slice K1 ((s2).length) M1] w emp (fun (rv : Value) (_ : World) => rv = .bool (slices_Equal_string s1 s2) ∧ True) := by
 have hbP := bd_pos n
 have hbB := bd_big (n := n) (by omega)
 refine WX.enter (tt := tt) (Γ := [(0, MF.rs .stb K0 M0 s1), (1, MF.rs .stb K1 M1 s2)]) Tryz.func174 rfl (by kernel_rfl) rfl (allS_cons rfl N0 (allS_cons rfl N1 allS_nil)) ?_
 refine R0 ?_
 refine WX.cases 10 rfl (fun h1 => ?_) (fun h1 => ?_)
 ·skip
  have h1d := B.nt' h1
  refine R0 ?_
  have hP1 : slices_Equal_string s1 s2 = false := by simp only [slices_Equal_string, h1, ct, cf]
  exact R3 hP1
 ·skip
  have h1d := B.nf' h1
  refine R0 ?_
  have r1 : (s1).length ≤ bd n := (okl hoks1).1
  refine WX.loop (ι := Nat) ⟨fun i => (i ≤ (s1).length) ∧ (slices_Equal_string_L1 s2 s1 0 = slices_Equal_string_L1 s2 ((s1).drop i) i), fun i => (s1).length - i, fun i => [(13, .v (.int .i64 (((i : Nat) : Int)))), (12, .v (.int .i64 ((((s1).length : Nat) : Int)))), (0, .v (.slice K0 ((s1).length) M0)), (1, .v (.slice K1 ((s2).length) M1))], fun i => [], fun i => [], fun i => [(0, MF.rs .stb K0 M0 s1), (1, MF.rs .stb K1 M1 s2)]⟩ 0 ⟨(Nat.zero_le _), rfl⟩
   (.cons rfl (.cons rfl (.cons rfl (.cons rfl (.nil))))) .nil .nil [0, 1] rfl ?_
  rintro i hpre
  have hpre_ : (i ≤ (s1).length) ∧ (slices_Equal_string_L1 s2 s1 0 = slices_Equal_string_L1 s2 ((s1).drop i) i) := hpre
  clear hpre
  obtain ⟨v1, v2⟩ := hpre_
  refine R0 ?_
  refine WX.cases 14 rfl (fun h2 => ?_) (fun h2 => ?_)
  ·skip
   have h2d := B.dt h2
   have e1i : i < (s1).length := (by omega)
   obtain ⟨e1, e1h⟩ : ∃ e1, (s1)[i]? = some e1 := ⟨_, List.getElem?_eq_getElem e1i⟩
   have ok1 : GoT.ok n e1 := (okl hoks1).2 _ (List.mem_of_getElem? e1h)
   refine R0 ?_
   refine WX.draw [] mixed ?_
   intro bs G0 hΓ0
   refine DX.takes (fuel := 7) ttOk [(0, true), (1, true)] (by kernel_rfl) rfl ?_
   refine DX.idx 2 0 i ttOk hΓ0 (by kernel_rfl) rfl rfl rfl rfl rfl rfl rfl rfl rfl rfl rfl e1i ?_
   rintro ad1 rfl
   refine DX.ldE 3 0 2 e1 ttOk hΓ0 (by kernel_rfl) rfl rfl rfl rfl rfl rfl rfl rfl e1h (fun _ => rfl) (fun _ => rfl) ?_
   rintro ⟨⟩
   refine DX.takes (fuel := 3) ttOk [(4, true), (5, true)] (by kernel_rfl) rfl ?_
   have e2i : i < (s2).length := (by first | assumption | omega)
   obtain ⟨e2, e2h⟩ : ∃ e2, (s2)[i]? = some e2 := ⟨_, List.getElem?_eq_getElem e2i⟩
   have ok2 : GoT.ok n e2 := (okl hoks2).2 _ (List.mem_of_getElem? e2h)
   refine DX.idx 6 1 i ttOk hΓ0 (by kernel_rfl) rfl rfl rfl rfl rfl rfl rfl rfl rfl rfl rfl e2i ?_
   rintro ad2 rfl
   refine DX.ldE 7 1 2 e2 ttOk hΓ0 (by kernel_rfl) rfl rfl rfl rfl rfl rfl rfl rfl e2h (fun _ => rfl) (fun _ => rfl) ?_
   rintro ⟨⟩
   refine DX.takes (fuel := 0) ttOk [(8, true)] (by kernel_rfl) rfl ?_
   refine DX.tail2 [] rfl rfl (by kernel_rfl) ?_
   refine R0 ?_
   refine WX.cases 24 rfl (fun h3 => ?_) (fun h3 => ?_)
   ·skip
    have h3d := B.ef (B.nt h3)
    refine R0 ?_
    have hP2 : slices_Equal_string_L1 s2 s1 0 = (some false) := by rw [v2, drop_get e1h]; simp only [slices_Equal_string_L1, e2h, h3, ct, cf]
    have hP3 : slices_Equal_string s1 s2 = false := by simp only [slices_Equal_string, h1, hP2, ct, cf]
    exact R3 hP3
   ·skip
    have h3d := B.et (B.nf h3)
    refine R0 ?_
    refine WX.see rfl rfl rfl (fun _ hΓ => looks_arith rfl rfl rfl rfl (by unfold I64; first | omega | (simp only [List.length_take] at *; omega))) ?_
    refine R0 ?_
    exact WX.iter (i + 1) ⟨(by omega), (by rw [v2, drop_get e1h]; simp only [slices_Equal_string_L1, e2h, h3, ct, cf])⟩ (by first | (dsimp only; omega) | omega) (.cons rfl (.cons rfl (.cons rfl (.cons rfl (.nil))))) .nil .nil [0, 1] rfl
  ·skip
   have h2d := B.df h2
   refine R0 ?_
   have hX1 : slices_Equal_string_L1 s2 s1 0 = none := by rw [v2, List.drop_eq_nil_of_le (show (s1).length ≤ i by omega)]; simp only [slices_Equal_string_L1, ct, cf]
   have hP4 : slices_Equal_string s1 s2 = true := by simp only [slices_Equal_string, h1, hX1, ct, cf]
   exact R3 hP4
theorem f178 (w : World) (n : Nat) (hn : n + 0 ≤ 9) (s1 : (List UInt8)) (K0 : Option Addr) (M0 : Nat) (N0 : RdSl (hp w) K0 M0 s1) (s2 : (List UInt8)) (K1 : Option Addr) (M1 : Nat) (N1 : RdSl (hp w) K1 M1 s2) (hoks1 : GoT.ok n s1) (hoks2 : GoT.ok n s2) :
  Does Tryz.prog 178 #[.slice K0 ((s1).length) M0, .slice K1 ((s2).length) M1] w emp (fun (rv : Value) (_ : World) => rv = .bool (slices_Equal_byte s1 s2) ∧ True) := by
 have hbP := bd_pos n
 have hbB := bd_big (n := n) (by omega)
 refine WX.enter (tt := tt) (Γ := [(0, MF.rs .stb K0 M0 s1), (1, MF.rs .stb K1 M1 s2)]) Tryz.func178 rfl (by kernel_rfl) rfl (allS_cons rfl N0 (allS_cons rfl N1 allS_nil)) ?_
 refine R0 ?_
 refine WX.cases 10 rfl (fun h1 => ?_) (fun h1 => ?_)
 ·skip
  have h1d := B.nt' h1
  refine R0 ?_
  have hP1 : slices_Equal_byte s1 s2 = false := by simp only [slices_Equal_byte, h1, ct, cf]
  exact R3 hP1
 ·skip
  have h1d := B.nf' h1
  refine R0 ?_
  have r1 : (s1).length ≤ bd n := (okl hoks1).1
  refine WX.loop (ι := Nat) ⟨fun i => (i ≤ (s1).length) ∧ (slices_Equal_byte_L1 s2 s1 0 = slices_Equal_byte_L1 s2 ((s1).drop i) i), fun i => (s1).length - i, fun i => [(13, .v (.int .i64 (((i : Nat) : Int)))), (12, .v (.int .i64 ((((s1).length : Nat) : Int)))), (0, .v (.slice K0 ((s1).length) M0)), (1, .v (.slice K1 ((s2).length) M1))], fun i => [], fun i => [], fun i => [(0, MF.rs .stb K0 M0 s1), (1, MF.rs .stb K1 M1 s2)]⟩ 0 ⟨(Nat.zero_le _), rfl⟩
   (.cons rfl (.cons rfl (.cons rfl (.cons rfl (.nil))))) .nil .nil [0, 1] rfl ?_
  rintro i hpre
  have hpre_ : (i ≤ (s1).length) ∧ (slices_Equal_byte_L1 s2 s1 0 = slices_Equal_byte_L1 s2 ((s1).drop i) i) := hpre
  clear hpre
  obtain ⟨v1, v2⟩ := hpre_
  refine R0 ?_
  refine WX.cases 14 rfl (fun h2 => ?_) (fun h2 => ?_)
  ·skip
   have h2d := B.dt h2
   have e1i : i < (s1).length := (by omega)
   obtain ⟨e1, e1h⟩ : ∃ e1, (s1)[i]? = some e1 := ⟨_, List.getElem?_eq_getElem e1i⟩
   refine R0 ?_
   refine WX.draw [] mixed ?_
   intro bs G0 hΓ0
   refine DX.takes (fuel := 7) ttOk [(0, true), (1, true)] (by kernel_rfl) rfl ?_
   refine DX.idx 2 0 i ttOk hΓ0 (by kernel_rfl) rfl rfl rfl rfl rfl rfl rfl rfl rfl rfl rfl e1i ?_
   rintro ad1 rfl
   refine DX.ldE 3 0 2 e1 ttOk hΓ0 (by kernel_rfl) rfl rfl rfl rfl rfl rfl rfl rfl e1h (fun _ => rfl) (fun _ => rfl) ?_
   rintro ⟨⟩
   refine DX.takes (fuel := 3) ttOk [(4, true), (5, true)] (by kernel_rfl) rfl ?_
   have e2i : i < (s2).length := (by first | assumption | omega)
   obtain ⟨e2, e2h⟩ : ∃ e2, (s2)[i]? = some e2 := ⟨_, List.getElem?_eq_getElem e2i⟩
   refine DX.idx 6 1 i ttOk hΓ0 (by kernel_rfl) rfl rfl rfl rfl rfl rfl rfl rfl rfl rfl rfl e2i ?_
   rintro ad2 rfl
   refine DX.ldE 7 1 2 e2 ttOk hΓ0 (by kernel_rfl) rfl rfl rfl rfl rfl rfl rfl rfl e2h (fun _ => rfl) (fun _ => rfl) ?_
   rintro ⟨⟩
   refine DX.takes (fuel := 0) ttOk [(8, true)] (by kernel_rfl) rfl ?_
   refine DX.tail2 [] rfl rfl (by kernel_rfl) ?_
   refine R0 ?_
   refine WX.cases 24 rfl (fun h3 => ?_) (fun h3 => ?_)
   ·skip
    have h3d := B.nt' h3
    refine R0 ?_
    have hP2 : slices_Equal_byte_L1 s2 s1 0 = (some false) := by rw [v2, drop_get e1h]; simp only [slices_Equal_byte_L1, e2h, h3, ct, cf]
    have hP3 : slices_Equal_byte s1 s2 = false := by simp only [slices_Equal_byte, h1, hP2, ct, cf]
    exact R3 hP3
   ·skip
    have h3d := B.nf' h3
    refine R0 ?_
    refine WX.see rfl rfl rfl (fun _ hΓ => looks_arith rfl rfl rfl rfl (by unfold I64; first | omega | (simp only [List.length_take] at *; omega))) ?_
    refine R0 ?_
    exact WX.iter (i + 1) ⟨(by omega), (by rw [v2, drop_get e1h]; simp only [slices_Equal_byte_L1, e2h, h3, ct, cf])⟩ (by first | (dsimp only; omega) | omega) (.cons rfl (.cons rfl (.cons rfl (.cons rfl (.nil))))) .nil .nil [0, 1] rfl
  ·skip
   have h2d := B.df h2
   refine R0 ?_
   have hX1 : slices_Equal_byte_L1 s2 s1 0 = none := by rw [v2, List.drop_eq_nil_of_le (show (s1).length ≤ i by omega)]; simp only [slices_Equal_byte_L1, ct, cf]
   have hP4 : slices_Equal_byte s1 s2 = true := by simp only [slices_Equal_byte, h1, hX1, ct, cf]
   exact R3 hP4
theorem f94 (w : World) (n : Nat) (hn : n + 0 ≤ 9) (a : Name) (pa : Option Addr) (ca : Nat) (N0 : RdSl (hp w) pa ca a.parts) (b : Name) (pb : Option Addr) (cb : Nat) (N1 : RdSl (hp w) pb cb b.parts) (hoka : GoT.ok n a) (hokb : GoT.ok n b) :
  Does Tryz.prog 94 #[.agg #[.slice pa ((a.parts).length) ca], .agg #[.slice pb ((b.parts).length) cb]] w emp (fun (rv : Value) (_ : World) => rv = .bool (impl_EqualNames a b) ∧ True) := by
 have hbP := bd_pos n
 have hbB := bd_big (n := n) (by omega)
 refine WX.enter (tt := tt) (Γ := [(0, MF.rs .stb pa ca a.parts), (1, MF.rs .stb pb cb b.parts)]) Tryz.func94 rfl (by kernel_rfl) rfl (allS_cons rfl N0 (allS_cons rfl N1 allS_nil)) ?_
 refine R0 ?_
 refine WX.callV rfl rfl rfl rfl rfl (fun _ => rfl) rfl (fun w G bs hI hΓ => f174 w n (by omega) a.parts pa ca (hΓ.get 0 rfl) b.parts pb cb (hΓ.get 1 rfl) (ok_Name hoka) (ok_Name hokb)) ?_
 intro hq1
 refine R0 ?_
 have hP1 : impl_EqualNames a b = (slices_Equal_string a.parts b.parts) := by simp only [impl_EqualNames, ct, cf]
 exact R3 hP1
theorem f230 (w : World) (n : Nat) (hn : n + 0 ≤ 9) (a : Str) (b : Str) (hoka : GoT.ok n a) (hokb : GoT.ok n b) :
  Does Tryz.prog 230 #[.string a, .string b] w emp (fun (rv : Value) (_ : World) => rv = .int .i64 ((spec_l4Cmp a b)) ∧ GoT.ok n ((spec_l4Cmp a b) : Int)) := by
 have hbP := bd_pos n
 have hbB := bd_big (n := n) (by omega)
 refine WX.enter (tt := tt) (Γ := []) Tryz.func230 rfl (by kernel_rfl) rfl allS_nil ?_
 refine R0 ?_
 refine WX.cases 5 rfl (fun h1 => ?_) (fun h1 => ?_)
 ·skip
  refine R0 ?_
  have hP1 : spec_l4Cmp a b = (-1) := by simp only [spec_l4Cmp, h1, ct, cf]
  refine R1 ?_
  intro w1 G bs hI hΓ
  rw [hP1]
  exact ⟨rfl, (show I64 (-1) from (by unfold I64; omega))⟩
 ·skip
  refine R0 ?_
  refine WX.cases 9 rfl (fun h2 => ?_) (fun h2 => ?_)
  ·skip
   refine R0 ?_
   have hP2 : spec_l4Cmp a b = 1 := by first | (simp only [spec_l4Cmp, h1, h2, ct, cf]; done) | (unfold spec_l4Cmp; rw [h2, h1]; simp only [ct, cf])
   refine R1 ?_
   intro w1 G bs hI hΓ
   rw [hP2]
   exact ⟨rfl, (show I64 1 from (by unfold I64; omega))⟩
  ·skip
   refine R0 ?_
   have hP3 : spec_l4Cmp a b = 0 := by first | (simp only [spec_l4Cmp, h1, h2, ct, cf]; done) | (unfold spec_l4Cmp; rw [h2, h1]; simp only [ct, cf])
   refine R1 ?_
   intro w1 G bs hI hΓ
   rw [hP3]
   exact ⟨rfl, (show I64 0 from (by unfold I64; omega))⟩
theorem f193 (w : World) (n : Nat) (hn : n + 0 ≤ 9) (a : Name) (pa : Option Addr) (ca : Nat) (N0 : RdSl (hp w) pa ca a.parts) (b : Name) (pb : Option Addr) (cb : Nat) (N1 : RdSl (hp w) pb cb b.parts) (hoka : GoT.ok n a) (hokb : GoT.ok n b) :
  Does Tryz.prog 193 #[.agg #[.slice pa ((a.parts).length) ca], .agg #[.slice pb ((b.parts).length) cb]] w emp (fun (rv : Value) (_ : World) => rv = .int .i64 ((spec_CompareNames a b)) ∧ GoT.ok n ((spec_CompareNames a b) : Int)) := by
 have hbP := bd_pos n
 have hbB := bd_big (n := n) (by omega)
 refine WX.enter (tt := tt) (Γ := [(0, MF.rs .stb pa ca a.parts), (1, MF.rs .stb pb cb b.parts)]) Tryz.func193 rfl (by kernel_rfl) rfl (allS_cons rfl N0 (allS_cons rfl N1 allS_nil)) ?_
 refine R0 ?_
 have r1 : (a.parts).length ≤ bd n := (okl (ok_Name hoka)).1
 refine WX.loop (ι := Nat) ⟨fun i => (i ≤ (a.parts).length) ∧ (spec_CompareNames_L1 b a.parts 0 = spec_CompareNames_L1 b ((a.parts).drop i) i), fun i => (a.parts).length - i, fun i => [(5, .v (.int .i64 (((i : Nat) : Int)))), (3, .p 3 0), (2, .p 2 0)], fun i => [(3, ⟨30, [.slice pb ((b.parts).length) cb]⟩), (2, ⟨30, [.slice pa ((a.parts).length) ca]⟩)], fun i => [], fun i => [(0, MF.rs .stb pa ca a.parts), (1, MF.rs .stb pb cb b.parts)]⟩ 0 ⟨(Nat.zero_le _), rfl⟩
  (.cons rfl (.cons rfl (.cons rfl (.nil)))) (.cons rfl (.cons rfl (.nil))) .nil [0, 1] rfl ?_
 rintro i hpre
 have hpre_ : (i ≤ (a.parts).length) ∧ (spec_CompareNames_L1 b a.parts 0 = spec_CompareNames_L1 b ((a.parts).drop i) i) := hpre
 clear hpre
 obtain ⟨v1, v2⟩ := hpre_
 refine R0 ?_
 refine WX.cases 12 rfl (fun h1 => ?_) (fun h1 => ?_)
 ·skip
  have h1d := B.dt h1
  have e1i : i < (a.parts).length := (by omega)
  obtain ⟨e1, e1h⟩ : ∃ e1, (a.parts)[i]? = some e1 := ⟨_, List.getElem?_eq_getElem e1i⟩
  have ok1 : GoT.ok n e1 := (okl (ok_Name hoka)).2 _ (List.mem_of_getElem? e1h)
  refine R0 ?_
  refine WX.cases 18 rfl (fun h2 => ?_) (fun h2 => ?_)
  ·skip
   have h2d := B.dt h2
   refine R0 ?_
   refine WX.draw [] mixed ?_
   intro bs G0 hΓ0
   refine DX.takes (fuel := 9) ttOk [(0, true), (1, false), (2, true)] (by kernel_rfl) rfl ?_
   refine DX.idx 3 0 i ttOk hΓ0 (by kernel_rfl) rfl rfl rfl rfl rfl rfl rfl rfl rfl rfl rfl e1i ?_
   rintro ad1 rfl
   refine DX.ldE 4 0 2 e1 ttOk hΓ0 (by kernel_rfl) rfl rfl rfl rfl rfl rfl rfl rfl e1h (fun _ => rfl) (fun _ => rfl) ?_
   rintro ⟨⟩
   refine DX.takes (fuel := 4) ttOk [(5, true), (6, false), (7, true)] (by kernel_rfl) rfl ?_
   have e2i : i < (b.parts).length := (by first | assumption | omega)
   obtain ⟨e2, e2h⟩ : ∃ e2, (b.parts)[i]? = some e2 := ⟨_, List.getElem?_eq_getElem e2i⟩
   have ok2 : GoT.ok n e2 := (okl (ok_Name hokb)).2 _ (List.mem_of_getElem? e2h)
   refine DX.idx 8 1 i ttOk hΓ0 (by kernel_rfl) rfl rfl rfl rfl rfl rfl rfl rfl rfl rfl rfl e2i ?_
   rintro ad2 rfl
   refine DX.ldE 9 1 2 e2 ttOk hΓ0 (by kernel_rfl) rfl rfl rfl rfl rfl rfl rfl rfl e2h (fun _ => rfl) (fun _ => rfl) ?_
   rintro ⟨⟩
   refine DX.callV 10 rfl (by kernel_rfl) rfl rfl rfl rfl rfl rfl (fun _ => rfl) rfl (fun w G bs hI hΓ => f230 w n (by omega) e1 e2 ok1 ok2) ?_
   intro hq1
   refine DX.takes (fuel := 0) ttOk [(11, true)] (by kernel_rfl) rfl ?_
   refine DX.tail2 [] rfl rfl (by kernel_rfl) ?_
   refine R0 ?_
   refine WX.cases 33 rfl (fun h3 => ?_) (fun h3 => ?_)
   ·skip
    have h3d := B.nt' h3
    refine R0 ?_
    have hP1 : spec_CompareNames_L1 b a.parts 0 = (some (spec_l4Cmp e1 e2)) := by rw [v2, drop_get e1h]; simp only [spec_CompareNames_L1, h2, e2h, h3, ct, cf]
    have hP2 : spec_CompareNames a b = (spec_l4Cmp e1 e2) := by simp only [spec_CompareNames, hP1, ct, cf]
    refine R1 ?_
    intro w1 G bs hI hΓ
    rw [hP2]
    exact ⟨rfl, hq1⟩
   ·skip
    have h3d := B.nf' h3
    refine R0 ?_
    refine WX.see rfl rfl rfl (fun _ hΓ => looks_arith rfl rfl rfl rfl (by unfold I64; first | omega | (simp only [List.length_take] at *; omega))) ?_
    refine R0 ?_
    exact WX.iter (i + 1) ⟨(by omega), (by rw [v2, drop_get e1h]; simp only [spec_CompareNames_L1, h2, e2h, h3, ct, cf])⟩ (by first | (dsimp only; omega) | omega) (.cons rfl (.cons rfl (.cons rfl (.nil)))) (.cons rfl (.cons rfl (.nil))) .nil [0, 1] rfl
  ·skip
   have h2d := B.df h2
   refine R0 ?_
   have hX1 : spec_CompareNames_L1 b a.parts 0 = none := by rw [v2, drop_get e1h]; simp only [spec_CompareNames_L1, h2, ct, cf]
   refine WX.cases 35 rfl (fun h4 => ?_) (fun h4 => ?_)
   ·skip
    have h4d := B.dt h4
    refine R0 ?_
    have hP3 : spec_CompareNames a b = (-1) := by simp only [spec_CompareNames, hX1, h4, ct, cf]
    refine R1 ?_
    intro w1 G bs hI hΓ
    rw [hP3]
    exact ⟨rfl, (show I64 (-1) from (by unfold I64; omega))⟩
   ·skip
    have h4d := B.df h4
    refine R0 ?_
    refine WX.cases 43 rfl (fun h5 => ?_) (fun h5 => ?_)
    ·skip
     have h5d := B.dt h5
     refine R0 ?_
     have hP4 : spec_CompareNames a b = 1 := by simp only [spec_CompareNames, hX1, h4, h5, ct, cf]
     refine R1 ?_
     intro w1 G bs hI hΓ
     rw [hP4]
     exact ⟨rfl, (show I64 1 from (by unfold I64; omega))⟩
    ·skip
     have h5d := B.df h5
     refine R0 ?_
     have hP5 : spec_CompareNames a b = 0 := by simp only [spec_CompareNames, hX1, h4, h5, ct, cf]
     refine R1 ?_
     intro w1 G bs hI hΓ
     rw [hP5]
     exact ⟨rfl, (show I64 0 from (by unfold I64; omega))⟩
 ·skip
  have h1d := B.df h1
  refine R0 ?_
  have hX2 : spec_CompareNames_L1 b a.parts 0 = none := by rw [v2, List.drop_eq_nil_of_le (show (a.parts).length ≤ i by omega)]; simp only [spec_CompareNames_L1, ct, cf]
  refine WX.cases 35 rfl (fun h6 => ?_) (fun h6 => ?_)
  ·skip
   have h6d := B.dt h6
   refine R0 ?_
   have hP6 : spec_CompareNames a b = (-1) := by simp only [spec_CompareNames, hX2, h6, ct, cf]
   refine R1 ?_
   intro w1 G bs hI hΓ
   rw [hP6]
   exact ⟨rfl, (show I64 (-1) from (by unfold I64; omega))⟩
  ·skip
   have h6d := B.df h6
   refine R0 ?_
   refine WX.cases 43 rfl (fun h7 => ?_) (fun h7 => ?_)
   ·skip
    have h7d := B.dt h7
    refine R0 ?_
    have hP7 : spec_CompareNames a b = 1 := by simp only [spec_CompareNames, hX2, h6, h7, ct, cf]
    refine R1 ?_
    intro w1 G bs hI hΓ
    rw [hP7]
    exact ⟨rfl, (show I64 1 from (by unfold I64; omega))⟩
   ·skip
    have h7d := B.df h7
    refine R0 ?_
    have hP8 : spec_CompareNames a b = 0 := by simp only [spec_CompareNames, hX2, h6, h7, ct, cf]
    refine R1 ?_
    intro w1 G bs hI hΓ
    rw [hP8]
    exact ⟨rfl, (show I64 0 from (by unfold I64; omega))⟩
theorem f146 (w : World) (n : Nat) (hn : n + 0 ≤ 9) (a : Name) (pa : Option Addr) (ca : Nat) (N0 : RdSl (hp w) pa ca a.parts) (b : Name) (pb : Option Addr) (cb : Nat) (N1 : RdSl (hp w) pb cb b.parts) (hoka : GoT.ok n a) (hokb : GoT.ok n b) :
  Does Tryz.prog 146 #[.agg #[.slice pa ((a.parts).length) ca], .agg #[.slice pb ((b.parts).length) cb]] w emp (fun (rv : Value) (_ : World) => rv = .bool (spec_EqualNames a b) ∧ True) := by
 have hbP := bd_pos n
 have hbB := bd_big (n := n) (by omega)
 refine WX.enter (tt := tt) (Γ := [(0, MF.rs .stb pa ca a.parts), (1, MF.rs .stb pb cb b.parts)]) Tryz.func146 rfl (by kernel_rfl) rfl (allS_cons rfl N0 (allS_cons rfl N1 allS_nil)) ?_
 refine R0 ?_
 refine WX.callV rfl rfl rfl rfl rfl (fun _ => rfl) rfl (fun w G bs hI hΓ => f193 w n (by omega) a pa ca (hΓ.get 0 rfl) b pb cb (hΓ.get 1 rfl) hoka hokb) ?_
 intro hq1
 refine R0 ?_
 have hP1 : spec_EqualNames a b = ((spec_CompareNames a b) == 0) := by simp only [spec_EqualNames, ct, cf]
 exact R3 hP1
theorem f180 (w : World) (n : Nat) (hn : n + 0 ≤ 9) (a : (List UInt8)) (pa : Option Addr) (ca : Nat) (N0 : RdSl (hp w) pa ca a) (b : (List UInt8)) (pb : Option Addr) (cb : Nat) (N1 : RdSl (hp w) pb cb b) (hoka : GoT.ok n a) (hokb : GoT.ok n b) :
  Does Tryz.prog 180 #[.slice pa ((a).length) ca, .slice pb ((b).length) cb] w emp (fun (rv : Value) (_ : World) => rv = .bool (spec_EqualBytes a b) ∧ True) := by
 refine WX.enter (tt := tt) (Γ := [(0, MF.rs .stb pa ca a), (1, MF.rs .stb pb cb b)]) Tryz.func180 rfl (by kernel_rfl) rfl (allS_cons rfl N0 (allS_cons rfl N1 allS_nil)) ?_
 refine R0 ?_
 refine WX.see rfl rfl rfl (fun _ hΓ => looks_toStr ttOk (hΓ.get 0 rfl) rfl rfl rfl rfl rfl rfl rfl rfl rfl) ?_
 refine R0 ?_
 refine WX.see rfl rfl rfl (fun _ hΓ => looks_toStr ttOk (hΓ.get 1 rfl) rfl rfl rfl rfl rfl rfl rfl rfl rfl) ?_
 refine R0 ?_
 have hP1 : spec_EqualBytes a b = (((bstr a)).toList == ((bstr b)).toList) := by simp only [spec_EqualBytes, ct, cf]
 exact R3 hP1
end Go.Proofs.YtolepebgdfdciaaGreat

namespace Go.Stp
set_option linter.unusedVariables false
set_option linter.unusedSimpArgs false
def impl_ValidPart_L1 : List UInt8 → Option (Bool)
  | [] => none
  | e1 :: rest_ =>
    bif decide (((e1).toNat : Int) ≥ 97) then
      bif decide (((e1).toNat : Int) ≤ 122) then
        impl_ValidPart_L1 rest_
      else
        bif decide (((e1).toNat : Int) ≥ 48) then
          bif decide (((e1).toNat : Int) ≤ 57) then
            impl_ValidPart_L1 rest_
          else
            bif (!(((e1).toNat : Int) == 45)) then
              (some false)
            else
              impl_ValidPart_L1 rest_
        else
          bif (!(((e1).toNat : Int) == 45)) then
            (some false)
          else
            impl_ValidPart_L1 rest_
    else
      bif decide (((e1).toNat : Int) ≥ 48) then
        bif decide (((e1).toNat : Int) ≤ 57) then
          impl_ValidPart_L1 rest_
        else
          bif (!(((e1).toNat : Int) == 45)) then
            (some false)
          else
            impl_ValidPart_L1 rest_
      else
        bif (!(((e1).toNat : Int) == 45)) then
          (some false)
        else
          impl_ValidPart_L1 rest_
def impl_ValidPart (s : Str) : Bool :=
  match impl_ValidPart_L1 ((s).data.toList) with
    | some r_ => r_
    | none =>
      (impl_InRange (((s).size : Nat) : Int) 1 8)
def spec_ValidPart_L1 : List UInt8 → Option (Bool)
  | [] => none
  | e1 :: rest_ =>
    bif (!(spec_l1In ((e1).toNat : Int) 97 122)) then
      bif (!(spec_l1In ((e1).toNat : Int) 48 57)) then
        bif (((e1).toNat : Int) != 45) then
          (some false)
        else
          spec_ValidPart_L1 rest_
      else
        spec_ValidPart_L1 rest_
    else
      spec_ValidPart_L1 rest_
def spec_ValidPart (s : Str) : Bool :=
  bif (!(spec_l1In (((s).size : Nat) : Int) 1 8)) then
    false
  else
    match spec_ValidPart_L1 ((s).data.toList) with
      | some r_ => r_
      | none =>
        true
def slices_IndexFunc_string_L1 (fq : Str → Bool) : List Str → Nat → Option (Int)
  | [], i => none
  | e1 :: rest_, i =>
    bif fq e1 then
      (some ((i : Nat) : Int))
    else
      slices_IndexFunc_string_L1 fq rest_ (i + 1)
def slices_IndexFunc_string (s : (List Str)) (fq : Str → Bool) : Int :=
  match slices_IndexFunc_string_L1 fq s 0 with
    | some r_ => r_
    | none =>
      (-1)
def slices_ContainsFunc_string (s : (List Str)) (fq : Str → Bool) : Bool :=
  (decide ((slices_IndexFunc_string s fq) ≥ 0))
def impl_ValidName_c1 (p_ : Str) : Bool :=
  (!(impl_ValidPart p_))
def impl_ValidName (n_ : Name) : Bool :=
  bif decide ((((n_.parts).length : Nat) : Int) ≤ 6) then
    (!(slices_ContainsFunc_string n_.parts (fun e0_ => (impl_ValidName_c1 e0_))))
  else
    false
def spec_ValidName_L1 : List Str → Option (Bool)
  | [] => none
  | e1 :: rest_ =>
    bif (!(spec_ValidPart e1)) then
      (some false)
    else
      spec_ValidName_L1 rest_
def spec_ValidName (n_ : Name) : Bool :=
  match spec_ValidName_L1 n_.parts with
    | some r_ => r_
    | none =>
      (decide ((((n_.parts).length : Nat) : Int) ≤ 6))
def impl_ValidData (x_ : DataP) : Bool :=
  bif (impl_ValidName x_.name) then
    bif decide ((((x_.name.parts).length : Nat) : Int) > 0) then
      bif decide ((((x_.content).length : Nat) : Int) ≤ 60) then
        bif (impl_ValidName x_.keyName) then
          bif (impl_InRange x_.freshUntil 0 100000) then
            (impl_InRange x_.signature 0 2147483646)
          else
            false
        else
          false
      else
        false
    else
      false
  else
    false
def spec_ValidData (x_ : DataP) : Bool :=
  bif (spec_ValidName x_.name) then
    bif decide ((((x_.name.parts).length : Nat) : Int) > 0) then
      bif decide ((((x_.content).length : Nat) : Int) ≤ 60) then
        bif (spec_ValidName x_.keyName) then
          bif (spec_l1In x_.freshUntil 0 100000) then
            (spec_l1In x_.signature 0 2147483646)
          else
            false
        else
          false
      else
        false
    else
      false
  else
    false
end Go.Stp

namespace Go.Proofs.YtolepebgdfdciaaGreat
open Go.Stp
set_option linter.unusedVariables false
set_option linter.unusedSimpArgs false
theorem f177 (w : World) (n : Nat) (hn : n + 0 ≤ 9) (s : Str) (hoks : GoT.ok n s) :
  Does Tryz.prog 177 #[.string s] w emp (fun (rv : Value) (_ : World) => rv = .bool (impl_ValidPart s) ∧ True) := by
 have hbP := bd_pos n
 have hbB := bd_big (n := n) (by omega)
 refine WX.enter (tt := tt) (Γ := []) Tryz.func177 rfl (by kernel_rfl) rfl allS_nil ?_
 refine R0 ?_
 have r1 : (s).size ≤ bd n := hoks
 refine WX.loop (ι := Nat) ⟨fun i => (i ≤ ((s).data.toList).length) ∧ (impl_ValidPart_L1 ((s).data.toList) = impl_ValidPart_L1 (((s).data.toList).drop i)), fun i => ((s).data.toList).length - i, fun i => [(7, .v (.int .i64 (((i : Nat) : Int)))), (6, .v (.int .i64 ((((s).size : Nat) : Int)))), (0, .v (.string s))], fun i => [], fun i => [], fun i => []⟩ 0 ⟨(Nat.zero_le _), rfl⟩
  (.cons rfl (.cons rfl (.cons rfl (.nil)))) .nil .nil [] rfl ?_
 rintro i hpre
 have hpre_ : (i ≤ ((s).data.toList).length) ∧ (impl_ValidPart_L1 ((s).data.toList) = impl_ValidPart_L1 (((s).data.toList).drop i)) := hpre
 clear hpre
 obtain ⟨v1, v2⟩ := hpre_
 refine R0 ?_
 refine WX.cases 8 rfl (fun h1 => ?_) (fun h1 => ?_)
 ·skip
  have h1d := B.dt h1
  have e1i : i < ((s).data.toList).length := (by (have hz_ : ((s).data.toList).length = (s).size := by simp); omega)
  obtain ⟨e1, e1h⟩ : ∃ e1, ((s).data.toList)[i]? = some e1 := ⟨_, List.getElem?_eq_getElem e1i⟩
  refine R0 ?_
  refine WX.see rfl rfl rfl (fun _ hΓ => looks_strIdx ttOk rfl rfl rfl rfl rfl e1h) ?_
  refine R0 ?_
  refine WX.cases 15 rfl (fun h2 => ?_) (fun h2 => ?_)
  ·skip
   have h2d := B.dt h2
   refine R0 ?_
   refine WX.cases 19 rfl (fun h3 => ?_) (fun h3 => ?_)
   ·skip
    have h3d := B.dt h3
    refine R0 ?_
    refine WX.see rfl rfl rfl (fun _ hΓ => looks_arith rfl rfl rfl rfl (by unfold I64; first | omega | (simp only [List.length_take] at *; omega))) ?_
    refine R0 ?_
    exact WX.iter (i + 1) ⟨(by omega), (by rw [v2, drop_get e1h]; simp only [impl_ValidPart_L1, h2, h3, ct, cf])⟩ (by first | (dsimp only; omega) | omega) (.cons rfl (.cons rfl (.cons rfl (.nil)))) .nil .nil [] rfl
   ·skip
    have h3d := B.df h3
    refine R0 ?_
    refine WX.cases 22 rfl (fun h4 => ?_) (fun h4 => ?_)
    ·skip
     have h4d := B.dt h4
     refine R0 ?_
     refine WX.cases 27 rfl (fun h5 => ?_) (fun h5 => ?_)
     ·skip
      have h5d := B.dt h5
      refine R0 ?_
      refine WX.see rfl rfl rfl (fun _ hΓ => looks_arith rfl rfl rfl rfl (by unfold I64; first | omega | (simp only [List.length_take] at *; omega))) ?_
      refine R0 ?_
      exact WX.iter (i + 1) ⟨(by omega), (by rw [v2, drop_get e1h]; simp only [impl_ValidPart_L1, h2, h3, h4, h5, ct, cf])⟩ (by first | (dsimp only; omega) | omega) (.cons rfl (.cons rfl (.cons rfl (.nil)))) .nil .nil [] rfl
     ·skip
      have h5d := B.df h5
      refine R0 ?_
      refine WX.cases 31 rfl (fun h6 => ?_) (fun h6 => ?_)
      ·skip
       have h6d := B.ef (B.nt h6)
       refine R0 ?_
       have hP1 : impl_ValidPart_L1 ((s).data.toList) = (some false) := by rw [v2, drop_get e1h]; simp only [impl_ValidPart_L1, h2, h3, h4, h5, h6, ct, cf]
       have hP2 : impl_ValidPart s = false := by simp only [impl_ValidPart, hP1, ct, cf]
       exact R3 hP2
      ·skip
       have h6d := B.et (B.nf h6)
       refine R0 ?_
       refine WX.see rfl rfl rfl (fun _ hΓ => looks_arith rfl rfl rfl rfl (by unfold I64; first | omega | (simp only [List.length_take] at *; omega))) ?_
       refine R0 ?_
       exact WX.iter (i + 1) ⟨(by omega), (by rw [v2, drop_get e1h]; simp only [impl_ValidPart_L1, h2, h3, h4, h5, h6, ct, cf])⟩ (by first | (dsimp only; omega) | omega) (.cons rfl (.cons rfl (.cons rfl (.nil)))) .nil .nil [] rfl
    ·skip
     have h4d := B.df h4
     refine R0 ?_
     refine WX.cases 31 rfl (fun h7 => ?_) (fun h7 => ?_)
     ·skip
      have h7d := B.ef (B.nt h7)
      refine R0 ?_
      have hP3 : impl_ValidPart_L1 ((s).data.toList) = (some false) := by rw [v2, drop_get e1h]; simp only [impl_ValidPart_L1, h2, h3, h4, h7, ct, cf]
      have hP4 : impl_ValidPart s = false := by simp only [impl_ValidPart, hP3, ct, cf]
      exact R3 hP4
     ·skip
      have h7d := B.et (B.nf h7)
      refine R0 ?_
      refine WX.see rfl rfl rfl (fun _ hΓ => looks_arith rfl rfl rfl rfl (by unfold I64; first | omega | (simp only [List.length_take] at *; omega))) ?_
      refine R0 ?_
      exact WX.iter (i + 1) ⟨(by omega), (by rw [v2, drop_get e1h]; simp only [impl_ValidPart_L1, h2, h3, h4, h7, ct, cf])⟩ (by first | (dsimp only; omega) | omega) (.cons rfl (.cons rfl (.cons rfl (.nil)))) .nil .nil [] rfl
  ·skip
   have h2d := B.df h2
   refine R0 ?_
   refine WX.cases 22 rfl (fun h8 => ?_) (fun h8 => ?_)
   ·skip
    have h8d := B.dt h8
    refine R0 ?_
    refine WX.cases 27 rfl (fun h9 => ?_) (fun h9 => ?_)
    ·skip
     have h9d := B.dt h9
     refine R0 ?_
     refine WX.see rfl rfl rfl (fun _ hΓ => looks_arith rfl rfl rfl rfl (by unfold I64; first | omega | (simp only [List.length_take] at *; omega))) ?_
     refine R0 ?_
     exact WX.iter (i + 1) ⟨(by omega), (by rw [v2, drop_get e1h]; simp only [impl_ValidPart_L1, h2, h8, h9, ct, cf])⟩ (by first | (dsimp only; omega) | omega) (.cons rfl (.cons rfl (.cons rfl (.nil)))) .nil .nil [] rfl
    ·skip
     have h9d := B.df h9
     refine R0 ?_
     refine WX.cases 31 rfl (fun h10 => ?_) (fun h10 => ?_)
     ·skip
      have h10d := B.ef (B.nt h10)
      refine R0 ?_
      have hP5 : impl_ValidPart_L1 ((s).data.toList) = (some false) := by rw [v2, drop_get e1h]; simp only [impl_ValidPart_L1, h2, h8, h9, h10, ct, cf]
      have hP6 : impl_ValidPart s = false := by simp only [impl_ValidPart, hP5, ct, cf]
      exact R3 hP6
     ·skip
      have h10d := B.et (B.nf h10)
      refine R0 ?_
      refine WX.see rfl rfl rfl (fun _ hΓ => looks_arith rfl rfl rfl rfl (by unfold I64; first | omega | (simp only [List.length_take] at *; omega))) ?_
      refine R0 ?_
      exact WX.iter (i + 1) ⟨(by omega), (by rw [v2, drop_get e1h]; simp only [impl_ValidPart_L1, h2, h8, h9, h10, ct, cf])⟩ (by first | (dsimp only; omega) | omega) (.cons rfl (.cons rfl (.cons rfl (.nil)))) .nil .nil [] rfl
   ·skip
    have h8d := B.df h8
    refine R0 ?_
    refine WX.cases 31 rfl (fun h11 => ?_) (fun h11 => ?_)
    ·skip
     have h11d := B.ef (B.nt h11)
     refine R0 ?_
     have hP7 : impl_ValidPart_L1 ((s).data.toList) = (some false) := by rw [v2, drop_get e1h]; simp only [impl_ValidPart_L1, h2, h8, h11, ct, cf]
     have hP8 : impl_ValidPart s = false := by simp only [impl_ValidPart, hP7, ct, cf]
     exact R3 hP8
    ·skip
     have h11d := B.et (B.nf h11)
     refine R0 ?_
     refine WX.see rfl rfl rfl (fun _ hΓ => looks_arith rfl rfl rfl rfl (by unfold I64; first | omega | (simp only [List.length_take] at *; omega))) ?_
     refine R0 ?_
     exact WX.iter (i + 1) ⟨(by omega), (by rw [v2, drop_get e1h]; simp only [impl_ValidPart_L1, h2, h8, h11, ct, cf])⟩ (by first | (dsimp only; omega) | omega) (.cons rfl (.cons rfl (.cons rfl (.nil)))) .nil .nil [] rfl
 ·skip
  have h1d := B.df h1
  refine R0 ?_
  have hX1 : impl_ValidPart_L1 ((s).data.toList) = none := by rw [v2, List.drop_eq_nil_of_le (show ((s).data.toList).length ≤ i by (have hz_ : ((s).data.toList).length = (s).size := by simp); omega)]; simp only [impl_ValidPart_L1, ct, cf]
  refine WX.callV rfl rfl rfl rfl rfl (fun _ => rfl) rfl (fun w G bs hI hΓ => f132 w n (by omega) (((s).size : Nat) : Int) 1 8 (show I64 (((s).size : Nat) : Int) from (by unfold I64; omega)) (show I64 1 from (by unfold I64; omega)) (show I64 8 from (by unfold I64; omega))) ?_
  intro hq1
  refine R0 ?_
  have hP9 : impl_ValidPart s = (impl_InRange (((s).size : Nat) : Int) 1 8) := by simp only [impl_ValidPart, hX1, ct, cf]
  exact R3 hP9
theorem f179 (w : World) (n : Nat) (hn : n + 0 ≤ 9) (s : Str) (hoks : GoT.ok n s) :
  Does Tryz.prog 179 #[.string s] w emp (fun (rv : Value) (_ : World) => rv = .bool (spec_ValidPart s) ∧ True) := by
 have hbP := bd_pos n
 have hbB := bd_big (n := n) (by omega)
 refine WX.enter (tt := tt) (Γ := []) Tryz.func179 rfl (by kernel_rfl) rfl allS_nil ?_
 refine R0 ?_
 have r1 : (s).size ≤ bd n := hoks
 refine WX.callV rfl rfl rfl rfl rfl (fun _ => rfl) rfl (fun w G bs hI hΓ => f136 w n (by omega) (((s).size : Nat) : Int) 1 8 (show I64 (((s).size : Nat) : Int) from (by unfold I64; omega)) (show I64 1 from (by unfold I64; omega)) (show I64 8 from (by unfold I64; omega))) ?_
 intro hq1
 refine R0 ?_
 refine WX.cases 8 rfl (fun h1 => ?_) (fun h1 => ?_)
 ·skip
  have h1d := (B.nt h1)
  refine R0 ?_
  have hP1 : spec_ValidPart s = false := by simp only [spec_ValidPart, h1, ct, cf]
  exact R3 hP1
 ·skip
  have h1d := (B.nf h1)
  have h1r := inR_spec (B.nf h1)
  refine R0 ?_
  refine WX.loop (ι := Nat) ⟨fun i => (i ≤ ((s).data.toList).length) ∧ (spec_ValidPart_L1 ((s).data.toList) = spec_ValidPart_L1 (((s).data.toList).drop i)), fun i => ((s).data.toList).length - i, fun i => [(3, .v (.int .i64 (((i : Nat) : Int)))), (0, .v (.string s))], fun i => [], fun i => [], fun i => []⟩ 0 ⟨(Nat.zero_le _), rfl⟩
   (.cons rfl (.cons rfl (.nil))) .nil .nil [] rfl ?_
  rintro i hpre
  have hpre_ : (i ≤ ((s).data.toList).length) ∧ (spec_ValidPart_L1 ((s).data.toList) = spec_ValidPart_L1 (((s).data.toList).drop i)) := hpre
  clear hpre
  obtain ⟨v1, v2⟩ := hpre_
  refine R0 ?_
  refine WX.cases 12 rfl (fun h2 => ?_) (fun h2 => ?_)
  ·skip
   have h2d := B.dt h2
   have e1i : i < ((s).data.toList).length := (by (have hz_ : ((s).data.toList).length = (s).size := by simp); omega)
   obtain ⟨e1, e1h⟩ : ∃ e1, ((s).data.toList)[i]? = some e1 := ⟨_, List.getElem?_eq_getElem e1i⟩
   refine R0 ?_
   refine WX.see rfl rfl rfl (fun _ hΓ => looks_strIdx ttOk rfl rfl rfl rfl rfl e1h) ?_
   refine WX.see rfl rfl rfl (fun _ hΓ => looks_ofU8 ttOk rfl rfl rfl rfl rfl rfl) ?_
   refine R0 ?_
   have r2 : (e1).toNat < 256 := UInt8.toNat_lt _
   refine WX.callV rfl rfl rfl rfl rfl (fun _ => rfl) rfl (fun w G bs hI hΓ => f136 w n (by omega) ((e1).toNat : Int) 97 122 (show I64 ((e1).toNat : Int) from (by unfold I64; omega)) (show I64 97 from (by unfold I64; omega)) (show I64 122 from (by unfold I64; omega))) ?_
   intro hq2
   refine R0 ?_
   refine WX.cases 22 rfl (fun h3 => ?_) (fun h3 => ?_)
   ·skip
    have h3d := (B.nt h3)
    refine R0 ?_
    refine WX.callV rfl rfl rfl rfl rfl (fun _ => rfl) rfl (fun w G bs hI hΓ => f136 w n (by omega) ((e1).toNat : Int) 48 57 (show I64 ((e1).toNat : Int) from (by unfold I64; omega)) (show I64 48 from (by unfold I64; omega)) (show I64 57 from (by unfold I64; omega))) ?_
    intro hq3
    refine R0 ?_
    refine WX.cases 27 rfl (fun h4 => ?_) (fun h4 => ?_)
    ·skip
     have h4d := (B.nt h4)
     refine R0 ?_
     refine WX.cases 30 rfl (fun h5 => ?_) (fun h5 => ?_)
     ·skip
      have h5d := B.nt' h5
      refine R0 ?_
      have hP2 : spec_ValidPart_L1 ((s).data.toList) = (some false) := by rw [v2, drop_get e1h]; simp only [spec_ValidPart_L1, h3, h4, h5, ct, cf]
      have hP3 : spec_ValidPart s = false := by simp only [spec_ValidPart, h1, hP2, ct, cf]
      exact R3 hP3
     ·skip
      have h5d := B.nf' h5
      refine R0 ?_
      refine WX.see rfl rfl rfl (fun _ hΓ => looks_arith rfl rfl rfl rfl (by unfold I64; first | omega | (simp only [List.length_take] at *; omega))) ?_
      refine R0 ?_
      exact WX.iter (i + 1) ⟨(by omega), (by rw [v2, drop_get e1h]; simp only [spec_ValidPart_L1, h3, h4, h5, ct, cf])⟩ (by first | (dsimp only; omega) | omega) (.cons rfl (.cons rfl (.nil))) .nil .nil [] rfl
    ·skip
     have h4d := (B.nf h4)
     have h4r := inR_spec (B.nf h4)
     refine R0 ?_
     refine WX.see rfl rfl rfl (fun _ hΓ => looks_arith rfl rfl rfl rfl (by unfold I64; first | omega | (simp only [List.length_take] at *; omega))) ?_
     refine R0 ?_
     exact WX.iter (i + 1) ⟨(by omega), (by rw [v2, drop_get e1h]; simp only [spec_ValidPart_L1, h3, h4, ct, cf])⟩ (by first | (dsimp only; omega) | omega) (.cons rfl (.cons rfl (.nil))) .nil .nil [] rfl
   ·skip
    have h3d := (B.nf h3)
    have h3r := inR_spec (B.nf h3)
    refine R0 ?_
    refine WX.see rfl rfl rfl (fun _ hΓ => looks_arith rfl rfl rfl rfl (by unfold I64; first | omega | (simp only [List.length_take] at *; omega))) ?_
    refine R0 ?_
    exact WX.iter (i + 1) ⟨(by omega), (by rw [v2, drop_get e1h]; simp only [spec_ValidPart_L1, h3, ct, cf])⟩ (by first | (dsimp only; omega) | omega) (.cons rfl (.cons rfl (.nil))) .nil .nil [] rfl
  ·skip
   have h2d := B.df h2
   refine R0 ?_
   have hX1 : spec_ValidPart_L1 ((s).data.toList) = none := by rw [v2, List.drop_eq_nil_of_le (show ((s).data.toList).length ≤ i by (have hz_ : ((s).data.toList).length = (s).size := by simp); omega)]; simp only [spec_ValidPart_L1, ct, cf]
   have hP4 : spec_ValidPart s = true := by simp only [spec_ValidPart, h1, hX1, ct, cf]
   exact R3 hP4
theorem f224 (w : World) (n : Nat) (hn : n + 0 ≤ 9) (s : (List Str)) (ps : Option Addr) (cs : Nat) (N0 : RdSl (hp w) ps cs s) (fg : FuncId) (fc : List Value) (fq : Str → Bool) (ff : ∀ w1, Kp emp w w1 → ∀ (e0 : Str) (x0 : GoT.X Str), GoT.ok n e0 → All (hp w1) (GoT.fa .der e0 x0) → Does Tryz.prog fg ([(GoT.sh e0 x0).headD undef] ++ fc).toArray w1 emp (fun rv _ => rv = .bool (fq e0) ∧ True)) (hoks : GoT.ok n s) :
  Does Tryz.prog 224 #[.slice ps ((s).length) cs, .func (.func fg) #[] fc.toArray] w emp (fun (rv : Value) (_ : World) => rv = .int .i64 ((slices_IndexFunc_string s fq)) ∧ GoT.ok n ((slices_IndexFunc_string s fq) : Int)) := by
 have hbP := bd_pos n
 have hbB := bd_big (n := n) (by omega)
 refine WX.enter (tt := tt) (Γ := [(0, MF.rs .stb ps cs s)]) Tryz.func224 rfl (by kernel_rfl) rfl (allS_cons rfl N0 allS_nil) ?_
 refine R0 ?_
 have r1 : (s).length ≤ bd n := (okl hoks).1
 refine WX.loop (ι := Nat) ⟨fun i => (i ≤ (s).length) ∧ (slices_IndexFunc_string_L1 fq s 0 = slices_IndexFunc_string_L1 fq ((s).drop i) i), fun i => (s).length - i, fun i => [(8, .v (.int .i64 (((i : Nat) : Int)))), (7, .v (.int .i64 ((((s).length : Nat) : Int)))), (0, .v (.slice ps ((s).length) cs)), (1, .v (.func (.func fg) #[] fc.toArray))], fun i => [], fun i => [], fun i => [(0, MF.rs .stb ps cs s)]⟩ 0 ⟨(Nat.zero_le _), rfl⟩
  (.cons rfl (.cons rfl (.cons rfl (.cons rfl (.nil))))) .nil .nil [0] rfl ?_
 rintro i hpre
 have hpre_ : (i ≤ (s).length) ∧ (slices_IndexFunc_string_L1 fq s 0 = slices_IndexFunc_string_L1 fq ((s).drop i) i) := hpre
 clear hpre
 obtain ⟨v1, v2⟩ := hpre_
 refine R0 ?_
 refine WX.cases 9 rfl (fun h1 => ?_) (fun h1 => ?_)
 ·skip
  have h1d := B.dt h1
  have e1i : i < (s).length := (by omega)
  obtain ⟨e1, e1h⟩ : ∃ e1, (s)[i]? = some e1 := ⟨_, List.getElem?_eq_getElem e1i⟩
  have ok1 : GoT.ok n e1 := (okl hoks).2 _ (List.mem_of_getElem? e1h)
  refine R0 ?_
  refine WX.idx 0 i ttOk rfl rfl rfl rfl rfl rfl rfl rfl rfl rfl e1i ?_
  rintro ad1 rfl
  refine WX.ldE 0 1 e1 ttOk rfl rfl rfl rfl rfl rfl rfl rfl e1h (fun _ => rfl) (fun _ => rfl) ?_
  rintro ⟨⟩
  refine WX.callV rfl rfl rfl rfl rfl (fun _ => rfl) rfl (fun w G bs hI hΓ => ff w hI.keep e1 () ok1 All.nil) ?_
  intro hq1
  refine R0 ?_
  refine WX.cases 16 rfl (fun h2 => ?_) (fun h2 => ?_)
  ·skip
   refine R0 ?_
   have hP1 : slices_IndexFunc_string_L1 fq s 0 = (some ((i : Nat) : Int)) := by rw [v2, drop_get e1h]; simp only [slices_IndexFunc_string_L1, h2, ct, cf]
   have hP2 : slices_IndexFunc_string s fq = ((i : Nat) : Int) := by simp only [slices_IndexFunc_string, hP1, ct, cf]
   refine R1 ?_
   intro w1 G bs hI hΓ
   rw [hP2]
   exact ⟨rfl, (show I64 ((i : Nat) : Int) from (by unfold I64; omega))⟩
  ·skip
   refine R0 ?_
   refine WX.see rfl rfl rfl (fun _ hΓ => looks_arith rfl rfl rfl rfl (by unfold I64; first | omega | (simp only [List.length_take] at *; omega))) ?_
   refine R0 ?_
   exact WX.iter (i + 1) ⟨(by omega), (by rw [v2, drop_get e1h]; simp only [slices_IndexFunc_string_L1, h2, ct, cf])⟩ (by first | (dsimp only; omega) | omega) (.cons rfl (.cons rfl (.cons rfl (.cons rfl (.nil))))) .nil .nil [0] rfl
 ·skip
  have h1d := B.df h1
  refine R0 ?_
  have hX1 : slices_IndexFunc_string_L1 fq s 0 = none := by rw [v2, List.drop_eq_nil_of_le (show (s).length ≤ i by omega)]; simp only [slices_IndexFunc_string_L1, ct, cf]
  have hP3 : slices_IndexFunc_string s fq = (-1) := by simp only [slices_IndexFunc_string, hX1, ct, cf]
  refine R1 ?_
  intro w1 G bs hI hΓ
  rw [hP3]
  exact ⟨rfl, (show I64 (-1) from (by unfold I64; omega))⟩
theorem ltL_slices_IndexFunc_string : ∀ (f : Str → Bool) (l : List Str) (i : Nat) (j : Int), slices_IndexFunc_string_L1 f l i = some j → j < ((i + l.length : Nat) : Int)
  | f, [], i, j, h => by cases h
  | f, x :: l, i, j, h => by
    simp only [slices_IndexFunc_string_L1] at h
    cases hx : f x
    · rw [hx, cond_false] at h
      have := ltL_slices_IndexFunc_string f l (i + 1) j h
      simp only [List.length_cons]; omega
    · rw [hx, cond_true] at h
      cases h
      simp only [List.length_cons]; omega
theorem ltI_slices_IndexFunc_string (l : List Str) (f : Str → Bool) : slices_IndexFunc_string l f < ((l.length : Nat) : Int) := by
  unfold slices_IndexFunc_string
  cases h : slices_IndexFunc_string_L1 f l 0 with
  | none => show (-1 : Int) < _; omega
  | some j => have := ltL_slices_IndexFunc_string f l 0 j h; show j < _; omega
theorem f175 (w : World) (n : Nat) (hn : n + 0 ≤ 9) (s : (List Str)) (ps : Option Addr) (cs : Nat) (N0 : RdSl (hp w) ps cs s) (fg : FuncId) (fc : List Value) (fq : Str → Bool) (ff : ∀ w1, Kp emp w w1 → ∀ (e0 : Str) (x0 : GoT.X Str), GoT.ok n e0 → All (hp w1) (GoT.fa .der e0 x0) → Does Tryz.prog fg ([(GoT.sh e0 x0).headD undef] ++ fc).toArray w1 emp (fun rv _ => rv = .bool (fq e0) ∧ True)) (hoks : GoT.ok n s) :
  Does Tryz.prog 175 #[.slice ps ((s).length) cs, .func (.func fg) #[] fc.toArray] w emp (fun (rv : Value) (_ : World) => rv = .bool (slices_ContainsFunc_string s fq) ∧ True) := by
 have hbP := bd_pos n
 have hbB := bd_big (n := n) (by omega)
 refine WX.enter (tt := tt) (Γ := [(0, MF.rs .stb ps cs s)]) Tryz.func175 rfl (by kernel_rfl) rfl (allS_cons rfl N0 allS_nil) ?_
 refine R0 ?_
 refine WX.callV rfl rfl rfl rfl rfl (fun _ => rfl) rfl (fun w G bs hI hΓ => f224 w n (by omega) s ps cs (hΓ.get 0 rfl) fg fc fq (fun w1_ hb_ => ff w1_ (hI.keep.trans hb_)) hoks) ?_
 intro hq1
 have q1 := ltI_slices_IndexFunc_string s fq
 refine R0 ?_
 have hP1 : slices_ContainsFunc_string s fq = (decide ((slices_IndexFunc_string s fq) ≥ 0)) := by simp only [slices_ContainsFunc_string, ct, cf]
 exact R3 hP1
theorem f176 (w : World) (n : Nat) (hn : n + 0 ≤ 9) (p_ : Str) (hokp_ : GoT.ok n p_) :
  Does Tryz.prog 176 #[.string p_] w emp (fun (rv : Value) (_ : World) => rv = .bool (impl_ValidName_c1 p_) ∧ True) := by
 have hbP := bd_pos n
 have hbB := bd_big (n := n) (by omega)
 refine WX.enter (tt := tt) (Γ := []) Tryz.func176 rfl (by kernel_rfl) rfl allS_nil ?_
 refine R0 ?_
 refine WX.callV rfl rfl rfl rfl rfl (fun _ => rfl) rfl (fun w G bs hI hΓ => f177 w n (by omega) p_ hokp_) ?_
 intro hq1
 refine R0 ?_
 have hP1 : impl_ValidName_c1 p_ = (!(impl_ValidPart p_)) := by simp only [impl_ValidName_c1, ct, cf]
 exact R3 hP1
theorem f97 (w : World) (n : Nat) (hn : n + 0 ≤ 9) (n_ : Name) (K0 : Option Addr) (M0 : Nat) (N0 : RdSl (hp w) K0 M0 n_.parts) (hokn_ : GoT.ok n n_) :
  Does Tryz.prog 97 #[.agg #[.slice K0 ((n_.parts).length) M0]] w emp (fun (rv : Value) (_ : World) => rv = .bool (impl_ValidName n_) ∧ True) := by
 have hbP := bd_pos n
 have hbB := bd_big (n := n) (by omega)
 refine WX.enter (tt := tt) (Γ := [(0, MF.rs .stb K0 M0 n_.parts)]) Tryz.func97 rfl (by kernel_rfl) rfl (allS_cons rfl N0 allS_nil) ?_
 refine R0 ?_
 refine WX.cases 7 rfl (fun h1 => ?_) (fun h1 => ?_)
 ·skip
  have h1d := B.dt h1
  refine R0 ?_
  refine WX.callV rfl rfl rfl rfl rfl (fun _ => rfl) rfl (fun w G bs hI hΓ => f175 w n (by omega) n_.parts K0 M0 (hΓ.get 0 rfl) 176 [] (fun e0_ => (impl_ValidName_c1 e0_)) (fun w1_ hb_ e0_ x0_ hk0_ hx0_ => f176 w1_ n (by omega) e0_ hk0_) (ok_Name hokn_)) ?_
  intro hq1
  refine R0 ?_
  have hP1 : impl_ValidName n_ = (!(slices_ContainsFunc_string n_.parts (fun e0_ => (impl_ValidName_c1 e0_)))) := by simp only [impl_ValidName, h1, ct, cf]
  exact R3 hP1
 ·skip
  have h1d := B.df h1
  refine R0 ?_
  have hP2 : impl_ValidName n_ = false := by simp only [impl_ValidName, h1, ct, cf]
  exact R3 hP2
theorem f100 (w : World) (n : Nat) (hn : n + 0 ≤ 9) (n_ : Name) (K0 : Option Addr) (M0 : Nat) (N0 : RdSl (hp w) K0 M0 n_.parts) (hokn_ : GoT.ok n n_) :
  Does Tryz.prog 100 #[.agg #[.slice K0 ((n_.parts).length) M0]] w emp (fun (rv : Value) (_ : World) => rv = .bool (spec_ValidName n_) ∧ True) := by
 have hbP := bd_pos n
 have hbB := bd_big (n := n) (by omega)
 refine WX.enter (tt := tt) (Γ := [(0, MF.rs .stb K0 M0 n_.parts)]) Tryz.func100 rfl (by kernel_rfl) rfl (allS_cons rfl N0 allS_nil) ?_
 refine R0 ?_
 have r1 : (n_.parts).length ≤ bd n := (okl (ok_Name hokn_)).1
 refine WX.loop (ι := Nat) ⟨fun i => (i ≤ (n_.parts).length) ∧ (spec_ValidName_L1 n_.parts = spec_ValidName_L1 ((n_.parts).drop i)), fun i => (n_.parts).length - i, fun i => [(3, .v (.int .i64 (((i : Nat) : Int)))), (1, .p 1 0)], fun i => [(1, ⟨30, [.slice K0 ((n_.parts).length) M0]⟩)], fun i => [], fun i => [(0, MF.rs .stb K0 M0 n_.parts)]⟩ 0 ⟨(Nat.zero_le _), rfl⟩
  (.cons rfl (.cons rfl (.nil))) (.cons rfl (.nil)) .nil [0] rfl ?_
 rintro i hpre
 have hpre_ : (i ≤ (n_.parts).length) ∧ (spec_ValidName_L1 n_.parts = spec_ValidName_L1 ((n_.parts).drop i)) := hpre
 clear hpre
 obtain ⟨v1, v2⟩ := hpre_
 refine R0 ?_
 refine WX.cases 8 rfl (fun h1 => ?_) (fun h1 => ?_)
 ·skip
  have h1d := B.dt h1
  have e1i : i < (n_.parts).length := (by omega)
  obtain ⟨e1, e1h⟩ : ∃ e1, (n_.parts)[i]? = some e1 := ⟨_, List.getElem?_eq_getElem e1i⟩
  have ok1 : GoT.ok n e1 := (okl (ok_Name hokn_)).2 _ (List.mem_of_getElem? e1h)
  refine R0 ?_
  refine WX.idx 0 i ttOk rfl rfl rfl rfl rfl rfl rfl rfl rfl rfl e1i ?_
  rintro ad1 rfl
  refine WX.ldE 0 1 e1 ttOk rfl rfl rfl rfl rfl rfl rfl rfl e1h (fun _ => rfl) (fun _ => rfl) ?_
  rintro ⟨⟩
  refine WX.callV rfl rfl rfl rfl rfl (fun _ => rfl) rfl (fun w G bs hI hΓ => f179 w n (by omega) e1 ok1) ?_
  intro hq1
  refine R0 ?_
  refine WX.cases 17 rfl (fun h2 => ?_) (fun h2 => ?_)
  ·skip
   have h2d := (B.nt h2)
   refine R0 ?_
   have hP1 : spec_ValidName_L1 n_.parts = (some false) := by rw [v2, drop_get e1h]; simp only [spec_ValidName_L1, h2, ct, cf]
   have hP2 : spec_ValidName n_ = false := by simp only [spec_ValidName, hP1, ct, cf]
   exact R3 hP2
  ·skip
   have h2d := (B.nf h2)
   refine R0 ?_
   refine WX.see rfl rfl rfl (fun _ hΓ => looks_arith rfl rfl rfl rfl (by unfold I64; first | omega | (simp only [List.length_take] at *; omega))) ?_
   refine R0 ?_
   exact WX.iter (i + 1) ⟨(by omega), (by rw [v2, drop_get e1h]; simp only [spec_ValidName_L1, h2, ct, cf])⟩ (by first | (dsimp only; omega) | omega) (.cons rfl (.cons rfl (.nil))) (.cons rfl (.nil)) .nil [0] rfl
 ·skip
  have h1d := B.df h1
  refine R0 ?_
  have hX1 : spec_ValidName_L1 n_.parts = none := by rw [v2, List.drop_eq_nil_of_le (show (n_.parts).length ≤ i by omega)]; simp only [spec_ValidName_L1, ct, cf]
  have hP3 : spec_ValidName n_ = (decide ((((n_.parts).length : Nat) : Int) ≤ 6)) := by simp only [spec_ValidName, hX1, ct, cf]
  exact R3 hP3
theorem f96 (w : World) (n : Nat) (hn : n + 0 ≤ 9) (x_ : DataP) (K0 : Option Addr) (M0 : Nat) (N0 : RdSl (hp w) K0 M0 x_.name.parts) (K1 : Option Addr) (M1 : Nat) (N1 : RdSl (hp w) K1 M1 x_.content) (K2 : Option Addr) (M2 : Nat) (N2 : RdSl (hp w) K2 M2 x_.keyName.parts) (hokx_ : GoT.ok n x_) :
  Does Tryz.prog 96 #[.agg #[.slice K0 ((x_.name.parts).length) M0, .slice K1 ((x_.content).length) M1, .slice K2 ((x_.keyName.parts).length) M2, .int .i64 (x_.freshUntil), .int .i64 (x_.signature)]] w emp (fun (rv : Value) (_ : World) => rv = .bool (impl_ValidData x_) ∧ True) := by
 have hbP := bd_pos n
 have hbB := bd_big (n := n) (by omega)
 refine WX.enter (tt := tt) (Γ := [(0, MF.rs .stb K0 M0 x_.name.parts), (1, MF.rs .stb K1 M1 x_.content), (2, MF.rs .stb K2 M2 x_.keyName.parts)]) Tryz.func96 rfl (by kernel_rfl) rfl (allS_cons rfl N0 (allS_cons rfl N1 (allS_cons rfl N2 allS_nil))) ?_
 refine R0 ?_
 refine WX.callV rfl rfl rfl rfl rfl (fun _ => rfl) rfl (fun w G bs hI hΓ => f97 w n (by omega) x_.name K0 M0 (hΓ.get 0 rfl) ((ok_DataP hokx_).1)) ?_
 intro hq1
 refine R0 ?_
 refine WX.cases 6 rfl (fun h1 => ?_) (fun h1 => ?_)
 ·skip
  refine R0 ?_
  refine WX.cases 13 rfl (fun h2 => ?_) (fun h2 => ?_)
  ·skip
   have h2d := B.dt h2
   refine R0 ?_
   refine WX.cases 19 rfl (fun h3 => ?_) (fun h3 => ?_)
   ·skip
    have h3d := B.dt h3
    refine R0 ?_
    refine WX.callV rfl rfl rfl rfl rfl (fun _ => rfl) rfl (fun w G bs hI hΓ => f97 w n (by omega) x_.keyName K2 M2 (hΓ.get 2 rfl) ((ok_DataP hokx_).2.2.1)) ?_
    intro hq2
    refine R0 ?_
    refine WX.cases 24 rfl (fun h4 => ?_) (fun h4 => ?_)
    ·skip
     refine R0 ?_
     refine WX.callV rfl rfl rfl rfl rfl (fun _ => rfl) rfl (fun w G bs hI hΓ => f132 w n (by omega) x_.freshUntil 0 100000 ((ok_DataP hokx_).2.2.2.1) (show I64 0 from (by unfold I64; omega)) (show I64 100000 from (by unfold I64; omega))) ?_
     intro hq3
     refine R0 ?_
     refine WX.cases 29 rfl (fun h5 => ?_) (fun h5 => ?_)
     ·skip
      have h5r := inR_impl h5
      refine R0 ?_
      refine WX.callV rfl rfl rfl rfl rfl (fun _ => rfl) rfl (fun w G bs hI hΓ => f132 w n (by omega) x_.signature 0 2147483646 ((ok_DataP hokx_).2.2.2.2) (show I64 0 from (by unfold I64; omega)) (show I64 2147483646 from (by unfold I64; omega))) ?_
      intro hq4
      refine R0 ?_
      have hP1 : impl_ValidData x_ = (impl_InRange x_.signature 0 2147483646) := by simp only [impl_ValidData, h1, h2, h3, h4, h5, ct, cf]
      exact R3 hP1
     ·skip
      refine R0 ?_
      have hP2 : impl_ValidData x_ = false := by simp only [impl_ValidData, h1, h2, h3, h4, h5, ct, cf]
      exact R3 hP2
    ·skip
     refine R0 ?_
     have hP3 : impl_ValidData x_ = false := by simp only [impl_ValidData, h1, h2, h3, h4, ct, cf]
     exact R3 hP3
   ·skip
    have h3d := B.df h3
    refine R0 ?_
    have hP4 : impl_ValidData x_ = false := by simp only [impl_ValidData, h1, h2, h3, ct, cf]
    exact R3 hP4
  ·skip
   have h2d := B.df h2
   refine R0 ?_
   have hP5 : impl_ValidData x_ = false := by simp only [impl_ValidData, h1, h2, ct, cf]
   exact R3 hP5
 ·skip
  refine R0 ?_
  have hP6 : impl_ValidData x_ = false := by simp only [impl_ValidData, h1, ct, cf]
  exact R3 hP6
theorem f99 (w : World) (n : Nat) (hn : n + 0 ≤ 9) (x_ : DataP) (K0 : Option Addr) (M0 : Nat) (N0 : RdSl (hp w) K0 M0 x_.name.parts) (K1 : Option Addr) (M1 : Nat) (N1 : RdSl (hp w) K1 M1 x_.content) (K2 : Option Addr) (M2 : Nat) (N2 : RdSl (hp w) K2 M2 x_.keyName.parts) (hokx_ : GoT.ok n x_) :
  Does Tryz.prog 99 #[.agg #[.slice K0 ((x_.name.parts).length) M0, .slice K1 ((x_.content).length) M1, .slice K2 ((x_.keyName.parts).length) M2, .int .i64 (x_.freshUntil), .int .i64 (x_.signature)]] w emp (fun (rv : Value) (_ : World) => rv = .bool (spec_ValidData x_) ∧ True) := by
 have hbP := bd_pos n
 have hbB := bd_big (n := n) (by omega)
 refine WX.enter (tt := tt) (Γ := [(0, MF.rs .stb K0 M0 x_.name.parts), (1, MF.rs .stb K1 M1 x_.content), (2, MF.rs .stb K2 M2 x_.keyName.parts)]) Tryz.func99 rfl (by kernel_rfl) rfl (allS_cons rfl N0 (allS_cons rfl N1 (allS_cons rfl N2 allS_nil))) ?_
 refine R0 ?_
 refine WX.callV rfl rfl rfl rfl rfl (fun _ => rfl) rfl (fun w G bs hI hΓ => f100 w n (by omega) x_.name K0 M0 (hΓ.get 0 rfl) ((ok_DataP hokx_).1)) ?_
 intro hq1
 refine R0 ?_
 refine WX.cases 6 rfl (fun h1 => ?_) (fun h1 => ?_)
 ·skip
  refine R0 ?_
  refine WX.cases 13 rfl (fun h2 => ?_) (fun h2 => ?_)
  ·skip
   have h2d := B.dt h2
   refine R0 ?_
   refine WX.cases 19 rfl (fun h3 => ?_) (fun h3 => ?_)
   ·skip
    have h3d := B.dt h3
    refine R0 ?_
    refine WX.callV rfl rfl rfl rfl rfl (fun _ => rfl) rfl (fun w G bs hI hΓ => f100 w n (by omega) x_.keyName K2 M2 (hΓ.get 2 rfl) ((ok_DataP hokx_).2.2.1)) ?_
    intro hq2
    refine R0 ?_
    refine WX.cases 24 rfl (fun h4 => ?_) (fun h4 => ?_)
    ·skip
     refine R0 ?_
     refine WX.callV rfl rfl rfl rfl rfl (fun _ => rfl) rfl (fun w G bs hI hΓ => f136 w n (by omega) x_.freshUntil 0 100000 ((ok_DataP hokx_).2.2.2.1) (show I64 0 from (by unfold I64; omega)) (show I64 100000 from (by unfold I64; omega))) ?_
     intro hq3
     refine R0 ?_
     refine WX.cases 29 rfl (fun h5 => ?_) (fun h5 => ?_)
     ·skip
      have h5r := inR_spec h5
      refine R0 ?_
      refine WX.callV rfl rfl rfl rfl rfl (fun _ => rfl) rfl (fun w G bs hI hΓ => f136 w n (by omega) x_.signature 0 2147483646 ((ok_DataP hokx_).2.2.2.2) (show I64 0 from (by unfold I64; omega)) (show I64 2147483646 from (by unfold I64; omega))) ?_
      intro hq4
      refine R0 ?_
      have hP1 : spec_ValidData x_ = (spec_l1In x_.signature 0 2147483646) := by simp only [spec_ValidData, h1, h2, h3, h4, h5, ct, cf]
      exact R3 hP1
     ·skip
      refine R0 ?_
      have hP2 : spec_ValidData x_ = false := by simp only [spec_ValidData, h1, h2, h3, h4, h5, ct, cf]
      exact R3 hP2
    ·skip
     refine R0 ?_
     have hP3 : spec_ValidData x_ = false := by simp only [spec_ValidData, h1, h2, h3, h4, ct, cf]
     exact R3 hP3
   ·skip
    have h3d := B.df h3
    refine R0 ?_
    have hP4 : spec_ValidData x_ = false := by simp only [spec_ValidData, h1, h2, h3, ct, cf]
    exact R3 hP4
  ·skip
   have h2d := B.df h2
   refine R0 ?_
   have hP5 : spec_ValidData x_ = false := by simp only [spec_ValidData, h1, h2, ct, cf]
   exact R3 hP5
 ·skip
  refine R0 ?_
  have hP6 : spec_ValidData x_ = false := by simp only [spec_ValidData, h1, ct, cf]
  exact R3 hP6
end Go.Proofs.YtolepebgdfdciaaGreat

namespace Go.Stp
set_option linter.unusedVariables false
set_option linter.unusedSimpArgs false
instance ctlInh27 {α β : Type} [Inhabited α] : Inhabited (Ctl α β) := ⟨.ret default⟩
theorem sh7 (x : Int) : Int.fdiv x (2 ^ (min (Int.toNat (7 : Int)) 64)) = x / 128 := by
  rw [show ((2 : Int) ^ (min (Int.toNat (7 : Int)) 64)) = 128 by decide, Int.fdiv_eq_ediv_of_nonneg _ (by decide)]
def avI (n : Int) (k : Nat) : Prop := 0 ≤ n ∧ ((k = 0 ∧ n ≤ 1000000000000) ∨ (k = 1 ∧ n ≤ 7812500000) ∨ (k = 2 ∧ n ≤ 61035156) ∨ (k = 3 ∧ n ≤ 476837) ∨ (k = 4 ∧ n ≤ 3725) ∨ (k = 5 ∧ n ≤ 29))
theorem avI_0 {n : Int} (h : 0 ≤ n ∧ n ≤ 1000000000000) : avI n 0 := ⟨h.1, .inl ⟨rfl, h.2⟩⟩
theorem avI_len {n : Int} {k : Nat} (h : avI n k) : k ≤ 5 := by unfold avI at h; omega
theorem avI_rng {n : Int} {k : Nat} (h : avI n k) : 0 ≤ n ∧ n ≤ 1000000000000 := by unfold avI at h; omega
theorem avI_step {n : Int} {k : Nat} (h : avI n k) (hn : n ≥ 128) : avI (n / 128) (k + 1) := by unfold avI at h ⊢; omega
theorem avI_next {n : Int} {k k' : Nat} (h : avI n k) (hn : n ≥ 128) (hk : k' = k + 1) : avI (n / 128) k' := hk ▸ avI_step h hn
theorem inR_implP {n a b : Int} (h : impl_InRange n a b = true) : a ≤ n ∧ n ≤ b := by
  unfold impl_InRange at h
  cases hd : decide (a ≤ n)
  · exact absurd (show false = true by rw [show decide (a ≤ n) = false from hd] at h; exact h) Bool.false_ne_true
  · rw [show decide (a ≤ n) = true from hd] at h
    exact ⟨of_decide_eq_true hd, of_decide_eq_true (show decide (n ≤ b) = true from h)⟩
theorem inR_specP {n a b : Int} (h : spec_l1In n a b = true) : a ≤ n ∧ n ≤ b := by
  unfold spec_l1In at h
  cases hd : decide (a ≤ n)
  · exact absurd (show false = true by rw [show decide (a ≤ n) = false from hd] at h; exact h) Bool.false_ne_true
  · rw [show decide (a ≤ n) = true from hd] at h
    exact ⟨of_decide_eq_true hd, of_decide_eq_true (show decide (n ≤ b) = true from h)⟩

def impl_AppendVarint_L1 (n_2 : Int) (out : List UInt8) : Int × (List UInt8) :=
  if n_2 ≥ 128 then
    impl_AppendVarint_L1 (Int.fdiv n_2 (2 ^ (min (Int.toNat (7 : Int)) 64))) (((out ++ [((toU8 n_2) ||| (128 : UInt8))])) : List UInt8)
  else
    (n_2, ((out) : List UInt8))
termination_by n_2.toNat
decreasing_by all_goals (rw [sh7]; omega)
def impl_AppendVarint (b : (List UInt8)) (n_ : Int) : (List UInt8) :=
  bif (!(impl_InRange n_ 0 1000000000000)) then
    b
  else
    match impl_AppendVarint_L1 n_ (b : List UInt8) with
      | (n_2, out) =>
        (out ++ [(toU8 n_2)])
def spec_AppendVarint_L1 (n_2 : Int) (out : List UInt8) : Int × (List UInt8) :=
  if n_2 > 127 then
    spec_AppendVarint_L1 (Int.fdiv n_2 (2 ^ (min (Int.toNat (7 : Int)) 64))) (((out ++ [(toU8 (bitO .or (bitO .and n_2 127) 128))])) : List UInt8)
  else
    (n_2, ((out) : List UInt8))
termination_by n_2.toNat
decreasing_by all_goals (rw [sh7]; omega)
def spec_AppendVarint (b : (List UInt8)) (n_ : Int) : (List UInt8) :=
  bif (!(spec_l1In n_ 0 1000000000000)) then
    b
  else
    match spec_AppendVarint_L1 n_ (b : List UInt8) with
      | (n_2, out) =>
        (out ++ [(toU8 n_2)])
theorem len_implAVL : ∀ (m : Nat) (n : Int) (out : List UInt8) (k : Nat), avI n k → 5 - k = m → (impl_AppendVarint_L1 n out).2.length ≤ out.length + m
  | 0, n, out, k, h, hm => by
    have := avI_len h
    rw [impl_AppendVarint_L1, if_neg (show ¬ n ≥ 128 by unfold avI at h; omega)]
    exact Nat.le_refl _
  | m + 1, n, out, k, h, hm => by
    rw [impl_AppendVarint_L1]
    by_cases hn : n ≥ 128
    · rw [if_pos hn, sh7]
      have := len_implAVL m (n / 128) (out ++ [(toU8 n) ||| (128 : UInt8)]) (k + 1) (avI_step h (by omega)) (by omega)
      rw [List.length_append, List.length_cons, List.length_nil] at this
      omega
    · rw [if_neg hn]
      show out.length ≤ _
      omega
theorem len_implAV (b : List UInt8) (n_ : Int) : (impl_AppendVarint b n_).length ≤ b.length + 6 := by
  unfold impl_AppendVarint
  cases hr : impl_InRange n_ 0 1000000000000
  · show b.length ≤ _
    omega
  · have h := len_implAVL 5 n_ b 0 (avI_0 (inR_implP hr)) rfl
    simp only [Bool.not_true, cond_false, List.length_append, List.length_cons, List.length_nil]
    omega
theorem len_specAVL : ∀ (m : Nat) (n : Int) (out : List UInt8) (k : Nat), avI n k → 5 - k = m → (spec_AppendVarint_L1 n out).2.length ≤ out.length + m
  | 0, n, out, k, h, hm => by
    have := avI_len h
    rw [spec_AppendVarint_L1, if_neg (show ¬ n > 127 by unfold avI at h; omega)]
    exact Nat.le_refl _
  | m + 1, n, out, k, h, hm => by
    rw [spec_AppendVarint_L1]
    by_cases hn : n > 127
    · rw [if_pos hn, sh7]
      have := len_specAVL m (n / 128) (out ++ [toU8 (bitO .or (bitO .and n 127) 128)]) (k + 1) (avI_step h (by omega)) (by omega)
      rw [List.length_append, List.length_cons, List.length_nil] at this
      omega
    · rw [if_neg hn]
      show out.length ≤ _
      omega
theorem len_specAV (b : List UInt8) (n_ : Int) : (spec_AppendVarint b n_).length ≤ b.length + 6 := by
  unfold spec_AppendVarint
  cases hr : spec_l1In n_ 0 1000000000000
  · show b.length ≤ _
    omega
  · have h := len_specAVL 5 n_ b 0 (avI_0 (inR_specP hr)) rfl
    simp only [Bool.not_true, cond_false, List.length_append, List.length_cons, List.length_nil]
    omega
def impl_AppendBytes (b : (List UInt8)) (s : (List UInt8)) : (List UInt8) :=
  ((impl_AppendVarint b (((s).length : Nat) : Int)) ++ s)
def spec_AppendBytes (b : (List UInt8)) (s : (List UInt8)) : (List UInt8) :=
  ((spec_AppendVarint b (((s).length : Nat) : Int)) ++ s)
theorem len_implAB (b s : List UInt8) : (impl_AppendBytes b s).length ≤ b.length + s.length + 6 := by
  have := len_implAV b ((s.length : Nat) : Int)
  unfold impl_AppendBytes
  rw [List.length_append]
  omega
theorem len_specAB (b s : List UInt8) : (spec_AppendBytes b s).length ≤ b.length + s.length + 6 := by
  have := len_specAV b ((s.length : Nat) : Int)
  unfold spec_AppendBytes
  rw [List.length_append]
  omega
def NTb (o : Option Bool) : Prop := o = none ∨ o = some false
theorem ntb {c : Bool} {a b : Option Bool} (ha : NTb a) (hb : NTb b) : NTb (bif c then a else b) := by
  cases c
  · exact hb
  · exact ha
theorem vpL_impl : ∀ (l : List UInt8), NTb (impl_ValidPart_L1 l)
  | [] => .inl rfl
  | x :: l => by
    have ih := vpL_impl l
    simp only [impl_ValidPart_L1]
    repeat' (first | exact ih | exact .inr rfl | refine ntb ?_ ?_)
theorem vpB_impl {s : Str} (h : impl_ValidPart s = true) : s.size ≤ 8 := by
  unfold impl_ValidPart at h
  rcases vpL_impl ((s).data.toList) with h1 | h1 <;> rw [h1] at h
  · have := inR_implP h
    omega
  · cases h
theorem vpB_spec {s : Str} (h : spec_ValidPart s = true) : s.size ≤ 8 := by
  unfold spec_ValidPart at h
  cases hr : spec_l1In (((s).size : Nat) : Int) 1 8
  · rw [hr] at h; cases h
  · have := inR_specP hr
    omega
theorem ixS : ∀ (f : Str → Bool) (l : List Str) (i : Nat), (slices_IndexFunc_string_L1 f l i = none ∧ ∀ a ∈ l, f a = false) ∨ ∃ j : Nat, slices_IndexFunc_string_L1 f l i = some (j : Int)
  | f, [], i => .inl ⟨rfl, fun a ha => by cases ha⟩
  | f, x :: l, i => by
    simp only [slices_IndexFunc_string_L1]
    cases hx : f x
    · rcases ixS f l (i + 1) with ⟨h1, h2⟩ | h
      · exact .inl ⟨h1, fun a ha => (List.mem_cons.1 ha).elim (fun e => e ▸ hx) (h2 a)⟩
      · exact .inr h
    · exact .inr ⟨i, rfl⟩
theorem vnB_impl {n_ : Name} (h : impl_ValidName n_ = true) : n_.parts.length ≤ 6 ∧ ∀ p ∈ n_.parts, p.size ≤ 8 := by
  unfold impl_ValidName at h
  cases hd : decide ((((n_.parts).length : Nat) : Int) ≤ 6)
  · rw [hd] at h; cases h
  · rw [hd, cond_true] at h
    have := of_decide_eq_true hd
    refine ⟨by omega, fun p hp => ?_⟩
    unfold slices_ContainsFunc_string slices_IndexFunc_string at h
    rcases ixS (fun e0_ => (impl_ValidName_c1 e0_)) n_.parts 0 with ⟨h1, h2⟩ | ⟨j, h1⟩
    · have h3 := h2 p hp
      exact vpB_impl (by simpa [impl_ValidName_c1] using h3)
    · rw [h1] at h
      have h4 : decide (((j : Nat) : Int) ≥ 0) = true := decide_eq_true (by omega)
      rw [h4] at h; cases h
theorem vnL_spec : ∀ (l : List Str), (spec_ValidName_L1 l = none ∧ ∀ p ∈ l, p.size ≤ 8) ∨ spec_ValidName_L1 l = some false
  | [] => .inl ⟨rfl, fun p hp => by cases hp⟩
  | x :: l => by
    simp only [spec_ValidName_L1]
    cases hx : spec_ValidPart x
    · exact .inr rfl
    · rcases vnL_spec l with ⟨h1, h2⟩ | h
      · exact .inl ⟨h1, fun p hp => (List.mem_cons.1 hp).elim (fun e => e ▸ vpB_spec hx) (h2 p)⟩
      · exact .inr h
theorem vnB_spec {n_ : Name} (h : spec_ValidName n_ = true) : n_.parts.length ≤ 6 ∧ ∀ p ∈ n_.parts, p.size ≤ 8 := by
  unfold spec_ValidName at h
  rcases vnL_spec n_.parts with ⟨h1, h2⟩ | h1 <;> rw [h1] at h
  · have := of_decide_eq_true h
    exact ⟨by omega, h2⟩
  · cases h
def impl_AppendName_L1 : List Str → (List UInt8) → (List UInt8)
  | [], out => ((out) : List UInt8)
  | e1 :: rest_, out =>
    impl_AppendName_L1 rest_ (((impl_AppendBytes out ((e1).data.toList))) : List UInt8)
def impl_AppendName (b : (List UInt8)) (n_ : Name) : (List UInt8) :=
  bif (!(impl_ValidName n_)) then
    b
  else
    match impl_AppendName_L1 n_.parts ((impl_AppendVarint b (((n_.parts).length : Nat) : Int)) : List UInt8) with
      | out =>
        out
def spec_AppendName_L1 : List Str → (List UInt8) → (List UInt8)
  | [], out => ((out) : List UInt8)
  | e1 :: rest_, out =>
    spec_AppendName_L1 rest_ (((spec_AppendBytes out ((e1).data.toList))) : List UInt8)
def spec_AppendName (b : (List UInt8)) (n_ : Name) : (List UInt8) :=
  bif (!(spec_ValidName n_)) then
    b
  else
    match spec_AppendName_L1 n_.parts ((spec_AppendVarint b (((n_.parts).length : Nat) : Int)) : List UInt8) with
      | out =>
        out
theorem len_implANL : ∀ (l : List Str) (out : List UInt8), (∀ p ∈ l, p.size ≤ 8) → (impl_AppendName_L1 l out).length ≤ out.length + 14 * l.length
  | [], out, _ => by simp [impl_AppendName_L1]
  | x :: l, out, h => by
    have h1 := len_implANL l (impl_AppendBytes out ((x).data.toList)) (fun p hp => h p (List.mem_cons_of_mem _ hp))
    have h2 := len_implAB out ((x).data.toList)
    have h3 := h x List.mem_cons_self
    have h4 : ((x).data.toList).length = (x).size := rfl
    rw [List.length_cons]
    simp only [impl_AppendName_L1]
    omega
theorem len_implAN (b : List UInt8) (n_ : Name) : (impl_AppendName b n_).length ≤ b.length + 90 := by
  unfold impl_AppendName
  cases hv : impl_ValidName n_
  · show b.length ≤ _
    omega
  · have h1 := vnB_impl hv
    have h2 := len_implANL n_.parts (impl_AppendVarint b (((n_.parts).length : Nat) : Int)) h1.2
    have h3 := len_implAV b (((n_.parts).length : Nat) : Int)
    show (impl_AppendName_L1 n_.parts (impl_AppendVarint b (((n_.parts).length : Nat) : Int))).length ≤ _
    omega
theorem len_specANL : ∀ (l : List Str) (out : List UInt8), (∀ p ∈ l, p.size ≤ 8) → (spec_AppendName_L1 l out).length ≤ out.length + 14 * l.length
  | [], out, _ => by simp [spec_AppendName_L1]
  | x :: l, out, h => by
    have h1 := len_specANL l (spec_AppendBytes out ((x).data.toList)) (fun p hp => h p (List.mem_cons_of_mem _ hp))
    have h2 := len_specAB out ((x).data.toList)
    have h3 := h x List.mem_cons_self
    have h4 : ((x).data.toList).length = (x).size := rfl
    rw [List.length_cons]
    simp only [spec_AppendName_L1]
    omega
theorem len_specAN (b : List UInt8) (n_ : Name) : (spec_AppendName b n_).length ≤ b.length + 90 := by
  unfold spec_AppendName
  cases hv : spec_ValidName n_
  · show b.length ≤ _
    omega
  · have h1 := vnB_spec hv
    have h2 := len_specANL n_.parts (spec_AppendVarint b (((n_.parts).length : Nat) : Int)) h1.2
    have h3 := len_specAV b (((n_.parts).length : Nat) : Int)
    show (spec_AppendName_L1 n_.parts (spec_AppendVarint b (((n_.parts).length : Nat) : Int))).length ≤ _
    omega
end Go.Stp

namespace Go.Stp
open GoT (X k ok sh fa oa)
theorem RdL.bytes (G : GH) : ∀ (l : List UInt8), RdL G (l.map fun b => Value.int .u8 b.toNat) l
  | [] => rfl
  | _ :: l => ⟨(), _, rfl, All.nil, RdL.bytes G l⟩
theorem toB_run {P : Program} {tt : TT} (ht : TabOk P tt) {S D E : Nat} {ts td te : TI} (hS : look tt S = some ts) (hSd : ts.desc = .string) (hD : look tt D = some td) (hDd : td.desc = .slice E) (hE : look tt E = some te) (hEd : te.desc = .int .u8) (w : World) (s : ByteArray) (hmax : s.size ≤ 9223372036854775807) :
    ∃ c w' h, (convert S D (.string s)).run P w = .ok (.slice (some ⟨w.heap.size, 0, none⟩) s.size c) w' ∧ Kp emp w w' ∧ Le h (hp w') ∧ (∀ x o, h x = some o → w.heap.size ≤ x) ∧ RdSl h (some ⟨w.heap.size, 0, none⟩) c s.data.toList := by
  have hu1 : P.underlying S = some .string := by rw [← hSd]; exact (ht.get hS).1
  have hu2 : P.underlying D = some (.slice E) := by rw [← hDd]; exact (ht.get hD).1
  have hu3 : P.underlying E = some (.int .u8) := by rw [← hEd]; exact (ht.get hE).1
  have hrun := run_bytes_of_string (P := P) w S D E s hu1 hu2 hu3
  generalize hc : grownCap w s.size 0 E = c at hrun
  have hge : s.size ≤ c := hc ▸ grownCap_ge w s.size 0 E
  generalize hob : Obj.cells (bytesRow s c) E ((bytesRow s c).size, (bytesRow s c).size + 1) = ob at hrun
  have hk : Kp emp w (w.drew.alloc ob) := by
    have h1 : Kp emp w w.drew := ⟨rfl, rfl, rfl, Nat.le_refl _, fun _ _ _ => rfl⟩
    exact h1.trans ((Kp.refl emp w.drew).alloc _)
  have hat : hp (w.drew.alloc ob) w.heap.size = some ob := by
    show (w.heap.push ob)[w.heap.size]? = some ob
    simp
  refine ⟨c, w.drew.alloc ob, sgl w.heap.size ob, hrun, hk, sgl_le hat, fun x o hx => ?_, hge, hmax, s.data.toList.map (fun b => Value.int .u8 b.toNat), fun j u hj => ⟨_, rfl, ?_⟩, RdL.bytes _ _⟩
  · by_cases hxx : x = w.heap.size
    · omega
    · rw [sgl_ne _ hxx] at hx; cases hx
  · have hlt : j < s.data.size := by
      have := (List.getElem?_eq_some_iff.1 hj).1
      simpa using this
    subst hob
    rw [Addr.add_lit]
    simp only [gcell, sgl_self, bytesRow]
    rw [List.getElem?_map] at hj
    simp only [Nat.zero_add, Option.isSome_none, Bool.false_eq_true, if_false]
    rw [Array.getElem?_append_left (by simpa using hlt), Array.getElem?_map]
    simpa using hj
theorem WX.toB {C : Cx} {ops : Array Oper} {o : Oper} {r : List Oper} {st : List It} {env : Env} {L : Locs} {R : Rows} {Γ : Facts} {x : Operand} {S D E d : Nat} {ts td te : TI} {s : ByteArray} (n : Nat) (ht : TabOk C.P C.tt) (hg : gd ops env o = some true) (hd : o.dst = some d) (hlt : Nat.blt d C.fn.ntmps = true) (ho : o.op = .convert S D x)
    (hS : look C.tt S = some ts) (hSd : ts.desc = .string) (hD : look C.tt D = some td) (hDd : td.desc = .slice E) (hE : look C.tt E = some te) (hEd : te.desc = .int .u8) (hx : ev env x = some (.v (.string s))) (hmax : s.size ≤ 9223372036854775807)
    (k : ∀ p c, WX C (.ops ops r :: st) ((d, .v (.slice (some p) (s.data.toList).length c)) :: env) L R ((n, MF.rs .stb (some p) c s.data.toList) :: Γ)) : WX C (.ops ops (o :: r) :: st) env L R Γ := by
  rintro a w ⟨G, bs, hA, hI, hΓ⟩
  show wpList C.P ops (cont C st) (o :: r) a w
  unfold wpList
  rw [if_pos (gd_sound hA hg)]
  refine .inl ?_
  unfold Oper.wp
  obtain ⟨c, w', h, hrun, hk, hle, hdom, hrd⟩ := toB_run ht hS hSd hD hDd hE hEd w s hmax
  have hexec : (execOp a.eval o).run C.P w = .ok (.value (.slice (some ⟨w.heap.size, 0, none⟩) s.size c)) w' := by
    unfold execOp
    simp only [ho, ev_conc hA hx, conc_v, Sem.run_bind, Sem.run_pure, Result.andThen_ok, hrun]
  rw [hexec]
  simp only [Oper.upon, hd]
  obtain ⟨hI', hdj⟩ := hI.called (emp_le _) (fun _ _ h => by cases h) hk hle (fun b o hb => .inl (hdom b o hb))
  refine k _ c _ _ ⟨_, bs, hA.put (by simpa [Nat.blt_eq] using hlt) (.v _), hI', ?_⟩
  exact AllK.new (G := cut G emp) hΓ n (MF.rs .stb _ c s.data.toList) (le_join_l _ _) (le_join_r hdj.symm) (fun _ => hdj) (fun hk => by cases hk) hrd
theorem u8_ofInt (p : UInt8) : BitVec.ofInt 8 (p.toNat : Int) = p.toBitVec := by
  apply BitVec.eq_of_toNat_eq
  have := UInt8.toNat_lt p
  simp only [BitVec.toNat_ofInt]
  show ((p.toNat : Int) % ((2 ^ 8 : Nat) : Int)).toNat = p.toBitVec.toNat
  have : p.toBitVec.toNat = p.toNat := rfl
  omega
theorem looks_orU8 {C : Cx} {env : Env} {L : Locs} {R : Rows} {G : GH} {o : Oper} {x y : Operand} {T T' : Nat} {m n : Int} {p q : UInt8} (ho : o.op = .binOp .or T x y T') (hx : ev env x = some (.v (.int .u8 m))) (hy : ev env y = some (.v (.int .u8 n))) (hm : m = (p.toNat : Int)) (hn : n = (q.toNat : Int)) : Looks C env L R G o (.v (.int .u8 ((p ||| q).toNat : Int))) := by
  intro a w G' bs _ hA hI
  subst hm hn
  have h2 : ∀ z : Nat, z < 256 → IntKind.u8.wrap (z : Int) = (z : Int) := fun z hz => by
    simp [IntKind.wrap, IntKind.bits, IntKind.signed]
    omega
  have h1 : IntKind.u8.wrap ((BitVec.ofInt 8 (p.toNat : Int) ||| BitVec.ofInt 8 (q.toNat : Int)).toNat : Int) = ((p ||| q).toNat : Int) := by
    rw [u8_ofInt, u8_ofInt]
    exact h2 (p ||| q).toNat (UInt8.toNat_lt _)
  unfold execOp
  simp only [ho, ev_conc hA hx, ev_conc hA hy, conc]
  simp only [eqGuard, binOp, Op.intBits, IntKind.bits]
  simp
  rw [← UInt8.toNat_or]
  exact h2 (p ||| q).toNat (UInt8.toNat_lt _)
end Go.Stp

namespace Go.Proofs.YtolepebgdfdciaaGreat
open Go.Stp
set_option linter.unusedVariables false
set_option linter.unusedSimpArgs false
theorem f277 (w : World) (n : Nat) (hn : n + 1 ≤ 9) (b : (List UInt8)) (pb : Option Addr) (cb : Nat) (N0 : RdSl (hp w) pb cb b) (n_ : Int) (hokb : GoT.ok n b) (hokn_ : GoT.ok n n_) :
  Does Tryz.prog 277 #[.slice pb ((b).length) cb, .int .i64 (n_)] w emp (Post w emp (fun x : GoT.X ((List UInt8)) => (GoT.sh ((impl_AppendVarint b n_) : (List UInt8)) x).headD undef) (fun x => GoT.oa ((impl_AppendVarint b n_) : (List UInt8)) x) (GoT.ok (n + 1) ((impl_AppendVarint b n_) : (List UInt8)))) := by
 have hbP := bd_pos n
 have hbS0 : bd (n + 1) = 4 * bd (n) := bd_succ (n := n) (by omega)
 have hbB := bd_big (n := (n + 1)) (by omega)
 have hbM := bd_mono (show n ≤ n + 1 by omega)
 refine WX.enter (tt := tt) (Γ := [(0, MF.rs .stb pb cb b)]) Tryz.func277 rfl (by kernel_rfl) rfl (allS_cons rfl N0 allS_nil) ?_
 refine R0 ?_
 refine WX.callF 1 (fun _ _ h => GoT.ow_rd h) (fun _ f hf => GoT.fak f hf) rfl rfl rfl rfl rfl (fun _ => rfl) rfl (fun w G bs hI hΓ => f114 w n (by omega) b pb cb (hΓ.get 0 rfl) hokb) (fun _ => rfl) (fun _ => rfl) ?_
 rintro ⟨p1, c1⟩ hq1
 refine R0 ?_
 refine WX.callV rfl rfl rfl rfl rfl (fun _ => rfl) rfl (fun w G bs hI hΓ => f132 w n (by omega) n_ 0 1000000000000 hokn_ (show I64 0 from (by unfold I64; omega)) (show I64 1000000000000 from (by unfold I64; omega))) ?_
 intro hq2
 refine R0 ?_
 refine WX.cases 10 rfl (fun h1 => ?_) (fun h1 => ?_)
 ·skip
  have h1d := (B.nt h1)
  refine R0 ?_
  have hP1 : impl_AppendVarint b n_ = b := by simp only [impl_AppendVarint, h1, ct, cf]
  refine R1 ?_
  intro w1 G bs hI hΓ
  rw [hP1]
  exact Post.of [2] (p1, c1) hI hΓ rfl rfl rfl (GoT.okm (α := List UInt8) (by omega) hq1)
 ·skip
  have h1d := (B.nf h1)
  have h1r := inR_impl (B.nf h1)
  refine R0 ?_
  refine WX.loop (ι := Int × (Option Addr) × Nat × (List UInt8)) ⟨fun | (n_2, pout, cout, out) => (-9223372036854775808 ≤ n_2 ∧ n_2 ≤ 9223372036854775807) ∧ (out.length ≤ bd (n + 1) ∧ ∀ z_ ∈ out, GoT.ok (n + 1) z_) ∧ (avI n_2 (out.length - b.length) ∧ b.length ≤ out.length) ∧ (impl_AppendVarint_L1 n_ (b : List UInt8) = impl_AppendVarint_L1 n_2 out), fun | (n_2, pout, cout, out) => n_2.toNat, fun | (n_2, pout, cout, out) => [(1, .v (.int .i64 (n_2))), (5, .v (.slice pout ((out).length) cout))], fun | (n_2, pout, cout, out) => [], fun | (n_2, pout, cout, out) => [], fun | (n_2, pout, cout, out) => [(0, MF.rs .stb pb cb b), (2, MF.os pout cout out)]⟩ (n_, p1, c1, (b : List UInt8)) ⟨hokn_, (GoT.okm (α := List UInt8) (by omega) hq1), ⟨by rw [Nat.sub_self]; exact avI_0 h1r, Nat.le_refl _⟩, rfl⟩
   (.cons rfl (.cons rfl (.nil))) .nil .nil [0, 2] rfl ?_
  rintro ⟨n_2, pout, cout, out⟩ hpre
  have hpre_ : (-9223372036854775808 ≤ n_2 ∧ n_2 ≤ 9223372036854775807) ∧ (out.length ≤ bd (n + 1) ∧ ∀ z_ ∈ out, GoT.ok (n + 1) z_) ∧ (avI n_2 (out.length - b.length) ∧ b.length ≤ out.length) ∧ (impl_AppendVarint_L1 n_ (b : List UInt8) = impl_AppendVarint_L1 n_2 out) := hpre
  clear hpre
  obtain ⟨v1, v2, v3, v4⟩ := hpre_
  have v2L := v2.1
  have hz0 := avI_len v3.1
  have hz1 := avI_rng v3.1
  have hz2 : b.length ≤ bd n := (okl hokb).1
  have hz3 := v3.2
  refine R0 ?_
  refine WX.cases 13 rfl (fun h2 => ?_) (fun h2 => ?_)
  ·skip
   have h2d := B.dt h2
   refine R0 ?_
   refine WX.see rfl rfl rfl (fun _ hΓ => looks_toU8 ttOk rfl rfl rfl rfl rfl rfl) ?_
   refine WX.see rfl rfl rfl (fun _ hΓ => looks_orU8 (p := toU8 n_2) (q := (128 : UInt8)) rfl rfl rfl rfl rfl) ?_
   refine WX.bld ttOk rfl rfl rfl rfl rfl rfl rfl ?_
   intro p2
   refine WX.opn (kk := 1) 501 2 3 rfl rfl rfl ?_
   intro xs1 hx1
   refine WX.turn [] 4 rfl (fun h hs => ol_one (α := UInt8) (a := ((toU8 n_2) ||| (128 : UInt8))) (x := ()) hs) (gs := [MF.ol [.int .u8 ((((toU8 n_2) ||| (128 : UInt8))).toNat : Nat)] ([((toU8 n_2) ||| (128 : UInt8))] : List UInt8)]) rfl ?_
   refine WX.know (fun G hΓ => (hΓ.get 4 rfl : OwL _ _ _).rd.one) ?_
   intro ho1
   refine WX.appR1 501 18 ((out ++ [((toU8 n_2) ||| (128 : UInt8))]) : List UInt8).length ttOk rfl rfl rfl rfl rfl rfl rfl rfl rfl rfl rfl rfl rfl ho1 (by simp) (by simp; omega) (by simp; omega) (fun _ _ => rfl) ?_
   intro p3 c2
   refine WX.turn [3, 4] 5 rfl (fun h hs => ol_app hs) (gs := [MF.ol (xs1 ++ [.int .u8 ((((toU8 n_2) ||| (128 : UInt8))).toNat : Nat)]) ((out ++ [((toU8 n_2) ||| (128 : UInt8))]) : List UInt8)]) rfl ?_
   refine R0 ?_
   refine WX.see rfl rfl rfl (fun _ hΓ => looks_shr rfl rfl rfl (by decide)) ?_
   refine R0 ?_
   refine WX.seal 501 5 6 rfl rfl rfl rfl rfl ?_
   refine WX.turn [7] 2 rfl (fun _ h => h) rfl ?_
   have hs7 := sh7 n_2
   exact WX.iter (Int.fdiv n_2 (2 ^ (min (Int.toNat (7 : Int)) 64)), p3, c2, (out ++ [((toU8 n_2) ||| (128 : UInt8))])) ⟨(by first | assumption | omega), (okl_mk (by simp; omega) (fun _ _ => trivial) : GoT.ok (n + 1) ((out ++ [((toU8 n_2) ||| (128 : UInt8))]) : List UInt8)), ⟨by rw [sh7]; exact avI_next v3.1 (by omega) (by simp; omega), by simp; omega⟩, (by rw [v4]; rw [impl_AppendVarint_L1]; simp only [h2, h2d, ct, cf, ↓reduceIte, Bool.false_eq_true])⟩ (by dsimp only; rw [sh7]; omega) (.cons rfl (.cons rfl (.nil))) .nil .nil [0, 2] rfl
  ·skip
   have h2d := B.df h2
   refine R0 ?_
   have hX1 : impl_AppendVarint_L1 n_ (b : List UInt8) = (n_2, ((out) : List UInt8)) := by rw [v4]; rw [impl_AppendVarint_L1]; simp only [h2, h2d, ct, cf, ↓reduceIte, Bool.false_eq_true]
   refine WX.see rfl rfl rfl (fun _ hΓ => looks_toU8 ttOk rfl rfl rfl rfl rfl rfl) ?_
   refine WX.bld ttOk rfl rfl rfl rfl rfl rfl rfl ?_
   intro p4
   refine WX.opn (kk := 1) 502 2 8 rfl rfl rfl ?_
   intro xs2 hx2
   refine WX.turn [] 9 rfl (fun h hs => ol_one (α := UInt8) (a := (toU8 n_2)) (x := ()) hs) (gs := [MF.ol [.int .u8 ((toU8 n_2).toNat : Nat)] ([(toU8 n_2)] : List UInt8)]) rfl ?_
   refine WX.know (fun G hΓ => (hΓ.get 9 rfl : OwL _ _ _).rd.one) ?_
   intro ho2
   refine WX.appR1 502 25 ((out ++ [(toU8 n_2)]) : List UInt8).length ttOk rfl rfl rfl rfl rfl rfl rfl rfl rfl rfl rfl rfl rfl ho2 (by simp) (by simp; omega) (by simp; omega) (fun _ _ => rfl) ?_
   intro p5 c3
   refine WX.turn [8, 9] 10 rfl (fun h hs => ol_app hs) (gs := [MF.ol (xs2 ++ [.int .u8 ((toU8 n_2).toNat : Nat)]) ((out ++ [(toU8 n_2)]) : List UInt8)]) rfl ?_
   refine R0 ?_
   refine WX.seal 502 10 11 rfl rfl rfl rfl rfl ?_
   have hP2 : impl_AppendVarint b n_ = (out ++ [(toU8 n_2)]) := by simp only [impl_AppendVarint, h1, hX1, ct, cf]
   refine R1 ?_
   intro w1 G bs hI hΓ
   rw [hP2]
   exact Post.of [12] (p5, c3) hI hΓ rfl rfl rfl (okl_mk (by simp; omega) (fun _ _ => trivial) : GoT.ok (n + 1) ((out ++ [(toU8 n_2)]) : List UInt8))
theorem f268 (w : World) (n : Nat) (hn : n + 1 ≤ 9) (b : (List UInt8)) (pb : Option Addr) (cb : Nat) (N0 : RdSl (hp w) pb cb b) (n_ : Int) (hokb : GoT.ok n b) (hokn_ : GoT.ok n n_) :
  Does Tryz.prog 268 #[.slice pb ((b).length) cb, .int .i64 (n_)] w emp (Post w emp (fun x : GoT.X ((List UInt8)) => (GoT.sh ((spec_AppendVarint b n_) : (List UInt8)) x).headD undef) (fun x => GoT.oa ((spec_AppendVarint b n_) : (List UInt8)) x) (GoT.ok (n + 1) ((spec_AppendVarint b n_) : (List UInt8)))) := by
 have hbP := bd_pos n
 have hbS0 : bd (n + 1) = 4 * bd (n) := bd_succ (n := n) (by omega)
 have hbB := bd_big (n := (n + 1)) (by omega)
 have hbM := bd_mono (show n ≤ n + 1 by omega)
 refine WX.enter (tt := tt) (Γ := [(0, MF.rs .stb pb cb b)]) Tryz.func268 rfl (by kernel_rfl) rfl (allS_cons rfl N0 allS_nil) ?_
 refine R0 ?_
 refine WX.bld ttOk rfl rfl rfl rfl rfl rfl rfl ?_
 intro p1
 refine R0 ?_
 refine WX.free 1 (MF.ol [] ([] : List UInt8)) rfl ?_
 have r1 : (b).length ≤ bd n := (okl hokb).1
 refine WX.appG1 6 0 2 (b : List UInt8).length ttOk rfl rfl rfl rfl rfl rfl rfl rfl rfl rfl rfl rfl rfl (by first | (simp; done) | (simp; omega)) (by omega) (by omega) (fun _ _ _ => rfl) ?_
 intro ys1 p2 c1
 refine WX.know (fun G hΓ => (hΓ.get 2 rfl : RdL _ _ _).flat) ?_
 intro hf1
 refine WX.turn [1] 3 rfl (fun h hs => ol_flat hs hf1) (gs := [MF.ol ([] ++ ys1) (b : List UInt8)]) rfl ?_
 refine R0 ?_
 refine WX.callV rfl rfl rfl rfl rfl (fun _ => rfl) rfl (fun w G bs hI hΓ => f136 w n (by omega) n_ 0 1000000000000 hokn_ (show I64 0 from (by unfold I64; omega)) (show I64 1000000000000 from (by unfold I64; omega))) ?_
 intro hq1
 refine R0 ?_
 refine WX.cases 11 rfl (fun h1 => ?_) (fun h1 => ?_)
 ·skip
  have h1d := (B.nt h1)
  refine R0 ?_
  refine WX.seal 6 3 4 rfl rfl rfl rfl rfl ?_
  have hP1 : spec_AppendVarint b n_ = b := by simp only [spec_AppendVarint, h1, ct, cf]
  refine R1 ?_
  intro w1 G bs hI hΓ
  rw [hP1]
  exact Post.of [5] (p2, c1) hI hΓ rfl rfl rfl (okl_mk (by omega) (fun _ _ => trivial) : GoT.ok (n + 1) (b : List UInt8))
 ·skip
  have h1d := (B.nf h1)
  have h1r := inR_spec (B.nf h1)
  refine R0 ?_
  refine WX.loop (ι := Int × (Option Addr) × Nat × (List Value) × (List UInt8)) ⟨fun | (n_2, pout, cout, xsout, out) => (-9223372036854775808 ≤ n_2 ∧ n_2 ≤ 9223372036854775807) ∧ (∀ z_ ∈ out, GoT.ok (n + 1) z_) ∧ (avI n_2 (out.length - b.length) ∧ b.length ≤ out.length) ∧ (spec_AppendVarint_L1 n_ (b : List UInt8) = spec_AppendVarint_L1 n_2 out), fun | (n_2, pout, cout, xsout, out) => n_2.toNat, fun | (n_2, pout, cout, xsout, out) => [(1, .v (.int .i64 (n_2))), (5, .v (.slice pout ((out).length) cout))], fun | (n_2, pout, cout, xsout, out) => [], fun | (n_2, pout, cout, xsout, out) => [(6, ⟨1, pout, (out).length, cout, xsout⟩)], fun | (n_2, pout, cout, xsout, out) => [(0, MF.rs .stb pb cb b), (3, MF.ol xsout (out : List UInt8))]⟩ (n_, p2, c1, ([] ++ ys1), (b : List UInt8)) ⟨hokn_, (fun _ _ => trivial), ⟨by rw [Nat.sub_self]; exact avI_0 h1r, Nat.le_refl _⟩, rfl⟩
   (.cons rfl (.cons rfl (.nil))) .nil (.cons rfl (.nil)) [0, 3] rfl ?_
  rintro ⟨n_2, pout, cout, xsout, out⟩ hpre
  have hpre_ : (-9223372036854775808 ≤ n_2 ∧ n_2 ≤ 9223372036854775807) ∧ (∀ z_ ∈ out, GoT.ok (n + 1) z_) ∧ (avI n_2 (out.length - b.length) ∧ b.length ≤ out.length) ∧ (spec_AppendVarint_L1 n_ (b : List UInt8) = spec_AppendVarint_L1 n_2 out) := hpre
  clear hpre
  obtain ⟨v1, v2, v3, v4⟩ := hpre_
  have hz0 := avI_len v3.1
  have hz1 := avI_rng v3.1
  have hz2 : b.length ≤ bd n := (okl hokb).1
  have hz3 := v3.2
  refine R0 ?_
  refine WX.cases 14 rfl (fun h2 => ?_) (fun h2 => ?_)
  ·skip
   have h2d := B.dt h2
   refine R0 ?_
   refine WX.see rfl rfl rfl (fun _ hΓ => looks_bits rfl rfl rfl rfl) ?_
   refine WX.see rfl rfl rfl (fun _ hΓ => looks_bits rfl rfl rfl rfl) ?_
   refine WX.see rfl rfl rfl (fun _ hΓ => looks_toU8 ttOk rfl rfl rfl rfl rfl rfl) ?_
   refine WX.bld ttOk rfl rfl rfl rfl rfl rfl rfl ?_
   intro p3
   refine WX.turn [] 6 rfl (fun h hs => ol_one (α := UInt8) (a := (toU8 (bitO .or (bitO .and n_2 127) 128))) (x := ()) hs) (gs := [MF.ol [.int .u8 ((toU8 (bitO .or (bitO .and n_2 127) 128)).toNat : Nat)] ([(toU8 (bitO .or (bitO .and n_2 127) 128))] : List UInt8)]) rfl ?_
   refine WX.know (fun G hΓ => (hΓ.get 6 rfl : OwL _ _ _).rd.one) ?_
   intro ho1
   refine WX.appR1 6 20 ((out ++ [(toU8 (bitO .or (bitO .and n_2 127) 128))]) : List UInt8).length ttOk rfl rfl rfl rfl rfl rfl rfl rfl rfl rfl rfl rfl rfl ho1 (by simp) (by simp; omega) (by simp; omega) (fun _ _ => rfl) ?_
   intro p4 c2
   refine WX.turn [3, 6] 7 rfl (fun h hs => ol_app hs) (gs := [MF.ol (xsout ++ [.int .u8 ((toU8 (bitO .or (bitO .and n_2 127) 128)).toNat : Nat)]) ((out ++ [(toU8 (bitO .or (bitO .and n_2 127) 128))]) : List UInt8)]) rfl ?_
   refine R0 ?_
   refine WX.see rfl rfl rfl (fun _ hΓ => looks_shr rfl rfl rfl (by decide)) ?_
   refine R0 ?_
   refine WX.turn [7] 3 rfl (fun _ h => h) rfl ?_
   have hs7 := sh7 n_2
   exact WX.iter (Int.fdiv n_2 (2 ^ (min (Int.toNat (7 : Int)) 64)), p4, c2, (xsout ++ [.int .u8 ((toU8 (bitO .or (bitO .and n_2 127) 128)).toNat : Nat)]), ((out ++ [(toU8 (bitO .or (bitO .and n_2 127) 128))]) : List UInt8)) ⟨(by first | assumption | omega), (fun _ _ => trivial), ⟨by rw [sh7]; exact avI_next v3.1 (by omega) (by simp; omega), by simp; omega⟩, (by rw [v4]; rw [spec_AppendVarint_L1]; simp only [h2, h2d, ct, cf, ↓reduceIte, Bool.false_eq_true])⟩ (by dsimp only; rw [sh7]; omega) (.cons rfl (.cons rfl (.nil))) .nil (.cons rfl (.nil)) [0, 3] rfl
  ·skip
   have h2d := B.df h2
   refine R0 ?_
   have hX1 : spec_AppendVarint_L1 n_ (b : List UInt8) = (n_2, ((out) : List UInt8)) := by rw [v4]; rw [spec_AppendVarint_L1]; simp only [h2, h2d, ct, cf, ↓reduceIte, Bool.false_eq_true]
   refine WX.see rfl rfl rfl (fun _ hΓ => looks_toU8 ttOk rfl rfl rfl rfl rfl rfl) ?_
   refine WX.bld ttOk rfl rfl rfl rfl rfl rfl rfl ?_
   intro p5
   refine WX.turn [] 8 rfl (fun h hs => ol_one (α := UInt8) (a := (toU8 n_2)) (x := ()) hs) (gs := [MF.ol [.int .u8 ((toU8 n_2).toNat : Nat)] ([(toU8 n_2)] : List UInt8)]) rfl ?_
   refine WX.know (fun G hΓ => (hΓ.get 8 rfl : OwL _ _ _).rd.one) ?_
   intro ho2
   refine WX.appR1 6 27 ((out ++ [(toU8 n_2)]) : List UInt8).length ttOk rfl rfl rfl rfl rfl rfl rfl rfl rfl rfl rfl rfl rfl ho2 (by simp) (by simp; omega) (by simp; omega) (fun _ _ => rfl) ?_
   intro p6 c3
   refine WX.turn [3, 8] 9 rfl (fun h hs => ol_app hs) (gs := [MF.ol (xsout ++ [.int .u8 ((toU8 n_2).toNat : Nat)]) ((out ++ [(toU8 n_2)]) : List UInt8)]) rfl ?_
   refine R0 ?_
   refine WX.seal 6 9 10 rfl rfl rfl rfl rfl ?_
   have hP2 : spec_AppendVarint b n_ = (out ++ [(toU8 n_2)]) := by simp only [spec_AppendVarint, h1, hX1, ct, cf]
   refine R1 ?_
   intro w1 G bs hI hΓ
   rw [hP2]
   exact Post.of [11] (p6, c3) hI hΓ rfl rfl rfl (okl_mk (by simp; omega) (fun _ _ => trivial) : GoT.ok (n + 1) ((out ++ [(toU8 n_2)]) : List UInt8))
theorem f296 (w : World) (n : Nat) (hn : n + 2 ≤ 9) (b : (List UInt8)) (pb : Option Addr) (cb : Nat) (N0 : RdSl (hp w) pb cb b) (s : (List UInt8)) (ps : Option Addr) (cs : Nat) (N1 : RdSl (hp w) ps cs s) (hokb : GoT.ok n b) (hoks : GoT.ok n s) :
  Does Tryz.prog 296 #[.slice pb ((b).length) cb, .slice ps ((s).length) cs] w emp (Post w emp (fun x : GoT.X ((List UInt8)) => (GoT.sh ((impl_AppendBytes b s) : (List UInt8)) x).headD undef) (fun x => GoT.oa ((impl_AppendBytes b s) : (List UInt8)) x) (GoT.ok (n + 2) ((impl_AppendBytes b s) : (List UInt8)))) := by
 have hbP := bd_pos n
 have hbS0 : bd (n + 1) = 4 * bd (n) := bd_succ (n := n) (by omega)
 have hbS1 : bd (n + 2) = 4 * bd (n + 1) := bd_succ (n := n + 1) (by omega)
 have hbB := bd_big (n := (n + 2)) (by omega)
 have hbM := bd_mono (show n ≤ n + 2 by omega)
 refine WX.enter (tt := tt) (Γ := [(0, MF.rs .stb pb cb b), (1, MF.rs .stb ps cs s)]) Tryz.func296 rfl (by kernel_rfl) rfl (allS_cons rfl N0 (allS_cons rfl N1 allS_nil)) ?_
 refine R0 ?_
 have r1 : (s).length ≤ bd n := (okl hoks).1
 refine WX.callF 2 (fun _ _ h => GoT.ow_rd h) (fun _ f hf => GoT.fak f hf) rfl rfl rfl rfl rfl (fun _ => rfl) rfl (fun w G bs hI hΓ => f277 w n (by omega) b pb cb (hΓ.get 0 rfl) (((s).length : Nat) : Int) hokb (show I64 (((s).length : Nat) : Int) from (by unfold I64; omega))) (fun _ => rfl) (fun _ => rfl) ?_
 rintro ⟨p1, c1⟩ hq1
 have q1 := len_implAV b (((s).length : Nat) : Int)
 refine R0 ?_
 refine WX.opn (kk := 1) 501 3 4 rfl rfl rfl ?_
 intro xs1 hx1
 have r2 : (b).length ≤ bd n := (okl hokb).1
 have r3 : (impl_AppendVarint b (((s).length : Nat) : Int)).length ≤ bd (n + 1) := (okl hq1).1
 refine WX.appG1 501 1 5 (((impl_AppendVarint b (((s).length : Nat) : Int)) ++ s) : List UInt8).length ttOk rfl rfl rfl rfl rfl rfl rfl rfl rfl rfl rfl rfl rfl (by first | (simp; done) | (simp; omega)) (by simp; omega) (by simp; omega) (fun _ _ _ => rfl) ?_
 intro ys1 p2 c2
 refine WX.know (fun G hΓ => (hΓ.get 5 rfl : RdL _ _ _).flat) ?_
 intro hf1
 refine WX.turn [4] 6 rfl (fun h hs => ol_flat hs hf1) (gs := [MF.ol (xs1 ++ ys1) (((impl_AppendVarint b (((s).length : Nat) : Int)) ++ s) : List UInt8)]) rfl ?_
 refine R0 ?_
 refine WX.seal 501 6 7 rfl rfl rfl rfl rfl ?_
 have hP1 : impl_AppendBytes b s = ((impl_AppendVarint b (((s).length : Nat) : Int)) ++ s) := by simp only [impl_AppendBytes, ct, cf]
 refine R1 ?_
 intro w1 G bs hI hΓ
 rw [hP1]
 exact Post.of [8] (p2, c2) hI hΓ rfl rfl rfl (okl_mk (by simp; omega) (fun _ _ => trivial) : GoT.ok (n + 2) (((impl_AppendVarint b (((s).length : Nat) : Int)) ++ s) : List UInt8))
theorem f290 (w : World) (n : Nat) (hn : n + 2 ≤ 9) (b : (List UInt8)) (pb : Option Addr) (cb : Nat) (N0 : RdSl (hp w) pb cb b) (s : (List UInt8)) (ps : Option Addr) (cs : Nat) (N1 : RdSl (hp w) ps cs s) (hokb : GoT.ok n b) (hoks : GoT.ok n s) :
  Does Tryz.prog 290 #[.slice pb ((b).length) cb, .slice ps ((s).length) cs] w emp (Post w emp (fun x : GoT.X ((List UInt8)) => (GoT.sh ((spec_AppendBytes b s) : (List UInt8)) x).headD undef) (fun x => GoT.oa ((spec_AppendBytes b s) : (List UInt8)) x) (GoT.ok (n + 2) ((spec_AppendBytes b s) : (List UInt8)))) := by
 have hbP := bd_pos n
 have hbS0 : bd (n + 1) = 4 * bd (n) := bd_succ (n := n) (by omega)
 have hbS1 : bd (n + 2) = 4 * bd (n + 1) := bd_succ (n := n + 1) (by omega)
 have hbB := bd_big (n := (n + 2)) (by omega)
 have hbM := bd_mono (show n ≤ n + 2 by omega)
 refine WX.enter (tt := tt) (Γ := [(0, MF.rs .stb pb cb b), (1, MF.rs .stb ps cs s)]) Tryz.func290 rfl (by kernel_rfl) rfl (allS_cons rfl N0 (allS_cons rfl N1 allS_nil)) ?_
 refine R0 ?_
 have r1 : (s).length ≤ bd n := (okl hoks).1
 refine WX.callF 2 (fun _ _ h => GoT.ow_rd h) (fun _ f hf => GoT.fak f hf) rfl rfl rfl rfl rfl (fun _ => rfl) rfl (fun w G bs hI hΓ => f268 w n (by omega) b pb cb (hΓ.get 0 rfl) (((s).length : Nat) : Int) hokb (show I64 (((s).length : Nat) : Int) from (by unfold I64; omega))) (fun _ => rfl) (fun _ => rfl) ?_
 rintro ⟨p1, c1⟩ hq1
 have q1 := len_specAV b (((s).length : Nat) : Int)
 refine R0 ?_
 refine WX.opn (kk := 1) 501 3 4 rfl rfl rfl ?_
 intro xs1 hx1
 have r2 : (b).length ≤ bd n := (okl hokb).1
 have r3 : (spec_AppendVarint b (((s).length : Nat) : Int)).length ≤ bd (n + 1) := (okl hq1).1
 refine WX.appG1 501 1 5 (((spec_AppendVarint b (((s).length : Nat) : Int)) ++ s) : List UInt8).length ttOk rfl rfl rfl rfl rfl rfl rfl rfl rfl rfl rfl rfl rfl (by first | (simp; done) | (simp; omega)) (by simp; omega) (by simp; omega) (fun _ _ _ => rfl) ?_
 intro ys1 p2 c2
 refine WX.know (fun G hΓ => (hΓ.get 5 rfl : RdL _ _ _).flat) ?_
 intro hf1
 refine WX.turn [4] 6 rfl (fun h hs => ol_flat hs hf1) (gs := [MF.ol (xs1 ++ ys1) (((spec_AppendVarint b (((s).length : Nat) : Int)) ++ s) : List UInt8)]) rfl ?_
 refine R0 ?_
 refine WX.seal 501 6 7 rfl rfl rfl rfl rfl ?_
 have hP1 : spec_AppendBytes b s = ((spec_AppendVarint b (((s).length : Nat) : Int)) ++ s) := by simp only [spec_AppendBytes, ct, cf]
 refine R1 ?_
 intro w1 G bs hI hΓ
 rw [hP1]
 exact Post.of [8] (p2, c2) hI hΓ rfl rfl rfl (okl_mk (by simp; omega) (fun _ _ => trivial) : GoT.ok (n + 2) (((spec_AppendVarint b (((s).length : Nat) : Int)) ++ s) : List UInt8))
theorem f286 (w : World) (n : Nat) (hn : n + 3 ≤ 9) (b : (List UInt8)) (pb : Option Addr) (cb : Nat) (N0 : RdSl (hp w) pb cb b) (n_ : Name) (K1 : Option Addr) (M1 : Nat) (N1 : RdSl (hp w) K1 M1 n_.parts) (hokb : GoT.ok n b) (hokn_ : GoT.ok n n_) :
  Does Tryz.prog 286 #[.slice pb ((b).length) cb, .agg #[.slice K1 ((n_.parts).length) M1]] w emp (Post w emp (fun x : GoT.X ((List UInt8)) => (GoT.sh ((impl_AppendName b n_) : (List UInt8)) x).headD undef) (fun x => GoT.oa ((impl_AppendName b n_) : (List UInt8)) x) (GoT.ok (n + 1) ((impl_AppendName b n_) : (List UInt8)))) := by
 have hbP := bd_pos n
 have hbS0 : bd (n + 1) = 4 * bd (n) := bd_succ (n := n) (by omega)
 have hbS1 : bd (n + 2) = 4 * bd (n + 1) := bd_succ (n := n + 1) (by omega)
 have hbS2 : bd (n + 3) = 4 * bd (n + 2) := bd_succ (n := n + 2) (by omega)
 have hbB := bd_big (n := (n + 3)) (by omega)
 have hbM := bd_mono (show n ≤ n + 3 by omega)
 refine WX.enter (tt := tt) (Γ := [(0, MF.rs .stb pb cb b), (1, MF.rs .stb K1 M1 n_.parts)]) Tryz.func286 rfl (by kernel_rfl) rfl (allS_cons rfl N0 (allS_cons rfl N1 allS_nil)) ?_
 refine R0 ?_
 refine WX.callV rfl rfl rfl rfl rfl (fun _ => rfl) rfl (fun w G bs hI hΓ => f97 w n (by omega) n_ K1 M1 (hΓ.get 1 rfl) hokn_) ?_
 intro hq1
 refine R0 ?_
 refine WX.cases 10 rfl (fun h1 => ?_) (fun h1 => ?_)
 ·skip
  have h1d := (B.nt h1)
  refine R0 ?_
  refine WX.callF 2 (fun _ _ h => GoT.ow_rd h) (fun _ f hf => GoT.fak f hf) rfl rfl rfl rfl rfl (fun _ => rfl) rfl (fun w G bs hI hΓ => f114 w n (by omega) b pb cb (hΓ.get 0 rfl) hokb) (fun _ => rfl) (fun _ => rfl) ?_
  rintro ⟨p1, c1⟩ hq2
  refine R0 ?_
  have hP1 : impl_AppendName b n_ = b := by simp only [impl_AppendName, h1, ct, cf]
  refine R1 ?_
  intro w1 G bs hI hΓ
  rw [hP1]
  exact Post.of [3] (p1, c1) hI hΓ rfl rfl rfl (GoT.okm (α := List UInt8) (by omega) hq2)
 ·skip
  have h1d := (B.nf h1)
  refine R0 ?_
  have r1 : (n_.parts).length ≤ bd n := (okl (ok_Name hokn_)).1
  refine WX.callF 4 (fun _ _ h => GoT.ow_rd h) (fun _ f hf => GoT.fak f hf) rfl rfl rfl rfl rfl (fun _ => rfl) rfl (fun w G bs hI hΓ => f277 w n (by omega) b pb cb (hΓ.get 0 rfl) (((n_.parts).length : Nat) : Int) hokb (show I64 (((n_.parts).length : Nat) : Int) from (by unfold I64; omega))) (fun _ => rfl) (fun _ => rfl) ?_
  rintro ⟨p2, c2⟩ hq3
  have q1 := len_implAV b (((n_.parts).length : Nat) : Int)
  refine R0 ?_
  have hv0 := vnB_impl h1d
  have hv1 := hv0.1
  have hv2 : b.length ≤ bd n := (okl hokb).1
  refine WX.loop (ι := (Option Addr) × Nat × (List UInt8) × Nat) ⟨fun | (pout, cout, out, i) => (i ≤ (n_.parts).length) ∧ (out.length ≤ bd (n + 1) ∧ ∀ z_ ∈ out, GoT.ok (n + 1) z_) ∧ (out.length ≤ b.length + 6 + 14 * i) ∧ (impl_AppendName_L1 n_.parts ((impl_AppendVarint b (((n_.parts).length : Nat) : Int)) : List UInt8) = impl_AppendName_L1 ((n_.parts).drop i) out), fun | (pout, cout, out, i) => (n_.parts).length - i, fun | (pout, cout, out, i) => [(5, .v (.slice pout ((out).length) cout)), (21, .v (.int .i64 (((i : Nat) : Int)))), (20, .v (.int .i64 ((((n_.parts).length : Nat) : Int)))), (19, .v (.slice K1 ((n_.parts).length) M1))], fun | (pout, cout, out, i) => [], fun | (pout, cout, out, i) => [], fun | (pout, cout, out, i) => [(0, MF.rs .stb pb cb b), (1, MF.rs .stb K1 M1 n_.parts), (5, MF.os pout cout out)]⟩ (p2, c2, ((impl_AppendVarint b (((n_.parts).length : Nat) : Int)) : List UInt8), 0) ⟨(Nat.zero_le _), hq3, (by omega), rfl⟩
   (.cons rfl (.cons rfl (.cons rfl (.cons rfl (.nil))))) .nil .nil [0, 1, 5] rfl ?_
  rintro ⟨pout, cout, out, i⟩ hpre
  have hpre_ : (i ≤ (n_.parts).length) ∧ (out.length ≤ bd (n + 1) ∧ ∀ z_ ∈ out, GoT.ok (n + 1) z_) ∧ (out.length ≤ b.length + 6 + 14 * i) ∧ (impl_AppendName_L1 n_.parts ((impl_AppendVarint b (((n_.parts).length : Nat) : Int)) : List UInt8) = impl_AppendName_L1 ((n_.parts).drop i) out) := hpre
  clear hpre
  obtain ⟨v1, v2, v3, v4⟩ := hpre_
  have v2L := v2.1
  refine R0 ?_
  refine WX.cases 22 rfl (fun h2 => ?_) (fun h2 => ?_)
  ·skip
   have h2d := B.dt h2
   have e1i : i < (n_.parts).length := (by omega)
   obtain ⟨e1, e1h⟩ : ∃ e1, (n_.parts)[i]? = some e1 := ⟨_, List.getElem?_eq_getElem e1i⟩
   have ok1 : GoT.ok n e1 := (okl (ok_Name hokn_)).2 _ (List.mem_of_getElem? e1h)
   refine R0 ?_
   refine WX.idx 1 i ttOk rfl rfl rfl rfl rfl rfl rfl rfl rfl rfl e1i ?_
   rintro ad1 rfl
   refine WX.ldE 1 6 e1 ttOk rfl rfl rfl rfl rfl rfl rfl rfl e1h (fun _ => rfl) (fun _ => rfl) ?_
   rintro ⟨⟩
   refine R0 ?_
   have r2 : (e1).size ≤ bd n := ok1
   refine WX.toB 6 ttOk rfl rfl rfl rfl rfl rfl rfl rfl rfl rfl rfl (by omega) ?_
   intro p3 c3
   have r3 : ((e1).data.toList).length = (e1).size := rfl
   refine WX.der 7 (MF.rs .der pout cout out) rfl (fun _ hΓ => (hΓ.get 5 rfl : OwSl _ _ _ _).rd) ?_
   refine WX.callF 8 (fun _ _ h => GoT.ow_rd h) (fun _ f hf => GoT.fak f hf) rfl rfl rfl rfl rfl (fun _ => rfl) rfl (fun w G bs hI hΓ => f296 w (n + 1) (by omega) out pout cout (hΓ.get 7 rfl) ((e1).data.toList) (some p3) c3 (hΓ.get 6 rfl) (okl_of v2) (okl_mk (by omega) (fun _ _ => trivial) : GoT.ok (n + 1) ((e1).data.toList : List UInt8))) (fun _ => rfl) (fun _ => rfl) ?_
   rintro ⟨p4, c4⟩ hq4
   have q2 := len_implAB out ((e1).data.toList)
   refine R0 ?_
   refine WX.see rfl rfl rfl (fun _ hΓ => looks_arith rfl rfl rfl rfl (by unfold I64; first | omega | (simp only [List.length_take] at *; omega))) ?_
   refine R0 ?_
   refine WX.turn [9] 5 rfl (fun _ h => h) rfl ?_
   have r4 : (impl_AppendBytes out ((e1).data.toList)).length ≤ bd (n + 3) := (okl hq4).1
   exact WX.iter (p4, c4, (impl_AppendBytes out ((e1).data.toList)), i + 1) ⟨(by omega), (okl_mk (by omega) (fun _ _ => trivial) : GoT.ok (n + 1) ((impl_AppendBytes out ((e1).data.toList)) : List UInt8)), (by have z_ := hv0.2 _ (List.mem_of_getElem? e1h); have z2_ : ((e1).data.toList).length = (e1).size := rfl; omega), (by rw [v4, drop_get e1h]; simp only [impl_AppendName_L1, ct, cf])⟩ (by first | (dsimp only; omega) | omega) (.cons rfl (.cons rfl (.cons rfl (.cons rfl (.nil))))) .nil .nil [0, 1, 5] rfl
  ·skip
   have h2d := B.df h2
   refine R0 ?_
   have hX1 : impl_AppendName_L1 n_.parts ((impl_AppendVarint b (((n_.parts).length : Nat) : Int)) : List UInt8) = ((out) : List UInt8) := by rw [v4, List.drop_eq_nil_of_le (show (n_.parts).length ≤ i by omega)]; simp only [impl_AppendName_L1, ct, cf]
   have hP2 : impl_AppendName b n_ = out := by simp only [impl_AppendName, h1, hX1, ct, cf]
   refine R1 ?_
   intro w1 G bs hI hΓ
   rw [hP2]
   exact Post.of [5] (pout, cout) hI hΓ rfl rfl rfl (okl_of v2)
theorem f280 (w : World) (n : Nat) (hn : n + 3 ≤ 9) (b : (List UInt8)) (pb : Option Addr) (cb : Nat) (N0 : RdSl (hp w) pb cb b) (n_ : Name) (K1 : Option Addr) (M1 : Nat) (N1 : RdSl (hp w) K1 M1 n_.parts) (hokb : GoT.ok n b) (hokn_ : GoT.ok n n_) :
  Does Tryz.prog 280 #[.slice pb ((b).length) cb, .agg #[.slice K1 ((n_.parts).length) M1]] w emp (Post w emp (fun x : GoT.X ((List UInt8)) => (GoT.sh ((spec_AppendName b n_) : (List UInt8)) x).headD undef) (fun x => GoT.oa ((spec_AppendName b n_) : (List UInt8)) x) (GoT.ok (n + 1) ((spec_AppendName b n_) : (List UInt8)))) := by
 have hbP := bd_pos n
 have hbS0 : bd (n + 1) = 4 * bd (n) := bd_succ (n := n) (by omega)
 have hbS1 : bd (n + 2) = 4 * bd (n + 1) := bd_succ (n := n + 1) (by omega)
 have hbS2 : bd (n + 3) = 4 * bd (n + 2) := bd_succ (n := n + 2) (by omega)
 have hbB := bd_big (n := (n + 3)) (by omega)
 have hbM := bd_mono (show n ≤ n + 3 by omega)
 refine WX.enter (tt := tt) (Γ := [(0, MF.rs .stb pb cb b), (1, MF.rs .stb K1 M1 n_.parts)]) Tryz.func280 rfl (by kernel_rfl) rfl (allS_cons rfl N0 (allS_cons rfl N1 allS_nil)) ?_
 refine R0 ?_
 refine WX.bld ttOk rfl rfl rfl rfl rfl rfl rfl ?_
 intro p1
 refine R0 ?_
 refine WX.free 2 (MF.ol [] ([] : List UInt8)) rfl ?_
 have r1 : (b).length ≤ bd n := (okl hokb).1
 refine WX.appG1 7 0 3 (b : List UInt8).length ttOk rfl rfl rfl rfl rfl rfl rfl rfl rfl rfl rfl rfl rfl (by first | (simp; done) | (simp; omega)) (by omega) (by omega) (fun _ _ _ => rfl) ?_
 intro ys1 p2 c1
 refine WX.know (fun G hΓ => (hΓ.get 3 rfl : RdL _ _ _).flat) ?_
 intro hf1
 refine WX.turn [2] 4 rfl (fun h hs => ol_flat hs hf1) (gs := [MF.ol ([] ++ ys1) (b : List UInt8)]) rfl ?_
 refine R0 ?_
 refine WX.callV rfl rfl rfl rfl rfl (fun _ => rfl) rfl (fun w G bs hI hΓ => f100 w n (by omega) n_ K1 M1 (hΓ.get 1 rfl) hokn_) ?_
 intro hq1
 refine R0 ?_
 refine WX.cases 12 rfl (fun h1 => ?_) (fun h1 => ?_)
 ·skip
  have h1d := (B.nt h1)
  refine R0 ?_
  refine WX.seal 7 4 5 rfl rfl rfl rfl rfl ?_
  have hP1 : spec_AppendName b n_ = b := by simp only [spec_AppendName, h1, ct, cf]
  refine R1 ?_
  intro w1 G bs hI hΓ
  rw [hP1]
  exact Post.of [6] (p2, c1) hI hΓ rfl rfl rfl (okl_mk (by omega) (fun _ _ => trivial) : GoT.ok (n + 1) (b : List UInt8))
 ·skip
  have h1d := (B.nf h1)
  refine R0 ?_
  refine WX.seal 7 4 7 rfl rfl rfl rfl rfl ?_
  have r2 : (n_.parts).length ≤ bd n := (okl (ok_Name hokn_)).1
  refine WX.callF 9 (fun _ _ h => GoT.ow_rd h) (fun _ f hf => GoT.fak f hf) rfl rfl rfl rfl rfl (fun _ => rfl) rfl (fun w G bs hI hΓ => f268 w n (by omega) b p2 c1 (hΓ.get 7 rfl) (((n_.parts).length : Nat) : Int) (okl_mk (by omega) (fun _ _ => trivial) : GoT.ok n (b : List UInt8)) (show I64 (((n_.parts).length : Nat) : Int) from (by unfold I64; omega))) (fun _ => rfl) (fun _ => rfl) ?_
  rintro ⟨p3, c2⟩ hq2
  have q1 := len_specAV b (((n_.parts).length : Nat) : Int)
  refine R0 ?_
  have hv0 := vnB_spec h1d
  have hv1 := hv0.1
  have hv2 : b.length ≤ bd n := (okl hokb).1
  refine WX.loop (ι := (Option Addr) × Nat × (List UInt8) × Nat) ⟨fun | (pout, cout, out, i) => (i ≤ (n_.parts).length) ∧ (out.length ≤ bd (n + 1) ∧ ∀ z_ ∈ out, GoT.ok (n + 1) z_) ∧ (out.length ≤ b.length + 6 + 14 * i) ∧ (spec_AppendName_L1 n_.parts ((spec_AppendVarint b (((n_.parts).length : Nat) : Int)) : List UInt8) = spec_AppendName_L1 ((n_.parts).drop i) out), fun | (pout, cout, out, i) => (n_.parts).length - i, fun | (pout, cout, out, i) => [(5, .v (.slice pout ((out).length) cout)), (6, .v (.int .i64 (((i : Nat) : Int)))), (3, .p 3 0)], fun | (pout, cout, out, i) => [(3, ⟨30, [.slice K1 ((n_.parts).length) M1]⟩)], fun | (pout, cout, out, i) => [], fun | (pout, cout, out, i) => [(0, MF.rs .stb pb cb b), (1, MF.rs .stb K1 M1 n_.parts), (10, MF.os pout cout out)]⟩ (p3, c2, ((spec_AppendVarint b (((n_.parts).length : Nat) : Int)) : List UInt8), 0) ⟨(Nat.zero_le _), hq2, (by omega), rfl⟩
   (.cons rfl (.cons rfl (.cons rfl (.nil)))) (.cons rfl (.nil)) .nil [0, 1, 10] rfl ?_
  rintro ⟨pout, cout, out, i⟩ hpre
  have hpre_ : (i ≤ (n_.parts).length) ∧ (out.length ≤ bd (n + 1) ∧ ∀ z_ ∈ out, GoT.ok (n + 1) z_) ∧ (out.length ≤ b.length + 6 + 14 * i) ∧ (spec_AppendName_L1 n_.parts ((spec_AppendVarint b (((n_.parts).length : Nat) : Int)) : List UInt8) = spec_AppendName_L1 ((n_.parts).drop i) out) := hpre
  clear hpre
  obtain ⟨v1, v2, v3, v4⟩ := hpre_
  have v2L := v2.1
  refine R0 ?_
  refine WX.cases 23 rfl (fun h2 => ?_) (fun h2 => ?_)
  ·skip
   have h2d := B.dt h2
   have e1i : i < (n_.parts).length := (by omega)
   obtain ⟨e1, e1h⟩ : ∃ e1, (n_.parts)[i]? = some e1 := ⟨_, List.getElem?_eq_getElem e1i⟩
   have ok1 : GoT.ok n e1 := (okl (ok_Name hokn_)).2 _ (List.mem_of_getElem? e1h)
   refine R0 ?_
   refine WX.idx 1 i ttOk rfl rfl rfl rfl rfl rfl rfl rfl rfl rfl e1i ?_
   rintro ad1 rfl
   refine WX.ldE 1 11 e1 ttOk rfl rfl rfl rfl rfl rfl rfl rfl e1h (fun _ => rfl) (fun _ => rfl) ?_
   rintro ⟨⟩
   have r3 : (e1).size ≤ bd n := ok1
   refine WX.toB 11 ttOk rfl rfl rfl rfl rfl rfl rfl rfl rfl rfl rfl (by omega) ?_
   intro p4 c3
   have r4 : ((e1).data.toList).length = (e1).size := rfl
   refine WX.der 12 (MF.rs .der pout cout out) rfl (fun _ hΓ => (hΓ.get 10 rfl : OwSl _ _ _ _).rd) ?_
   refine WX.callF 13 (fun _ _ h => GoT.ow_rd h) (fun _ f hf => GoT.fak f hf) rfl rfl rfl rfl rfl (fun _ => rfl) rfl (fun w G bs hI hΓ => f290 w (n + 1) (by omega) out pout cout (hΓ.get 12 rfl) ((e1).data.toList) (some p4) c3 (hΓ.get 11 rfl) (okl_of v2) (okl_mk (by omega) (fun _ _ => trivial) : GoT.ok (n + 1) ((e1).data.toList : List UInt8))) (fun _ => rfl) (fun _ => rfl) ?_
   rintro ⟨p5, c4⟩ hq3
   have q2 := len_specAB out ((e1).data.toList)
   refine R0 ?_
   refine WX.see rfl rfl rfl (fun _ hΓ => looks_arith rfl rfl rfl rfl (by unfold I64; first | omega | (simp only [List.length_take] at *; omega))) ?_
   refine R0 ?_
   refine WX.turn [14] 10 rfl (fun _ h => h) rfl ?_
   have r5 : (spec_AppendBytes out ((e1).data.toList)).length ≤ bd (n + 3) := (okl hq3).1
   exact WX.iter (p5, c4, (spec_AppendBytes out ((e1).data.toList)), i + 1) ⟨(by omega), (okl_mk (by omega) (fun _ _ => trivial) : GoT.ok (n + 1) ((spec_AppendBytes out ((e1).data.toList)) : List UInt8)), (by have z_ := hv0.2 _ (List.mem_of_getElem? e1h); have z2_ : ((e1).data.toList).length = (e1).size := rfl; omega), (by rw [v4, drop_get e1h]; simp only [spec_AppendName_L1, ct, cf])⟩ (by first | (dsimp only; omega) | omega) (.cons rfl (.cons rfl (.cons rfl (.nil)))) (.cons rfl (.nil)) .nil [0, 1, 10] rfl
  ·skip
   have h2d := B.df h2
   refine R0 ?_
   have hX1 : spec_AppendName_L1 n_.parts ((spec_AppendVarint b (((n_.parts).length : Nat) : Int)) : List UInt8) = ((out) : List UInt8) := by rw [v4, List.drop_eq_nil_of_le (show (n_.parts).length ≤ i by omega)]; simp only [spec_AppendName_L1, ct, cf]
   have hP2 : spec_AppendName b n_ = out := by simp only [spec_AppendName, h1, hX1, ct, cf]
   refine R1 ?_
   intro w1 G bs hI hΓ
   rw [hP2]
   exact Post.of [10] (pout, cout) hI hΓ rfl rfl rfl (okl_of v2)
end Go.Proofs.YtolepebgdfdciaaGreat

namespace Go.Stp
set_option linter.unusedVariables false
set_option linter.unusedSimpArgs false
def spec_Mod (n_ : Int) (m : Int) : Int :=
  bif (!(spec_l1In m 1 1000000000000)) then
    0
  else
    (Int.tmod (IntKind.i64.wrap ((Int.tmod n_ m) + m)) m)
def spec_BytesToInts_L1 : List UInt8 → (List Int) → (List Int)
  | [], l => ((l) : List Int)
  | e1 :: rest_, l =>
    spec_BytesToInts_L1 rest_ (((l ++ [((e1).toNat : Int)])) : List Int)
def spec_BytesToInts (b : (List UInt8)) : (List Int) :=
  match spec_BytesToInts_L1 b ([(((b).length : Nat) : Int)] : List Int) with
    | l =>
      l
theorem len_specBIL : ∀ (b : List UInt8) (l : List Int), (spec_BytesToInts_L1 b l).length = l.length + b.length
  | [], l => by simp [spec_BytesToInts_L1]
  | x :: b, l => by
    simp only [spec_BytesToInts_L1]
    rw [len_specBIL b]
    simp only [List.length_append, List.length_cons, List.length_nil]; omega
theorem len_specBI (b : List UInt8) : (spec_BytesToInts b).length = b.length + 1 := by
  unfold spec_BytesToInts
  rw [len_specBIL]
  simp only [List.length_cons, List.length_nil]; omega
def spec_SignedPortion (x_ : DataP) : (List Int) :=
  ((((spec_BytesToInts (spec_AppendName ([]) x_.name)) ++ (spec_BytesToInts x_.content)) ++ (spec_BytesToInts (spec_AppendName ([]) x_.keyName))) ++ [x_.freshUntil])
def spec_Digest_L1 : List Int → Int → Int
  | [], d => d
  | e1 :: rest_, d =>
    spec_Digest_L1 rest_ (Int.tmod (IntKind.i64.wrap ((IntKind.i64.wrap ((IntKind.i64.wrap (d * 1000003)) + (spec_Mod e1 2147483647))) + 13)) 2147483647)
def spec_Digest (l : (List Int)) : Int :=
  match spec_Digest_L1 l 11 with
    | d =>
      d
def spec_ComputeMAC (secret : Int) (l : (List Int)) : Int :=
  (spec_Digest (([secret] ++ l) ++ [secret]))
def impl_Mod (n_ : Int) (m : Int) : Int :=
  bif (!(impl_InRange m 1 1000000000000)) then
    0
  else
    (Int.tmod (IntKind.i64.wrap ((Int.tmod n_ m) + m)) m)
def impl_BytesToInts_L1 : List UInt8 → (List Int) → (List Int)
  | [], out => ((out) : List Int)
  | e1 :: rest_, out =>
    impl_BytesToInts_L1 rest_ (((out ++ [((e1).toNat : Int)])) : List Int)
def impl_BytesToInts (b : (List UInt8)) : (List Int) :=
  match impl_BytesToInts_L1 b ([(((b).length : Nat) : Int)] : List Int) with
    | out =>
      out
theorem len_implBIL : ∀ (b : List UInt8) (l : List Int), (impl_BytesToInts_L1 b l).length = l.length + b.length
  | [], l => by simp [impl_BytesToInts_L1]
  | x :: b, l => by
    simp only [impl_BytesToInts_L1]
    rw [len_implBIL b]
    simp only [List.length_append, List.length_cons, List.length_nil]; omega
theorem len_implBI (b : List UInt8) : (impl_BytesToInts b).length = b.length + 1 := by
  unfold impl_BytesToInts
  rw [len_implBIL]
  simp only [List.length_cons, List.length_nil]; omega
def impl_Digest_L1 : List Int → Int → Int
  | [], d => d
  | e1 :: rest_, d =>
    impl_Digest_L1 rest_ (Int.tmod (IntKind.i64.wrap ((IntKind.i64.wrap ((IntKind.i64.wrap (d * 1000003)) + (impl_Mod e1 2147483647))) + 13)) 2147483647)
def impl_Digest (l : (List Int)) : Int :=
  match impl_Digest_L1 l 11 with
    | d =>
      d
def slices_Grow_int (s : List Int) (n : Int) : List Int := []
def slices_Concat_int_L2 : List (List Int) → (List Int) → (List Int)
  | [], newslice => ((newslice) : List Int)
  | e2 :: rest_, newslice =>
    slices_Concat_int_L2 rest_ (((newslice ++ e2)) : List Int)
def slices_Concat_int_L1 : List (List Int) → Int → Int
  | [], size => size
  | e1 :: rest_, size =>
    slices_Concat_int_L1 rest_ (size + (((e1).length : Nat) : Int))
def slices_Concat_int (slices : (List (List Int))) : (List Int) :=
  match slices_Concat_int_L1 slices 0 with
    | size =>
      match slices_Concat_int_L2 slices ((slices_Grow_int ([] : List Int) size) : List Int) with
        | newslice =>
          newslice
theorem concL : ∀ (l : List (List Int)) (o : List Int), slices_Concat_int_L2 l o = o ++ l.flatten
  | [], o => by simp [slices_Concat_int_L2]
  | x :: l, o => by
    simp only [slices_Concat_int_L2]
    rw [concL l]
    simp
theorem len_Concat (l : List (List Int)) : (slices_Concat_int l).length = l.flatten.length := by
  unfold slices_Concat_int slices_Grow_int
  simp only [concL, List.nil_append]
def impl_ComputeMAC (secret : Int) (l : (List Int)) : Int :=
  (impl_Digest (slices_Concat_int ([([secret]), l, ([secret])])))
def impl_SignedPortion (x_ : DataP) : (List Int) :=
  ((slices_Concat_int ([(impl_BytesToInts (impl_AppendName ([] : List UInt8) x_.name)), (impl_BytesToInts x_.content), (impl_BytesToInts (impl_AppendName ([] : List UInt8) x_.keyName))])) ++ ([x_.freshUntil] : List Int))
end Go.Stp

namespace Go.Stp
section
open GoT (k X sh oa)
variable {α : Type} [GoT α]
theorem OwL.take {h : GH} : ∀ {xs : List Value} {l : List α} (i : Nat), OwL h xs l → OwL h (xs.take (i * k α)) (l.take i)
  | xs, [], i, e => by
    have : xs = [] := e
    subst this
    simp only [List.take_nil]; rfl
  | xs, a :: l, 0, _ => by simp only [Nat.zero_mul, List.take_zero]; rfl
  | xs, a :: l, i + 1, ⟨x, ys, h1, h2, e, q1, q2, q3, q4, q5⟩ => by
    refine ⟨x, ys.take (i * k α), h1, h2, ?_, q1, q2, q3, q4, q5.take i⟩
    rw [e, Nat.add_mul, Nat.one_mul, List.take_append, GoT.len, List.take_of_length_le (by rw [GoT.len]; omega), Nat.add_sub_cancel]
theorem OwL.drop {h : GH} : ∀ {xs : List Value} {l : List α} (i : Nat), OwL h xs l → OwL h (xs.drop (i * k α)) (l.drop i)
  | xs, [], i, e => by
    have : xs = [] := e
    subst this
    simp only [List.drop_nil]; rfl
  | xs, a :: l, 0, e => by simpa using e
  | xs, a :: l, i + 1, ⟨x, ys, h1, h2, e, q1, q2, q3, q4, q5⟩ => by
    have := (q5.drop i).mono q2
    rw [e, Nat.add_mul, Nat.one_mul, List.drop_append, GoT.len, List.drop_eq_nil_of_le (by rw [GoT.len]; omega), Nat.add_sub_cancel, List.nil_append]
    simpa using this
end
theorem WX.meet {C : Cx} {c : Code} {s : List It} {env : Env} {L : Locs} {R : Rows} {Γ : Facts} {ι : Type} (H : Head ι) (k1 : WX C (.code c :: .iter (H.I C 1) :: s) env L R Γ)
    (k2 : ∀ i, H.pre i → WX C s (H.env i) (H.L i) (H.R i) (H.Γ i)) : WX C (.code c :: s) env L R Γ := by
  intro a w hS
  show c.wp C.P (cont C s) a w
  intro b kk cs
  have hw : c.wp C.P (cont C (.iter (H.I C 1) :: s)) a w := k1 a w hS
  obtain ⟨e, a', w', hq, harr⟩ := hw b kk cs
  refine ⟨e, a', w', ?_, harr⟩
  cases e with
  | normal =>
    obtain ⟨i, hp, _, hs⟩ := (hq : H.I C 1 a' w')
    exact k2 i hp a' w' hs
  | exit id => exact hq
  | goto l => exact hq
  | ret => exact hq
  | panic ch => exact hq
  | outgrown => exact hq
theorem TX.share {C : Cx} {ops : Array Oper} {tl : List Nat} {s : List It} {S : World → Prop} {fuel : Nat} {listed : Array Bool} {env : Env} {L : Locs} {R : Rows} {Γ : Facts} {ι : Type} (H : Head ι) (fuel' : Nat) (listed' : Array Bool)
    (k1 : ∀ i, H.pre i → TX C ops tl s S fuel' listed' (H.env i) (H.L i) (H.R i) (H.Γ i)) (k2 : (∀ i, H.pre i → TX C ops tl s S fuel' listed' (H.env i) (H.L i) (H.R i) (H.Γ i)) → TX C ops tl s S fuel listed env L R Γ) : TX C ops tl s S fuel listed env L R Γ := k2 k1
theorem TX.use {C : Cx} {ops : Array Oper} {tl : List Nat} {s : List It} {S : World → Prop} {fuel : Nat} {listed listed' : Array Bool} {env : Env} {L : Locs} {R : Rows} {Γ : Facts} {ι : Type} {H : Head ι} (hN : ∀ i, H.pre i → TX C ops tl s S fuel listed' (H.env i) (H.L i) (H.R i) (H.Γ i)) (i : ι) (hi : H.pre i) (hl : listed' = listed)
    (he : Sub (H.env i) env) (hL : Sub (H.L i) L) (hR : Sub (H.R i) R) (ks : List Nat) (hΓ : pickK ks Γ = some (H.Γ i)) : TX C ops tl s S fuel listed env L R Γ := by
  subst hl
  exact fun hS a w h => hN i hi hS a w (h.sub he hL hR hΓ)
theorem WX.narrow {C : Cx} {s : List It} {env : Env} {L : Locs} {R R' : Rows} {Γ : Facts} {row : Row} (ρ n' : Nat) (hρ : look R ρ = some row) (hn : n' ≤ row.n) (hR : setRO R ρ ⟨row.k, row.p, n', row.c, row.xs.take (n' * row.k)⟩ = some R')
    (k : WX C s env L R' Γ) : WX C s env L R Γ := by
  rintro a w ⟨G, bs, hA, hI, hΓ⟩
  refine k a w ⟨G, bs, hA, ?_, hΓ⟩
  rw [setRO_eq hR]
  have hrow := hI.row ρ row hρ
  have triv : row.n = 0 → HInv C w G bs L (setR R ρ ⟨row.k, row.p, n', row.c, row.xs.take (n' * row.k)⟩) := fun h1 => by
    have h2 : n' = 0 := by omega
    have : (⟨row.k, row.p, n', row.c, row.xs.take (n' * row.k)⟩ : Row) = row := by
      have hx : row.xs = [] := List.eq_nil_of_length_eq_zero (by rw [hrow.1, h1]; simp)
      rw [h2, hx]
      cases row
      simp only at h1 hx ⊢
      subst h1
      subst hx
      simp
    rw [this]
    exact hI.respell (look_setR_same hρ)
  rcases hrow.2 with ⟨h0, hn0⟩ | ⟨o1, hp, _, _, hnc, _, cur, T, hh, hcs, htk⟩
  · exact triv hn0
  · by_cases hc0 : row.c = 0
    · exact triv (by omega)
    · have hn1 : n' * row.k ≤ row.n * row.k := Nat.mul_le_mul_right _ hn
      have hn2 : row.n * row.k ≤ row.c * row.k := Nat.mul_le_mul_right _ hnc
      have hl : ((cur.toList.drop o1).take (n' * row.k)).length = n' * row.k := by simp; omega
      have hx : row.xs.take (n' * row.k) = (cur.toList.drop o1).take (n' * row.k) := by rw [← htk, List.take_take, Nat.min_eq_left hn1]
      rw [hx]
      have := hI.wr hρ hp hc0 hh hcs rfl (Nat.le_trans hn hnc) hl rfl
      rwa [setRow_self w (bs ρ) cur T (0, 0) hh] at this
end Go.Stp

namespace Go.Stp
def readyAt (ops : Array Oper) (listed : Array Bool) (i : Nat) : Bool :=
  !listed.getD i true && (match ops[i]? with | some o => o.after.all (fun e => !Region.binds .any e || listed.getD e.on false) | none => false)
section
open GoT (X k ok sh fa oa)
theorem der_last {α β : Type} [GoT α] [GoT β] {G : GH} {xs : List Value} {l : List α} {a : α} {b : List β} {p : Option Addr} {c : Nat} (hk : k α = 1)
    (hsh : ∀ x : X α, ∃ q : Option Addr × Nat, sh a x = [.slice q.1 b.length q.2] ∧ fa .der a x = [MF.rs .der q.1 q.2 b])
    (h : RdL G (xs ++ [.slice p b.length c]) (l ++ [a])) : RdSl G p c b := by
  have hl := h.len
  rw [List.length_append, List.length_append, hk] at hl
  simp only [List.length_cons, List.length_nil] at hl
  obtain ⟨x, h1, h2⟩ := h.get (i := l.length) (a := a) (by simp)
  obtain ⟨q, e1, e2⟩ := hsh x
  rw [e1] at h2
  rw [e2] at h1
  have h3 := h2 0 _ rfl
  have e3 : l.length * k α + 0 = xs.length := by rw [hk]; omega
  rw [e3, List.getElem?_append_right (Nat.le_refl _)] at h3
  simp only [Nat.sub_self, List.getElem?_cons_zero, Option.some.injEq] at h3
  injection h3 with h4 h5 h6
  have h7 : RdSl G q.1 q.2 b := h1 _ (List.mem_singleton.2 rfl)
  rw [← h4, ← h6] at h7
  exact h7
end
end Go.Stp

