/-
  What the proof of one law needs: rules of the program logic, functions as Lean functions, contracts. No condition but what each says. Written by a program (pack.py) out of my own texts.
-/
import Derived.Test.YtolepebgdfdciaaGreatKAcceptData5
namespace Go.Proofs.YtolepebgdfdciaaGreat
open Go.Stp
set_option linter.unusedVariables false
set_option linter.unusedSimpArgs false
theorem f283 (w : World) (n : Nat) (hn : n + 0 ≤ 9) (n_ : Int) (m : Int) (hokn_ : GoT.ok n n_) (hokm : GoT.ok n m) :
  Does Tryz.prog 283 #[.int .i64 (n_), .int .i64 (m)] w emp (fun (rv : Value) (_ : World) => rv = .int .i64 ((spec_Mod n_ m)) ∧ GoT.ok n ((spec_Mod n_ m) : Int)) := by
 have hbP := bd_pos n
 have hbB := bd_big (n := n) (by omega)
 refine WX.enter (tt := tt) (Γ := []) Tryz.func283 rfl (by kernel_rfl) rfl allS_nil ?_
 refine R0 ?_
 refine WX.callV rfl rfl rfl rfl rfl (fun _ => rfl) rfl (fun w G bs hI hΓ => f136 w n (by omega) m 1 1000000000000 hokm (show I64 1 from (by unfold I64; omega)) (show I64 1000000000000 from (by unfold I64; omega))) ?_
 intro hq1
 refine R0 ?_
 refine WX.cases 7 rfl (fun h1 => ?_) (fun h1 => ?_)
 ·skip
  have h1d := (B.nt h1)
  refine R0 ?_
  have hP1 : spec_Mod n_ m = 0 := by simp only [spec_Mod, h1, ct, cf]
  refine R1 ?_
  intro w1 G bs hI hΓ
  rw [hP1]
  exact ⟨rfl, (show I64 0 from (by unfold I64; omega))⟩
 ·skip
  have h1d := (B.nf h1)
  have h1r := inR_spec (B.nf h1)
  refine R0 ?_
  have r1 := tmod_rng n_ (show (0 : Int) < m by omega)
  refine WX.see rfl rfl rfl (fun _ hΓ => looks_rem rfl rfl rfl (by omega)) ?_
  refine R0 ?_
  refine WX.see rfl rfl rfl (fun _ hΓ => looks_wrap rfl rfl rfl rfl) ?_
  refine R0 ?_
  have r2 := tmod_rng (IntKind.i64.wrap ((Int.tmod n_ m) + m)) (show (0 : Int) < m by omega)
  refine WX.see rfl rfl rfl (fun _ hΓ => looks_rem rfl rfl rfl (by omega)) ?_
  refine R0 ?_
  have hP2 : spec_Mod n_ m = (Int.tmod (IntKind.i64.wrap ((Int.tmod n_ m) + m)) m) := by simp only [spec_Mod, h1, ct, cf]
  have r3 : -9223372036854775808 ≤ n_ ∧ n_ ≤ 9223372036854775807 := hokn_
  have r4 : -9223372036854775808 ≤ m ∧ m ≤ 9223372036854775807 := hokm
  refine R1 ?_
  intro w1 G bs hI hΓ
  rw [hP2]
  exact ⟨rfl, (show I64 (Int.tmod (IntKind.i64.wrap ((Int.tmod n_ m) + m)) m) from (by unfold I64; omega))⟩
theorem f279 (w : World) (n : Nat) (hn : n + 1 ≤ 9) (b : (List UInt8)) (pb : Option Addr) (cb : Nat) (N0 : RdSl (hp w) pb cb b) (hokb : GoT.ok n b) :
  Does Tryz.prog 279 #[.slice pb ((b).length) cb] w emp (Post w emp (fun x : GoT.X ((List Int)) => (GoT.sh ((spec_BytesToInts b) : (List Int)) x).headD undef) (fun x => GoT.oa ((spec_BytesToInts b) : (List Int)) x) (GoT.ok (n + 1) ((spec_BytesToInts b) : (List Int)))) := by
 have hbP := bd_pos n
 have hbS0 : bd (n + 1) = 4 * bd (n) := bd_succ (n := n) (by omega)
 have hbB := bd_big (n := (n + 1)) (by omega)
 have hbM := bd_mono (show n ≤ n + 1 by omega)
 refine WX.enter (tt := tt) (Γ := [(0, MF.rs .stb pb cb b)]) Tryz.func279 rfl (by kernel_rfl) rfl (allS_cons rfl N0 allS_nil) ?_
 refine R0 ?_
 refine WX.bld ttOk rfl rfl rfl rfl rfl rfl rfl ?_
 intro p1
 have r1 : (b).length ≤ bd n := (okl hokb).1
 refine R0 ?_
 refine WX.turn [] 1 rfl (fun h hs => ol_one (α := Int) (a := (((b).length : Nat) : Int)) (x := ()) hs) (gs := [MF.ol [.int .i64 ((((b).length : Nat) : Int))] ([(((b).length : Nat) : Int)] : List Int)]) rfl ?_
 refine WX.loop (ι := (Option Addr) × Nat × (List Value) × (List Int) × Nat) ⟨fun | (pl, cl, xsl, l, i) => (i ≤ (b).length) ∧ (∀ z_ ∈ l, GoT.ok n z_) ∧ (l.length ≤ i + 1) ∧ (spec_BytesToInts_L1 b ([(((b).length : Nat) : Int)] : List Int) = spec_BytesToInts_L1 ((b).drop i) l), fun | (pl, cl, xsl, l, i) => (b).length - i, fun | (pl, cl, xsl, l, i) => [(3, .v (.slice pl ((l).length) cl)), (4, .v (.int .i64 (((i : Nat) : Int)))), (0, .v (.slice pb ((b).length) cb))], fun | (pl, cl, xsl, l, i) => [], fun | (pl, cl, xsl, l, i) => [(7, ⟨1, pl, (l).length, cl, xsl⟩)], fun | (pl, cl, xsl, l, i) => [(0, MF.rs .stb pb cb b), (1, MF.ol xsl (l : List Int))]⟩ (p1, 1, [.int .i64 ((((b).length : Nat) : Int))], ([(((b).length : Nat) : Int)] : List Int), 0) ⟨(Nat.zero_le _), (all_cons (α := Int) (show I64 (((b).length : Nat) : Int) from (by unfold I64; omega)) (fun a ha => by cases ha)), (by simp), rfl⟩
  (.cons rfl (.cons rfl (.cons rfl (.nil)))) .nil (.cons rfl (.nil)) [0, 1] rfl ?_
 rintro ⟨pl, cl, xsl, l, i⟩ hpre
 have hpre_ : (i ≤ (b).length) ∧ (∀ z_ ∈ l, GoT.ok n z_) ∧ (l.length ≤ i + 1) ∧ (spec_BytesToInts_L1 b ([(((b).length : Nat) : Int)] : List Int) = spec_BytesToInts_L1 ((b).drop i) l) := hpre
 clear hpre
 obtain ⟨v1, v2, v3, v4⟩ := hpre_
 refine R0 ?_
 refine WX.cases 11 rfl (fun h1 => ?_) (fun h1 => ?_)
 ·skip
  have h1d := B.dt h1
  have e1i : i < (b).length := (by omega)
  obtain ⟨e1, e1h⟩ : ∃ e1, (b)[i]? = some e1 := ⟨_, List.getElem?_eq_getElem e1i⟩
  refine R0 ?_
  refine WX.idx 0 i ttOk rfl rfl rfl rfl rfl rfl rfl rfl rfl rfl e1i ?_
  rintro ad1 rfl
  refine WX.ldE 0 2 e1 ttOk rfl rfl rfl rfl rfl rfl rfl rfl e1h (fun _ => rfl) (fun _ => rfl) ?_
  rintro ⟨⟩
  refine WX.see rfl rfl rfl (fun _ hΓ => looks_ofU8 ttOk rfl rfl rfl rfl rfl rfl) ?_
  refine WX.bld ttOk rfl rfl rfl rfl rfl rfl rfl ?_
  intro p2
  have r2 : (e1).toNat < 256 := UInt8.toNat_lt _
  refine WX.turn [] 2 rfl (fun h hs => ol_one (α := Int) (a := ((e1).toNat : Int)) (x := ()) hs) (gs := [MF.ol [.int .i64 (((e1).toNat : Int))] ([((e1).toNat : Int)] : List Int)]) rfl ?_
  refine WX.know (fun G hΓ => (hΓ.get 2 rfl : OwL _ _ _).rd.one) ?_
  intro ho1
  refine WX.appR1 7 20 ((l ++ [((e1).toNat : Int)]) : List Int).length ttOk rfl rfl rfl rfl rfl rfl rfl rfl rfl rfl rfl rfl rfl ho1 (by simp) (by simp; omega) (by simp; omega) (fun _ _ => rfl) ?_
  intro p3 c1
  refine WX.turn [1, 2] 3 rfl (fun h hs => ol_app hs) (gs := [MF.ol (xsl ++ [.int .i64 (((e1).toNat : Int))]) ((l ++ [((e1).toNat : Int)]) : List Int)]) rfl ?_
  refine R0 ?_
  refine WX.see rfl rfl rfl (fun _ hΓ => looks_arith rfl rfl rfl rfl (by unfold I64; first | omega | (simp only [List.length_take] at *; omega))) ?_
  refine R0 ?_
  refine WX.turn [3] 1 rfl (fun _ h => h) rfl ?_
  exact WX.iter (p3, c1, (xsl ++ [.int .i64 (((e1).toNat : Int))]), ((l ++ [((e1).toNat : Int)]) : List Int), i + 1) ⟨(by omega), (all_app v2 (all_cons (α := Int) (show I64 ((e1).toNat : Int) from (by unfold I64; omega)) (fun a ha => by cases ha))), (by first | assumption | omega | (simp; omega)), (by rw [v4, drop_get e1h]; simp only [spec_BytesToInts_L1, ct, cf])⟩ (by first | (dsimp only; omega) | omega) (.cons rfl (.cons rfl (.cons rfl (.nil)))) .nil (.cons rfl (.nil)) [0, 1] rfl
 ·skip
  have h1d := B.df h1
  refine R0 ?_
  have hX1 : spec_BytesToInts_L1 b ([(((b).length : Nat) : Int)] : List Int) = ((l) : List Int) := by rw [v4, List.drop_eq_nil_of_le (show (b).length ≤ i by omega)]; simp only [spec_BytesToInts_L1, ct, cf]
  refine WX.seal 7 1 4 rfl rfl rfl rfl rfl ?_
  have hP1 : spec_BytesToInts b = l := by simp only [spec_BytesToInts, hX1, ct, cf]
  refine R1 ?_
  intro w1 G bs hI hΓ
  rw [hP1]
  exact Post.of [5] (pl, cl) hI hΓ rfl rfl rfl (okl_mk (by omega) (fun a ha => GoT.okm (by omega) (v2 a ha)) : GoT.ok (n + 1) (l : List Int))
theorem f262 (w : World) (n : Nat) (hn : n + 5 ≤ 9) (x_ : DataP) (K0 : Option Addr) (M0 : Nat) (N0 : RdSl (hp w) K0 M0 x_.name.parts) (K1 : Option Addr) (M1 : Nat) (N1 : RdSl (hp w) K1 M1 x_.content) (K2 : Option Addr) (M2 : Nat) (N2 : RdSl (hp w) K2 M2 x_.keyName.parts) (hokx_ : GoT.ok n x_) :
  Does Tryz.prog 262 #[.agg #[.slice K0 ((x_.name.parts).length) M0, .slice K1 ((x_.content).length) M1, .slice K2 ((x_.keyName.parts).length) M2, .int .i64 (x_.freshUntil), .int .i64 (x_.signature)]] w emp (Post w emp (fun x : GoT.X ((List Int)) => (GoT.sh ((spec_SignedPortion x_) : (List Int)) x).headD undef) (fun x => GoT.oa ((spec_SignedPortion x_) : (List Int)) x) (GoT.ok (n + 5) ((spec_SignedPortion x_) : (List Int)))) := by
 have hbP := bd_pos n
 have hbS0 : bd (n + 1) = 4 * bd (n) := bd_succ (n := n) (by omega)
 have hbS1 : bd (n + 2) = 4 * bd (n + 1) := bd_succ (n := n + 1) (by omega)
 have hbS2 : bd (n + 3) = 4 * bd (n + 2) := bd_succ (n := n + 2) (by omega)
 have hbS3 : bd (n + 4) = 4 * bd (n + 3) := bd_succ (n := n + 3) (by omega)
 have hbS4 : bd (n + 5) = 4 * bd (n + 4) := bd_succ (n := n + 4) (by omega)
 have hbB := bd_big (n := (n + 5)) (by omega)
 have hbM := bd_mono (show n ≤ n + 5 by omega)
 refine WX.enter (tt := tt) (Γ := [(0, MF.rs .stb K0 M0 x_.name.parts), (1, MF.rs .stb K1 M1 x_.content), (2, MF.rs .stb K2 M2 x_.keyName.parts)]) Tryz.func262 rfl (by kernel_rfl) rfl (allS_cons rfl N0 (allS_cons rfl N1 (allS_cons rfl N2 allS_nil))) ?_
 refine R0 ?_
 refine WX.meet (ι := (Option Addr) × Nat) ⟨fun | (pm1, cm1) => (GoT.ok (n + 3) (((spec_BytesToInts (spec_AppendName ([]) x_.name)) ++ (spec_BytesToInts x_.content)) : List Int)) ∧ (-9223372036854775808 ≤ x_.freshUntil ∧ x_.freshUntil ≤ 9223372036854775807) ∧ (-9223372036854775808 ≤ x_.signature ∧ x_.signature ≤ 9223372036854775807), fun _ => 0, fun | (pm1, cm1) => [(3, .v (.slice pm1 ((((spec_BytesToInts (spec_AppendName ([]) x_.name)) ++ (spec_BytesToInts x_.content))).length) cm1)), (1, .p 1 0)], fun | (pm1, cm1) => [(1, ⟨32, [.slice K0 ((x_.name.parts).length) M0, .slice K1 ((x_.content).length) M1, .slice K2 ((x_.keyName.parts).length) M2, .int .i64 (x_.freshUntil), .int .i64 (x_.signature)]⟩)], fun _ => [], fun | (pm1, cm1) => [(18, MF.os pm1 cm1 ((spec_BytesToInts (spec_AppendName ([]) x_.name)) ++ (spec_BytesToInts x_.content))), (0, MF.rs .stb K0 M0 x_.name.parts), (1, MF.rs .stb K1 M1 x_.content), (2, MF.rs .stb K2 M2 x_.keyName.parts)]⟩ ?_ ?_
 ·skip
  refine WX.draw [2, 3, 4, 6, 7, 8, 9] mixed ?_
  intro bs G0 hΓ0
  refine DX.takes (fuel := 8) ttOk [(1, true), (5, true)] (by kernel_rfl) rfl ?_
  refine DX.toTX ?_
  intro S_
  refine TX.share (ι := (Option Addr) × Nat) ⟨fun | (pm7, cm7) => (GoT.ok (n + 2) ((spec_BytesToInts (spec_AppendName ([]) x_.name)) : List Int)) ∧ (-9223372036854775808 ≤ x_.freshUntil ∧ x_.freshUntil ≤ 9223372036854775807) ∧ (-9223372036854775808 ≤ x_.signature ∧ x_.signature ≤ 9223372036854775807), fun _ => 0, fun | (pm7, cm7) => [(8, .v (.slice pm7 (((spec_BytesToInts (spec_AppendName ([]) x_.name))).length) cm7)), (9, .p 1 1), (1, .p 1 0)], fun | (pm7, cm7) => [(1, ⟨32, [.slice K0 ((x_.name.parts).length) M0, .slice K1 ((x_.content).length) M1, .slice K2 ((x_.keyName.parts).length) M2, .int .i64 (x_.freshUntil), .int .i64 (x_.signature)]⟩)], fun _ => [], fun | (pm7, cm7) => [(33, MF.os pm7 cm7 (spec_BytesToInts (spec_AppendName ([]) x_.name))), (0, MF.rs .stb K0 M0 x_.name.parts), (1, MF.rs .stb K1 M1 x_.content), (2, MF.rs .stb K2 M2 x_.keyName.parts)]⟩ 4 #[true, true, true, true, true, true, false, false, false, false] ?_ (fun N_9 => ?_)
  ·skip
   rintro ⟨pm7, cm7⟩ ⟨hm25, hm26, hm27⟩
   refine TX.tail [6, 7, 8, 9] rfl rfl (by kernel_rfl) ?_
   refine R0 ?_
   refine WX.callF 35 (fun _ _ h => GoT.ow_rd h) (fun _ f hf => GoT.fak f hf) rfl rfl rfl rfl rfl (fun _ => rfl) rfl (fun w G bs hI hΓ => f279 w n (by omega) x_.content K1 M1 (hΓ.get 1 rfl) ((ok_DataP hokx_).2.1)) (fun _ => rfl) (fun _ => rfl) ?_
   rintro ⟨p9, c7⟩ hq6
   have q6 := len_specBI x_.content
   refine WX.opn (kk := 1) 502 33 37 rfl rfl rfl ?_
   intro xs2 hx2
   refine WX.der 38 (MF.rs .der p9 c7 (spec_BytesToInts x_.content)) rfl (fun _ hΓ => (hΓ.get 36 rfl : OwSl _ _ _ _).rd) ?_
   have r5 : (x_.content).length ≤ bd n := (okl (ok_DataP hokx_).2.1).1
   have r6 : (spec_BytesToInts (spec_AppendName ([]) x_.name)).length ≤ bd (n + 2) := (okl hm25).1
   have r7 : (spec_BytesToInts x_.content).length ≤ bd (n + 1) := (okl hq6).1
   refine WX.appG1 502 38 39 (((spec_BytesToInts (spec_AppendName ([]) x_.name)) ++ (spec_BytesToInts x_.content)) : List Int).length ttOk rfl rfl rfl rfl rfl rfl rfl rfl rfl rfl rfl rfl rfl (by first | (simp; done) | (simp; omega)) (by first | (rw [List.length_append]; (try simp only [List.length_cons, List.length_nil]); omega) | (simp; omega) | (simp only [List.length_append, List.length_cons, List.length_nil] at *; omega)) (by first | (rw [List.length_append]; (try simp only [List.length_cons, List.length_nil]); omega) | (simp; omega) | (simp only [List.length_append, List.length_cons, List.length_nil] at *; omega)) (fun _ _ _ => rfl) ?_
   intro ys2 p10 c8
   refine WX.know (fun G hΓ => (hΓ.get 39 rfl : RdL _ _ _).flat) ?_
   intro hf2
   refine WX.turn [37] 40 rfl (fun h hs => ol_flat hs hf2) (gs := [MF.ol (xs2 ++ ys2) (((spec_BytesToInts (spec_AppendName ([]) x_.name)) ++ (spec_BytesToInts x_.content)) : List Int)]) rfl ?_
   refine R0 ?_
   refine WX.seal 502 40 41 rfl rfl rfl rfl rfl ?_
   refine WX.turn [42] 18 rfl (fun _ h => h) rfl ?_
   exact WX.iter (p10, c8) ⟨(okl_mk (by first | (rw [List.length_append]; (try simp only [List.length_cons, List.length_nil]); omega) | (simp; omega) | (simp only [List.length_append, List.length_cons, List.length_nil] at *; omega)) (fun a ha => GoT.okm (show (n + 2) ≤ (n + 3) by omega) ((all_app (okl hm25).2 (fun a ha => GoT.okm (by omega) ((okl hq6).2 a ha))) a ha)) : GoT.ok (n + 3) (((spec_BytesToInts (spec_AppendName ([]) x_.name)) ++ (spec_BytesToInts x_.content)) : List Int)), (ok_DataP hokx_).2.2.2.1, (ok_DataP hokx_).2.2.2.2⟩ Nat.zero_lt_one (.cons rfl (.cons rfl (.nil))) (.cons rfl (.nil)) .nil [18, 0, 1, 2] rfl
  refine TX.share (ι := (Option Addr) × Nat) ⟨fun | (pm8, cm8) => (GoT.ok (n + 1) ((spec_AppendName ([]) x_.name) : List UInt8)) ∧ (-9223372036854775808 ≤ x_.freshUntil ∧ x_.freshUntil ≤ 9223372036854775807) ∧ (-9223372036854775808 ≤ x_.signature ∧ x_.signature ≤ 9223372036854775807), fun _ => 0, fun | (pm8, cm8) => [(10, .v (.slice K1 ((x_.content).length) M1)), (7, .v (.slice pm8 (((spec_AppendName ([]) x_.name)).length) cm8)), (1, .p 1 0)], fun | (pm8, cm8) => [(1, ⟨32, [.slice K0 ((x_.name.parts).length) M0, .slice K1 ((x_.content).length) M1, .slice K2 ((x_.keyName.parts).length) M2, .int .i64 (x_.freshUntil), .int .i64 (x_.signature)]⟩)], fun _ => [], fun | (pm8, cm8) => [(1, MF.rs .stb K1 M1 x_.content), (34, MF.os pm8 cm8 (spec_AppendName ([]) x_.name)), (0, MF.rs .stb K0 M0 x_.name.parts), (2, MF.rs .stb K2 M2 x_.keyName.parts)]⟩ 4 #[true, true, true, true, false, true, true, false, false, false] ?_ (fun N_10 => ?_)
  ·skip
   rintro ⟨pm8, cm8⟩ ⟨hm28, hm29, hm30⟩
   refine TX.tail [4, 7, 8, 9] rfl rfl (by kernel_rfl) ?_
   refine WX.der 43 (MF.rs .der pm8 cm8 (spec_AppendName ([]) x_.name)) rfl (fun _ hΓ => (hΓ.get 34 rfl : OwSl _ _ _ _).rd) ?_
   refine WX.callF 44 (fun _ _ h => GoT.ow_rd h) (fun _ f hf => GoT.fak f hf) rfl rfl rfl rfl rfl (fun _ => rfl) rfl (fun w G bs hI hΓ => f279 w (n + 1) (by omega) (spec_AppendName ([]) x_.name) pm8 cm8 (hΓ.get 43 rfl) hm28) (fun _ => rfl) (fun _ => rfl) ?_
   rintro ⟨p11, c9⟩ hq7
   have q7 := len_specBI (spec_AppendName ([]) x_.name)
   refine WX.callF 46 (fun _ _ h => GoT.ow_rd h) (fun _ f hf => GoT.fak f hf) rfl rfl rfl rfl rfl (fun _ => rfl) rfl (fun w G bs hI hΓ => f279 w n (by omega) x_.content K1 M1 (hΓ.get 1 rfl) ((ok_DataP hokx_).2.1)) (fun _ => rfl) (fun _ => rfl) ?_
   rintro ⟨p12, c10⟩ hq8
   have q8 := len_specBI x_.content
   refine WX.opn (kk := 1) 503 45 48 rfl rfl rfl ?_
   intro xs3 hx3
   refine WX.der 49 (MF.rs .der p12 c10 (spec_BytesToInts x_.content)) rfl (fun _ hΓ => (hΓ.get 47 rfl : OwSl _ _ _ _).rd) ?_
   have r8 : (x_.content).length ≤ bd n := (okl (ok_DataP hokx_).2.1).1
   have r9 : (spec_AppendName ([]) x_.name).length ≤ bd (n + 1) := (okl hm28).1
   have r10 : (spec_BytesToInts (spec_AppendName ([]) x_.name)).length ≤ bd (n + 2) := (okl hq7).1
   have r11 : (spec_BytesToInts x_.content).length ≤ bd (n + 1) := (okl hq8).1
   refine WX.appG1 503 49 50 (((spec_BytesToInts (spec_AppendName ([]) x_.name)) ++ (spec_BytesToInts x_.content)) : List Int).length ttOk rfl rfl rfl rfl rfl rfl rfl rfl rfl rfl rfl rfl rfl (by first | (simp; done) | (simp; omega)) (by first | (rw [List.length_append]; (try simp only [List.length_cons, List.length_nil]); omega) | (simp; omega) | (simp only [List.length_append, List.length_cons, List.length_nil] at *; omega)) (by first | (rw [List.length_append]; (try simp only [List.length_cons, List.length_nil]); omega) | (simp; omega) | (simp only [List.length_append, List.length_cons, List.length_nil] at *; omega)) (fun _ _ _ => rfl) ?_
   intro ys3 p13 c11
   refine WX.know (fun G hΓ => (hΓ.get 50 rfl : RdL _ _ _).flat) ?_
   intro hf3
   refine WX.turn [48] 51 rfl (fun h hs => ol_flat hs hf3) (gs := [MF.ol (xs3 ++ ys3) (((spec_BytesToInts (spec_AppendName ([]) x_.name)) ++ (spec_BytesToInts x_.content)) : List Int)]) rfl ?_
   refine R0 ?_
   refine WX.seal 503 51 52 rfl rfl rfl rfl rfl ?_
   refine WX.turn [53] 18 rfl (fun _ h => h) rfl ?_
   exact WX.iter (p13, c11) ⟨(okl_mk (by first | (rw [List.length_append]; (try simp only [List.length_cons, List.length_nil]); omega) | (simp; omega) | (simp only [List.length_append, List.length_cons, List.length_nil] at *; omega)) (fun a ha => GoT.okm (show (n + 2) ≤ (n + 3) by omega) ((all_app (okl hq7).2 (fun a ha => GoT.okm (by omega) ((okl hq8).2 a ha))) a ha)) : GoT.ok (n + 3) (((spec_BytesToInts (spec_AppendName ([]) x_.name)) ++ (spec_BytesToInts x_.content)) : List Int)), (ok_DataP hokx_).2.2.2.1, (ok_DataP hokx_).2.2.2.2⟩ Nat.zero_lt_one (.cons rfl (.cons rfl (.nil))) (.cons rfl (.nil)) .nil [18, 0, 1, 2] rfl
  refine TX.share (ι := (Option Addr) × Nat) ⟨fun | (pm5, cm5) => (GoT.ok (n + 1) ((spec_AppendName ([]) x_.name) : List UInt8)) ∧ (-9223372036854775808 ≤ x_.freshUntil ∧ x_.freshUntil ≤ 9223372036854775807) ∧ (-9223372036854775808 ≤ x_.signature ∧ x_.signature ≤ 9223372036854775807), fun _ => 0, fun | (pm5, cm5) => [(7, .v (.slice pm5 (((spec_AppendName ([]) x_.name)).length) cm5)), (9, .p 1 1), (1, .p 1 0)], fun | (pm5, cm5) => [(1, ⟨32, [.slice K0 ((x_.name.parts).length) M0, .slice K1 ((x_.content).length) M1, .slice K2 ((x_.keyName.parts).length) M2, .int .i64 (x_.freshUntil), .int .i64 (x_.signature)]⟩)], fun _ => [], fun | (pm5, cm5) => [(28, MF.os pm5 cm5 (spec_AppendName ([]) x_.name)), (0, MF.rs .stb K0 M0 x_.name.parts), (1, MF.rs .stb K1 M1 x_.content), (2, MF.rs .stb K2 M2 x_.keyName.parts)]⟩ 5 #[true, true, true, true, false, true, false, false, false, false] ?_ (fun N_7 => ?_)
  ·skip
   rintro ⟨pm5, cm5⟩ ⟨hm19, hm20, hm21⟩
   refine TX.all2 4 6 (by kernel_rfl) ?_ ?_
   ·skip
    refine TS.op 4 rfl (by kernel_rfl) ?_
    refine WX.der 54 (MF.rs .der pm5 cm5 (spec_AppendName ([]) x_.name)) rfl (fun _ hΓ => (hΓ.get 28 rfl : OwSl _ _ _ _).rd) ?_
    refine WX.callF 55 (fun _ _ h => GoT.ow_rd h) (fun _ f hf => GoT.fak f hf) rfl rfl rfl rfl rfl (fun _ => rfl) rfl (fun w G bs hI hΓ => f279 w (n + 1) (by omega) (spec_AppendName ([]) x_.name) pm5 cm5 (hΓ.get 54 rfl) hm19) (fun _ => rfl) (fun _ => rfl) ?_
    rintro ⟨p14, c12⟩ hq9
    have q9 := len_specBI (spec_AppendName ([]) x_.name)
    refine R0 ?_
    refine WX.turn [56] 33 rfl (fun _ h => h) rfl ?_
    refine WX.back0 ?_
    exact TX.use N_9 (p14, c12) ⟨hq9, (ok_DataP hokx_).2.2.2.1, (ok_DataP hokx_).2.2.2.2⟩ (by kernel_rfl) (.cons rfl (.cons rfl (.cons rfl (.nil)))) (.cons rfl (.nil)) .nil [33, 0, 1, 2] rfl
   ·skip
    refine TS.op 6 rfl (by kernel_rfl) ?_
    refine R0 ?_
    refine WX.turn [28] 34 rfl (fun _ h => h) rfl ?_
    refine WX.back0 ?_
    exact TX.use N_10 (pm5, cm5) ⟨hm19, (ok_DataP hokx_).2.2.2.1, (ok_DataP hokx_).2.2.2.2⟩ (by kernel_rfl) (.cons rfl (.cons rfl (.cons rfl (.nil)))) (.cons rfl (.nil)) .nil [1, 34, 0, 2] rfl
  refine TX.share (ι := (Option Addr) × Nat) ⟨fun | (pm6, cm6) => (GoT.ok n ([] : List UInt8)) ∧ (-9223372036854775808 ≤ x_.freshUntil ∧ x_.freshUntil ≤ 9223372036854775807) ∧ (-9223372036854775808 ≤ x_.signature ∧ x_.signature ≤ 9223372036854775807), fun _ => 0, fun | (pm6, cm6) => [(10, .v (.slice K1 ((x_.content).length) M1)), (6, .v (.agg #[.slice K0 ((x_.name.parts).length) M0])), (4, .v (.slice pm6 (0) cm6)), (1, .p 1 0)], fun | (pm6, cm6) => [(1, ⟨32, [.slice K0 ((x_.name.parts).length) M0, .slice K1 ((x_.content).length) M1, .slice K2 ((x_.keyName.parts).length) M2, .int .i64 (x_.freshUntil), .int .i64 (x_.signature)]⟩)], fun _ => [], fun | (pm6, cm6) => [(1, MF.rs .stb K1 M1 x_.content), (0, MF.rs .stb K0 M0 x_.name.parts), (29, MF.os pm6 cm6 ([] : List UInt8)), (2, MF.rs .stb K2 M2 x_.keyName.parts)]⟩ 5 #[true, true, true, false, false, true, true, false, false, false] ?_ (fun N_8 => ?_)
  ·skip
   rintro ⟨pm6, cm6⟩ ⟨hm22, hm23, hm24⟩
   refine TX.tail [3, 4, 7, 8, 9] rfl rfl (by kernel_rfl) ?_
   refine WX.der 57 (MF.rs .der pm6 cm6 ([])) rfl (fun _ hΓ => (hΓ.get 29 rfl : OwSl _ _ _ _).rd) ?_
   refine WX.callF 58 (fun _ _ h => GoT.ow_rd h) (fun _ f hf => GoT.fak f hf) rfl rfl rfl rfl rfl (fun _ => rfl) rfl (fun w G bs hI hΓ => f280 w n (by omega) ([]) pm6 cm6 (hΓ.get 57 rfl) x_.name K0 M0 (hΓ.get 0 rfl) hm22 ((ok_DataP hokx_).1)) (fun _ => rfl) (fun _ => rfl) ?_
   rintro ⟨p15, c13⟩ hq10
   have q10 := len_specAN ([]) x_.name
   refine WX.callF 60 (fun _ _ h => GoT.ow_rd h) (fun _ f hf => GoT.fak f hf) rfl rfl rfl rfl rfl (fun _ => rfl) rfl (fun w G bs hI hΓ => f279 w (n + 1) (by omega) (spec_AppendName ([]) x_.name) p15 c13 (hΓ.get 58 rfl) hq10) (fun _ => rfl) (fun _ => rfl) ?_
   rintro ⟨p16, c14⟩ hq11
   have q11 := len_specBI (spec_AppendName ([]) x_.name)
   refine WX.callF 62 (fun _ _ h => GoT.ow_rd h) (fun _ f hf => GoT.fak f hf) rfl rfl rfl rfl rfl (fun _ => rfl) rfl (fun w G bs hI hΓ => f279 w n (by omega) x_.content K1 M1 (hΓ.get 1 rfl) ((ok_DataP hokx_).2.1)) (fun _ => rfl) (fun _ => rfl) ?_
   rintro ⟨p17, c15⟩ hq12
   have q12 := len_specBI x_.content
   refine WX.opn (kk := 1) 504 61 64 rfl rfl rfl ?_
   intro xs4 hx4
   refine WX.der 65 (MF.rs .der p17 c15 (spec_BytesToInts x_.content)) rfl (fun _ hΓ => (hΓ.get 63 rfl : OwSl _ _ _ _).rd) ?_
   have r12 : (x_.content).length ≤ bd n := (okl (ok_DataP hokx_).2.1).1
   have r13 : ([]).length ≤ bd n := (okl hm22).1
   have r14 : (spec_AppendName ([]) x_.name).length ≤ bd (n + 1) := (okl hq10).1
   have r15 : (spec_BytesToInts (spec_AppendName ([]) x_.name)).length ≤ bd (n + 2) := (okl hq11).1
   have r16 : (spec_BytesToInts x_.content).length ≤ bd (n + 1) := (okl hq12).1
   refine WX.appG1 504 65 66 (((spec_BytesToInts (spec_AppendName ([]) x_.name)) ++ (spec_BytesToInts x_.content)) : List Int).length ttOk rfl rfl rfl rfl rfl rfl rfl rfl rfl rfl rfl rfl rfl (by first | (simp; done) | (simp; omega)) (by first | (rw [List.length_append]; (try simp only [List.length_cons, List.length_nil]); omega) | (simp; omega) | (simp only [List.length_append, List.length_cons, List.length_nil] at *; omega)) (by first | (rw [List.length_append]; (try simp only [List.length_cons, List.length_nil]); omega) | (simp; omega) | (simp only [List.length_append, List.length_cons, List.length_nil] at *; omega)) (fun _ _ _ => rfl) ?_
   intro ys4 p18 c16
   refine WX.know (fun G hΓ => (hΓ.get 66 rfl : RdL _ _ _).flat) ?_
   intro hf4
   refine WX.turn [64] 67 rfl (fun h hs => ol_flat hs hf4) (gs := [MF.ol (xs4 ++ ys4) (((spec_BytesToInts (spec_AppendName ([]) x_.name)) ++ (spec_BytesToInts x_.content)) : List Int)]) rfl ?_
   refine R0 ?_
   refine WX.seal 504 67 68 rfl rfl rfl rfl rfl ?_
   refine WX.turn [69] 18 rfl (fun _ h => h) rfl ?_
   exact WX.iter (p18, c16) ⟨(okl_mk (by first | (rw [List.length_append]; (try simp only [List.length_cons, List.length_nil]); omega) | (simp; omega) | (simp only [List.length_append, List.length_cons, List.length_nil] at *; omega)) (fun a ha => GoT.okm (show (n + 2) ≤ (n + 3) by omega) ((all_app (okl hq11).2 (fun a ha => GoT.okm (by omega) ((okl hq12).2 a ha))) a ha)) : GoT.ok (n + 3) (((spec_BytesToInts (spec_AppendName ([]) x_.name)) ++ (spec_BytesToInts x_.content)) : List Int)), (ok_DataP hokx_).2.2.2.1, (ok_DataP hokx_).2.2.2.2⟩ Nat.zero_lt_one (.cons rfl (.cons rfl (.nil))) (.cons rfl (.nil)) .nil [18, 0, 1, 2] rfl
  refine TX.share (ι := (Option Addr) × Nat) ⟨fun | (pm3, cm3) => (GoT.ok n ([] : List UInt8)) ∧ (-9223372036854775808 ≤ x_.freshUntil ∧ x_.freshUntil ≤ 9223372036854775807) ∧ (-9223372036854775808 ≤ x_.signature ∧ x_.signature ≤ 9223372036854775807), fun _ => 0, fun | (pm3, cm3) => [(6, .v (.agg #[.slice K0 ((x_.name.parts).length) M0])), (4, .v (.slice pm3 (0) cm3)), (9, .p 1 1), (1, .p 1 0)], fun | (pm3, cm3) => [(1, ⟨32, [.slice K0 ((x_.name.parts).length) M0, .slice K1 ((x_.content).length) M1, .slice K2 ((x_.keyName.parts).length) M2, .int .i64 (x_.freshUntil), .int .i64 (x_.signature)]⟩)], fun _ => [], fun | (pm3, cm3) => [(0, MF.rs .stb K0 M0 x_.name.parts), (23, MF.os pm3 cm3 ([] : List UInt8)), (1, MF.rs .stb K1 M1 x_.content), (2, MF.rs .stb K2 M2 x_.keyName.parts)]⟩ 6 #[true, true, true, false, false, true, false, false, false, false] ?_ (fun N_4 => ?_)
  ·skip
   rintro ⟨pm3, cm3⟩ ⟨hm11, hm12, hm13⟩
   refine TX.all2 3 6 (by kernel_rfl) ?_ ?_
   ·skip
    refine TS.op 3 rfl (by kernel_rfl) ?_
    refine WX.der 70 (MF.rs .der pm3 cm3 ([])) rfl (fun _ hΓ => (hΓ.get 23 rfl : OwSl _ _ _ _).rd) ?_
    refine WX.callF 71 (fun _ _ h => GoT.ow_rd h) (fun _ f hf => GoT.fak f hf) rfl rfl rfl rfl rfl (fun _ => rfl) rfl (fun w G bs hI hΓ => f280 w n (by omega) ([]) pm3 cm3 (hΓ.get 70 rfl) x_.name K0 M0 (hΓ.get 0 rfl) hm11 ((ok_DataP hokx_).1)) (fun _ => rfl) (fun _ => rfl) ?_
    rintro ⟨p19, c17⟩ hq13
    have q13 := len_specAN ([]) x_.name
    refine R0 ?_
    refine WX.turn [72] 28 rfl (fun _ h => h) rfl ?_
    refine WX.back0 ?_
    exact TX.use N_7 (p19, c17) ⟨hq13, (ok_DataP hokx_).2.2.2.1, (ok_DataP hokx_).2.2.2.2⟩ (by kernel_rfl) (.cons rfl (.cons rfl (.cons rfl (.nil)))) (.cons rfl (.nil)) .nil [28, 0, 1, 2] rfl
   ·skip
    refine TS.op 6 rfl (by kernel_rfl) ?_
    refine R0 ?_
    refine WX.turn [23] 29 rfl (fun _ h => h) rfl ?_
    refine WX.back0 ?_
    exact TX.use N_8 (pm3, cm3) ⟨hm11, (ok_DataP hokx_).2.2.2.1, (ok_DataP hokx_).2.2.2.2⟩ (by kernel_rfl) (.cons rfl (.cons rfl (.cons rfl (.cons rfl (.nil))))) (.cons rfl (.nil)) .nil [1, 0, 29, 2] rfl
  refine TX.share (ι := (Option Addr) × Nat) ⟨fun | (pm4, cm4) => (GoT.ok n ([] : List UInt8)) ∧ (-9223372036854775808 ≤ x_.freshUntil ∧ x_.freshUntil ≤ 9223372036854775807) ∧ (-9223372036854775808 ≤ x_.signature ∧ x_.signature ≤ 9223372036854775807), fun _ => 0, fun | (pm4, cm4) => [(10, .v (.slice K1 ((x_.content).length) M1)), (4, .v (.slice pm4 (0) cm4)), (5, .p 1 0), (1, .p 1 0)], fun | (pm4, cm4) => [(1, ⟨32, [.slice K0 ((x_.name.parts).length) M0, .slice K1 ((x_.content).length) M1, .slice K2 ((x_.keyName.parts).length) M2, .int .i64 (x_.freshUntil), .int .i64 (x_.signature)]⟩)], fun _ => [], fun | (pm4, cm4) => [(1, MF.rs .stb K1 M1 x_.content), (24, MF.os pm4 cm4 ([] : List UInt8)), (0, MF.rs .stb K0 M0 x_.name.parts), (2, MF.rs .stb K2 M2 x_.keyName.parts)]⟩ 6 #[true, true, false, false, false, true, true, false, false, false] ?_ (fun N_5 => ?_)
  ·skip
   rintro ⟨pm4, cm4⟩ ⟨hm14, hm15, hm16⟩
   refine TX.tail [2, 3, 4, 7, 8, 9] rfl rfl (by kernel_rfl) ?_
   refine R0 ?_
   refine WX.der 73 (MF.rs .der pm4 cm4 ([])) rfl (fun _ hΓ => (hΓ.get 24 rfl : OwSl _ _ _ _).rd) ?_
   refine WX.callF 74 (fun _ _ h => GoT.ow_rd h) (fun _ f hf => GoT.fak f hf) rfl rfl rfl rfl rfl (fun _ => rfl) rfl (fun w G bs hI hΓ => f280 w n (by omega) ([]) pm4 cm4 (hΓ.get 73 rfl) x_.name K0 M0 (hΓ.get 0 rfl) hm14 ((ok_DataP hokx_).1)) (fun _ => rfl) (fun _ => rfl) ?_
   rintro ⟨p20, c18⟩ hq14
   have q14 := len_specAN ([]) x_.name
   refine WX.callF 76 (fun _ _ h => GoT.ow_rd h) (fun _ f hf => GoT.fak f hf) rfl rfl rfl rfl rfl (fun _ => rfl) rfl (fun w G bs hI hΓ => f279 w (n + 1) (by omega) (spec_AppendName ([]) x_.name) p20 c18 (hΓ.get 74 rfl) hq14) (fun _ => rfl) (fun _ => rfl) ?_
   rintro ⟨p21, c19⟩ hq15
   have q15 := len_specBI (spec_AppendName ([]) x_.name)
   refine WX.callF 78 (fun _ _ h => GoT.ow_rd h) (fun _ f hf => GoT.fak f hf) rfl rfl rfl rfl rfl (fun _ => rfl) rfl (fun w G bs hI hΓ => f279 w n (by omega) x_.content K1 M1 (hΓ.get 1 rfl) ((ok_DataP hokx_).2.1)) (fun _ => rfl) (fun _ => rfl) ?_
   rintro ⟨p22, c20⟩ hq16
   have q16 := len_specBI x_.content
   refine WX.opn (kk := 1) 505 77 80 rfl rfl rfl ?_
   intro xs5 hx5
   refine WX.der 81 (MF.rs .der p22 c20 (spec_BytesToInts x_.content)) rfl (fun _ hΓ => (hΓ.get 79 rfl : OwSl _ _ _ _).rd) ?_
   have r17 : (x_.content).length ≤ bd n := (okl (ok_DataP hokx_).2.1).1
   have r18 : ([]).length ≤ bd n := (okl hm14).1
   have r19 : (spec_AppendName ([]) x_.name).length ≤ bd (n + 1) := (okl hq14).1
   have r20 : (spec_BytesToInts (spec_AppendName ([]) x_.name)).length ≤ bd (n + 2) := (okl hq15).1
   have r21 : (spec_BytesToInts x_.content).length ≤ bd (n + 1) := (okl hq16).1
   refine WX.appG1 505 81 82 (((spec_BytesToInts (spec_AppendName ([]) x_.name)) ++ (spec_BytesToInts x_.content)) : List Int).length ttOk rfl rfl rfl rfl rfl rfl rfl rfl rfl rfl rfl rfl rfl (by first | (simp; done) | (simp; omega)) (by first | (rw [List.length_append]; (try simp only [List.length_cons, List.length_nil]); omega) | (simp; omega) | (simp only [List.length_append, List.length_cons, List.length_nil] at *; omega)) (by first | (rw [List.length_append]; (try simp only [List.length_cons, List.length_nil]); omega) | (simp; omega) | (simp only [List.length_append, List.length_cons, List.length_nil] at *; omega)) (fun _ _ _ => rfl) ?_
   intro ys5 p23 c21
   refine WX.know (fun G hΓ => (hΓ.get 82 rfl : RdL _ _ _).flat) ?_
   intro hf5
   refine WX.turn [80] 83 rfl (fun h hs => ol_flat hs hf5) (gs := [MF.ol (xs5 ++ ys5) (((spec_BytesToInts (spec_AppendName ([]) x_.name)) ++ (spec_BytesToInts x_.content)) : List Int)]) rfl ?_
   refine R0 ?_
   refine WX.seal 505 83 84 rfl rfl rfl rfl rfl ?_
   refine WX.turn [85] 18 rfl (fun _ h => h) rfl ?_
   exact WX.iter (p23, c21) ⟨(okl_mk (by first | (rw [List.length_append]; (try simp only [List.length_cons, List.length_nil]); omega) | (simp; omega) | (simp only [List.length_append, List.length_cons, List.length_nil] at *; omega)) (fun a ha => GoT.okm (show (n + 2) ≤ (n + 3) by omega) ((all_app (okl hq15).2 (fun a ha => GoT.okm (by omega) ((okl hq16).2 a ha))) a ha)) : GoT.ok (n + 3) (((spec_BytesToInts (spec_AppendName ([]) x_.name)) ++ (spec_BytesToInts x_.content)) : List Int)), (ok_DataP hokx_).2.2.2.1, (ok_DataP hokx_).2.2.2.2⟩ Nat.zero_lt_one (.cons rfl (.cons rfl (.nil))) (.cons rfl (.nil)) .nil [18, 0, 1, 2] rfl
  refine TX.share (ι := Unit) ⟨fun _ => (-9223372036854775808 ≤ x_.freshUntil ∧ x_.freshUntil ≤ 9223372036854775807) ∧ (-9223372036854775808 ≤ x_.signature ∧ x_.signature ≤ 9223372036854775807), fun _ => 0, fun _ => [(10, .v (.slice K1 ((x_.content).length) M1)), (6, .v (.agg #[.slice K0 ((x_.name.parts).length) M0])), (1, .p 1 0)], fun _ => [(1, ⟨32, [.slice K0 ((x_.name.parts).length) M0, .slice K1 ((x_.content).length) M1, .slice K2 ((x_.keyName.parts).length) M2, .int .i64 (x_.freshUntil), .int .i64 (x_.signature)]⟩)], fun _ => [], fun _ => [(1, MF.rs .stb K1 M1 x_.content), (0, MF.rs .stb K0 M0 x_.name.parts), (2, MF.rs .stb K2 M2 x_.keyName.parts)]⟩ 6 #[false, true, true, false, false, true, true, false, false, false] ?_ (fun N_6 => ?_)
  ·skip
   rintro - ⟨hm17, hm18⟩
   refine TX.tail [0, 3, 4, 7, 8, 9] rfl rfl (by kernel_rfl) ?_
   refine WX.bld ttOk rfl rfl rfl rfl rfl rfl rfl ?_
   intro p24
   refine WX.free 86 (MF.ol [] ([] : List UInt8)) rfl ?_
   refine WX.seal 4 86 87 rfl rfl rfl rfl rfl ?_
   refine WX.callF 89 (fun _ _ h => GoT.ow_rd h) (fun _ f hf => GoT.fak f hf) rfl rfl rfl rfl rfl (fun _ => rfl) rfl (fun w G bs hI hΓ => f280 w n (by omega) ([]) p24 0 (hΓ.get 87 rfl) x_.name K0 M0 (hΓ.get 0 rfl) (okl_mk (Nat.zero_le _) (fun _ _ => trivial) : GoT.ok n ([] : List UInt8)) ((ok_DataP hokx_).1)) (fun _ => rfl) (fun _ => rfl) ?_
   rintro ⟨p25, c22⟩ hq17
   have q17 := len_specAN ([]) x_.name
   refine WX.callF 91 (fun _ _ h => GoT.ow_rd h) (fun _ f hf => GoT.fak f hf) rfl rfl rfl rfl rfl (fun _ => rfl) rfl (fun w G bs hI hΓ => f279 w (n + 1) (by omega) (spec_AppendName ([]) x_.name) p25 c22 (hΓ.get 89 rfl) hq17) (fun _ => rfl) (fun _ => rfl) ?_
   rintro ⟨p26, c23⟩ hq18
   have q18 := len_specBI (spec_AppendName ([]) x_.name)
   refine WX.callF 93 (fun _ _ h => GoT.ow_rd h) (fun _ f hf => GoT.fak f hf) rfl rfl rfl rfl rfl (fun _ => rfl) rfl (fun w G bs hI hΓ => f279 w n (by omega) x_.content K1 M1 (hΓ.get 1 rfl) ((ok_DataP hokx_).2.1)) (fun _ => rfl) (fun _ => rfl) ?_
   rintro ⟨p27, c24⟩ hq19
   have q19 := len_specBI x_.content
   refine WX.opn (kk := 1) 506 92 95 rfl rfl rfl ?_
   intro xs6 hx6
   refine WX.der 96 (MF.rs .der p27 c24 (spec_BytesToInts x_.content)) rfl (fun _ hΓ => (hΓ.get 94 rfl : OwSl _ _ _ _).rd) ?_
   have r22 : (x_.content).length ≤ bd n := (okl (ok_DataP hokx_).2.1).1
   have r23 : (spec_AppendName ([]) x_.name).length ≤ bd (n + 1) := (okl hq17).1
   have r24 : (spec_BytesToInts (spec_AppendName ([]) x_.name)).length ≤ bd (n + 2) := (okl hq18).1
   have r25 : (spec_BytesToInts x_.content).length ≤ bd (n + 1) := (okl hq19).1
   refine WX.appG1 506 96 97 (((spec_BytesToInts (spec_AppendName ([]) x_.name)) ++ (spec_BytesToInts x_.content)) : List Int).length ttOk rfl rfl rfl rfl rfl rfl rfl rfl rfl rfl rfl rfl rfl (by first | (simp; done) | (simp; omega)) (by first | (rw [List.length_append]; (try simp only [List.length_cons, List.length_nil]); omega) | (simp; omega) | (simp only [List.length_append, List.length_cons, List.length_nil] at *; omega)) (by first | (rw [List.length_append]; (try simp only [List.length_cons, List.length_nil]); omega) | (simp; omega) | (simp only [List.length_append, List.length_cons, List.length_nil] at *; omega)) (fun _ _ _ => rfl) ?_
   intro ys6 p28 c25
   refine WX.know (fun G hΓ => (hΓ.get 97 rfl : RdL _ _ _).flat) ?_
   intro hf6
   refine WX.turn [95] 98 rfl (fun h hs => ol_flat hs hf6) (gs := [MF.ol (xs6 ++ ys6) (((spec_BytesToInts (spec_AppendName ([]) x_.name)) ++ (spec_BytesToInts x_.content)) : List Int)]) rfl ?_
   refine R0 ?_
   refine WX.seal 506 98 99 rfl rfl rfl rfl rfl ?_
   refine WX.turn [100] 18 rfl (fun _ h => h) rfl ?_
   exact WX.iter (p28, c25) ⟨(okl_mk (by first | (rw [List.length_append]; (try simp only [List.length_cons, List.length_nil]); omega) | (simp; omega) | (simp only [List.length_append, List.length_cons, List.length_nil] at *; omega)) (fun a ha => GoT.okm (show (n + 2) ≤ (n + 3) by omega) ((all_app (okl hq18).2 (fun a ha => GoT.okm (by omega) ((okl hq19).2 a ha))) a ha)) : GoT.ok (n + 3) (((spec_BytesToInts (spec_AppendName ([]) x_.name)) ++ (spec_BytesToInts x_.content)) : List Int)), (ok_DataP hokx_).2.2.2.1, (ok_DataP hokx_).2.2.2.2⟩ Nat.zero_lt_one (.cons rfl (.cons rfl (.nil))) (.cons rfl (.nil)) .nil [18, 0, 1, 2] rfl
  refine TX.share (ι := (Option Addr) × Nat) ⟨fun | (pm2, cm2) => (GoT.ok n ([] : List UInt8)) ∧ (-9223372036854775808 ≤ x_.freshUntil ∧ x_.freshUntil ≤ 9223372036854775807) ∧ (-9223372036854775808 ≤ x_.signature ∧ x_.signature ≤ 9223372036854775807), fun _ => 0, fun | (pm2, cm2) => [(4, .v (.slice pm2 (0) cm2)), (9, .p 1 1), (5, .p 1 0), (1, .p 1 0)], fun | (pm2, cm2) => [(1, ⟨32, [.slice K0 ((x_.name.parts).length) M0, .slice K1 ((x_.content).length) M1, .slice K2 ((x_.keyName.parts).length) M2, .int .i64 (x_.freshUntil), .int .i64 (x_.signature)]⟩)], fun _ => [], fun | (pm2, cm2) => [(22, MF.os pm2 cm2 ([] : List UInt8)), (0, MF.rs .stb K0 M0 x_.name.parts), (1, MF.rs .stb K1 M1 x_.content), (2, MF.rs .stb K2 M2 x_.keyName.parts)]⟩ 7 #[true, true, false, false, false, true, false, false, false, false] ?_ (fun N_1 => ?_)
  ·skip
   rintro ⟨pm2, cm2⟩ ⟨hm4, hm5, hm6⟩
   refine TX.all2 2 6 (by kernel_rfl) ?_ ?_
   ·skip
    refine TS.op 2 rfl (by kernel_rfl) ?_
    refine R0 ?_
    refine WX.turn [22] 23 rfl (fun _ h => h) rfl ?_
    refine WX.back0 ?_
    exact TX.use N_4 (pm2, cm2) ⟨hm4, (ok_DataP hokx_).2.2.2.1, (ok_DataP hokx_).2.2.2.2⟩ (by kernel_rfl) (.cons rfl (.cons rfl (.cons rfl (.cons rfl (.nil))))) (.cons rfl (.nil)) .nil [0, 23, 1, 2] rfl
   ·skip
    refine TS.op 6 rfl (by kernel_rfl) ?_
    refine R0 ?_
    refine WX.turn [22] 24 rfl (fun _ h => h) rfl ?_
    refine WX.back0 ?_
    exact TX.use N_5 (pm2, cm2) ⟨hm4, (ok_DataP hokx_).2.2.2.1, (ok_DataP hokx_).2.2.2.2⟩ (by kernel_rfl) (.cons rfl (.cons rfl (.cons rfl (.cons rfl (.nil))))) (.cons rfl (.nil)) .nil [1, 24, 0, 2] rfl
  refine TX.share (ι := Unit) ⟨fun _ => (-9223372036854775808 ≤ x_.freshUntil ∧ x_.freshUntil ≤ 9223372036854775807) ∧ (-9223372036854775808 ≤ x_.signature ∧ x_.signature ≤ 9223372036854775807), fun _ => 0, fun _ => [(6, .v (.agg #[.slice K0 ((x_.name.parts).length) M0])), (9, .p 1 1), (1, .p 1 0)], fun _ => [(1, ⟨32, [.slice K0 ((x_.name.parts).length) M0, .slice K1 ((x_.content).length) M1, .slice K2 ((x_.keyName.parts).length) M2, .int .i64 (x_.freshUntil), .int .i64 (x_.signature)]⟩)], fun _ => [], fun _ => [(0, MF.rs .stb K0 M0 x_.name.parts), (1, MF.rs .stb K1 M1 x_.content), (2, MF.rs .stb K2 M2 x_.keyName.parts)]⟩ 7 #[false, true, true, false, false, true, false, false, false, false] ?_ (fun N_2 => ?_)
  ·skip
   rintro - ⟨hm7, hm8⟩
   refine TX.all2 0 6 (by kernel_rfl) ?_ ?_
   ·skip
    refine TS.op 0 rfl (by kernel_rfl) ?_
    refine WX.bld ttOk rfl rfl rfl rfl rfl rfl rfl ?_
    intro p29
    refine R0 ?_
    refine WX.free 101 (MF.ol [] ([] : List UInt8)) rfl ?_
    refine WX.seal 4 101 102 rfl rfl rfl rfl rfl ?_
    refine WX.turn [103] 23 rfl (fun _ h => h) rfl ?_
    refine WX.back0 ?_
    exact TX.use N_4 (p29, 0) ⟨(okl_mk (Nat.zero_le _) (fun _ _ => trivial) : GoT.ok n ([] : List UInt8)), (ok_DataP hokx_).2.2.2.1, (ok_DataP hokx_).2.2.2.2⟩ (by kernel_rfl) (.cons rfl (.cons rfl (.cons rfl (.cons rfl (.nil))))) (.cons rfl (.nil)) .nil [0, 23, 1, 2] rfl
   ·skip
    refine TS.op 6 rfl (by kernel_rfl) ?_
    refine R0 ?_
    refine WX.back0 ?_
    exact TX.use N_6 () ⟨(ok_DataP hokx_).2.2.2.1, (ok_DataP hokx_).2.2.2.2⟩ (by kernel_rfl) (.cons rfl (.cons rfl (.cons rfl (.nil)))) (.cons rfl (.nil)) .nil [1, 0, 2] rfl
  refine TX.share (ι := Unit) ⟨fun _ => (-9223372036854775808 ≤ x_.freshUntil ∧ x_.freshUntil ≤ 9223372036854775807) ∧ (-9223372036854775808 ≤ x_.signature ∧ x_.signature ≤ 9223372036854775807), fun _ => 0, fun _ => [(10, .v (.slice K1 ((x_.content).length) M1)), (5, .p 1 0), (1, .p 1 0)], fun _ => [(1, ⟨32, [.slice K0 ((x_.name.parts).length) M0, .slice K1 ((x_.content).length) M1, .slice K2 ((x_.keyName.parts).length) M2, .int .i64 (x_.freshUntil), .int .i64 (x_.signature)]⟩)], fun _ => [], fun _ => [(1, MF.rs .stb K1 M1 x_.content), (0, MF.rs .stb K0 M0 x_.name.parts), (2, MF.rs .stb K2 M2 x_.keyName.parts)]⟩ 7 #[false, true, false, false, false, true, true, false, false, false] ?_ (fun N_3 => ?_)
  ·skip
   rintro - ⟨hm9, hm10⟩
   refine TX.all2 0 2 (by kernel_rfl) ?_ ?_
   ·skip
    refine TS.op 0 rfl (by kernel_rfl) ?_
    refine WX.bld ttOk rfl rfl rfl rfl rfl rfl rfl ?_
    intro p30
    refine R0 ?_
    refine WX.free 104 (MF.ol [] ([] : List UInt8)) rfl ?_
    refine WX.seal 4 104 105 rfl rfl rfl rfl rfl ?_
    refine WX.turn [106] 24 rfl (fun _ h => h) rfl ?_
    refine WX.back0 ?_
    exact TX.use N_5 (p30, 0) ⟨(okl_mk (Nat.zero_le _) (fun _ _ => trivial) : GoT.ok n ([] : List UInt8)), (ok_DataP hokx_).2.2.2.1, (ok_DataP hokx_).2.2.2.2⟩ (by kernel_rfl) (.cons rfl (.cons rfl (.cons rfl (.cons rfl (.nil))))) (.cons rfl (.nil)) .nil [1, 24, 0, 2] rfl
   ·skip
    refine TS.op 2 rfl (by kernel_rfl) ?_
    refine R0 ?_
    refine WX.back0 ?_
    exact TX.use N_6 () ⟨(ok_DataP hokx_).2.2.2.1, (ok_DataP hokx_).2.2.2.2⟩ (by kernel_rfl) (.cons rfl (.cons rfl (.cons rfl (.nil)))) (.cons rfl (.nil)) .nil [1, 0, 2] rfl
  refine TX.all3 0 2 6 (by kernel_rfl) ?_ ?_ ?_
  ·skip
   refine TS.op 0 rfl (by kernel_rfl) ?_
   refine WX.bld ttOk rfl rfl rfl rfl rfl rfl rfl ?_
   intro p31
   refine R0 ?_
   refine WX.free 107 (MF.ol [] ([] : List UInt8)) rfl ?_
   refine WX.seal 4 107 108 rfl rfl rfl rfl rfl ?_
   refine WX.turn [109] 22 rfl (fun _ h => h) rfl ?_
   refine WX.back0 ?_
   exact TX.use N_1 (p31, 0) ⟨(okl_mk (Nat.zero_le _) (fun _ _ => trivial) : GoT.ok n ([] : List UInt8)), (ok_DataP hokx_).2.2.2.1, (ok_DataP hokx_).2.2.2.2⟩ (by kernel_rfl) (.cons rfl (.cons rfl (.cons rfl (.cons rfl (.nil))))) (.cons rfl (.nil)) .nil [22, 0, 1, 2] rfl
  ·skip
   refine TS.op 2 rfl (by kernel_rfl) ?_
   refine R0 ?_
   refine WX.back0 ?_
   exact TX.use N_2 () ⟨(ok_DataP hokx_).2.2.2.1, (ok_DataP hokx_).2.2.2.2⟩ (by kernel_rfl) (.cons rfl (.cons rfl (.cons rfl (.nil)))) (.cons rfl (.nil)) .nil [0, 1, 2] rfl
  ·skip
   refine TS.op 6 rfl (by kernel_rfl) ?_
   refine R0 ?_
   refine WX.back0 ?_
   exact TX.use N_3 () ⟨(ok_DataP hokx_).2.2.2.1, (ok_DataP hokx_).2.2.2.2⟩ (by kernel_rfl) (.cons rfl (.cons rfl (.cons rfl (.nil)))) (.cons rfl (.nil)) .nil [1, 0, 2] rfl
 rintro ⟨pm1, cm1⟩ ⟨hm1, hm2, hm3⟩
 refine R0 ?_
 refine WX.meet (ι := (Option Addr) × Nat) ⟨fun | (pm9, cm9) => (GoT.ok (n + 5) (((((spec_BytesToInts (spec_AppendName ([]) x_.name)) ++ (spec_BytesToInts x_.content)) ++ (spec_BytesToInts (spec_AppendName ([]) x_.keyName))) ++ [x_.freshUntil]) : List Int)), fun _ => 0, fun | (pm9, cm9) => [(2, .v (.slice pm9 ((((((spec_BytesToInts (spec_AppendName ([]) x_.name)) ++ (spec_BytesToInts x_.content)) ++ (spec_BytesToInts (spec_AppendName ([]) x_.keyName))) ++ [x_.freshUntil])).length) cm9))], fun | (pm9, cm9) => [], fun _ => [], fun | (pm9, cm9) => [(126, MF.os pm9 cm9 ((((spec_BytesToInts (spec_AppendName ([]) x_.name)) ++ (spec_BytesToInts x_.content)) ++ (spec_BytesToInts (spec_AppendName ([]) x_.keyName))) ++ [x_.freshUntil])), (0, MF.rs .stb K0 M0 x_.name.parts), (1, MF.rs .stb K1 M1 x_.content), (2, MF.rs .stb K2 M2 x_.keyName.parts)]⟩ ?_ ?_
 ·skip
  refine WX.der 127 (MF.rs .der pm1 cm1 ((spec_BytesToInts (spec_AppendName ([]) x_.name)) ++ (spec_BytesToInts x_.content))) rfl (fun _ hΓ => (hΓ.get 18 rfl : OwSl _ _ _ _).rd) ?_
  refine WX.draw [3, 4, 5, 6, 8, 10, 11] mixed ?_
  intro bs G0 hΓ0
  refine DX.takes (fuel := 9) ttOk [(0, true), (2, true), (7, true)] (by kernel_rfl) rfl ?_
  refine DX.toTX ?_
  intro S_
  refine TX.share (ι := (Option Addr) × Nat) ⟨fun | (pm43, cm43) => (GoT.ok (n + 4) ((((spec_BytesToInts (spec_AppendName ([]) x_.name)) ++ (spec_BytesToInts x_.content)) ++ (spec_BytesToInts (spec_AppendName ([]) x_.keyName))) : List Int)) ∧ (-9223372036854775808 ≤ x_.freshUntil ∧ x_.freshUntil ≤ 9223372036854775807), fun _ => 0, fun | (pm43, cm43) => [(19, .v (.slice pm43 (((((spec_BytesToInts (spec_AppendName ([]) x_.name)) ++ (spec_BytesToInts x_.content)) ++ (spec_BytesToInts (spec_AppendName ([]) x_.keyName)))).length) cm43)), (21, .v (.int .i64 (x_.freshUntil)))], fun | (pm43, cm43) => [], fun _ => [], fun | (pm43, cm43) => [(197, MF.os pm43 cm43 (((spec_BytesToInts (spec_AppendName ([]) x_.name)) ++ (spec_BytesToInts x_.content)) ++ (spec_BytesToInts (spec_AppendName ([]) x_.keyName)))), (0, MF.rs .stb K0 M0 x_.name.parts), (1, MF.rs .stb K1 M1 x_.content), (2, MF.rs .stb K2 M2 x_.keyName.parts)]⟩ 3 #[true, true, true, true, true, true, true, true, true, false, false, false] ?_ (fun N_28 => ?_)
  ·skip
   rintro ⟨pm43, cm43⟩ ⟨hm91, hm92⟩
   refine TX.tail [9, 10, 11] rfl rfl (by kernel_rfl) ?_
   refine WX.bld ttOk rfl rfl rfl rfl rfl rfl rfl ?_
   intro p49
   refine WX.opn (kk := 1) 510 197 204 rfl rfl rfl ?_
   intro xs10 hx10
   refine WX.turn [] 205 rfl (fun h hs => ol_one (α := Int) (a := x_.freshUntil) (x := ()) hs) (gs := [MF.ol [.int .i64 (x_.freshUntil)] ([x_.freshUntil] : List Int)]) rfl ?_
   have r37 : (x_.content).length ≤ bd n := (okl (ok_DataP hokx_).2.1).1
   have r38 : -9223372036854775808 ≤ x_.freshUntil ∧ x_.freshUntil ≤ 9223372036854775807 := (ok_DataP hokx_).2.2.2.1
   have r39 : ((spec_BytesToInts (spec_AppendName ([]) x_.name)) ++ (spec_BytesToInts x_.content)).length ≤ bd (n + 3) := (okl hm1).1
   have r40 : (((spec_BytesToInts (spec_AppendName ([]) x_.name)) ++ (spec_BytesToInts x_.content)) ++ (spec_BytesToInts (spec_AppendName ([]) x_.keyName))).length ≤ bd (n + 4) := (okl hm91).1
   refine WX.know (fun G hΓ => (hΓ.get 205 rfl : OwL _ _ _).rd.one) ?_
   intro ho2
   refine WX.appR1 510 22 (((((spec_BytesToInts (spec_AppendName ([]) x_.name)) ++ (spec_BytesToInts x_.content)) ++ (spec_BytesToInts (spec_AppendName ([]) x_.keyName))) ++ [x_.freshUntil]) : List Int).length ttOk rfl rfl rfl rfl rfl rfl rfl rfl rfl rfl rfl rfl rfl ho2 (by first | (simp; done) | (rw [List.length_append]; rfl) | (simp; omega)) (by first | (rw [List.length_append]; (try simp only [List.length_cons, List.length_nil]); omega) | (simp; omega) | (simp only [List.length_append, List.length_cons, List.length_nil] at *; omega)) (by first | (rw [List.length_append]; (try simp only [List.length_cons, List.length_nil]); omega) | (simp; omega) | (simp only [List.length_append, List.length_cons, List.length_nil] at *; omega)) (fun _ _ => rfl) ?_
   intro p50 c34
   refine WX.turn [204, 205] 206 rfl (fun h hs => ol_app hs) (gs := [MF.ol (xs10 ++ [.int .i64 (x_.freshUntil)]) (((((spec_BytesToInts (spec_AppendName ([]) x_.name)) ++ (spec_BytesToInts x_.content)) ++ (spec_BytesToInts (spec_AppendName ([]) x_.keyName))) ++ [x_.freshUntil]) : List Int)]) rfl ?_
   refine R0 ?_
   refine WX.seal 510 206 207 rfl rfl rfl rfl rfl ?_
   refine WX.turn [208] 126 rfl (fun _ h => h) rfl ?_
   exact WX.iter (p50, c34) (okl_mk (by first | (rw [List.length_append]; (try simp only [List.length_cons, List.length_nil]); omega) | (simp; omega) | (simp only [List.length_append, List.length_cons, List.length_nil] at *; omega)) (fun a ha => GoT.okm (show (n + 4) ≤ (n + 5) by omega) ((all_app (okl hm91).2 (fun a ha => GoT.okm (by omega) ((all_cons (α := Int) (ok_DataP hokx_).2.2.2.1 (fun a ha => by cases ha)) a ha))) a ha)) : GoT.ok (n + 5) (((((spec_BytesToInts (spec_AppendName ([]) x_.name)) ++ (spec_BytesToInts x_.content)) ++ (spec_BytesToInts (spec_AppendName ([]) x_.keyName))) ++ [x_.freshUntil]) : List Int)) Nat.zero_lt_one (.cons rfl (.nil)) .nil .nil [126, 0, 1, 2] rfl
  refine TX.share (ι := (Option Addr) × Nat × (Option Addr) × Nat × (Option Addr) × Nat) ⟨fun | (pm44, cm44, pm45, cm45, pm46, cm46) => (GoT.ok n ([x_.freshUntil] : List Int)) ∧ (GoT.ok (n + 2) ((spec_BytesToInts (spec_AppendName ([]) x_.keyName)) : List Int)) ∧ (GoT.ok (n + 3) (((spec_BytesToInts (spec_AppendName ([]) x_.name)) ++ (spec_BytesToInts x_.content)) : List Int)), fun _ => 0, fun | (pm44, cm44, pm45, cm45, pm46, cm46) => [(22, .v (.slice pm44 (([x_.freshUntil]).length) cm44)), (18, .v (.slice pm45 (((spec_BytesToInts (spec_AppendName ([]) x_.keyName))).length) cm45)), (13, .v (.slice pm46 ((((spec_BytesToInts (spec_AppendName ([]) x_.name)) ++ (spec_BytesToInts x_.content))).length) cm46))], fun | (pm44, cm44, pm45, cm45, pm46, cm46) => [], fun _ => [], fun | (pm44, cm44, pm45, cm45, pm46, cm46) => [(201, MF.os pm44 cm44 ([x_.freshUntil])), (202, MF.os pm45 cm45 (spec_BytesToInts (spec_AppendName ([]) x_.keyName))), (203, MF.os pm46 cm46 ((spec_BytesToInts (spec_AppendName ([]) x_.name)) ++ (spec_BytesToInts x_.content))), (0, MF.rs .stb K0 M0 x_.name.parts), (1, MF.rs .stb K1 M1 x_.content), (2, MF.rs .stb K2 M2 x_.keyName.parts)]⟩ 3 #[true, true, true, true, true, true, false, true, true, true, false, false] ?_ (fun N_29 => ?_)
  ·skip
   rintro ⟨pm44, cm44, pm45, cm45, pm46, cm46⟩ ⟨hm93, hm94, hm95⟩
   refine TX.tail [6, 10, 11] rfl rfl (by kernel_rfl) ?_
   refine WX.opn (kk := 1) 511 203 209 rfl rfl rfl ?_
   intro xs11 hx11
   refine WX.der 210 (MF.rs .der pm45 cm45 (spec_BytesToInts (spec_AppendName ([]) x_.keyName))) rfl (fun _ hΓ => (hΓ.get 202 rfl : OwSl _ _ _ _).rd) ?_
   have r41 : (x_.content).length ≤ bd n := (okl (ok_DataP hokx_).2.1).1
   have r42 : ((spec_BytesToInts (spec_AppendName ([]) x_.name)) ++ (spec_BytesToInts x_.content)).length ≤ bd (n + 3) := (okl hm1).1
   have r43 : (spec_BytesToInts (spec_AppendName ([]) x_.keyName)).length ≤ bd (n + 2) := (okl hm94).1
   refine WX.appG1 511 210 211 ((((spec_BytesToInts (spec_AppendName ([]) x_.name)) ++ (spec_BytesToInts x_.content)) ++ (spec_BytesToInts (spec_AppendName ([]) x_.keyName))) : List Int).length ttOk rfl rfl rfl rfl rfl rfl rfl rfl rfl rfl rfl rfl rfl (by first | (simp; done) | (simp; omega)) (by first | (rw [List.length_append]; (try simp only [List.length_cons, List.length_nil]); omega) | (simp; omega) | (simp only [List.length_append, List.length_cons, List.length_nil] at *; omega)) (by first | (rw [List.length_append]; (try simp only [List.length_cons, List.length_nil]); omega) | (simp; omega) | (simp only [List.length_append, List.length_cons, List.length_nil] at *; omega)) (fun _ _ _ => rfl) ?_
   intro ys10 p51 c35
   refine WX.know (fun G hΓ => (hΓ.get 211 rfl : RdL _ _ _).flat) ?_
   intro hf10
   refine WX.turn [209] 212 rfl (fun h hs => ol_flat hs hf10) (gs := [MF.ol (xs11 ++ ys10) ((((spec_BytesToInts (spec_AppendName ([]) x_.name)) ++ (spec_BytesToInts x_.content)) ++ (spec_BytesToInts (spec_AppendName ([]) x_.keyName))) : List Int)]) rfl ?_
   refine WX.der 213 (MF.rs .der pm44 cm44 ([x_.freshUntil])) rfl (fun _ hΓ => (hΓ.get 201 rfl : OwSl _ _ _ _).rd) ?_
   have r44 : -9223372036854775808 ≤ x_.freshUntil ∧ x_.freshUntil ≤ 9223372036854775807 := (ok_DataP hokx_).2.2.2.1
   have r45 : ([x_.freshUntil]).length ≤ bd n := (okl hm93).1
   refine WX.appG1 511 213 214 (((((spec_BytesToInts (spec_AppendName ([]) x_.name)) ++ (spec_BytesToInts x_.content)) ++ (spec_BytesToInts (spec_AppendName ([]) x_.keyName))) ++ [x_.freshUntil]) : List Int).length ttOk rfl rfl rfl rfl rfl rfl rfl rfl rfl rfl rfl rfl rfl (by first | (simp; done) | (simp; omega)) (by first | (rw [List.length_append]; (try simp only [List.length_cons, List.length_nil]); omega) | (simp; omega) | (simp only [List.length_append, List.length_cons, List.length_nil] at *; omega)) (by first | (rw [List.length_append]; (try simp only [List.length_cons, List.length_nil]); omega) | (simp; omega) | (simp only [List.length_append, List.length_cons, List.length_nil] at *; omega)) (fun _ _ _ => rfl) ?_
   intro ys11 p52 c36
   refine WX.know (fun G hΓ => (hΓ.get 214 rfl : RdL _ _ _).flat) ?_
   intro hf11
   refine WX.turn [212] 215 rfl (fun h hs => ol_flat hs hf11) (gs := [MF.ol ((xs11 ++ ys10) ++ ys11) (((((spec_BytesToInts (spec_AppendName ([]) x_.name)) ++ (spec_BytesToInts x_.content)) ++ (spec_BytesToInts (spec_AppendName ([]) x_.keyName))) ++ [x_.freshUntil]) : List Int)]) rfl ?_
   refine R0 ?_
   refine WX.seal 511 215 216 rfl rfl rfl rfl rfl ?_
   refine WX.turn [217] 126 rfl (fun _ h => h) rfl ?_
   exact WX.iter (p52, c36) (okl_mk (by first | (rw [List.length_append]; (try simp only [List.length_cons, List.length_nil]); omega) | (simp; omega) | (simp only [List.length_append, List.length_cons, List.length_nil] at *; omega)) (fun a ha => GoT.okm (show (n + 4) ≤ (n + 5) by omega) ((all_app (fun a ha => GoT.okm (show (n + 3) ≤ (n + 4) by omega) ((all_app (okl hm95).2 (fun a ha => GoT.okm (by omega) ((okl hm94).2 a ha))) a ha)) (fun a ha => GoT.okm (by omega) ((okl hm93).2 a ha))) a ha)) : GoT.ok (n + 5) (((((spec_BytesToInts (spec_AppendName ([]) x_.name)) ++ (spec_BytesToInts x_.content)) ++ (spec_BytesToInts (spec_AppendName ([]) x_.keyName))) ++ [x_.freshUntil]) : List Int)) Nat.zero_lt_one (.cons rfl (.nil)) .nil .nil [126, 0, 1, 2] rfl
  refine TX.share (ι := (Option Addr) × Nat) ⟨fun | (pm37, cm37) => (GoT.ok (n + 4) ((((spec_BytesToInts (spec_AppendName ([]) x_.name)) ++ (spec_BytesToInts x_.content)) ++ (spec_BytesToInts (spec_AppendName ([]) x_.keyName))) : List Int)) ∧ (-9223372036854775808 ≤ x_.freshUntil ∧ x_.freshUntil ≤ 9223372036854775807) ∧ (-9223372036854775808 ≤ x_.signature ∧ x_.signature ≤ 9223372036854775807), fun _ => 0, fun | (pm37, cm37) => [(19, .v (.slice pm37 (((((spec_BytesToInts (spec_AppendName ([]) x_.name)) ++ (spec_BytesToInts x_.content)) ++ (spec_BytesToInts (spec_AppendName ([]) x_.keyName)))).length) cm37)), (20, .p 1 3)], fun | (pm37, cm37) => [(1, ⟨32, [.slice K0 ((x_.name.parts).length) M0, .slice K1 ((x_.content).length) M1, .slice K2 ((x_.keyName.parts).length) M2, .int .i64 (x_.freshUntil), .int .i64 (x_.signature)]⟩)], fun _ => [], fun | (pm37, cm37) => [(182, MF.os pm37 cm37 (((spec_BytesToInts (spec_AppendName ([]) x_.name)) ++ (spec_BytesToInts x_.content)) ++ (spec_BytesToInts (spec_AppendName ([]) x_.keyName)))), (0, MF.rs .stb K0 M0 x_.name.parts), (1, MF.rs .stb K1 M1 x_.content), (2, MF.rs .stb K2 M2 x_.keyName.parts)]⟩ 4 #[true, true, true, true, true, true, true, true, false, false, false, false] ?_ (fun N_25 => ?_)
  ·skip
   rintro ⟨pm37, cm37⟩ ⟨hm82, hm83, hm84⟩
   refine TX.tail [8, 9, 10, 11] rfl rfl (by kernel_rfl) ?_
   refine R0 ?_
   refine WX.bld ttOk rfl rfl rfl rfl rfl rfl rfl ?_
   intro p53
   refine WX.opn (kk := 1) 512 182 218 rfl rfl rfl ?_
   intro xs12 hx12
   refine WX.turn [] 219 rfl (fun h hs => ol_one (α := Int) (a := x_.freshUntil) (x := ()) hs) (gs := [MF.ol [.int .i64 (x_.freshUntil)] ([x_.freshUntil] : List Int)]) rfl ?_
   have r46 : (x_.content).length ≤ bd n := (okl (ok_DataP hokx_).2.1).1
   have r47 : -9223372036854775808 ≤ x_.freshUntil ∧ x_.freshUntil ≤ 9223372036854775807 := (ok_DataP hokx_).2.2.2.1
   have r48 : ((spec_BytesToInts (spec_AppendName ([]) x_.name)) ++ (spec_BytesToInts x_.content)).length ≤ bd (n + 3) := (okl hm1).1
   have r49 : (((spec_BytesToInts (spec_AppendName ([]) x_.name)) ++ (spec_BytesToInts x_.content)) ++ (spec_BytesToInts (spec_AppendName ([]) x_.keyName))).length ≤ bd (n + 4) := (okl hm82).1
   refine WX.know (fun G hΓ => (hΓ.get 219 rfl : OwL _ _ _).rd.one) ?_
   intro ho3
   refine WX.appR1 512 22 (((((spec_BytesToInts (spec_AppendName ([]) x_.name)) ++ (spec_BytesToInts x_.content)) ++ (spec_BytesToInts (spec_AppendName ([]) x_.keyName))) ++ [x_.freshUntil]) : List Int).length ttOk rfl rfl rfl rfl rfl rfl rfl rfl rfl rfl rfl rfl rfl ho3 (by first | (simp; done) | (rw [List.length_append]; rfl) | (simp; omega)) (by first | (rw [List.length_append]; (try simp only [List.length_cons, List.length_nil]); omega) | (simp; omega) | (simp only [List.length_append, List.length_cons, List.length_nil] at *; omega)) (by first | (rw [List.length_append]; (try simp only [List.length_cons, List.length_nil]); omega) | (simp; omega) | (simp only [List.length_append, List.length_cons, List.length_nil] at *; omega)) (fun _ _ => rfl) ?_
   intro p54 c37
   refine WX.turn [218, 219] 220 rfl (fun h hs => ol_app hs) (gs := [MF.ol (xs12 ++ [.int .i64 (x_.freshUntil)]) (((((spec_BytesToInts (spec_AppendName ([]) x_.name)) ++ (spec_BytesToInts x_.content)) ++ (spec_BytesToInts (spec_AppendName ([]) x_.keyName))) ++ [x_.freshUntil]) : List Int)]) rfl ?_
   refine R0 ?_
   refine WX.seal 512 220 221 rfl rfl rfl rfl rfl ?_
   refine WX.turn [222] 126 rfl (fun _ h => h) rfl ?_
   exact WX.iter (p54, c37) (okl_mk (by first | (rw [List.length_append]; (try simp only [List.length_cons, List.length_nil]); omega) | (simp; omega) | (simp only [List.length_append, List.length_cons, List.length_nil] at *; omega)) (fun a ha => GoT.okm (show (n + 4) ≤ (n + 5) by omega) ((all_app (okl hm82).2 (fun a ha => GoT.okm (by omega) ((all_cons (α := Int) (ok_DataP hokx_).2.2.2.1 (fun a ha => by cases ha)) a ha))) a ha)) : GoT.ok (n + 5) (((((spec_BytesToInts (spec_AppendName ([]) x_.name)) ++ (spec_BytesToInts x_.content)) ++ (spec_BytesToInts (spec_AppendName ([]) x_.keyName))) ++ [x_.freshUntil]) : List Int)) Nat.zero_lt_one (.cons rfl (.nil)) .nil .nil [126, 0, 1, 2] rfl
  refine TX.share (ι := (Option Addr) × Nat × (Option Addr) × Nat) ⟨fun | (pm38, cm38, pm39, cm39) => (-9223372036854775808 ≤ x_.freshUntil ∧ x_.freshUntil ≤ 9223372036854775807) ∧ (GoT.ok (n + 2) ((spec_BytesToInts (spec_AppendName ([]) x_.keyName)) : List Int)) ∧ (GoT.ok (n + 3) (((spec_BytesToInts (spec_AppendName ([]) x_.name)) ++ (spec_BytesToInts x_.content)) : List Int)), fun _ => 0, fun | (pm38, cm38, pm39, cm39) => [(21, .v (.int .i64 (x_.freshUntil))), (18, .v (.slice pm38 (((spec_BytesToInts (spec_AppendName ([]) x_.keyName))).length) cm38)), (13, .v (.slice pm39 ((((spec_BytesToInts (spec_AppendName ([]) x_.name)) ++ (spec_BytesToInts x_.content))).length) cm39))], fun | (pm38, cm38, pm39, cm39) => [], fun _ => [], fun | (pm38, cm38, pm39, cm39) => [(183, MF.os pm38 cm38 (spec_BytesToInts (spec_AppendName ([]) x_.keyName))), (184, MF.os pm39 cm39 ((spec_BytesToInts (spec_AppendName ([]) x_.name)) ++ (spec_BytesToInts x_.content))), (0, MF.rs .stb K0 M0 x_.name.parts), (1, MF.rs .stb K1 M1 x_.content), (2, MF.rs .stb K2 M2 x_.keyName.parts)]⟩ 4 #[true, true, true, true, true, true, false, true, true, false, false, false] ?_ (fun N_26 => ?_)
  ·skip
   rintro ⟨pm38, cm38, pm39, cm39⟩ ⟨hm85, hm86, hm87⟩
   refine TX.all2 6 9 (by kernel_rfl) ?_ ?_
   ·skip
    refine TS.op 6 rfl (by kernel_rfl) ?_
    refine WX.opn (kk := 1) 513 184 223 rfl rfl rfl ?_
    intro xs13 hx13
    refine WX.der 224 (MF.rs .der pm38 cm38 (spec_BytesToInts (spec_AppendName ([]) x_.keyName))) rfl (fun _ hΓ => (hΓ.get 183 rfl : OwSl _ _ _ _).rd) ?_
    have r50 : (x_.content).length ≤ bd n := (okl (ok_DataP hokx_).2.1).1
    have r51 : ((spec_BytesToInts (spec_AppendName ([]) x_.name)) ++ (spec_BytesToInts x_.content)).length ≤ bd (n + 3) := (okl hm1).1
    have r52 : (spec_BytesToInts (spec_AppendName ([]) x_.keyName)).length ≤ bd (n + 2) := (okl hm86).1
    refine WX.appG1 513 224 225 ((((spec_BytesToInts (spec_AppendName ([]) x_.name)) ++ (spec_BytesToInts x_.content)) ++ (spec_BytesToInts (spec_AppendName ([]) x_.keyName))) : List Int).length ttOk rfl rfl rfl rfl rfl rfl rfl rfl rfl rfl rfl rfl rfl (by first | (simp; done) | (simp; omega)) (by first | (rw [List.length_append]; (try simp only [List.length_cons, List.length_nil]); omega) | (simp; omega) | (simp only [List.length_append, List.length_cons, List.length_nil] at *; omega)) (by first | (rw [List.length_append]; (try simp only [List.length_cons, List.length_nil]); omega) | (simp; omega) | (simp only [List.length_append, List.length_cons, List.length_nil] at *; omega)) (fun _ _ _ => rfl) ?_
    intro ys12 p55 c38
    refine WX.know (fun G hΓ => (hΓ.get 225 rfl : RdL _ _ _).flat) ?_
    intro hf12
    refine WX.turn [223] 226 rfl (fun h hs => ol_flat hs hf12) (gs := [MF.ol (xs13 ++ ys12) ((((spec_BytesToInts (spec_AppendName ([]) x_.name)) ++ (spec_BytesToInts x_.content)) ++ (spec_BytesToInts (spec_AppendName ([]) x_.keyName))) : List Int)]) rfl ?_
    refine R0 ?_
    refine WX.seal 513 226 227 rfl rfl rfl rfl rfl ?_
    refine WX.turn [228] 197 rfl (fun _ h => h) rfl ?_
    refine WX.back0 ?_
    exact TX.use N_28 (p55, c38) ⟨(okl_mk (by first | (rw [List.length_append]; (try simp only [List.length_cons, List.length_nil]); omega) | (simp; omega) | (simp only [List.length_append, List.length_cons, List.length_nil] at *; omega)) (fun a ha => GoT.okm (show (n + 3) ≤ (n + 4) by omega) ((all_app (okl hm87).2 (fun a ha => GoT.okm (by omega) ((okl hm86).2 a ha))) a ha)) : GoT.ok (n + 4) ((((spec_BytesToInts (spec_AppendName ([]) x_.name)) ++ (spec_BytesToInts x_.content)) ++ (spec_BytesToInts (spec_AppendName ([]) x_.keyName))) : List Int)), (ok_DataP hokx_).2.2.2.1⟩ (by kernel_rfl) (.cons rfl (.cons rfl (.nil))) .nil .nil [197, 0, 1, 2] rfl
   ·skip
    refine TS.op 9 rfl (by kernel_rfl) ?_
    refine WX.bld ttOk rfl rfl rfl rfl rfl rfl rfl ?_
    intro p56
    refine R0 ?_
    refine WX.turn [] 229 rfl (fun h hs => ol_one (α := Int) (a := x_.freshUntil) (x := ()) hs) (gs := [MF.ol [.int .i64 (x_.freshUntil)] ([x_.freshUntil] : List Int)]) rfl ?_
    refine WX.seal 22 229 230 rfl rfl rfl rfl rfl ?_
    refine WX.turn [231] 201 rfl (fun _ h => h) rfl ?_
    refine WX.turn [183] 202 rfl (fun _ h => h) rfl ?_
    refine WX.turn [184] 203 rfl (fun _ h => h) rfl ?_
    have r53 : -9223372036854775808 ≤ x_.freshUntil ∧ x_.freshUntil ≤ 9223372036854775807 := (ok_DataP hokx_).2.2.2.1
    refine WX.back0 ?_
    exact TX.use N_29 (p56, 1, pm38, cm38, pm39, cm39) ⟨(okl_mk (by first | (rw [List.length_append]; (try simp only [List.length_cons, List.length_nil]); omega) | (simp; omega) | (simp only [List.length_append, List.length_cons, List.length_nil] at *; omega)) (all_cons (α := Int) (ok_DataP hokx_).2.2.2.1 (fun a ha => by cases ha)) : GoT.ok n ([x_.freshUntil] : List Int)), hm86, hm87⟩ (by kernel_rfl) (.cons rfl (.cons rfl (.cons rfl (.nil)))) .nil .nil [201, 202, 203, 0, 1, 2] rfl
  refine TX.share (ι := (Option Addr) × Nat × (Option Addr) × Nat × (Option Addr) × Nat) ⟨fun | (pm40, cm40, pm41, cm41, pm42, cm42) => (GoT.ok n ([x_.freshUntil] : List Int)) ∧ (GoT.ok (n + 1) ((spec_AppendName ([]) x_.keyName) : List UInt8)) ∧ (GoT.ok (n + 3) (((spec_BytesToInts (spec_AppendName ([]) x_.name)) ++ (spec_BytesToInts x_.content)) : List Int)), fun _ => 0, fun | (pm40, cm40, pm41, cm41, pm42, cm42) => [(22, .v (.slice pm40 (([x_.freshUntil]).length) cm40)), (17, .v (.slice pm41 (((spec_AppendName ([]) x_.keyName)).length) cm41)), (13, .v (.slice pm42 ((((spec_BytesToInts (spec_AppendName ([]) x_.name)) ++ (spec_BytesToInts x_.content))).length) cm42))], fun | (pm40, cm40, pm41, cm41, pm42, cm42) => [], fun _ => [], fun | (pm40, cm40, pm41, cm41, pm42, cm42) => [(188, MF.os pm40 cm40 ([x_.freshUntil])), (189, MF.os pm41 cm41 (spec_AppendName ([]) x_.keyName)), (190, MF.os pm42 cm42 ((spec_BytesToInts (spec_AppendName ([]) x_.name)) ++ (spec_BytesToInts x_.content))), (0, MF.rs .stb K0 M0 x_.name.parts), (1, MF.rs .stb K1 M1 x_.content), (2, MF.rs .stb K2 M2 x_.keyName.parts)]⟩ 4 #[true, true, true, true, true, false, false, true, true, true, false, false] ?_ (fun N_27 => ?_)
  ·skip
   rintro ⟨pm40, cm40, pm41, cm41, pm42, cm42⟩ ⟨hm88, hm89, hm90⟩
   refine TX.tail [5, 6, 10, 11] rfl rfl (by kernel_rfl) ?_
   refine WX.der 232 (MF.rs .der pm41 cm41 (spec_AppendName ([]) x_.keyName)) rfl (fun _ hΓ => (hΓ.get 189 rfl : OwSl _ _ _ _).rd) ?_
   refine WX.callF 233 (fun _ _ h => GoT.ow_rd h) (fun _ f hf => GoT.fak f hf) rfl rfl rfl rfl rfl (fun _ => rfl) rfl (fun w G bs hI hΓ => f279 w (n + 1) (by omega) (spec_AppendName ([]) x_.keyName) pm41 cm41 (hΓ.get 232 rfl) hm89) (fun _ => rfl) (fun _ => rfl) ?_
   rintro ⟨p57, c39⟩ hq24
   have q24 := len_specBI (spec_AppendName ([]) x_.keyName)
   refine WX.opn (kk := 1) 514 190 235 rfl rfl rfl ?_
   intro xs14 hx14
   refine WX.der 236 (MF.rs .der p57 c39 (spec_BytesToInts (spec_AppendName ([]) x_.keyName))) rfl (fun _ hΓ => (hΓ.get 234 rfl : OwSl _ _ _ _).rd) ?_
   have r54 : (x_.content).length ≤ bd n := (okl (ok_DataP hokx_).2.1).1
   have r55 : ((spec_BytesToInts (spec_AppendName ([]) x_.name)) ++ (spec_BytesToInts x_.content)).length ≤ bd (n + 3) := (okl hm1).1
   have r56 : (spec_AppendName ([]) x_.keyName).length ≤ bd (n + 1) := (okl hm89).1
   have r57 : (spec_BytesToInts (spec_AppendName ([]) x_.keyName)).length ≤ bd (n + 2) := (okl hq24).1
   refine WX.appG1 514 236 237 ((((spec_BytesToInts (spec_AppendName ([]) x_.name)) ++ (spec_BytesToInts x_.content)) ++ (spec_BytesToInts (spec_AppendName ([]) x_.keyName))) : List Int).length ttOk rfl rfl rfl rfl rfl rfl rfl rfl rfl rfl rfl rfl rfl (by first | (simp; done) | (simp; omega)) (by first | (rw [List.length_append]; (try simp only [List.length_cons, List.length_nil]); omega) | (simp; omega) | (simp only [List.length_append, List.length_cons, List.length_nil] at *; omega)) (by first | (rw [List.length_append]; (try simp only [List.length_cons, List.length_nil]); omega) | (simp; omega) | (simp only [List.length_append, List.length_cons, List.length_nil] at *; omega)) (fun _ _ _ => rfl) ?_
   intro ys13 p58 c40
   refine WX.know (fun G hΓ => (hΓ.get 237 rfl : RdL _ _ _).flat) ?_
   intro hf13
   refine WX.turn [235] 238 rfl (fun h hs => ol_flat hs hf13) (gs := [MF.ol (xs14 ++ ys13) ((((spec_BytesToInts (spec_AppendName ([]) x_.name)) ++ (spec_BytesToInts x_.content)) ++ (spec_BytesToInts (spec_AppendName ([]) x_.keyName))) : List Int)]) rfl ?_
   refine WX.der 239 (MF.rs .der pm40 cm40 ([x_.freshUntil])) rfl (fun _ hΓ => (hΓ.get 188 rfl : OwSl _ _ _ _).rd) ?_
   have r58 : -9223372036854775808 ≤ x_.freshUntil ∧ x_.freshUntil ≤ 9223372036854775807 := (ok_DataP hokx_).2.2.2.1
   have r59 : ([x_.freshUntil]).length ≤ bd n := (okl hm88).1
   refine WX.appG1 514 239 240 (((((spec_BytesToInts (spec_AppendName ([]) x_.name)) ++ (spec_BytesToInts x_.content)) ++ (spec_BytesToInts (spec_AppendName ([]) x_.keyName))) ++ [x_.freshUntil]) : List Int).length ttOk rfl rfl rfl rfl rfl rfl rfl rfl rfl rfl rfl rfl rfl (by first | (simp; done) | (simp; omega)) (by first | (rw [List.length_append]; (try simp only [List.length_cons, List.length_nil]); omega) | (simp; omega) | (simp only [List.length_append, List.length_cons, List.length_nil] at *; omega)) (by first | (rw [List.length_append]; (try simp only [List.length_cons, List.length_nil]); omega) | (simp; omega) | (simp only [List.length_append, List.length_cons, List.length_nil] at *; omega)) (fun _ _ _ => rfl) ?_
   intro ys14 p59 c41
   refine WX.know (fun G hΓ => (hΓ.get 240 rfl : RdL _ _ _).flat) ?_
   intro hf14
   refine WX.turn [238] 241 rfl (fun h hs => ol_flat hs hf14) (gs := [MF.ol ((xs14 ++ ys13) ++ ys14) (((((spec_BytesToInts (spec_AppendName ([]) x_.name)) ++ (spec_BytesToInts x_.content)) ++ (spec_BytesToInts (spec_AppendName ([]) x_.keyName))) ++ [x_.freshUntil]) : List Int)]) rfl ?_
   refine R0 ?_
   refine WX.seal 514 241 242 rfl rfl rfl rfl rfl ?_
   refine WX.turn [243] 126 rfl (fun _ h => h) rfl ?_
   exact WX.iter (p59, c41) (okl_mk (by first | (rw [List.length_append]; (try simp only [List.length_cons, List.length_nil]); omega) | (simp; omega) | (simp only [List.length_append, List.length_cons, List.length_nil] at *; omega)) (fun a ha => GoT.okm (show (n + 4) ≤ (n + 5) by omega) ((all_app (fun a ha => GoT.okm (show (n + 3) ≤ (n + 4) by omega) ((all_app (okl hm90).2 (fun a ha => GoT.okm (by omega) ((okl hq24).2 a ha))) a ha)) (fun a ha => GoT.okm (by omega) ((okl hm88).2 a ha))) a ha)) : GoT.ok (n + 5) (((((spec_BytesToInts (spec_AppendName ([]) x_.name)) ++ (spec_BytesToInts x_.content)) ++ (spec_BytesToInts (spec_AppendName ([]) x_.keyName))) ++ [x_.freshUntil]) : List Int)) Nat.zero_lt_one (.cons rfl (.nil)) .nil .nil [126, 0, 1, 2] rfl
  refine TX.share (ι := (Option Addr) × Nat × (Option Addr) × Nat) ⟨fun | (pm30, cm30, pm31, cm31) => (GoT.ok (n + 2) ((spec_BytesToInts (spec_AppendName ([]) x_.keyName)) : List Int)) ∧ (GoT.ok (n + 3) (((spec_BytesToInts (spec_AppendName ([]) x_.name)) ++ (spec_BytesToInts x_.content)) : List Int)) ∧ (-9223372036854775808 ≤ x_.freshUntil ∧ x_.freshUntil ≤ 9223372036854775807) ∧ (-9223372036854775808 ≤ x_.signature ∧ x_.signature ≤ 9223372036854775807), fun _ => 0, fun | (pm30, cm30, pm31, cm31) => [(18, .v (.slice pm30 (((spec_BytesToInts (spec_AppendName ([]) x_.keyName))).length) cm30)), (20, .p 1 3), (13, .v (.slice pm31 ((((spec_BytesToInts (spec_AppendName ([]) x_.name)) ++ (spec_BytesToInts x_.content))).length) cm31))], fun | (pm30, cm30, pm31, cm31) => [(1, ⟨32, [.slice K0 ((x_.name.parts).length) M0, .slice K1 ((x_.content).length) M1, .slice K2 ((x_.keyName.parts).length) M2, .int .i64 (x_.freshUntil), .int .i64 (x_.signature)]⟩)], fun _ => [], fun | (pm30, cm30, pm31, cm31) => [(166, MF.os pm30 cm30 (spec_BytesToInts (spec_AppendName ([]) x_.keyName))), (167, MF.os pm31 cm31 ((spec_BytesToInts (spec_AppendName ([]) x_.name)) ++ (spec_BytesToInts x_.content))), (0, MF.rs .stb K0 M0 x_.name.parts), (1, MF.rs .stb K1 M1 x_.content), (2, MF.rs .stb K2 M2 x_.keyName.parts)]⟩ 5 #[true, true, true, true, true, true, false, true, false, false, false, false] ?_ (fun N_22 => ?_)
  ·skip
   rintro ⟨pm30, cm30, pm31, cm31⟩ ⟨hm72, hm73, hm74, hm75⟩
   refine TX.all2 6 8 (by kernel_rfl) ?_ ?_
   ·skip
    refine TS.op 6 rfl (by kernel_rfl) ?_
    refine WX.opn (kk := 1) 515 167 244 rfl rfl rfl ?_
    intro xs15 hx15
    refine WX.der 245 (MF.rs .der pm30 cm30 (spec_BytesToInts (spec_AppendName ([]) x_.keyName))) rfl (fun _ hΓ => (hΓ.get 166 rfl : OwSl _ _ _ _).rd) ?_
    have r60 : (x_.content).length ≤ bd n := (okl (ok_DataP hokx_).2.1).1
    have r61 : ((spec_BytesToInts (spec_AppendName ([]) x_.name)) ++ (spec_BytesToInts x_.content)).length ≤ bd (n + 3) := (okl hm1).1
    have r62 : (spec_BytesToInts (spec_AppendName ([]) x_.keyName)).length ≤ bd (n + 2) := (okl hm72).1
    refine WX.appG1 515 245 246 ((((spec_BytesToInts (spec_AppendName ([]) x_.name)) ++ (spec_BytesToInts x_.content)) ++ (spec_BytesToInts (spec_AppendName ([]) x_.keyName))) : List Int).length ttOk rfl rfl rfl rfl rfl rfl rfl rfl rfl rfl rfl rfl rfl (by first | (simp; done) | (simp; omega)) (by first | (rw [List.length_append]; (try simp only [List.length_cons, List.length_nil]); omega) | (simp; omega) | (simp only [List.length_append, List.length_cons, List.length_nil] at *; omega)) (by first | (rw [List.length_append]; (try simp only [List.length_cons, List.length_nil]); omega) | (simp; omega) | (simp only [List.length_append, List.length_cons, List.length_nil] at *; omega)) (fun _ _ _ => rfl) ?_
    intro ys15 p60 c42
    refine WX.know (fun G hΓ => (hΓ.get 246 rfl : RdL _ _ _).flat) ?_
    intro hf15
    refine WX.turn [244] 247 rfl (fun h hs => ol_flat hs hf15) (gs := [MF.ol (xs15 ++ ys15) ((((spec_BytesToInts (spec_AppendName ([]) x_.name)) ++ (spec_BytesToInts x_.content)) ++ (spec_BytesToInts (spec_AppendName ([]) x_.keyName))) : List Int)]) rfl ?_
    refine R0 ?_
    refine WX.seal 515 247 248 rfl rfl rfl rfl rfl ?_
    refine WX.turn [249] 182 rfl (fun _ h => h) rfl ?_
    refine WX.back0 ?_
    exact TX.use N_25 (p60, c42) ⟨(okl_mk (by first | (rw [List.length_append]; (try simp only [List.length_cons, List.length_nil]); omega) | (simp; omega) | (simp only [List.length_append, List.length_cons, List.length_nil] at *; omega)) (fun a ha => GoT.okm (show (n + 3) ≤ (n + 4) by omega) ((all_app (okl hm73).2 (fun a ha => GoT.okm (by omega) ((okl hm72).2 a ha))) a ha)) : GoT.ok (n + 4) ((((spec_BytesToInts (spec_AppendName ([]) x_.name)) ++ (spec_BytesToInts x_.content)) ++ (spec_BytesToInts (spec_AppendName ([]) x_.keyName))) : List Int)), (ok_DataP hokx_).2.2.2.1, (ok_DataP hokx_).2.2.2.2⟩ (by kernel_rfl) (.cons rfl (.cons rfl (.nil))) (.cons rfl (.nil)) .nil [182, 0, 1, 2] rfl
   ·skip
    refine TS.op 8 rfl (by kernel_rfl) ?_
    refine R0 ?_
    refine WX.turn [166] 183 rfl (fun _ h => h) rfl ?_
    refine WX.turn [167] 184 rfl (fun _ h => h) rfl ?_
    refine WX.back0 ?_
    exact TX.use N_26 (pm30, cm30, pm31, cm31) ⟨(ok_DataP hokx_).2.2.2.1, hm72, hm73⟩ (by kernel_rfl) (.cons rfl (.cons rfl (.cons rfl (.nil)))) .nil .nil [183, 184, 0, 1, 2] rfl
  refine TX.share (ι := (Option Addr) × Nat × (Option Addr) × Nat) ⟨fun | (pm32, cm32, pm33, cm33) => (-9223372036854775808 ≤ x_.freshUntil ∧ x_.freshUntil ≤ 9223372036854775807) ∧ (GoT.ok (n + 1) ((spec_AppendName ([]) x_.keyName) : List UInt8)) ∧ (GoT.ok (n + 3) (((spec_BytesToInts (spec_AppendName ([]) x_.name)) ++ (spec_BytesToInts x_.content)) : List Int)), fun _ => 0, fun | (pm32, cm32, pm33, cm33) => [(21, .v (.int .i64 (x_.freshUntil))), (17, .v (.slice pm32 (((spec_AppendName ([]) x_.keyName)).length) cm32)), (13, .v (.slice pm33 ((((spec_BytesToInts (spec_AppendName ([]) x_.name)) ++ (spec_BytesToInts x_.content))).length) cm33))], fun | (pm32, cm32, pm33, cm33) => [], fun _ => [], fun | (pm32, cm32, pm33, cm33) => [(168, MF.os pm32 cm32 (spec_AppendName ([]) x_.keyName)), (169, MF.os pm33 cm33 ((spec_BytesToInts (spec_AppendName ([]) x_.name)) ++ (spec_BytesToInts x_.content))), (0, MF.rs .stb K0 M0 x_.name.parts), (1, MF.rs .stb K1 M1 x_.content), (2, MF.rs .stb K2 M2 x_.keyName.parts)]⟩ 5 #[true, true, true, true, true, false, false, true, true, false, false, false] ?_ (fun N_23 => ?_)
  ·skip
   rintro ⟨pm32, cm32, pm33, cm33⟩ ⟨hm76, hm77, hm78⟩
   refine TX.all2 5 9 (by kernel_rfl) ?_ ?_
   ·skip
    refine TS.op 5 rfl (by kernel_rfl) ?_
    refine WX.der 250 (MF.rs .der pm32 cm32 (spec_AppendName ([]) x_.keyName)) rfl (fun _ hΓ => (hΓ.get 168 rfl : OwSl _ _ _ _).rd) ?_
    refine WX.callF 251 (fun _ _ h => GoT.ow_rd h) (fun _ f hf => GoT.fak f hf) rfl rfl rfl rfl rfl (fun _ => rfl) rfl (fun w G bs hI hΓ => f279 w (n + 1) (by omega) (spec_AppendName ([]) x_.keyName) pm32 cm32 (hΓ.get 250 rfl) hm77) (fun _ => rfl) (fun _ => rfl) ?_
    rintro ⟨p61, c43⟩ hq25
    have q25 := len_specBI (spec_AppendName ([]) x_.keyName)
    refine R0 ?_
    refine WX.turn [252] 183 rfl (fun _ h => h) rfl ?_
    refine WX.turn [169] 184 rfl (fun _ h => h) rfl ?_
    refine WX.back0 ?_
    exact TX.use N_26 (p61, c43, pm33, cm33) ⟨(ok_DataP hokx_).2.2.2.1, hq25, hm78⟩ (by kernel_rfl) (.cons rfl (.cons rfl (.cons rfl (.nil)))) .nil .nil [183, 184, 0, 1, 2] rfl
   ·skip
    refine TS.op 9 rfl (by kernel_rfl) ?_
    refine WX.bld ttOk rfl rfl rfl rfl rfl rfl rfl ?_
    intro p62
    refine R0 ?_
    refine WX.turn [] 253 rfl (fun h hs => ol_one (α := Int) (a := x_.freshUntil) (x := ()) hs) (gs := [MF.ol [.int .i64 (x_.freshUntil)] ([x_.freshUntil] : List Int)]) rfl ?_
    refine WX.seal 22 253 254 rfl rfl rfl rfl rfl ?_
    refine WX.turn [255] 188 rfl (fun _ h => h) rfl ?_
    refine WX.turn [168] 189 rfl (fun _ h => h) rfl ?_
    refine WX.turn [169] 190 rfl (fun _ h => h) rfl ?_
    have r63 : -9223372036854775808 ≤ x_.freshUntil ∧ x_.freshUntil ≤ 9223372036854775807 := (ok_DataP hokx_).2.2.2.1
    refine WX.back0 ?_
    exact TX.use N_27 (p62, 1, pm32, cm32, pm33, cm33) ⟨(okl_mk (by first | (rw [List.length_append]; (try simp only [List.length_cons, List.length_nil]); omega) | (simp; omega) | (simp only [List.length_append, List.length_cons, List.length_nil] at *; omega)) (all_cons (α := Int) (ok_DataP hokx_).2.2.2.1 (fun a ha => by cases ha)) : GoT.ok n ([x_.freshUntil] : List Int)), hm77, hm78⟩ (by kernel_rfl) (.cons rfl (.cons rfl (.cons rfl (.nil)))) .nil .nil [188, 189, 190, 0, 1, 2] rfl
  refine TX.share (ι := (Option Addr) × Nat × (Option Addr) × Nat × (Option Addr) × Nat) ⟨fun | (pm34, cm34, pm35, cm35, pm36, cm36) => (GoT.ok n ([x_.freshUntil] : List Int)) ∧ (GoT.ok n ([] : List UInt8)) ∧ (GoT.ok (n + 3) (((spec_BytesToInts (spec_AppendName ([]) x_.name)) ++ (spec_BytesToInts x_.content)) : List Int)), fun _ => 0, fun | (pm34, cm34, pm35, cm35, pm36, cm36) => [(22, .v (.slice pm34 (([x_.freshUntil]).length) cm34)), (16, .v (.agg #[.slice K2 ((x_.keyName.parts).length) M2])), (14, .v (.slice pm35 (0) cm35)), (13, .v (.slice pm36 ((((spec_BytesToInts (spec_AppendName ([]) x_.name)) ++ (spec_BytesToInts x_.content))).length) cm36))], fun | (pm34, cm34, pm35, cm35, pm36, cm36) => [], fun _ => [], fun | (pm34, cm34, pm35, cm35, pm36, cm36) => [(173, MF.os pm34 cm34 ([x_.freshUntil])), (2, MF.rs .stb K2 M2 x_.keyName.parts), (174, MF.os pm35 cm35 ([] : List UInt8)), (175, MF.os pm36 cm36 ((spec_BytesToInts (spec_AppendName ([]) x_.name)) ++ (spec_BytesToInts x_.content))), (0, MF.rs .stb K0 M0 x_.name.parts), (1, MF.rs .stb K1 M1 x_.content)]⟩ 5 #[true, true, true, true, false, false, false, true, true, true, false, false] ?_ (fun N_24 => ?_)
  ·skip
   rintro ⟨pm34, cm34, pm35, cm35, pm36, cm36⟩ ⟨hm79, hm80, hm81⟩
   refine TX.tail [4, 5, 6, 10, 11] rfl rfl (by kernel_rfl) ?_
   refine WX.der 256 (MF.rs .der pm35 cm35 ([])) rfl (fun _ hΓ => (hΓ.get 174 rfl : OwSl _ _ _ _).rd) ?_
   refine WX.callF 257 (fun _ _ h => GoT.ow_rd h) (fun _ f hf => GoT.fak f hf) rfl rfl rfl rfl rfl (fun _ => rfl) rfl (fun w G bs hI hΓ => f280 w n (by omega) ([]) pm35 cm35 (hΓ.get 256 rfl) x_.keyName K2 M2 (hΓ.get 2 rfl) hm80 ((ok_DataP hokx_).2.2.1)) (fun _ => rfl) (fun _ => rfl) ?_
   rintro ⟨p63, c44⟩ hq26
   have q26 := len_specAN ([]) x_.keyName
   refine WX.callF 259 (fun _ _ h => GoT.ow_rd h) (fun _ f hf => GoT.fak f hf) rfl rfl rfl rfl rfl (fun _ => rfl) rfl (fun w G bs hI hΓ => f279 w (n + 1) (by omega) (spec_AppendName ([]) x_.keyName) p63 c44 (hΓ.get 257 rfl) hq26) (fun _ => rfl) (fun _ => rfl) ?_
   rintro ⟨p64, c45⟩ hq27
   have q27 := len_specBI (spec_AppendName ([]) x_.keyName)
   refine WX.opn (kk := 1) 516 175 261 rfl rfl rfl ?_
   intro xs16 hx16
   refine WX.der 262 (MF.rs .der p64 c45 (spec_BytesToInts (spec_AppendName ([]) x_.keyName))) rfl (fun _ hΓ => (hΓ.get 260 rfl : OwSl _ _ _ _).rd) ?_
   have r64 : (x_.content).length ≤ bd n := (okl (ok_DataP hokx_).2.1).1
   have r65 : ((spec_BytesToInts (spec_AppendName ([]) x_.name)) ++ (spec_BytesToInts x_.content)).length ≤ bd (n + 3) := (okl hm1).1
   have r66 : ([]).length ≤ bd n := (okl hm80).1
   have r67 : (spec_AppendName ([]) x_.keyName).length ≤ bd (n + 1) := (okl hq26).1
   have r68 : (spec_BytesToInts (spec_AppendName ([]) x_.keyName)).length ≤ bd (n + 2) := (okl hq27).1
   refine WX.appG1 516 262 263 ((((spec_BytesToInts (spec_AppendName ([]) x_.name)) ++ (spec_BytesToInts x_.content)) ++ (spec_BytesToInts (spec_AppendName ([]) x_.keyName))) : List Int).length ttOk rfl rfl rfl rfl rfl rfl rfl rfl rfl rfl rfl rfl rfl (by first | (simp; done) | (simp; omega)) (by first | (rw [List.length_append]; (try simp only [List.length_cons, List.length_nil]); omega) | (simp; omega) | (simp only [List.length_append, List.length_cons, List.length_nil] at *; omega)) (by first | (rw [List.length_append]; (try simp only [List.length_cons, List.length_nil]); omega) | (simp; omega) | (simp only [List.length_append, List.length_cons, List.length_nil] at *; omega)) (fun _ _ _ => rfl) ?_
   intro ys16 p65 c46
   refine WX.know (fun G hΓ => (hΓ.get 263 rfl : RdL _ _ _).flat) ?_
   intro hf16
   refine WX.turn [261] 264 rfl (fun h hs => ol_flat hs hf16) (gs := [MF.ol (xs16 ++ ys16) ((((spec_BytesToInts (spec_AppendName ([]) x_.name)) ++ (spec_BytesToInts x_.content)) ++ (spec_BytesToInts (spec_AppendName ([]) x_.keyName))) : List Int)]) rfl ?_
   refine WX.der 265 (MF.rs .der pm34 cm34 ([x_.freshUntil])) rfl (fun _ hΓ => (hΓ.get 173 rfl : OwSl _ _ _ _).rd) ?_
   have r69 : -9223372036854775808 ≤ x_.freshUntil ∧ x_.freshUntil ≤ 9223372036854775807 := (ok_DataP hokx_).2.2.2.1
   have r70 : ([x_.freshUntil]).length ≤ bd n := (okl hm79).1
   refine WX.appG1 516 265 266 (((((spec_BytesToInts (spec_AppendName ([]) x_.name)) ++ (spec_BytesToInts x_.content)) ++ (spec_BytesToInts (spec_AppendName ([]) x_.keyName))) ++ [x_.freshUntil]) : List Int).length ttOk rfl rfl rfl rfl rfl rfl rfl rfl rfl rfl rfl rfl rfl (by first | (simp; done) | (simp; omega)) (by first | (rw [List.length_append]; (try simp only [List.length_cons, List.length_nil]); omega) | (simp; omega) | (simp only [List.length_append, List.length_cons, List.length_nil] at *; omega)) (by first | (rw [List.length_append]; (try simp only [List.length_cons, List.length_nil]); omega) | (simp; omega) | (simp only [List.length_append, List.length_cons, List.length_nil] at *; omega)) (fun _ _ _ => rfl) ?_
   intro ys17 p66 c47
   refine WX.know (fun G hΓ => (hΓ.get 266 rfl : RdL _ _ _).flat) ?_
   intro hf17
   refine WX.turn [264] 267 rfl (fun h hs => ol_flat hs hf17) (gs := [MF.ol ((xs16 ++ ys16) ++ ys17) (((((spec_BytesToInts (spec_AppendName ([]) x_.name)) ++ (spec_BytesToInts x_.content)) ++ (spec_BytesToInts (spec_AppendName ([]) x_.keyName))) ++ [x_.freshUntil]) : List Int)]) rfl ?_
   refine R0 ?_
   refine WX.seal 516 267 268 rfl rfl rfl rfl rfl ?_
   refine WX.turn [269] 126 rfl (fun _ h => h) rfl ?_
   exact WX.iter (p66, c47) (okl_mk (by first | (rw [List.length_append]; (try simp only [List.length_cons, List.length_nil]); omega) | (simp; omega) | (simp only [List.length_append, List.length_cons, List.length_nil] at *; omega)) (fun a ha => GoT.okm (show (n + 4) ≤ (n + 5) by omega) ((all_app (fun a ha => GoT.okm (show (n + 3) ≤ (n + 4) by omega) ((all_app (okl hm81).2 (fun a ha => GoT.okm (by omega) ((okl hq27).2 a ha))) a ha)) (fun a ha => GoT.okm (by omega) ((okl hm79).2 a ha))) a ha)) : GoT.ok (n + 5) (((((spec_BytesToInts (spec_AppendName ([]) x_.name)) ++ (spec_BytesToInts x_.content)) ++ (spec_BytesToInts (spec_AppendName ([]) x_.keyName))) ++ [x_.freshUntil]) : List Int)) Nat.zero_lt_one (.cons rfl (.nil)) .nil .nil [126, 0, 1, 2] rfl
  refine TX.share (ι := (Option Addr) × Nat × (Option Addr) × Nat) ⟨fun | (pm21, cm21, pm22, cm22) => (GoT.ok (n + 1) ((spec_AppendName ([]) x_.keyName) : List UInt8)) ∧ (GoT.ok (n + 3) (((spec_BytesToInts (spec_AppendName ([]) x_.name)) ++ (spec_BytesToInts x_.content)) : List Int)) ∧ (-9223372036854775808 ≤ x_.freshUntil ∧ x_.freshUntil ≤ 9223372036854775807) ∧ (-9223372036854775808 ≤ x_.signature ∧ x_.signature ≤ 9223372036854775807), fun _ => 0, fun | (pm21, cm21, pm22, cm22) => [(17, .v (.slice pm21 (((spec_AppendName ([]) x_.keyName)).length) cm21)), (20, .p 1 3), (13, .v (.slice pm22 ((((spec_BytesToInts (spec_AppendName ([]) x_.name)) ++ (spec_BytesToInts x_.content))).length) cm22))], fun | (pm21, cm21, pm22, cm22) => [(1, ⟨32, [.slice K0 ((x_.name.parts).length) M0, .slice K1 ((x_.content).length) M1, .slice K2 ((x_.keyName.parts).length) M2, .int .i64 (x_.freshUntil), .int .i64 (x_.signature)]⟩)], fun _ => [], fun | (pm21, cm21, pm22, cm22) => [(148, MF.os pm21 cm21 (spec_AppendName ([]) x_.keyName)), (149, MF.os pm22 cm22 ((spec_BytesToInts (spec_AppendName ([]) x_.name)) ++ (spec_BytesToInts x_.content))), (0, MF.rs .stb K0 M0 x_.name.parts), (1, MF.rs .stb K1 M1 x_.content), (2, MF.rs .stb K2 M2 x_.keyName.parts)]⟩ 6 #[true, true, true, true, true, false, false, true, false, false, false, false] ?_ (fun N_18 => ?_)
  ·skip
   rintro ⟨pm21, cm21, pm22, cm22⟩ ⟨hm58, hm59, hm60, hm61⟩
   refine TX.all2 5 8 (by kernel_rfl) ?_ ?_
   ·skip
    refine TS.op 5 rfl (by kernel_rfl) ?_
    refine WX.der 270 (MF.rs .der pm21 cm21 (spec_AppendName ([]) x_.keyName)) rfl (fun _ hΓ => (hΓ.get 148 rfl : OwSl _ _ _ _).rd) ?_
    refine WX.callF 271 (fun _ _ h => GoT.ow_rd h) (fun _ f hf => GoT.fak f hf) rfl rfl rfl rfl rfl (fun _ => rfl) rfl (fun w G bs hI hΓ => f279 w (n + 1) (by omega) (spec_AppendName ([]) x_.keyName) pm21 cm21 (hΓ.get 270 rfl) hm58) (fun _ => rfl) (fun _ => rfl) ?_
    rintro ⟨p67, c48⟩ hq28
    have q28 := len_specBI (spec_AppendName ([]) x_.keyName)
    refine R0 ?_
    refine WX.turn [272] 166 rfl (fun _ h => h) rfl ?_
    refine WX.turn [149] 167 rfl (fun _ h => h) rfl ?_
    refine WX.back0 ?_
    exact TX.use N_22 (p67, c48, pm22, cm22) ⟨hq28, hm59, (ok_DataP hokx_).2.2.2.1, (ok_DataP hokx_).2.2.2.2⟩ (by kernel_rfl) (.cons rfl (.cons rfl (.cons rfl (.nil)))) (.cons rfl (.nil)) .nil [166, 167, 0, 1, 2] rfl
   ·skip
    refine TS.op 8 rfl (by kernel_rfl) ?_
    refine R0 ?_
    refine WX.turn [148] 168 rfl (fun _ h => h) rfl ?_
    refine WX.turn [149] 169 rfl (fun _ h => h) rfl ?_
    refine WX.back0 ?_
    exact TX.use N_23 (pm21, cm21, pm22, cm22) ⟨(ok_DataP hokx_).2.2.2.1, hm58, hm59⟩ (by kernel_rfl) (.cons rfl (.cons rfl (.cons rfl (.nil)))) .nil .nil [168, 169, 0, 1, 2] rfl
  refine TX.share (ι := (Option Addr) × Nat × (Option Addr) × Nat) ⟨fun | (pm23, cm23, pm24, cm24) => (-9223372036854775808 ≤ x_.freshUntil ∧ x_.freshUntil ≤ 9223372036854775807) ∧ (GoT.ok n ([] : List UInt8)) ∧ (GoT.ok (n + 3) (((spec_BytesToInts (spec_AppendName ([]) x_.name)) ++ (spec_BytesToInts x_.content)) : List Int)), fun _ => 0, fun | (pm23, cm23, pm24, cm24) => [(21, .v (.int .i64 (x_.freshUntil))), (16, .v (.agg #[.slice K2 ((x_.keyName.parts).length) M2])), (14, .v (.slice pm23 (0) cm23)), (13, .v (.slice pm24 ((((spec_BytesToInts (spec_AppendName ([]) x_.name)) ++ (spec_BytesToInts x_.content))).length) cm24))], fun | (pm23, cm23, pm24, cm24) => [], fun _ => [], fun | (pm23, cm23, pm24, cm24) => [(2, MF.rs .stb K2 M2 x_.keyName.parts), (150, MF.os pm23 cm23 ([] : List UInt8)), (151, MF.os pm24 cm24 ((spec_BytesToInts (spec_AppendName ([]) x_.name)) ++ (spec_BytesToInts x_.content))), (0, MF.rs .stb K0 M0 x_.name.parts), (1, MF.rs .stb K1 M1 x_.content)]⟩ 6 #[true, true, true, true, false, false, false, true, true, false, false, false] ?_ (fun N_19 => ?_)
  ·skip
   rintro ⟨pm23, cm23, pm24, cm24⟩ ⟨hm62, hm63, hm64⟩
   refine TX.all2 4 9 (by kernel_rfl) ?_ ?_
   ·skip
    refine TS.op 4 rfl (by kernel_rfl) ?_
    refine WX.der 273 (MF.rs .der pm23 cm23 ([])) rfl (fun _ hΓ => (hΓ.get 150 rfl : OwSl _ _ _ _).rd) ?_
    refine WX.callF 274 (fun _ _ h => GoT.ow_rd h) (fun _ f hf => GoT.fak f hf) rfl rfl rfl rfl rfl (fun _ => rfl) rfl (fun w G bs hI hΓ => f280 w n (by omega) ([]) pm23 cm23 (hΓ.get 273 rfl) x_.keyName K2 M2 (hΓ.get 2 rfl) hm63 ((ok_DataP hokx_).2.2.1)) (fun _ => rfl) (fun _ => rfl) ?_
    rintro ⟨p68, c49⟩ hq29
    have q29 := len_specAN ([]) x_.keyName
    refine R0 ?_
    refine WX.turn [275] 168 rfl (fun _ h => h) rfl ?_
    refine WX.turn [151] 169 rfl (fun _ h => h) rfl ?_
    refine WX.back0 ?_
    exact TX.use N_23 (p68, c49, pm24, cm24) ⟨(ok_DataP hokx_).2.2.2.1, hq29, hm64⟩ (by kernel_rfl) (.cons rfl (.cons rfl (.cons rfl (.nil)))) .nil .nil [168, 169, 0, 1, 2] rfl
   ·skip
    refine TS.op 9 rfl (by kernel_rfl) ?_
    refine WX.bld ttOk rfl rfl rfl rfl rfl rfl rfl ?_
    intro p69
    refine R0 ?_
    refine WX.turn [] 276 rfl (fun h hs => ol_one (α := Int) (a := x_.freshUntil) (x := ()) hs) (gs := [MF.ol [.int .i64 (x_.freshUntil)] ([x_.freshUntil] : List Int)]) rfl ?_
    refine WX.seal 22 276 277 rfl rfl rfl rfl rfl ?_
    refine WX.turn [278] 173 rfl (fun _ h => h) rfl ?_
    refine WX.turn [150] 174 rfl (fun _ h => h) rfl ?_
    refine WX.turn [151] 175 rfl (fun _ h => h) rfl ?_
    have r71 : -9223372036854775808 ≤ x_.freshUntil ∧ x_.freshUntil ≤ 9223372036854775807 := (ok_DataP hokx_).2.2.2.1
    refine WX.back0 ?_
    exact TX.use N_24 (p69, 1, pm23, cm23, pm24, cm24) ⟨(okl_mk (by first | (rw [List.length_append]; (try simp only [List.length_cons, List.length_nil]); omega) | (simp; omega) | (simp only [List.length_append, List.length_cons, List.length_nil] at *; omega)) (all_cons (α := Int) (ok_DataP hokx_).2.2.2.1 (fun a ha => by cases ha)) : GoT.ok n ([x_.freshUntil] : List Int)), hm63, hm64⟩ (by kernel_rfl) (.cons rfl (.cons rfl (.cons rfl (.cons rfl (.nil))))) .nil .nil [173, 2, 174, 175, 0, 1] rfl
  refine TX.share (ι := (Option Addr) × Nat × (Option Addr) × Nat × (Option Addr) × Nat) ⟨fun | (pm25, cm25, pm26, cm26, pm27, cm27) => (GoT.ok n ([x_.freshUntil] : List Int)) ∧ (GoT.ok n ([] : List UInt8)) ∧ (GoT.ok (n + 3) (((spec_BytesToInts (spec_AppendName ([]) x_.name)) ++ (spec_BytesToInts x_.content)) : List Int)) ∧ (-9223372036854775808 ≤ x_.freshUntil ∧ x_.freshUntil ≤ 9223372036854775807) ∧ (-9223372036854775808 ≤ x_.signature ∧ x_.signature ≤ 9223372036854775807), fun _ => 0, fun | (pm25, cm25, pm26, cm26, pm27, cm27) => [(22, .v (.slice pm25 (([x_.freshUntil]).length) cm25)), (14, .v (.slice pm26 (0) cm26)), (15, .p 1 2), (13, .v (.slice pm27 ((((spec_BytesToInts (spec_AppendName ([]) x_.name)) ++ (spec_BytesToInts x_.content))).length) cm27))], fun | (pm25, cm25, pm26, cm26, pm27, cm27) => [(1, ⟨32, [.slice K0 ((x_.name.parts).length) M0, .slice K1 ((x_.content).length) M1, .slice K2 ((x_.keyName.parts).length) M2, .int .i64 (x_.freshUntil), .int .i64 (x_.signature)]⟩)], fun _ => [], fun | (pm25, cm25, pm26, cm26, pm27, cm27) => [(155, MF.os pm25 cm25 ([x_.freshUntil])), (156, MF.os pm26 cm26 ([] : List UInt8)), (157, MF.os pm27 cm27 ((spec_BytesToInts (spec_AppendName ([]) x_.name)) ++ (spec_BytesToInts x_.content))), (0, MF.rs .stb K0 M0 x_.name.parts), (1, MF.rs .stb K1 M1 x_.content), (2, MF.rs .stb K2 M2 x_.keyName.parts)]⟩ 6 #[true, true, true, false, false, false, false, true, true, true, false, false] ?_ (fun N_20 => ?_)
  ·skip
   rintro ⟨pm25, cm25, pm26, cm26, pm27, cm27⟩ ⟨hm65, hm66, hm67, hm68, hm69⟩
   refine TX.tail [3, 4, 5, 6, 10, 11] rfl rfl (by kernel_rfl) ?_
   refine R0 ?_
   refine WX.der 279 (MF.rs .der pm26 cm26 ([])) rfl (fun _ hΓ => (hΓ.get 156 rfl : OwSl _ _ _ _).rd) ?_
   refine WX.callF 280 (fun _ _ h => GoT.ow_rd h) (fun _ f hf => GoT.fak f hf) rfl rfl rfl rfl rfl (fun _ => rfl) rfl (fun w G bs hI hΓ => f280 w n (by omega) ([]) pm26 cm26 (hΓ.get 279 rfl) x_.keyName K2 M2 (hΓ.get 2 rfl) hm66 ((ok_DataP hokx_).2.2.1)) (fun _ => rfl) (fun _ => rfl) ?_
   rintro ⟨p70, c50⟩ hq30
   have q30 := len_specAN ([]) x_.keyName
   refine WX.callF 282 (fun _ _ h => GoT.ow_rd h) (fun _ f hf => GoT.fak f hf) rfl rfl rfl rfl rfl (fun _ => rfl) rfl (fun w G bs hI hΓ => f279 w (n + 1) (by omega) (spec_AppendName ([]) x_.keyName) p70 c50 (hΓ.get 280 rfl) hq30) (fun _ => rfl) (fun _ => rfl) ?_
   rintro ⟨p71, c51⟩ hq31
   have q31 := len_specBI (spec_AppendName ([]) x_.keyName)
   refine WX.opn (kk := 1) 517 157 284 rfl rfl rfl ?_
   intro xs17 hx17
   refine WX.der 285 (MF.rs .der p71 c51 (spec_BytesToInts (spec_AppendName ([]) x_.keyName))) rfl (fun _ hΓ => (hΓ.get 283 rfl : OwSl _ _ _ _).rd) ?_
   have r72 : (x_.content).length ≤ bd n := (okl (ok_DataP hokx_).2.1).1
   have r73 : ((spec_BytesToInts (spec_AppendName ([]) x_.name)) ++ (spec_BytesToInts x_.content)).length ≤ bd (n + 3) := (okl hm1).1
   have r74 : ([]).length ≤ bd n := (okl hm66).1
   have r75 : (spec_AppendName ([]) x_.keyName).length ≤ bd (n + 1) := (okl hq30).1
   have r76 : (spec_BytesToInts (spec_AppendName ([]) x_.keyName)).length ≤ bd (n + 2) := (okl hq31).1
   refine WX.appG1 517 285 286 ((((spec_BytesToInts (spec_AppendName ([]) x_.name)) ++ (spec_BytesToInts x_.content)) ++ (spec_BytesToInts (spec_AppendName ([]) x_.keyName))) : List Int).length ttOk rfl rfl rfl rfl rfl rfl rfl rfl rfl rfl rfl rfl rfl (by first | (simp; done) | (simp; omega)) (by first | (rw [List.length_append]; (try simp only [List.length_cons, List.length_nil]); omega) | (simp; omega) | (simp only [List.length_append, List.length_cons, List.length_nil] at *; omega)) (by first | (rw [List.length_append]; (try simp only [List.length_cons, List.length_nil]); omega) | (simp; omega) | (simp only [List.length_append, List.length_cons, List.length_nil] at *; omega)) (fun _ _ _ => rfl) ?_
   intro ys18 p72 c52
   refine WX.know (fun G hΓ => (hΓ.get 286 rfl : RdL _ _ _).flat) ?_
   intro hf18
   refine WX.turn [284] 287 rfl (fun h hs => ol_flat hs hf18) (gs := [MF.ol (xs17 ++ ys18) ((((spec_BytesToInts (spec_AppendName ([]) x_.name)) ++ (spec_BytesToInts x_.content)) ++ (spec_BytesToInts (spec_AppendName ([]) x_.keyName))) : List Int)]) rfl ?_
   refine WX.der 288 (MF.rs .der pm25 cm25 ([x_.freshUntil])) rfl (fun _ hΓ => (hΓ.get 155 rfl : OwSl _ _ _ _).rd) ?_
   have r77 : -9223372036854775808 ≤ x_.freshUntil ∧ x_.freshUntil ≤ 9223372036854775807 := (ok_DataP hokx_).2.2.2.1
   have r78 : ([x_.freshUntil]).length ≤ bd n := (okl hm65).1
   refine WX.appG1 517 288 289 (((((spec_BytesToInts (spec_AppendName ([]) x_.name)) ++ (spec_BytesToInts x_.content)) ++ (spec_BytesToInts (spec_AppendName ([]) x_.keyName))) ++ [x_.freshUntil]) : List Int).length ttOk rfl rfl rfl rfl rfl rfl rfl rfl rfl rfl rfl rfl rfl (by first | (simp; done) | (simp; omega)) (by first | (rw [List.length_append]; (try simp only [List.length_cons, List.length_nil]); omega) | (simp; omega) | (simp only [List.length_append, List.length_cons, List.length_nil] at *; omega)) (by first | (rw [List.length_append]; (try simp only [List.length_cons, List.length_nil]); omega) | (simp; omega) | (simp only [List.length_append, List.length_cons, List.length_nil] at *; omega)) (fun _ _ _ => rfl) ?_
   intro ys19 p73 c53
   refine WX.know (fun G hΓ => (hΓ.get 289 rfl : RdL _ _ _).flat) ?_
   intro hf19
   refine WX.turn [287] 290 rfl (fun h hs => ol_flat hs hf19) (gs := [MF.ol ((xs17 ++ ys18) ++ ys19) (((((spec_BytesToInts (spec_AppendName ([]) x_.name)) ++ (spec_BytesToInts x_.content)) ++ (spec_BytesToInts (spec_AppendName ([]) x_.keyName))) ++ [x_.freshUntil]) : List Int)]) rfl ?_
   refine R0 ?_
   refine WX.seal 517 290 291 rfl rfl rfl rfl rfl ?_
   refine WX.turn [292] 126 rfl (fun _ h => h) rfl ?_
   exact WX.iter (p73, c53) (okl_mk (by first | (rw [List.length_append]; (try simp only [List.length_cons, List.length_nil]); omega) | (simp; omega) | (simp only [List.length_append, List.length_cons, List.length_nil] at *; omega)) (fun a ha => GoT.okm (show (n + 4) ≤ (n + 5) by omega) ((all_app (fun a ha => GoT.okm (show (n + 3) ≤ (n + 4) by omega) ((all_app (okl hm67).2 (fun a ha => GoT.okm (by omega) ((okl hq31).2 a ha))) a ha)) (fun a ha => GoT.okm (by omega) ((okl hm65).2 a ha))) a ha)) : GoT.ok (n + 5) (((((spec_BytesToInts (spec_AppendName ([]) x_.name)) ++ (spec_BytesToInts x_.content)) ++ (spec_BytesToInts (spec_AppendName ([]) x_.keyName))) ++ [x_.freshUntil]) : List Int)) Nat.zero_lt_one (.cons rfl (.nil)) .nil .nil [126, 0, 1, 2] rfl
  refine TX.share (ι := (Option Addr) × Nat × (Option Addr) × Nat) ⟨fun | (pm28, cm28, pm29, cm29) => (GoT.ok n ([x_.freshUntil] : List Int)) ∧ (GoT.ok (n + 3) (((spec_BytesToInts (spec_AppendName ([]) x_.name)) ++ (spec_BytesToInts x_.content)) : List Int)), fun _ => 0, fun | (pm28, cm28, pm29, cm29) => [(22, .v (.slice pm28 (([x_.freshUntil]).length) cm28)), (16, .v (.agg #[.slice K2 ((x_.keyName.parts).length) M2])), (13, .v (.slice pm29 ((((spec_BytesToInts (spec_AppendName ([]) x_.name)) ++ (spec_BytesToInts x_.content))).length) cm29))], fun | (pm28, cm28, pm29, cm29) => [], fun _ => [], fun | (pm28, cm28, pm29, cm29) => [(161, MF.os pm28 cm28 ([x_.freshUntil])), (2, MF.rs .stb K2 M2 x_.keyName.parts), (162, MF.os pm29 cm29 ((spec_BytesToInts (spec_AppendName ([]) x_.name)) ++ (spec_BytesToInts x_.content))), (0, MF.rs .stb K0 M0 x_.name.parts), (1, MF.rs .stb K1 M1 x_.content)]⟩ 6 #[true, false, true, true, false, false, false, true, true, true, false, false] ?_ (fun N_21 => ?_)
  ·skip
   rintro ⟨pm28, cm28, pm29, cm29⟩ ⟨hm70, hm71⟩
   refine TX.tail [1, 4, 5, 6, 10, 11] rfl rfl (by kernel_rfl) ?_
   refine WX.bld ttOk rfl rfl rfl rfl rfl rfl rfl ?_
   intro p74
   refine WX.free 293 (MF.ol [] ([] : List UInt8)) rfl ?_
   refine WX.seal 14 293 294 rfl rfl rfl rfl rfl ?_
   refine WX.callF 296 (fun _ _ h => GoT.ow_rd h) (fun _ f hf => GoT.fak f hf) rfl rfl rfl rfl rfl (fun _ => rfl) rfl (fun w G bs hI hΓ => f280 w n (by omega) ([]) p74 0 (hΓ.get 294 rfl) x_.keyName K2 M2 (hΓ.get 2 rfl) (okl_mk (Nat.zero_le _) (fun _ _ => trivial) : GoT.ok n ([] : List UInt8)) ((ok_DataP hokx_).2.2.1)) (fun _ => rfl) (fun _ => rfl) ?_
   rintro ⟨p75, c54⟩ hq32
   have q32 := len_specAN ([]) x_.keyName
   refine WX.callF 298 (fun _ _ h => GoT.ow_rd h) (fun _ f hf => GoT.fak f hf) rfl rfl rfl rfl rfl (fun _ => rfl) rfl (fun w G bs hI hΓ => f279 w (n + 1) (by omega) (spec_AppendName ([]) x_.keyName) p75 c54 (hΓ.get 296 rfl) hq32) (fun _ => rfl) (fun _ => rfl) ?_
   rintro ⟨p76, c55⟩ hq33
   have q33 := len_specBI (spec_AppendName ([]) x_.keyName)
   refine WX.opn (kk := 1) 518 162 300 rfl rfl rfl ?_
   intro xs18 hx18
   refine WX.der 301 (MF.rs .der p76 c55 (spec_BytesToInts (spec_AppendName ([]) x_.keyName))) rfl (fun _ hΓ => (hΓ.get 299 rfl : OwSl _ _ _ _).rd) ?_
   have r79 : (x_.content).length ≤ bd n := (okl (ok_DataP hokx_).2.1).1
   have r80 : ((spec_BytesToInts (spec_AppendName ([]) x_.name)) ++ (spec_BytesToInts x_.content)).length ≤ bd (n + 3) := (okl hm1).1
   have r81 : (spec_AppendName ([]) x_.keyName).length ≤ bd (n + 1) := (okl hq32).1
   have r82 : (spec_BytesToInts (spec_AppendName ([]) x_.keyName)).length ≤ bd (n + 2) := (okl hq33).1
   refine WX.appG1 518 301 302 ((((spec_BytesToInts (spec_AppendName ([]) x_.name)) ++ (spec_BytesToInts x_.content)) ++ (spec_BytesToInts (spec_AppendName ([]) x_.keyName))) : List Int).length ttOk rfl rfl rfl rfl rfl rfl rfl rfl rfl rfl rfl rfl rfl (by first | (simp; done) | (simp; omega)) (by first | (rw [List.length_append]; (try simp only [List.length_cons, List.length_nil]); omega) | (simp; omega) | (simp only [List.length_append, List.length_cons, List.length_nil] at *; omega)) (by first | (rw [List.length_append]; (try simp only [List.length_cons, List.length_nil]); omega) | (simp; omega) | (simp only [List.length_append, List.length_cons, List.length_nil] at *; omega)) (fun _ _ _ => rfl) ?_
   intro ys20 p77 c56
   refine WX.know (fun G hΓ => (hΓ.get 302 rfl : RdL _ _ _).flat) ?_
   intro hf20
   refine WX.turn [300] 303 rfl (fun h hs => ol_flat hs hf20) (gs := [MF.ol (xs18 ++ ys20) ((((spec_BytesToInts (spec_AppendName ([]) x_.name)) ++ (spec_BytesToInts x_.content)) ++ (spec_BytesToInts (spec_AppendName ([]) x_.keyName))) : List Int)]) rfl ?_
   refine WX.der 304 (MF.rs .der pm28 cm28 ([x_.freshUntil])) rfl (fun _ hΓ => (hΓ.get 161 rfl : OwSl _ _ _ _).rd) ?_
   have r83 : -9223372036854775808 ≤ x_.freshUntil ∧ x_.freshUntil ≤ 9223372036854775807 := (ok_DataP hokx_).2.2.2.1
   have r84 : ([x_.freshUntil]).length ≤ bd n := (okl hm70).1
   refine WX.appG1 518 304 305 (((((spec_BytesToInts (spec_AppendName ([]) x_.name)) ++ (spec_BytesToInts x_.content)) ++ (spec_BytesToInts (spec_AppendName ([]) x_.keyName))) ++ [x_.freshUntil]) : List Int).length ttOk rfl rfl rfl rfl rfl rfl rfl rfl rfl rfl rfl rfl rfl (by first | (simp; done) | (simp; omega)) (by first | (rw [List.length_append]; (try simp only [List.length_cons, List.length_nil]); omega) | (simp; omega) | (simp only [List.length_append, List.length_cons, List.length_nil] at *; omega)) (by first | (rw [List.length_append]; (try simp only [List.length_cons, List.length_nil]); omega) | (simp; omega) | (simp only [List.length_append, List.length_cons, List.length_nil] at *; omega)) (fun _ _ _ => rfl) ?_
   intro ys21 p78 c57
   refine WX.know (fun G hΓ => (hΓ.get 305 rfl : RdL _ _ _).flat) ?_
   intro hf21
   refine WX.turn [303] 306 rfl (fun h hs => ol_flat hs hf21) (gs := [MF.ol ((xs18 ++ ys20) ++ ys21) (((((spec_BytesToInts (spec_AppendName ([]) x_.name)) ++ (spec_BytesToInts x_.content)) ++ (spec_BytesToInts (spec_AppendName ([]) x_.keyName))) ++ [x_.freshUntil]) : List Int)]) rfl ?_
   refine R0 ?_
   refine WX.seal 518 306 307 rfl rfl rfl rfl rfl ?_
   refine WX.turn [308] 126 rfl (fun _ h => h) rfl ?_
   exact WX.iter (p78, c57) (okl_mk (by first | (rw [List.length_append]; (try simp only [List.length_cons, List.length_nil]); omega) | (simp; omega) | (simp only [List.length_append, List.length_cons, List.length_nil] at *; omega)) (fun a ha => GoT.okm (show (n + 4) ≤ (n + 5) by omega) ((all_app (fun a ha => GoT.okm (show (n + 3) ≤ (n + 4) by omega) ((all_app (okl hm71).2 (fun a ha => GoT.okm (by omega) ((okl hq33).2 a ha))) a ha)) (fun a ha => GoT.okm (by omega) ((okl hm70).2 a ha))) a ha)) : GoT.ok (n + 5) (((((spec_BytesToInts (spec_AppendName ([]) x_.name)) ++ (spec_BytesToInts x_.content)) ++ (spec_BytesToInts (spec_AppendName ([]) x_.keyName))) ++ [x_.freshUntil]) : List Int)) Nat.zero_lt_one (.cons rfl (.nil)) .nil .nil [126, 0, 1, 2] rfl
  refine TX.share (ι := (Option Addr) × Nat × (Option Addr) × Nat) ⟨fun | (pm14, cm14, pm15, cm15) => (GoT.ok n ([] : List UInt8)) ∧ (GoT.ok (n + 3) (((spec_BytesToInts (spec_AppendName ([]) x_.name)) ++ (spec_BytesToInts x_.content)) : List Int)) ∧ (-9223372036854775808 ≤ x_.freshUntil ∧ x_.freshUntil ≤ 9223372036854775807) ∧ (-9223372036854775808 ≤ x_.signature ∧ x_.signature ≤ 9223372036854775807), fun _ => 0, fun | (pm14, cm14, pm15, cm15) => [(16, .v (.agg #[.slice K2 ((x_.keyName.parts).length) M2])), (14, .v (.slice pm14 (0) cm14)), (20, .p 1 3), (13, .v (.slice pm15 ((((spec_BytesToInts (spec_AppendName ([]) x_.name)) ++ (spec_BytesToInts x_.content))).length) cm15))], fun | (pm14, cm14, pm15, cm15) => [(1, ⟨32, [.slice K0 ((x_.name.parts).length) M0, .slice K1 ((x_.content).length) M1, .slice K2 ((x_.keyName.parts).length) M2, .int .i64 (x_.freshUntil), .int .i64 (x_.signature)]⟩)], fun _ => [], fun | (pm14, cm14, pm15, cm15) => [(2, MF.rs .stb K2 M2 x_.keyName.parts), (135, MF.os pm14 cm14 ([] : List UInt8)), (136, MF.os pm15 cm15 ((spec_BytesToInts (spec_AppendName ([]) x_.name)) ++ (spec_BytesToInts x_.content))), (0, MF.rs .stb K0 M0 x_.name.parts), (1, MF.rs .stb K1 M1 x_.content)]⟩ 7 #[true, true, true, true, false, false, false, true, false, false, false, false] ?_ (fun N_14 => ?_)
  ·skip
   rintro ⟨pm14, cm14, pm15, cm15⟩ ⟨hm43, hm44, hm45, hm46⟩
   refine TX.all2 4 8 (by kernel_rfl) ?_ ?_
   ·skip
    refine TS.op 4 rfl (by kernel_rfl) ?_
    refine WX.der 309 (MF.rs .der pm14 cm14 ([])) rfl (fun _ hΓ => (hΓ.get 135 rfl : OwSl _ _ _ _).rd) ?_
    refine WX.callF 310 (fun _ _ h => GoT.ow_rd h) (fun _ f hf => GoT.fak f hf) rfl rfl rfl rfl rfl (fun _ => rfl) rfl (fun w G bs hI hΓ => f280 w n (by omega) ([]) pm14 cm14 (hΓ.get 309 rfl) x_.keyName K2 M2 (hΓ.get 2 rfl) hm43 ((ok_DataP hokx_).2.2.1)) (fun _ => rfl) (fun _ => rfl) ?_
    rintro ⟨p79, c58⟩ hq34
    have q34 := len_specAN ([]) x_.keyName
    refine R0 ?_
    refine WX.turn [311] 148 rfl (fun _ h => h) rfl ?_
    refine WX.turn [136] 149 rfl (fun _ h => h) rfl ?_
    refine WX.back0 ?_
    exact TX.use N_18 (p79, c58, pm15, cm15) ⟨hq34, hm44, (ok_DataP hokx_).2.2.2.1, (ok_DataP hokx_).2.2.2.2⟩ (by kernel_rfl) (.cons rfl (.cons rfl (.cons rfl (.nil)))) (.cons rfl (.nil)) .nil [148, 149, 0, 1, 2] rfl
   ·skip
    refine TS.op 8 rfl (by kernel_rfl) ?_
    refine R0 ?_
    refine WX.turn [135] 150 rfl (fun _ h => h) rfl ?_
    refine WX.turn [136] 151 rfl (fun _ h => h) rfl ?_
    refine WX.back0 ?_
    exact TX.use N_19 (pm14, cm14, pm15, cm15) ⟨(ok_DataP hokx_).2.2.2.1, hm43, hm44⟩ (by kernel_rfl) (.cons rfl (.cons rfl (.cons rfl (.cons rfl (.nil))))) .nil .nil [2, 150, 151, 0, 1] rfl
  refine TX.share (ι := (Option Addr) × Nat × (Option Addr) × Nat) ⟨fun | (pm16, cm16, pm17, cm17) => (-9223372036854775808 ≤ x_.freshUntil ∧ x_.freshUntil ≤ 9223372036854775807) ∧ (GoT.ok n ([] : List UInt8)) ∧ (GoT.ok (n + 3) (((spec_BytesToInts (spec_AppendName ([]) x_.name)) ++ (spec_BytesToInts x_.content)) : List Int)) ∧ (-9223372036854775808 ≤ x_.freshUntil ∧ x_.freshUntil ≤ 9223372036854775807) ∧ (-9223372036854775808 ≤ x_.signature ∧ x_.signature ≤ 9223372036854775807), fun _ => 0, fun | (pm16, cm16, pm17, cm17) => [(21, .v (.int .i64 (x_.freshUntil))), (14, .v (.slice pm16 (0) cm16)), (15, .p 1 2), (13, .v (.slice pm17 ((((spec_BytesToInts (spec_AppendName ([]) x_.name)) ++ (spec_BytesToInts x_.content))).length) cm17))], fun | (pm16, cm16, pm17, cm17) => [(1, ⟨32, [.slice K0 ((x_.name.parts).length) M0, .slice K1 ((x_.content).length) M1, .slice K2 ((x_.keyName.parts).length) M2, .int .i64 (x_.freshUntil), .int .i64 (x_.signature)]⟩)], fun _ => [], fun | (pm16, cm16, pm17, cm17) => [(137, MF.os pm16 cm16 ([] : List UInt8)), (138, MF.os pm17 cm17 ((spec_BytesToInts (spec_AppendName ([]) x_.name)) ++ (spec_BytesToInts x_.content))), (0, MF.rs .stb K0 M0 x_.name.parts), (1, MF.rs .stb K1 M1 x_.content), (2, MF.rs .stb K2 M2 x_.keyName.parts)]⟩ 7 #[true, true, true, false, false, false, false, true, true, false, false, false] ?_ (fun N_15 => ?_)
  ·skip
   rintro ⟨pm16, cm16, pm17, cm17⟩ ⟨hm47, hm48, hm49, hm50, hm51⟩
   refine TX.all2 3 9 (by kernel_rfl) ?_ ?_
   ·skip
    refine TS.op 3 rfl (by kernel_rfl) ?_
    refine R0 ?_
    refine WX.turn [137] 150 rfl (fun _ h => h) rfl ?_
    refine WX.turn [138] 151 rfl (fun _ h => h) rfl ?_
    refine WX.back0 ?_
    exact TX.use N_19 (pm16, cm16, pm17, cm17) ⟨(ok_DataP hokx_).2.2.2.1, hm48, hm49⟩ (by kernel_rfl) (.cons rfl (.cons rfl (.cons rfl (.cons rfl (.nil))))) .nil .nil [2, 150, 151, 0, 1] rfl
   ·skip
    refine TS.op 9 rfl (by kernel_rfl) ?_
    refine WX.bld ttOk rfl rfl rfl rfl rfl rfl rfl ?_
    intro p80
    refine R0 ?_
    refine WX.turn [] 312 rfl (fun h hs => ol_one (α := Int) (a := x_.freshUntil) (x := ()) hs) (gs := [MF.ol [.int .i64 (x_.freshUntil)] ([x_.freshUntil] : List Int)]) rfl ?_
    refine WX.seal 22 312 313 rfl rfl rfl rfl rfl ?_
    refine WX.turn [314] 155 rfl (fun _ h => h) rfl ?_
    refine WX.turn [137] 156 rfl (fun _ h => h) rfl ?_
    refine WX.turn [138] 157 rfl (fun _ h => h) rfl ?_
    have r85 : -9223372036854775808 ≤ x_.freshUntil ∧ x_.freshUntil ≤ 9223372036854775807 := (ok_DataP hokx_).2.2.2.1
    refine WX.back0 ?_
    exact TX.use N_20 (p80, 1, pm16, cm16, pm17, cm17) ⟨(okl_mk (by first | (rw [List.length_append]; (try simp only [List.length_cons, List.length_nil]); omega) | (simp; omega) | (simp only [List.length_append, List.length_cons, List.length_nil] at *; omega)) (all_cons (α := Int) (ok_DataP hokx_).2.2.2.1 (fun a ha => by cases ha)) : GoT.ok n ([x_.freshUntil] : List Int)), hm48, hm49, (ok_DataP hokx_).2.2.2.1, (ok_DataP hokx_).2.2.2.2⟩ (by kernel_rfl) (.cons rfl (.cons rfl (.cons rfl (.cons rfl (.nil))))) (.cons rfl (.nil)) .nil [155, 156, 157, 0, 1, 2] rfl
  refine TX.share (ι := (Option Addr) × Nat) ⟨fun | (pm18, cm18) => (-9223372036854775808 ≤ x_.freshUntil ∧ x_.freshUntil ≤ 9223372036854775807) ∧ (GoT.ok (n + 3) (((spec_BytesToInts (spec_AppendName ([]) x_.name)) ++ (spec_BytesToInts x_.content)) : List Int)), fun _ => 0, fun | (pm18, cm18) => [(21, .v (.int .i64 (x_.freshUntil))), (16, .v (.agg #[.slice K2 ((x_.keyName.parts).length) M2])), (13, .v (.slice pm18 ((((spec_BytesToInts (spec_AppendName ([]) x_.name)) ++ (spec_BytesToInts x_.content))).length) cm18))], fun | (pm18, cm18) => [], fun _ => [], fun | (pm18, cm18) => [(2, MF.rs .stb K2 M2 x_.keyName.parts), (139, MF.os pm18 cm18 ((spec_BytesToInts (spec_AppendName ([]) x_.name)) ++ (spec_BytesToInts x_.content))), (0, MF.rs .stb K0 M0 x_.name.parts), (1, MF.rs .stb K1 M1 x_.content)]⟩ 7 #[true, false, true, true, false, false, false, true, true, false, false, false] ?_ (fun N_16 => ?_)
  ·skip
   rintro ⟨pm18, cm18⟩ ⟨hm52, hm53⟩
   refine TX.all2 1 9 (by kernel_rfl) ?_ ?_
   ·skip
    refine TS.op 1 rfl (by kernel_rfl) ?_
    refine WX.bld ttOk rfl rfl rfl rfl rfl rfl rfl ?_
    intro p81
    refine R0 ?_
    refine WX.free 315 (MF.ol [] ([] : List UInt8)) rfl ?_
    refine WX.seal 14 315 316 rfl rfl rfl rfl rfl ?_
    refine WX.turn [317] 150 rfl (fun _ h => h) rfl ?_
    refine WX.turn [139] 151 rfl (fun _ h => h) rfl ?_
    refine WX.back0 ?_
    exact TX.use N_19 (p81, 0, pm18, cm18) ⟨(ok_DataP hokx_).2.2.2.1, (okl_mk (Nat.zero_le _) (fun _ _ => trivial) : GoT.ok n ([] : List UInt8)), hm53⟩ (by kernel_rfl) (.cons rfl (.cons rfl (.cons rfl (.cons rfl (.nil))))) .nil .nil [2, 150, 151, 0, 1] rfl
   ·skip
    refine TS.op 9 rfl (by kernel_rfl) ?_
    refine WX.bld ttOk rfl rfl rfl rfl rfl rfl rfl ?_
    intro p82
    refine R0 ?_
    refine WX.turn [] 318 rfl (fun h hs => ol_one (α := Int) (a := x_.freshUntil) (x := ()) hs) (gs := [MF.ol [.int .i64 (x_.freshUntil)] ([x_.freshUntil] : List Int)]) rfl ?_
    refine WX.seal 22 318 319 rfl rfl rfl rfl rfl ?_
    refine WX.turn [320] 161 rfl (fun _ h => h) rfl ?_
    refine WX.turn [139] 162 rfl (fun _ h => h) rfl ?_
    have r86 : -9223372036854775808 ≤ x_.freshUntil ∧ x_.freshUntil ≤ 9223372036854775807 := (ok_DataP hokx_).2.2.2.1
    refine WX.back0 ?_
    exact TX.use N_21 (p82, 1, pm18, cm18) ⟨(okl_mk (by first | (rw [List.length_append]; (try simp only [List.length_cons, List.length_nil]); omega) | (simp; omega) | (simp only [List.length_append, List.length_cons, List.length_nil] at *; omega)) (all_cons (α := Int) (ok_DataP hokx_).2.2.2.1 (fun a ha => by cases ha)) : GoT.ok n ([x_.freshUntil] : List Int)), hm53⟩ (by kernel_rfl) (.cons rfl (.cons rfl (.cons rfl (.nil)))) .nil .nil [161, 2, 162, 0, 1] rfl
  refine TX.share (ι := (Option Addr) × Nat × (Option Addr) × Nat) ⟨fun | (pm19, cm19, pm20, cm20) => (GoT.ok n ([x_.freshUntil] : List Int)) ∧ (GoT.ok (n + 3) (((spec_BytesToInts (spec_AppendName ([]) x_.name)) ++ (spec_BytesToInts x_.content)) : List Int)) ∧ (-9223372036854775808 ≤ x_.freshUntil ∧ x_.freshUntil ≤ 9223372036854775807) ∧ (-9223372036854775808 ≤ x_.signature ∧ x_.signature ≤ 9223372036854775807), fun _ => 0, fun | (pm19, cm19, pm20, cm20) => [(22, .v (.slice pm19 (([x_.freshUntil]).length) cm19)), (15, .p 1 2), (13, .v (.slice pm20 ((((spec_BytesToInts (spec_AppendName ([]) x_.name)) ++ (spec_BytesToInts x_.content))).length) cm20))], fun | (pm19, cm19, pm20, cm20) => [(1, ⟨32, [.slice K0 ((x_.name.parts).length) M0, .slice K1 ((x_.content).length) M1, .slice K2 ((x_.keyName.parts).length) M2, .int .i64 (x_.freshUntil), .int .i64 (x_.signature)]⟩)], fun _ => [], fun | (pm19, cm19, pm20, cm20) => [(143, MF.os pm19 cm19 ([x_.freshUntil])), (144, MF.os pm20 cm20 ((spec_BytesToInts (spec_AppendName ([]) x_.name)) ++ (spec_BytesToInts x_.content))), (0, MF.rs .stb K0 M0 x_.name.parts), (1, MF.rs .stb K1 M1 x_.content), (2, MF.rs .stb K2 M2 x_.keyName.parts)]⟩ 7 #[true, false, true, false, false, false, false, true, true, true, false, false] ?_ (fun N_17 => ?_)
  ·skip
   rintro ⟨pm19, cm19, pm20, cm20⟩ ⟨hm54, hm55, hm56, hm57⟩
   refine TX.all2 1 3 (by kernel_rfl) ?_ ?_
   ·skip
    refine TS.op 1 rfl (by kernel_rfl) ?_
    refine WX.bld ttOk rfl rfl rfl rfl rfl rfl rfl ?_
    intro p83
    refine R0 ?_
    refine WX.free 321 (MF.ol [] ([] : List UInt8)) rfl ?_
    refine WX.seal 14 321 322 rfl rfl rfl rfl rfl ?_
    refine WX.turn [143] 155 rfl (fun _ h => h) rfl ?_
    refine WX.turn [323] 156 rfl (fun _ h => h) rfl ?_
    refine WX.turn [144] 157 rfl (fun _ h => h) rfl ?_
    refine WX.back0 ?_
    exact TX.use N_20 (pm19, cm19, p83, 0, pm20, cm20) ⟨hm54, (okl_mk (Nat.zero_le _) (fun _ _ => trivial) : GoT.ok n ([] : List UInt8)), hm55, (ok_DataP hokx_).2.2.2.1, (ok_DataP hokx_).2.2.2.2⟩ (by kernel_rfl) (.cons rfl (.cons rfl (.cons rfl (.cons rfl (.nil))))) (.cons rfl (.nil)) .nil [155, 156, 157, 0, 1, 2] rfl
   ·skip
    refine TS.op 3 rfl (by kernel_rfl) ?_
    refine R0 ?_
    refine WX.turn [143] 161 rfl (fun _ h => h) rfl ?_
    refine WX.turn [144] 162 rfl (fun _ h => h) rfl ?_
    refine WX.back0 ?_
    exact TX.use N_21 (pm19, cm19, pm20, cm20) ⟨hm54, hm55⟩ (by kernel_rfl) (.cons rfl (.cons rfl (.cons rfl (.nil)))) .nil .nil [161, 2, 162, 0, 1] rfl
  refine TX.share (ι := (Option Addr) × Nat × (Option Addr) × Nat) ⟨fun | (pm10, cm10, pm11, cm11) => (GoT.ok n ([] : List UInt8)) ∧ (GoT.ok (n + 3) (((spec_BytesToInts (spec_AppendName ([]) x_.name)) ++ (spec_BytesToInts x_.content)) : List Int)) ∧ (-9223372036854775808 ≤ x_.freshUntil ∧ x_.freshUntil ≤ 9223372036854775807) ∧ (-9223372036854775808 ≤ x_.signature ∧ x_.signature ≤ 9223372036854775807), fun _ => 0, fun | (pm10, cm10, pm11, cm11) => [(14, .v (.slice pm10 (0) cm10)), (20, .p 1 3), (15, .p 1 2), (13, .v (.slice pm11 ((((spec_BytesToInts (spec_AppendName ([]) x_.name)) ++ (spec_BytesToInts x_.content))).length) cm11))], fun | (pm10, cm10, pm11, cm11) => [(1, ⟨32, [.slice K0 ((x_.name.parts).length) M0, .slice K1 ((x_.content).length) M1, .slice K2 ((x_.keyName.parts).length) M2, .int .i64 (x_.freshUntil), .int .i64 (x_.signature)]⟩)], fun _ => [], fun | (pm10, cm10, pm11, cm11) => [(131, MF.os pm10 cm10 ([] : List UInt8)), (132, MF.os pm11 cm11 ((spec_BytesToInts (spec_AppendName ([]) x_.name)) ++ (spec_BytesToInts x_.content))), (0, MF.rs .stb K0 M0 x_.name.parts), (1, MF.rs .stb K1 M1 x_.content), (2, MF.rs .stb K2 M2 x_.keyName.parts)]⟩ 8 #[true, true, true, false, false, false, false, true, false, false, false, false] ?_ (fun N_11 => ?_)
  ·skip
   rintro ⟨pm10, cm10, pm11, cm11⟩ ⟨hm32, hm33, hm34, hm35⟩
   refine TX.all2 3 8 (by kernel_rfl) ?_ ?_
   ·skip
    refine TS.op 3 rfl (by kernel_rfl) ?_
    refine R0 ?_
    refine WX.turn [131] 135 rfl (fun _ h => h) rfl ?_
    refine WX.turn [132] 136 rfl (fun _ h => h) rfl ?_
    refine WX.back0 ?_
    exact TX.use N_14 (pm10, cm10, pm11, cm11) ⟨hm32, hm33, (ok_DataP hokx_).2.2.2.1, (ok_DataP hokx_).2.2.2.2⟩ (by kernel_rfl) (.cons rfl (.cons rfl (.cons rfl (.cons rfl (.nil))))) (.cons rfl (.nil)) .nil [2, 135, 136, 0, 1] rfl
   ·skip
    refine TS.op 8 rfl (by kernel_rfl) ?_
    refine R0 ?_
    refine WX.turn [131] 137 rfl (fun _ h => h) rfl ?_
    refine WX.turn [132] 138 rfl (fun _ h => h) rfl ?_
    refine WX.back0 ?_
    exact TX.use N_15 (pm10, cm10, pm11, cm11) ⟨(ok_DataP hokx_).2.2.2.1, hm32, hm33, (ok_DataP hokx_).2.2.2.1, (ok_DataP hokx_).2.2.2.2⟩ (by kernel_rfl) (.cons rfl (.cons rfl (.cons rfl (.cons rfl (.nil))))) (.cons rfl (.nil)) .nil [137, 138, 0, 1, 2] rfl
  refine TX.share (ι := (Option Addr) × Nat) ⟨fun | (pm12, cm12) => (GoT.ok (n + 3) (((spec_BytesToInts (spec_AppendName ([]) x_.name)) ++ (spec_BytesToInts x_.content)) : List Int)) ∧ (-9223372036854775808 ≤ x_.freshUntil ∧ x_.freshUntil ≤ 9223372036854775807) ∧ (-9223372036854775808 ≤ x_.signature ∧ x_.signature ≤ 9223372036854775807), fun _ => 0, fun | (pm12, cm12) => [(16, .v (.agg #[.slice K2 ((x_.keyName.parts).length) M2])), (20, .p 1 3), (13, .v (.slice pm12 ((((spec_BytesToInts (spec_AppendName ([]) x_.name)) ++ (spec_BytesToInts x_.content))).length) cm12))], fun | (pm12, cm12) => [(1, ⟨32, [.slice K0 ((x_.name.parts).length) M0, .slice K1 ((x_.content).length) M1, .slice K2 ((x_.keyName.parts).length) M2, .int .i64 (x_.freshUntil), .int .i64 (x_.signature)]⟩)], fun _ => [], fun | (pm12, cm12) => [(2, MF.rs .stb K2 M2 x_.keyName.parts), (133, MF.os pm12 cm12 ((spec_BytesToInts (spec_AppendName ([]) x_.name)) ++ (spec_BytesToInts x_.content))), (0, MF.rs .stb K0 M0 x_.name.parts), (1, MF.rs .stb K1 M1 x_.content)]⟩ 8 #[true, false, true, true, false, false, false, true, false, false, false, false] ?_ (fun N_12 => ?_)
  ·skip
   rintro ⟨pm12, cm12⟩ ⟨hm36, hm37, hm38⟩
   refine TX.all2 1 8 (by kernel_rfl) ?_ ?_
   ·skip
    refine TS.op 1 rfl (by kernel_rfl) ?_
    refine WX.bld ttOk rfl rfl rfl rfl rfl rfl rfl ?_
    intro p84
    refine R0 ?_
    refine WX.free 324 (MF.ol [] ([] : List UInt8)) rfl ?_
    refine WX.seal 14 324 325 rfl rfl rfl rfl rfl ?_
    refine WX.turn [326] 135 rfl (fun _ h => h) rfl ?_
    refine WX.turn [133] 136 rfl (fun _ h => h) rfl ?_
    refine WX.back0 ?_
    exact TX.use N_14 (p84, 0, pm12, cm12) ⟨(okl_mk (Nat.zero_le _) (fun _ _ => trivial) : GoT.ok n ([] : List UInt8)), hm36, (ok_DataP hokx_).2.2.2.1, (ok_DataP hokx_).2.2.2.2⟩ (by kernel_rfl) (.cons rfl (.cons rfl (.cons rfl (.cons rfl (.nil))))) (.cons rfl (.nil)) .nil [2, 135, 136, 0, 1] rfl
   ·skip
    refine TS.op 8 rfl (by kernel_rfl) ?_
    refine R0 ?_
    refine WX.turn [133] 139 rfl (fun _ h => h) rfl ?_
    refine WX.back0 ?_
    exact TX.use N_16 (pm12, cm12) ⟨(ok_DataP hokx_).2.2.2.1, hm36⟩ (by kernel_rfl) (.cons rfl (.cons rfl (.cons rfl (.nil)))) .nil .nil [2, 139, 0, 1] rfl
  refine TX.share (ι := (Option Addr) × Nat) ⟨fun | (pm13, cm13) => (-9223372036854775808 ≤ x_.freshUntil ∧ x_.freshUntil ≤ 9223372036854775807) ∧ (GoT.ok (n + 3) (((spec_BytesToInts (spec_AppendName ([]) x_.name)) ++ (spec_BytesToInts x_.content)) : List Int)) ∧ (-9223372036854775808 ≤ x_.freshUntil ∧ x_.freshUntil ≤ 9223372036854775807) ∧ (-9223372036854775808 ≤ x_.signature ∧ x_.signature ≤ 9223372036854775807), fun _ => 0, fun | (pm13, cm13) => [(21, .v (.int .i64 (x_.freshUntil))), (15, .p 1 2), (13, .v (.slice pm13 ((((spec_BytesToInts (spec_AppendName ([]) x_.name)) ++ (spec_BytesToInts x_.content))).length) cm13))], fun | (pm13, cm13) => [(1, ⟨32, [.slice K0 ((x_.name.parts).length) M0, .slice K1 ((x_.content).length) M1, .slice K2 ((x_.keyName.parts).length) M2, .int .i64 (x_.freshUntil), .int .i64 (x_.signature)]⟩)], fun _ => [], fun | (pm13, cm13) => [(134, MF.os pm13 cm13 ((spec_BytesToInts (spec_AppendName ([]) x_.name)) ++ (spec_BytesToInts x_.content))), (0, MF.rs .stb K0 M0 x_.name.parts), (1, MF.rs .stb K1 M1 x_.content), (2, MF.rs .stb K2 M2 x_.keyName.parts)]⟩ 8 #[true, false, true, false, false, false, false, true, true, false, false, false] ?_ (fun N_13 => ?_)
  ·skip
   rintro ⟨pm13, cm13⟩ ⟨hm39, hm40, hm41, hm42⟩
   refine TX.all3 1 3 9 (by kernel_rfl) ?_ ?_ ?_
   ·skip
    refine TS.op 1 rfl (by kernel_rfl) ?_
    refine WX.bld ttOk rfl rfl rfl rfl rfl rfl rfl ?_
    intro p85
    refine R0 ?_
    refine WX.free 327 (MF.ol [] ([] : List UInt8)) rfl ?_
    refine WX.seal 14 327 328 rfl rfl rfl rfl rfl ?_
    refine WX.turn [329] 137 rfl (fun _ h => h) rfl ?_
    refine WX.turn [134] 138 rfl (fun _ h => h) rfl ?_
    refine WX.back0 ?_
    exact TX.use N_15 (p85, 0, pm13, cm13) ⟨(ok_DataP hokx_).2.2.2.1, (okl_mk (Nat.zero_le _) (fun _ _ => trivial) : GoT.ok n ([] : List UInt8)), hm40, (ok_DataP hokx_).2.2.2.1, (ok_DataP hokx_).2.2.2.2⟩ (by kernel_rfl) (.cons rfl (.cons rfl (.cons rfl (.cons rfl (.nil))))) (.cons rfl (.nil)) .nil [137, 138, 0, 1, 2] rfl
   ·skip
    refine TS.op 3 rfl (by kernel_rfl) ?_
    refine R0 ?_
    refine WX.turn [134] 139 rfl (fun _ h => h) rfl ?_
    refine WX.back0 ?_
    exact TX.use N_16 (pm13, cm13) ⟨(ok_DataP hokx_).2.2.2.1, hm40⟩ (by kernel_rfl) (.cons rfl (.cons rfl (.cons rfl (.nil)))) .nil .nil [2, 139, 0, 1] rfl
   ·skip
    refine TS.op 9 rfl (by kernel_rfl) ?_
    refine WX.bld ttOk rfl rfl rfl rfl rfl rfl rfl ?_
    intro p86
    refine R0 ?_
    refine WX.turn [] 330 rfl (fun h hs => ol_one (α := Int) (a := x_.freshUntil) (x := ()) hs) (gs := [MF.ol [.int .i64 (x_.freshUntil)] ([x_.freshUntil] : List Int)]) rfl ?_
    refine WX.seal 22 330 331 rfl rfl rfl rfl rfl ?_
    refine WX.turn [332] 143 rfl (fun _ h => h) rfl ?_
    refine WX.turn [134] 144 rfl (fun _ h => h) rfl ?_
    have r87 : -9223372036854775808 ≤ x_.freshUntil ∧ x_.freshUntil ≤ 9223372036854775807 := (ok_DataP hokx_).2.2.2.1
    refine WX.back0 ?_
    exact TX.use N_17 (p86, 1, pm13, cm13) ⟨(okl_mk (by first | (rw [List.length_append]; (try simp only [List.length_cons, List.length_nil]); omega) | (simp; omega) | (simp only [List.length_append, List.length_cons, List.length_nil] at *; omega)) (all_cons (α := Int) (ok_DataP hokx_).2.2.2.1 (fun a ha => by cases ha)) : GoT.ok n ([x_.freshUntil] : List Int)), hm40, (ok_DataP hokx_).2.2.2.1, (ok_DataP hokx_).2.2.2.2⟩ (by kernel_rfl) (.cons rfl (.cons rfl (.cons rfl (.nil)))) (.cons rfl (.nil)) .nil [143, 144, 0, 1, 2] rfl
  refine TX.all3 1 3 8 (by kernel_rfl) ?_ ?_ ?_
  ·skip
   refine TS.op 1 rfl (by kernel_rfl) ?_
   refine WX.bld ttOk rfl rfl rfl rfl rfl rfl rfl ?_
   intro p87
   refine R0 ?_
   refine WX.free 333 (MF.ol [] ([] : List UInt8)) rfl ?_
   refine WX.seal 14 333 334 rfl rfl rfl rfl rfl ?_
   refine WX.turn [335] 131 rfl (fun _ h => h) rfl ?_
   refine WX.turn [18] 132 rfl (fun _ h => h) rfl ?_
   refine WX.back0 ?_
   exact TX.use N_11 (p87, 0, pm1, cm1) ⟨(okl_mk (Nat.zero_le _) (fun _ _ => trivial) : GoT.ok n ([] : List UInt8)), hm1, (ok_DataP hokx_).2.2.2.1, (ok_DataP hokx_).2.2.2.2⟩ (by kernel_rfl) (.cons rfl (.cons rfl (.cons rfl (.cons rfl (.nil))))) (.cons rfl (.nil)) .nil [131, 132, 0, 1, 2] rfl
  ·skip
   refine TS.op 3 rfl (by kernel_rfl) ?_
   refine R0 ?_
   refine WX.turn [18] 133 rfl (fun _ h => h) rfl ?_
   refine WX.back0 ?_
   exact TX.use N_12 (pm1, cm1) ⟨hm1, (ok_DataP hokx_).2.2.2.1, (ok_DataP hokx_).2.2.2.2⟩ (by kernel_rfl) (.cons rfl (.cons rfl (.cons rfl (.nil)))) (.cons rfl (.nil)) .nil [2, 133, 0, 1] rfl
  ·skip
   refine TS.op 8 rfl (by kernel_rfl) ?_
   refine R0 ?_
   refine WX.turn [18] 134 rfl (fun _ h => h) rfl ?_
   refine WX.back0 ?_
   exact TX.use N_13 (pm1, cm1) ⟨(ok_DataP hokx_).2.2.2.1, hm1, (ok_DataP hokx_).2.2.2.1, (ok_DataP hokx_).2.2.2.2⟩ (by kernel_rfl) (.cons rfl (.cons rfl (.cons rfl (.nil)))) (.cons rfl (.nil)) .nil [134, 0, 1, 2] rfl
 rintro ⟨pm9, cm9⟩ hm31
 have hP1 : spec_SignedPortion x_ = ((((spec_BytesToInts (spec_AppendName ([]) x_.name)) ++ (spec_BytesToInts x_.content)) ++ (spec_BytesToInts (spec_AppendName ([]) x_.keyName))) ++ [x_.freshUntil]) := by simp only [spec_SignedPortion, ct, cf]
 refine R1 ?_
 intro w1 G bs hI hΓ
 rw [hP1]
 exact Post.of [126] (pm9, cm9) hI hΓ rfl rfl rfl hm31
theorem f269 (w : World) (n : Nat) (hn : n + 0 ≤ 9) (l : (List Int)) (pl : Option Addr) (cl : Nat) (N0 : RdSl (hp w) pl cl l) (hokl : GoT.ok n l) :
  Does Tryz.prog 269 #[.slice pl ((l).length) cl] w emp (fun (rv : Value) (_ : World) => rv = .int .i64 ((spec_Digest l)) ∧ GoT.ok n ((spec_Digest l) : Int)) := by
 have hbP := bd_pos n
 have hbB := bd_big (n := n) (by omega)
 refine WX.enter (tt := tt) (Γ := [(0, MF.rs .stb pl cl l)]) Tryz.func269 rfl (by kernel_rfl) rfl (allS_cons rfl N0 allS_nil) ?_
 refine R0 ?_
 have r1 : (l).length ≤ bd n := (okl hokl).1
 refine WX.loop (ι := Int × Nat) ⟨fun | (d, i) => (i ≤ (l).length) ∧ (-9223372036854775808 ≤ d ∧ d ≤ 9223372036854775807) ∧ (spec_Digest_L1 l 11 = spec_Digest_L1 ((l).drop i) d), fun | (d, i) => (l).length - i, fun | (d, i) => [(3, .v (.int .i64 (d))), (4, .v (.int .i64 (((i : Nat) : Int)))), (0, .v (.slice pl ((l).length) cl))], fun | (d, i) => [], fun | (d, i) => [], fun | (d, i) => [(0, MF.rs .stb pl cl l)]⟩ (11, 0) ⟨(Nat.zero_le _), (by first | assumption | omega), rfl⟩
  (.cons rfl (.cons rfl (.cons rfl (.nil)))) .nil .nil [0] rfl ?_
 rintro ⟨d, i⟩ hpre
 have hpre_ : (i ≤ (l).length) ∧ (-9223372036854775808 ≤ d ∧ d ≤ 9223372036854775807) ∧ (spec_Digest_L1 l 11 = spec_Digest_L1 ((l).drop i) d) := hpre
 clear hpre
 obtain ⟨v1, v2, v3⟩ := hpre_
 refine R0 ?_
 refine WX.cases 8 rfl (fun h1 => ?_) (fun h1 => ?_)
 ·skip
  have h1d := B.dt h1
  have e1i : i < (l).length := (by omega)
  obtain ⟨e1, e1h⟩ : ∃ e1, (l)[i]? = some e1 := ⟨_, List.getElem?_eq_getElem e1i⟩
  have ok1 : GoT.ok n e1 := (okl hokl).2 _ (List.mem_of_getElem? e1h)
  refine R0 ?_
  refine WX.see rfl rfl rfl (fun _ hΓ => looks_wrap rfl rfl rfl rfl) ?_
  refine R0 ?_
  refine WX.idx 0 i ttOk rfl rfl rfl rfl rfl rfl rfl rfl rfl rfl e1i ?_
  rintro ad1 rfl
  refine WX.ldE 0 1 e1 ttOk rfl rfl rfl rfl rfl rfl rfl rfl e1h (fun _ => rfl) (fun _ => rfl) ?_
  rintro ⟨⟩
  refine WX.callV rfl rfl rfl rfl rfl (fun _ => rfl) rfl (fun w G bs hI hΓ => f283 w n (by omega) e1 2147483647 ok1 (show I64 2147483647 from (by unfold I64; omega))) ?_
  intro hq1
  refine WX.see rfl rfl rfl (fun _ hΓ => looks_wrap rfl rfl rfl rfl) ?_
  refine WX.see rfl rfl rfl (fun _ hΓ => looks_wrap rfl rfl rfl rfl) ?_
  have r2 := tmod_rng (IntKind.i64.wrap ((IntKind.i64.wrap ((IntKind.i64.wrap (d * 1000003)) + (spec_Mod e1 2147483647))) + 13)) (show (0 : Int) < 2147483647 by omega)
  refine WX.see rfl rfl rfl (fun _ hΓ => looks_rem rfl rfl rfl (by decide)) ?_
  refine R0 ?_
  refine WX.see rfl rfl rfl (fun _ hΓ => looks_arith rfl rfl rfl rfl (by unfold I64; first | omega | (simp only [List.length_take] at *; omega))) ?_
  refine R0 ?_
  have r3 : -9223372036854775808 ≤ e1 ∧ e1 ≤ 9223372036854775807 := ok1
  have r4 : -9223372036854775808 ≤ (spec_Mod e1 2147483647) ∧ (spec_Mod e1 2147483647) ≤ 9223372036854775807 := hq1
  exact WX.iter (Int.tmod (IntKind.i64.wrap ((IntKind.i64.wrap ((IntKind.i64.wrap (d * 1000003)) + (spec_Mod e1 2147483647))) + 13)) 2147483647, i + 1) ⟨(by omega), (by first | assumption | omega), (by rw [v3, drop_get e1h]; simp only [spec_Digest_L1, ct, cf])⟩ (by first | (dsimp only; omega) | omega) (.cons rfl (.cons rfl (.cons rfl (.nil)))) .nil .nil [0] rfl
 ·skip
  have h1d := B.df h1
  refine R0 ?_
  have hX1 : spec_Digest_L1 l 11 = d := by rw [v3, List.drop_eq_nil_of_le (show (l).length ≤ i by omega)]; simp only [spec_Digest_L1, ct, cf]
  have hP1 : spec_Digest l = d := by simp only [spec_Digest, hX1, ct, cf]
  refine R1 ?_
  intro w1 G bs hI hΓ
  rw [hP1]
  exact ⟨rfl, v2⟩
theorem f261 (w : World) (n : Nat) (hn : n + 2 ≤ 9) (secret : Int) (l : (List Int)) (pl : Option Addr) (cl : Nat) (N0 : RdSl (hp w) pl cl l) (hoksecret : GoT.ok n secret) (hokl : GoT.ok n l) :
  Does Tryz.prog 261 #[.int .i64 (secret), .slice pl ((l).length) cl] w emp (fun (rv : Value) (_ : World) => rv = .int .i64 ((spec_ComputeMAC secret l)) ∧ GoT.ok n ((spec_ComputeMAC secret l) : Int)) := by
 have hbP := bd_pos n
 have hbS0 : bd (n + 1) = 4 * bd (n) := bd_succ (n := n) (by omega)
 have hbS1 : bd (n + 2) = 4 * bd (n + 1) := bd_succ (n := n + 1) (by omega)
 have hbB := bd_big (n := (n + 2)) (by omega)
 have hbM := bd_mono (show n ≤ n + 2 by omega)
 refine WX.enter (tt := tt) (Γ := [(0, MF.rs .stb pl cl l)]) Tryz.func261 rfl (by kernel_rfl) rfl (allS_cons rfl N0 allS_nil) ?_
 refine R0 ?_
 refine WX.bld ttOk rfl rfl rfl rfl rfl rfl rfl ?_
 intro p1
 refine R0 ?_
 refine WX.turn [] 1 rfl (fun h hs => ol_one (α := Int) (a := secret) (x := ()) hs) (gs := [MF.ol [.int .i64 (secret)] ([secret] : List Int)]) rfl ?_
 have r1 : -9223372036854775808 ≤ secret ∧ secret ≤ 9223372036854775807 := hoksecret
 have r2 : (l).length ≤ bd n := (okl hokl).1
 refine WX.appG1 6 0 2 (([secret] ++ l) : List Int).length ttOk rfl rfl rfl rfl rfl rfl rfl rfl rfl rfl rfl rfl rfl (by first | (simp; done) | (simp; omega)) (by simp; omega) (by simp; omega) (fun _ _ _ => rfl) ?_
 intro ys1 p2 c1
 refine WX.know (fun G hΓ => (hΓ.get 2 rfl : RdL _ _ _).flat) ?_
 intro hf1
 refine WX.turn [1] 3 rfl (fun h hs => ol_flat hs hf1) (gs := [MF.ol ([.int .i64 (secret)] ++ ys1) (([secret] ++ l) : List Int)]) rfl ?_
 refine R0 ?_
 refine WX.bld ttOk rfl rfl rfl rfl rfl rfl rfl ?_
 intro p3
 refine WX.turn [] 4 rfl (fun h hs => ol_one (α := Int) (a := secret) (x := ()) hs) (gs := [MF.ol [.int .i64 (secret)] ([secret] : List Int)]) rfl ?_
 refine WX.know (fun G hΓ => (hΓ.get 4 rfl : OwL _ _ _).rd.one) ?_
 intro ho1
 refine WX.appR1 6 10 ((([secret] ++ l) ++ [secret]) : List Int).length ttOk rfl rfl rfl rfl rfl rfl rfl rfl rfl rfl rfl rfl rfl ho1 (by simp) (by simp; omega) (by simp; omega) (fun _ _ => rfl) ?_
 intro p4 c2
 refine WX.turn [3, 4] 5 rfl (fun h hs => ol_app hs) (gs := [MF.ol (([.int .i64 (secret)] ++ ys1) ++ [.int .i64 (secret)]) ((([secret] ++ l) ++ [secret]) : List Int)]) rfl ?_
 refine WX.seal 6 5 6 rfl rfl rfl rfl rfl ?_
 refine WX.callV rfl rfl rfl rfl rfl (fun _ => rfl) rfl (fun w G bs hI hΓ => f269 w (n + 2) (by omega) (([secret] ++ l) ++ [secret]) p4 c2 (hΓ.get 6 rfl) (okl_mk (by simp; omega) (fun a ha => GoT.okm (show (n + 1) ≤ (n + 2) by omega) ((all_app (fun a ha => GoT.okm (show n ≤ (n + 1) by omega) ((all_app (all_cons (α := Int) hoksecret (fun a ha => by cases ha)) (okl hokl).2) a ha)) (fun a ha => GoT.okm (by omega) ((all_cons (α := Int) hoksecret (fun a ha => by cases ha)) a ha))) a ha)) : GoT.ok (n + 2) ((([secret] ++ l) ++ [secret]) : List Int))) ?_
 intro hq1
 refine R0 ?_
 have hP1 : spec_ComputeMAC secret l = (spec_Digest (([secret] ++ l) ++ [secret])) := by simp only [spec_ComputeMAC, ct, cf]
 refine R1 ?_
 intro w1 G bs hI hΓ
 rw [hP1]
 exact ⟨rfl, hq1⟩
theorem f289 (w : World) (n : Nat) (hn : n + 0 ≤ 9) (n_ : Int) (m : Int) (hokn_ : GoT.ok n n_) (hokm : GoT.ok n m) :
  Does Tryz.prog 289 #[.int .i64 (n_), .int .i64 (m)] w emp (fun (rv : Value) (_ : World) => rv = .int .i64 ((impl_Mod n_ m)) ∧ GoT.ok n ((impl_Mod n_ m) : Int)) := by
 have hbP := bd_pos n
 have hbB := bd_big (n := n) (by omega)
 refine WX.enter (tt := tt) (Γ := []) Tryz.func289 rfl (by kernel_rfl) rfl allS_nil ?_
 refine R0 ?_
 refine WX.callV rfl rfl rfl rfl rfl (fun _ => rfl) rfl (fun w G bs hI hΓ => f132 w n (by omega) m 1 1000000000000 hokm (show I64 1 from (by unfold I64; omega)) (show I64 1000000000000 from (by unfold I64; omega))) ?_
 intro hq1
 refine R0 ?_
 refine WX.cases 7 rfl (fun h1 => ?_) (fun h1 => ?_)
 ·skip
  have h1d := (B.nt h1)
  refine R0 ?_
  have hP1 : impl_Mod n_ m = 0 := by simp only [impl_Mod, h1, ct, cf]
  refine R1 ?_
  intro w1 G bs hI hΓ
  rw [hP1]
  exact ⟨rfl, (show I64 0 from (by unfold I64; omega))⟩
 ·skip
  have h1d := (B.nf h1)
  have h1r := inR_impl (B.nf h1)
  refine R0 ?_
  have r1 := tmod_rng n_ (show (0 : Int) < m by omega)
  refine WX.see rfl rfl rfl (fun _ hΓ => looks_rem rfl rfl rfl (by omega)) ?_
  refine R0 ?_
  refine WX.see rfl rfl rfl (fun _ hΓ => looks_wrap rfl rfl rfl rfl) ?_
  refine R0 ?_
  have r2 := tmod_rng (IntKind.i64.wrap ((Int.tmod n_ m) + m)) (show (0 : Int) < m by omega)
  refine WX.see rfl rfl rfl (fun _ hΓ => looks_rem rfl rfl rfl (by omega)) ?_
  refine R0 ?_
  have hP2 : impl_Mod n_ m = (Int.tmod (IntKind.i64.wrap ((Int.tmod n_ m) + m)) m) := by simp only [impl_Mod, h1, ct, cf]
  have r3 : -9223372036854775808 ≤ n_ ∧ n_ ≤ 9223372036854775807 := hokn_
  have r4 : -9223372036854775808 ≤ m ∧ m ≤ 9223372036854775807 := hokm
  refine R1 ?_
  intro w1 G bs hI hΓ
  rw [hP2]
  exact ⟨rfl, (show I64 (Int.tmod (IntKind.i64.wrap ((Int.tmod n_ m) + m)) m) from (by unfold I64; omega))⟩
theorem f285 (w : World) (n : Nat) (hn : n + 1 ≤ 9) (b : (List UInt8)) (pb : Option Addr) (cb : Nat) (N0 : RdSl (hp w) pb cb b) (hokb : GoT.ok n b) :
  Does Tryz.prog 285 #[.slice pb ((b).length) cb] w emp (Post w emp (fun x : GoT.X ((List Int)) => (GoT.sh ((impl_BytesToInts b) : (List Int)) x).headD undef) (fun x => GoT.oa ((impl_BytesToInts b) : (List Int)) x) (GoT.ok (n + 1) ((impl_BytesToInts b) : (List Int)))) := by
 have hbP := bd_pos n
 have hbS0 : bd (n + 1) = 4 * bd (n) := bd_succ (n := n) (by omega)
 have hbB := bd_big (n := (n + 1)) (by omega)
 have hbM := bd_mono (show n ≤ n + 1 by omega)
 refine WX.enter (tt := tt) (Γ := [(0, MF.rs .stb pb cb b)]) Tryz.func285 rfl (by kernel_rfl) rfl (allS_cons rfl N0 allS_nil) ?_
 refine R0 ?_
 refine WX.bld ttOk rfl rfl rfl rfl rfl rfl rfl ?_
 intro p1
 have r1 : (b).length ≤ bd n := (okl hokb).1
 refine R0 ?_
 refine WX.turn [] 1 rfl (fun h hs => ol_one (α := Int) (a := (((b).length : Nat) : Int)) (x := ()) hs) (gs := [MF.ol [.int .i64 ((((b).length : Nat) : Int))] ([(((b).length : Nat) : Int)] : List Int)]) rfl ?_
 refine WX.loop (ι := (Option Addr) × Nat × (List Value) × (List Int) × Nat) ⟨fun | (pout, cout, xsout, out, i) => (i ≤ (b).length) ∧ (∀ z_ ∈ out, GoT.ok n z_) ∧ (out.length ≤ i + 1) ∧ (impl_BytesToInts_L1 b ([(((b).length : Nat) : Int)] : List Int) = impl_BytesToInts_L1 ((b).drop i) out), fun | (pout, cout, xsout, out, i) => (b).length - i, fun | (pout, cout, xsout, out, i) => [(3, .v (.slice pout ((out).length) cout)), (11, .v (.int .i64 (((i : Nat) : Int)))), (10, .v (.int .i64 ((((b).length : Nat) : Int)))), (9, .v (.slice pb ((b).length) cb))], fun | (pout, cout, xsout, out, i) => [], fun | (pout, cout, xsout, out, i) => [(8, ⟨1, pout, (out).length, cout, xsout⟩)], fun | (pout, cout, xsout, out, i) => [(0, MF.rs .stb pb cb b), (1, MF.ol xsout (out : List Int))]⟩ (p1, 1, [.int .i64 ((((b).length : Nat) : Int))], ([(((b).length : Nat) : Int)] : List Int), 0) ⟨(Nat.zero_le _), (all_cons (α := Int) (show I64 (((b).length : Nat) : Int) from (by unfold I64; omega)) (fun a ha => by cases ha)), (by simp), rfl⟩
  (.cons rfl (.cons rfl (.cons rfl (.cons rfl (.nil))))) .nil (.cons rfl (.nil)) [0, 1] rfl ?_
 rintro ⟨pout, cout, xsout, out, i⟩ hpre
 have hpre_ : (i ≤ (b).length) ∧ (∀ z_ ∈ out, GoT.ok n z_) ∧ (out.length ≤ i + 1) ∧ (impl_BytesToInts_L1 b ([(((b).length : Nat) : Int)] : List Int) = impl_BytesToInts_L1 ((b).drop i) out) := hpre
 clear hpre
 obtain ⟨v1, v2, v3, v4⟩ := hpre_
 refine R0 ?_
 refine WX.cases 12 rfl (fun h1 => ?_) (fun h1 => ?_)
 ·skip
  have h1d := B.dt h1
  have e1i : i < (b).length := (by omega)
  obtain ⟨e1, e1h⟩ : ∃ e1, (b)[i]? = some e1 := ⟨_, List.getElem?_eq_getElem e1i⟩
  refine R0 ?_
  refine WX.idx 0 i ttOk rfl rfl rfl rfl rfl rfl rfl rfl rfl rfl e1i ?_
  rintro ad1 rfl
  refine WX.ldE 0 2 e1 ttOk rfl rfl rfl rfl rfl rfl rfl rfl e1h (fun _ => rfl) (fun _ => rfl) ?_
  rintro ⟨⟩
  refine R0 ?_
  refine WX.see rfl rfl rfl (fun _ hΓ => looks_ofU8 ttOk rfl rfl rfl rfl rfl rfl) ?_
  refine WX.bld ttOk rfl rfl rfl rfl rfl rfl rfl ?_
  intro p2
  have r2 : (e1).toNat < 256 := UInt8.toNat_lt _
  refine WX.turn [] 2 rfl (fun h hs => ol_one (α := Int) (a := ((e1).toNat : Int)) (x := ()) hs) (gs := [MF.ol [.int .i64 (((e1).toNat : Int))] ([((e1).toNat : Int)] : List Int)]) rfl ?_
  refine WX.know (fun G hΓ => (hΓ.get 2 rfl : OwL _ _ _).rd.one) ?_
  intro ho1
  refine WX.appR1 8 18 ((out ++ [((e1).toNat : Int)]) : List Int).length ttOk rfl rfl rfl rfl rfl rfl rfl rfl rfl rfl rfl rfl rfl ho1 (by simp) (by simp; omega) (by simp; omega) (fun _ _ => rfl) ?_
  intro p3 c1
  refine WX.turn [1, 2] 3 rfl (fun h hs => ol_app hs) (gs := [MF.ol (xsout ++ [.int .i64 (((e1).toNat : Int))]) ((out ++ [((e1).toNat : Int)]) : List Int)]) rfl ?_
  refine R0 ?_
  refine WX.see rfl rfl rfl (fun _ hΓ => looks_arith rfl rfl rfl rfl (by unfold I64; first | omega | (simp only [List.length_take] at *; omega))) ?_
  refine R0 ?_
  refine WX.turn [3] 1 rfl (fun _ h => h) rfl ?_
  exact WX.iter (p3, c1, (xsout ++ [.int .i64 (((e1).toNat : Int))]), ((out ++ [((e1).toNat : Int)]) : List Int), i + 1) ⟨(by omega), (all_app v2 (all_cons (α := Int) (show I64 ((e1).toNat : Int) from (by unfold I64; omega)) (fun a ha => by cases ha))), (by first | assumption | omega | (simp; omega)), (by rw [v4, drop_get e1h]; simp only [impl_BytesToInts_L1, ct, cf])⟩ (by first | (dsimp only; omega) | omega) (.cons rfl (.cons rfl (.cons rfl (.cons rfl (.nil))))) .nil (.cons rfl (.nil)) [0, 1] rfl
 ·skip
  have h1d := B.df h1
  refine R0 ?_
  have hX1 : impl_BytesToInts_L1 b ([(((b).length : Nat) : Int)] : List Int) = ((out) : List Int) := by rw [v4, List.drop_eq_nil_of_le (show (b).length ≤ i by omega)]; simp only [impl_BytesToInts_L1, ct, cf]
  refine WX.seal 8 1 4 rfl rfl rfl rfl rfl ?_
  have hP1 : impl_BytesToInts b = out := by simp only [impl_BytesToInts, hX1, ct, cf]
  refine R1 ?_
  intro w1 G bs hI hΓ
  rw [hP1]
  exact Post.of [5] (pout, cout) hI hΓ rfl rfl rfl (okl_mk (by omega) (fun a ha => GoT.okm (by omega) (v2 a ha)) : GoT.ok (n + 1) (out : List Int))
theorem f278 (w : World) (n : Nat) (hn : n + 0 ≤ 9) (l : (List Int)) (pl : Option Addr) (cl : Nat) (N0 : RdSl (hp w) pl cl l) (hokl : GoT.ok n l) :
  Does Tryz.prog 278 #[.slice pl ((l).length) cl] w emp (fun (rv : Value) (_ : World) => rv = .int .i64 ((impl_Digest l)) ∧ GoT.ok n ((impl_Digest l) : Int)) := by
 have hbP := bd_pos n
 have hbB := bd_big (n := n) (by omega)
 refine WX.enter (tt := tt) (Γ := [(0, MF.rs .stb pl cl l)]) Tryz.func278 rfl (by kernel_rfl) rfl (allS_cons rfl N0 allS_nil) ?_
 refine R0 ?_
 have r1 : (l).length ≤ bd n := (okl hokl).1
 refine WX.loop (ι := Int × Nat) ⟨fun | (d, i) => (i ≤ (l).length) ∧ (-9223372036854775808 ≤ d ∧ d ≤ 9223372036854775807) ∧ (impl_Digest_L1 l 11 = impl_Digest_L1 ((l).drop i) d), fun | (d, i) => (l).length - i, fun | (d, i) => [(3, .v (.int .i64 (d))), (8, .v (.int .i64 (((i : Nat) : Int)))), (7, .v (.int .i64 ((((l).length : Nat) : Int)))), (6, .v (.slice pl ((l).length) cl))], fun | (d, i) => [], fun | (d, i) => [], fun | (d, i) => [(0, MF.rs .stb pl cl l)]⟩ (11, 0) ⟨(Nat.zero_le _), (by first | assumption | omega), rfl⟩
  (.cons rfl (.cons rfl (.cons rfl (.cons rfl (.nil))))) .nil .nil [0] rfl ?_
 rintro ⟨d, i⟩ hpre
 have hpre_ : (i ≤ (l).length) ∧ (-9223372036854775808 ≤ d ∧ d ≤ 9223372036854775807) ∧ (impl_Digest_L1 l 11 = impl_Digest_L1 ((l).drop i) d) := hpre
 clear hpre
 obtain ⟨v1, v2, v3⟩ := hpre_
 refine R0 ?_
 refine WX.cases 9 rfl (fun h1 => ?_) (fun h1 => ?_)
 ·skip
  have h1d := B.dt h1
  have e1i : i < (l).length := (by omega)
  obtain ⟨e1, e1h⟩ : ∃ e1, (l)[i]? = some e1 := ⟨_, List.getElem?_eq_getElem e1i⟩
  have ok1 : GoT.ok n e1 := (okl hokl).2 _ (List.mem_of_getElem? e1h)
  refine R0 ?_
  refine WX.idx 0 i ttOk rfl rfl rfl rfl rfl rfl rfl rfl rfl rfl e1i ?_
  rintro ad1 rfl
  refine WX.ldE 0 1 e1 ttOk rfl rfl rfl rfl rfl rfl rfl rfl e1h (fun _ => rfl) (fun _ => rfl) ?_
  rintro ⟨⟩
  refine R0 ?_
  refine WX.see rfl rfl rfl (fun _ hΓ => looks_wrap rfl rfl rfl rfl) ?_
  refine R0 ?_
  refine WX.callV rfl rfl rfl rfl rfl (fun _ => rfl) rfl (fun w G bs hI hΓ => f289 w n (by omega) e1 2147483647 ok1 (show I64 2147483647 from (by unfold I64; omega))) ?_
  intro hq1
  refine WX.see rfl rfl rfl (fun _ hΓ => looks_wrap rfl rfl rfl rfl) ?_
  refine WX.see rfl rfl rfl (fun _ hΓ => looks_wrap rfl rfl rfl rfl) ?_
  have r2 := tmod_rng (IntKind.i64.wrap ((IntKind.i64.wrap ((IntKind.i64.wrap (d * 1000003)) + (impl_Mod e1 2147483647))) + 13)) (show (0 : Int) < 2147483647 by omega)
  refine WX.see rfl rfl rfl (fun _ hΓ => looks_rem rfl rfl rfl (by decide)) ?_
  refine R0 ?_
  refine WX.see rfl rfl rfl (fun _ hΓ => looks_arith rfl rfl rfl rfl (by unfold I64; first | omega | (simp only [List.length_take] at *; omega))) ?_
  refine R0 ?_
  have r3 : -9223372036854775808 ≤ e1 ∧ e1 ≤ 9223372036854775807 := ok1
  have r4 : -9223372036854775808 ≤ (impl_Mod e1 2147483647) ∧ (impl_Mod e1 2147483647) ≤ 9223372036854775807 := hq1
  exact WX.iter (Int.tmod (IntKind.i64.wrap ((IntKind.i64.wrap ((IntKind.i64.wrap (d * 1000003)) + (impl_Mod e1 2147483647))) + 13)) 2147483647, i + 1) ⟨(by omega), (by first | assumption | omega), (by rw [v3, drop_get e1h]; simp only [impl_Digest_L1, ct, cf])⟩ (by first | (dsimp only; omega) | omega) (.cons rfl (.cons rfl (.cons rfl (.cons rfl (.nil))))) .nil .nil [0] rfl
 ·skip
  have h1d := B.df h1
  refine R0 ?_
  have hX1 : impl_Digest_L1 l 11 = d := by rw [v3, List.drop_eq_nil_of_le (show (l).length ≤ i by omega)]; simp only [impl_Digest_L1, ct, cf]
  have hP1 : impl_Digest l = d := by simp only [impl_Digest, hX1, ct, cf]
  refine R1 ?_
  intro w1 G bs hI hΓ
  rw [hP1]
  exact ⟨rfl, v2⟩
theorem f295 (w : World) (n : Nat) (hn : n + 0 ≤ 9) (s : List Int) (ps : Option Addr) (cs : Nat) (N0 : RdSl (hp w) ps cs s) (n_ : Int) (hq0 : ps = none ∧ cs = 0 ∧ s = []) (hq1 : 0 ≤ n_ ∧ n_ ≤ 4398046511104) (hoks : GoT.ok n s) (hokn_ : GoT.ok n n_) :
    Does Tryz.prog 295 #[.slice ps ((s).length) cs, .int .i64 (n_)] w emp (Post w emp (fun x : GoT.X (List Int) => (GoT.sh ((slices_Grow_int s n_) : List Int) x).headD undef) (fun x => GoT.oa ((slices_Grow_int s n_) : List Int) x) (GoT.ok n ((slices_Grow_int s n_) : List Int))) := by
  obtain ⟨rfl, rfl, rfl⟩ := hq0
  refine WX.enter (tt := tt) (Γ := []) Tryz.func295 rfl (by kernel_rfl) rfl allS_nil ?_
  refine R0 ?_
  refine WX.cases 6 rfl (fun h1 => ?_) (fun h1 => ?_)
  · have h1d := B.dt h1
    omega
  refine R0 ?_
  refine WX.see rfl rfl rfl (fun _ hΓ => looks_cap ttOk rfl rfl rfl rfl) ?_
  refine R0 ?_
  refine WX.see rfl rfl rfl (fun _ hΓ => looks_arith rfl rfl rfl rfl (by unfold I64; simp only [List.length_nil]; omega)) ?_
  refine WX.see rfl rfl rfl (fun _ hΓ => looks_arith rfl rfl rfl rfl (by unfold I64; simp only [List.length_nil]; omega)) ?_
  refine R0 ?_
  refine WX.cases 16 rfl (fun h2 => ?_) (fun h2 => ?_)
  · have h2d := B.dt h2
    simp only [List.length_nil] at h2d
    refine R0 ?_
    refine WX.see rfl rfl rfl (fun _ hΓ => looks_cap ttOk rfl rfl rfl rfl) ?_
    refine WX.see rfl rfl rfl (fun _ hΓ => looks_slH 0 ttOk rfl rfl rfl rfl rfl (Nat.le_refl _)) ?_
    refine R0 ?_
    refine WX.row0 501 1 none rfl ?_
    refine WX.appZ 501 0 n_.toNat ttOk rfl rfl rfl rfl rfl rfl rfl rfl rfl (by simp only [List.length_nil]; omega) rfl rfl (Nat.le_refl _) (by omega) (show 0 < 0 + n_.toNat by omega) (by omega) (by omega) rfl ?_
    intro p1 c1
    refine R0 ?_
    refine WX.see rfl rfl rfl (fun _ hΓ => looks_slH 0 ttOk rfl rfl rfl rfl rfl (Nat.zero_le _)) ?_
    refine R0 ?_
    refine WX.narrow 22 0 rfl (Nat.zero_le _) rfl ?_
    refine WX.free 1 (MF.ol [] ([] : List Int)) rfl ?_
    refine WX.seal 22 1 2 rfl rfl rfl rfl rfl ?_
    refine R1 ?_
    intro w1 G bs hI hΓ
    exact Post.of [3] (p1, c1) hI hΓ rfl rfl rfl ok_nil
  · refine R0 ?_
    refine WX.free 1 (MF.os none 0 ([] : List Int)) (owSl_nil _ _) ?_
    refine R1 ?_
    intro w1 G bs hI hΓ
    exact Post.of [1] (none, 0) hI hΓ rfl rfl rfl ok_nil
theorem f284 (w : World) (n : Nat) (hn : n + 1 ≤ 9) (slices : (List (List Int))) (K0 : Option Addr) (M0 : Nat) (N0 : RdSl (hp w) K0 M0 slices) (hq0 : slices.length ≤ 4) (hokslices : GoT.ok n slices) :
  Does Tryz.prog 284 #[.slice K0 ((slices).length) M0] w emp (Post w emp (fun x : GoT.X ((List Int)) => (GoT.sh ((slices_Concat_int slices) : (List Int)) x).headD undef) (fun x => GoT.oa ((slices_Concat_int slices) : (List Int)) x) (GoT.ok (n + 1) ((slices_Concat_int slices) : (List Int)))) := by
 have hbP := bd_pos n
 have hbS0 : bd (n + 1) = 4 * bd (n) := bd_succ (n := n) (by omega)
 have hbB := bd_big (n := (n + 1)) (by omega)
 have hbM := bd_mono (show n ≤ n + 1 by omega)
 refine WX.enter (tt := tt) (Γ := [(0, MF.rs .stb K0 M0 slices)]) Tryz.func284 rfl (by kernel_rfl) rfl (allS_cons rfl N0 allS_nil) ?_
 refine R0 ?_
 have r1 : (slices).length ≤ bd n := (okl hokslices).1
 refine WX.loop (ι := Int × Nat) ⟨fun | (size, i) => (i ≤ (slices).length) ∧ (-9223372036854775808 ≤ size ∧ size ≤ 9223372036854775807) ∧ (0 ≤ size ∧ size ≤ 274877906944 * ((i : Nat) : Int)) ∧ (slices_Concat_int_L1 slices 0 = slices_Concat_int_L1 ((slices).drop i) size), fun | (size, i) => (slices).length - i, fun | (size, i) => [(3, .v (.int .i64 (size))), (11, .v (.int .i64 (((i : Nat) : Int)))), (10, .v (.int .i64 ((((slices).length : Nat) : Int)))), (9, .v (.slice K0 ((slices).length) M0)), (0, .v (.slice K0 ((slices).length) M0))], fun | (size, i) => [], fun | (size, i) => [], fun | (size, i) => [(0, MF.rs .stb K0 M0 slices)]⟩ (0, 0) ⟨(Nat.zero_le _), (by first | assumption | omega), (by omega), rfl⟩
  (.cons rfl (.cons rfl (.cons rfl (.cons rfl (.cons rfl (.nil)))))) .nil .nil [0] rfl ?_
 rintro ⟨size, i⟩ hpre
 have hpre_ : (i ≤ (slices).length) ∧ (-9223372036854775808 ≤ size ∧ size ≤ 9223372036854775807) ∧ (0 ≤ size ∧ size ≤ 274877906944 * ((i : Nat) : Int)) ∧ (slices_Concat_int_L1 slices 0 = slices_Concat_int_L1 ((slices).drop i) size) := hpre
 clear hpre
 obtain ⟨v1, v2, v3, v4⟩ := hpre_
 refine R0 ?_
 refine WX.cases 12 rfl (fun h1 => ?_) (fun h1 => ?_)
 ·skip
  have h1d := B.dt h1
  have e1i : i < (slices).length := (by omega)
  obtain ⟨e1, e1h⟩ : ∃ e1, (slices)[i]? = some e1 := ⟨_, List.getElem?_eq_getElem e1i⟩
  have ok1 : GoT.ok n e1 := (okl hokslices).2 _ (List.mem_of_getElem? e1h)
  refine R0 ?_
  refine WX.idx 0 i ttOk rfl rfl rfl rfl rfl rfl rfl rfl rfl rfl e1i ?_
  rintro ad1 rfl
  refine WX.ldE 0 1 e1 ttOk rfl rfl rfl rfl rfl rfl rfl rfl e1h (fun _ => rfl) (fun _ => rfl) ?_
  rintro ⟨p1, c1⟩
  refine R0 ?_
  have r2 : (e1).length ≤ bd n := (okl ok1).1
  refine WX.see rfl rfl rfl (fun _ hΓ => looks_arith rfl rfl rfl rfl (by unfold I64; first | omega | (simp only [List.length_take] at *; omega))) ?_
  refine R0 ?_
  refine WX.cases 20 rfl (fun h2 => ?_) (fun h2 => ?_)
  ·skip
   have h2d := B.dt h2
   exfalso; omega
  ·skip
   have h2d := B.df h2
   refine R0 ?_
   refine WX.see rfl rfl rfl (fun _ hΓ => looks_arith rfl rfl rfl rfl (by unfold I64; first | omega | (simp only [List.length_take] at *; omega))) ?_
   refine R0 ?_
   exact WX.iter (size + (((e1).length : Nat) : Int), i + 1) ⟨(by omega), (by first | assumption | omega), (by omega), (by rw [v4, drop_get e1h]; simp only [slices_Concat_int_L1, h2, ct, cf])⟩ (by first | (dsimp only; omega) | omega) (.cons rfl (.cons rfl (.cons rfl (.cons rfl (.cons rfl (.nil)))))) .nil .nil [0] rfl
 ·skip
  have h1d := B.df h1
  refine R0 ?_
  have hX1 : slices_Concat_int_L1 slices 0 = size := by rw [v4, List.drop_eq_nil_of_le (show (slices).length ≤ i by omega)]; simp only [slices_Concat_int_L1, ct, cf]
  refine WX.callF 2 (fun _ _ h => GoT.ow_rd h) (fun _ f hf => GoT.fak f hf) rfl rfl rfl rfl rfl (fun _ => rfl) rfl (fun w G bs hI hΓ => f295 w n (by omega) ([] : List Int) none 0 (rdSl_nil _ _ _) size ⟨rfl, rfl, rfl⟩ (by omega) (ok_nil (α := Int)) v2) (fun _ => rfl) (fun _ => rfl) ?_
  rintro ⟨p2, c2⟩ hq1
  refine R0 ?_
  refine WX.loop (ι := (Option Addr) × Nat × (List Int) × Nat) ⟨fun | (pnewslice, cnewslice, newslice, i) => (i ≤ (slices).length) ∧ (newslice.length ≤ bd (n + 1) ∧ ∀ z_ ∈ newslice, GoT.ok (n + 1) z_) ∧ (newslice.length ≤ 0 ∨ (i = 1 ∧ newslice.length ≤ bd n) ∨ (i = 2 ∧ newslice.length ≤ 2 * bd n) ∨ (i = 3 ∧ newslice.length ≤ 3 * bd n) ∨ (4 ≤ i ∧ newslice.length ≤ 4 * bd n)) ∧ (slices_Concat_int_L2 slices ((slices_Grow_int ([] : List Int) size) : List Int) = slices_Concat_int_L2 ((slices).drop i) newslice), fun | (pnewslice, cnewslice, newslice, i) => (slices).length - i, fun | (pnewslice, cnewslice, newslice, i) => [(6, .v (.slice pnewslice ((newslice).length) cnewslice)), (27, .v (.int .i64 (((i : Nat) : Int)))), (26, .v (.int .i64 ((((slices).length : Nat) : Int)))), (25, .v (.slice K0 ((slices).length) M0))], fun | (pnewslice, cnewslice, newslice, i) => [], fun | (pnewslice, cnewslice, newslice, i) => [], fun | (pnewslice, cnewslice, newslice, i) => [(0, MF.rs .stb K0 M0 slices), (3, MF.os pnewslice cnewslice newslice)]⟩ (p2, c2, ((slices_Grow_int ([] : List Int) size) : List Int), 0) ⟨(Nat.zero_le _), (GoT.okm (α := List Int) (by omega) hq1), (by simp [slices_Grow_int]), rfl⟩
   (.cons rfl (.cons rfl (.cons rfl (.cons rfl (.nil))))) .nil .nil [0, 3] rfl ?_
  rintro ⟨pnewslice, cnewslice, newslice, i⟩ hpre
  have hpre_ : (i ≤ (slices).length) ∧ (newslice.length ≤ bd (n + 1) ∧ ∀ z_ ∈ newslice, GoT.ok (n + 1) z_) ∧ (newslice.length ≤ 0 ∨ (i = 1 ∧ newslice.length ≤ bd n) ∨ (i = 2 ∧ newslice.length ≤ 2 * bd n) ∨ (i = 3 ∧ newslice.length ≤ 3 * bd n) ∨ (4 ≤ i ∧ newslice.length ≤ 4 * bd n)) ∧ (slices_Concat_int_L2 slices ((slices_Grow_int ([] : List Int) size) : List Int) = slices_Concat_int_L2 ((slices).drop i) newslice) := hpre
  clear hpre
  obtain ⟨v5, v6, v7, v8⟩ := hpre_
  have v6L := v6.1
  refine R0 ?_
  refine WX.cases 28 rfl (fun h3 => ?_) (fun h3 => ?_)
  ·skip
   have h3d := B.dt h3
   have e2i : i < (slices).length := (by omega)
   obtain ⟨e2, e2h⟩ : ∃ e2, (slices)[i]? = some e2 := ⟨_, List.getElem?_eq_getElem e2i⟩
   have ok2 : GoT.ok n e2 := (okl hokslices).2 _ (List.mem_of_getElem? e2h)
   refine R0 ?_
   refine WX.idx 0 i ttOk rfl rfl rfl rfl rfl rfl rfl rfl rfl rfl e2i ?_
   rintro ad2 rfl
   refine WX.ldE 0 4 e2 ttOk rfl rfl rfl rfl rfl rfl rfl rfl e2h (fun _ => rfl) (fun _ => rfl) ?_
   rintro ⟨p3, c3⟩
   refine R0 ?_
   refine WX.opn (kk := 1) 501 3 5 rfl rfl rfl ?_
   intro xs1 hx1
   have r3 : (e2).length ≤ bd n := (okl ok2).1
   refine WX.appG1 501 4 6 ((newslice ++ e2) : List Int).length ttOk rfl rfl rfl rfl rfl rfl rfl rfl rfl rfl rfl rfl rfl (by first | (simp; done) | (simp; omega)) (by simp; omega) (by simp; omega) (fun _ _ _ => rfl) ?_
   intro ys1 p4 c4
   refine WX.know (fun G hΓ => (hΓ.get 6 rfl : RdL _ _ _).flat) ?_
   intro hf1
   refine WX.turn [5] 7 rfl (fun h hs => ol_flat hs hf1) (gs := [MF.ol (xs1 ++ ys1) ((newslice ++ e2) : List Int)]) rfl ?_
   refine R0 ?_
   refine WX.see rfl rfl rfl (fun _ hΓ => looks_arith rfl rfl rfl rfl (by unfold I64; first | omega | (simp only [List.length_take] at *; omega))) ?_
   refine R0 ?_
   refine WX.seal 501 7 8 rfl rfl rfl rfl rfl ?_
   refine WX.turn [9] 3 rfl (fun _ h => h) rfl ?_
   exact WX.iter (p4, c4, (newslice ++ e2), i + 1) ⟨(by omega), (okl_mk (by simp; omega) (all_app v6.2 (fun a ha => GoT.okm (by omega) ((okl ok2).2 a ha))) : GoT.ok (n + 1) ((newslice ++ e2) : List Int)), (by simp only [List.length_append]; omega), (by rw [v8, drop_get e2h]; simp only [slices_Concat_int_L2, ct, cf])⟩ (by first | (dsimp only; omega) | omega) (.cons rfl (.cons rfl (.cons rfl (.cons rfl (.nil))))) .nil .nil [0, 3] rfl
  ·skip
   have h3d := B.df h3
   refine R0 ?_
   have hX2 : slices_Concat_int_L2 slices ((slices_Grow_int ([] : List Int) size) : List Int) = ((newslice) : List Int) := by rw [v8, List.drop_eq_nil_of_le (show (slices).length ≤ i by omega)]; simp only [slices_Concat_int_L2, ct, cf]
   have hP1 : slices_Concat_int slices = newslice := by simp only [slices_Concat_int, hX1, hX2, ct, cf]
   refine R1 ?_
   intro w1 G bs hI hΓ
   rw [hP1]
   exact Post.of [3] (pnewslice, cnewslice) hI hΓ rfl rfl rfl (okl_of v6)
theorem f271 (w : World) (n : Nat) (hn : n + 1 ≤ 9) (secret : Int) (l : (List Int)) (pl : Option Addr) (cl : Nat) (N0 : RdSl (hp w) pl cl l) (hoksecret : GoT.ok n secret) (hokl : GoT.ok n l) :
  Does Tryz.prog 271 #[.int .i64 (secret), .slice pl ((l).length) cl] w emp (fun (rv : Value) (_ : World) => rv = .int .i64 ((impl_ComputeMAC secret l)) ∧ GoT.ok n ((impl_ComputeMAC secret l) : Int)) := by
 have hbP := bd_pos n
 have hbS0 : bd (n + 1) = 4 * bd (n) := bd_succ (n := n) (by omega)
 have hbB := bd_big (n := (n + 1)) (by omega)
 have hbM := bd_mono (show n ≤ n + 1 by omega)
 refine WX.enter (tt := tt) (Γ := [(0, MF.rs .stb pl cl l)]) Tryz.func271 rfl (by kernel_rfl) rfl (allS_cons rfl N0 allS_nil) ?_
 refine R0 ?_
 refine WX.bld ttOk rfl rfl rfl rfl rfl rfl rfl ?_
 intro p1
 refine R0 ?_
 refine WX.bld ttOk rfl rfl rfl rfl rfl rfl rfl ?_
 intro p2
 refine WX.turn [] 1 rfl (fun h hs => ol_one (α := Int) (a := secret) (x := ()) hs) (gs := [MF.ol [.int .i64 (secret)] ([secret] : List Int)]) rfl ?_
 refine WX.seal 6 1 2 rfl rfl rfl rfl rfl ?_
 refine WX.turn [] 4 rfl (fun h hs => ol_one (α := Int) (a := secret) (x := ()) hs) (gs := [MF.ol [.int .i64 (secret)] ([secret] : List Int)]) rfl ?_
 refine WX.seal 9 4 5 rfl rfl rfl rfl rfl ?_
 refine WX.bld ttOk rfl rfl rfl rfl rfl rfl rfl ?_
 intro p3
 have r1 : -9223372036854775808 ≤ secret ∧ secret ≤ 9223372036854775807 := hoksecret
 refine WX.freeze [3] 7 (MF.rs .stb p1 1 ([secret] : (List Int))) rfl rfl (fun h hs => (sep_one hs : OwSl _ _ _ _).rd) ?_
 refine WX.freeze [6] 8 (MF.rs .stb p2 1 ([secret] : (List Int))) rfl rfl (fun h hs => (sep_one hs : OwSl _ _ _ _).rd) ?_
 refine WX.free 9 (MF.rl .stb [] ([] : List ((List Int)))) rfl ?_
 refine WX.stb2 10 (MF.rl .stb (GoT.sh (([secret]) : (List Int)) (p1, 1)) (([([secret])]) : List ((List Int)))) rfl 9 7 rfl rfl rfl rfl (fun G a b => RdL.snoc (a := (([secret]) : (List Int))) (x := (p1, 1)) (fun f hf => by cases List.mem_singleton.1 hf; exact b) (a : RdL _ _ _)) ?_
 refine WX.stb2 11 (MF.rl .stb (GoT.sh (([secret]) : (List Int)) (p1, 1) ++ GoT.sh (l : (List Int)) (pl, cl)) (([([secret])] ++ [l]) : List ((List Int)))) rfl 10 0 rfl rfl rfl rfl (fun G a b => RdL.snoc (a := (l : (List Int))) (x := (pl, cl)) (fun f hf => by cases List.mem_singleton.1 hf; exact b) (a : RdL _ _ _)) ?_
 refine WX.stb2 12 (MF.rl .stb ([.slice p1 (1) 1, .slice pl ((l).length) cl, .slice p2 (1) 1]) ([([secret]), l, ([secret])] : List ((List Int)))) rfl 11 8 rfl rfl rfl rfl (fun G a b => RdL.snoc (a := (([secret]) : (List Int))) (x := (p2, 1)) (fun f hf => by cases List.mem_singleton.1 hf; exact b) (a : RdL _ _ _)) ?_
 refine WX.sealS 10 12 13 rfl rfl rfl rfl rfl ?_
 have r2 : (l).length ≤ bd n := (okl hokl).1
 refine WX.callF 14 (fun _ _ h => GoT.ow_rd h) (fun _ f hf => GoT.fak f hf) rfl rfl rfl rfl rfl (fun _ => rfl) rfl (fun w G bs hI hΓ => f284 w n (by omega) ([([secret]), l, ([secret])]) p3 3 (hΓ.get 13 rfl) (by simp) (okl_mk (by simp; omega) (all_cons (α := (List Int)) (okl_mk (by simp; omega) (all_cons (α := Int) hoksecret (fun a ha => by cases ha)) : GoT.ok n ([secret] : List Int)) (all_cons (α := (List Int)) hokl (all_cons (α := (List Int)) (okl_mk (by simp; omega) (all_cons (α := Int) hoksecret (fun a ha => by cases ha)) : GoT.ok n ([secret] : List Int)) (fun a ha => by cases ha)))) : GoT.ok n ([([secret]), l, ([secret])] : List (List Int)))) (fun _ => rfl) (fun _ => rfl) ?_
 rintro ⟨p4, c1⟩ hq1
 have q1 := len_Concat ([([secret]), l, ([secret])])
 refine WX.callV rfl rfl rfl rfl rfl (fun _ => rfl) rfl (fun w G bs hI hΓ => f278 w (n + 1) (by omega) (slices_Concat_int ([([secret]), l, ([secret])])) p4 c1 (hΓ.get 14 rfl) hq1) ?_
 intro hq2
 refine R0 ?_
 have hP1 : impl_ComputeMAC secret l = (impl_Digest (slices_Concat_int ([([secret]), l, ([secret])]))) := by simp only [impl_ComputeMAC, ct, cf]
 refine R1 ?_
 intro w1 G bs hI hΓ
 rw [hP1]
 exact ⟨rfl, hq2⟩
theorem f272 (w : World) (n : Nat) (hn : n + 5 ≤ 9) (x_ : DataP) (K0 : Option Addr) (M0 : Nat) (N0 : RdSl (hp w) K0 M0 x_.name.parts) (K1 : Option Addr) (M1 : Nat) (N1 : RdSl (hp w) K1 M1 x_.content) (K2 : Option Addr) (M2 : Nat) (N2 : RdSl (hp w) K2 M2 x_.keyName.parts) (hokx_ : GoT.ok n x_) :
  Does Tryz.prog 272 #[.agg #[.slice K0 ((x_.name.parts).length) M0, .slice K1 ((x_.content).length) M1, .slice K2 ((x_.keyName.parts).length) M2, .int .i64 (x_.freshUntil), .int .i64 (x_.signature)]] w emp (Post w emp (fun x : GoT.X ((List Int)) => (GoT.sh ((impl_SignedPortion x_) : (List Int)) x).headD undef) (fun x => GoT.oa ((impl_SignedPortion x_) : (List Int)) x) (GoT.ok (n + 5) ((impl_SignedPortion x_) : (List Int)))) := by
 have hbP := bd_pos n
 have hbS0 : bd (n + 1) = 4 * bd (n) := bd_succ (n := n) (by omega)
 have hbS1 : bd (n + 2) = 4 * bd (n + 1) := bd_succ (n := n + 1) (by omega)
 have hbS2 : bd (n + 3) = 4 * bd (n + 2) := bd_succ (n := n + 2) (by omega)
 have hbS3 : bd (n + 4) = 4 * bd (n + 3) := bd_succ (n := n + 3) (by omega)
 have hbS4 : bd (n + 5) = 4 * bd (n + 4) := bd_succ (n := n + 4) (by omega)
 have hbB := bd_big (n := (n + 5)) (by omega)
 have hbM := bd_mono (show n ≤ n + 5 by omega)
 refine WX.enter (tt := tt) (Γ := [(0, MF.rs .stb K0 M0 x_.name.parts), (1, MF.rs .stb K1 M1 x_.content), (2, MF.rs .stb K2 M2 x_.keyName.parts)]) Tryz.func272 rfl (by kernel_rfl) rfl (allS_cons rfl N0 (allS_cons rfl N1 (allS_cons rfl N2 allS_nil))) ?_
 refine R0 ?_
 refine WX.draw [16] mixed ?_
 intro bs G0 hΓ0
 refine DX.takes (fuel := 10) ttOk [(0, true), (1, false), (4, true), (5, false), (7, true), (8, false), (13, true), (14, false)] (by kernel_rfl) rfl ?_
 refine DX.toTX ?_
 intro S_
 refine TX.toP ?_
 refine TXP.pend (PI.lit 15 18 1 3 [.int .i64 (x_.freshUntil)] [(17, .v (.int .i64 (x_.freshUntil)))]) (lit_ok ttOk rfl rfl rfl rfl rfl rfl rfl) (.cons rfl .nil) rfl (by kernel_rfl) rfl ?_
 refine TXP.callF 2 3 (fun _ _ h => GoT.ow_rd h) (fun _ f hf => GoT.fak f hf) (by kernel_rfl) (by kernel_rfl) rfl rfl rfl rfl rfl rfl rfl (fun _ => rfl) rfl (fun w G bs hI hΓ => f286 w n (by omega) ([] : List UInt8) none 0 (rdSl_nil _ _ _) x_.name K0 M0 (hΓ.get 0 rfl) (ok_nil (α := UInt8)) ((ok_DataP hokx_).1)) (fun _ => rfl) (fun _ => rfl) ?_
 rintro ⟨p1, c1⟩ hq1
 have q1 := len_implAN ([] : List UInt8) x_.name
 refine TXP.callF 3 5 (fun _ _ h => GoT.ow_rd h) (fun _ f hf => GoT.fak f hf) (by kernel_rfl) (by kernel_rfl) rfl rfl rfl rfl rfl rfl rfl (fun _ => rfl) rfl (fun w G bs hI hΓ => f285 w (n + 1) (by omega) (impl_AppendName ([] : List UInt8) x_.name) p1 c1 (hΓ.get 3 rfl) hq1) (fun _ => rfl) (fun _ => rfl) ?_
 rintro ⟨p2, c2⟩ hq2
 have q2 := len_implBI (impl_AppendName ([] : List UInt8) x_.name)
 refine TXP.callF 6 7 (fun _ _ h => GoT.ow_rd h) (fun _ f hf => GoT.fak f hf) (by kernel_rfl) (by kernel_rfl) rfl rfl rfl rfl rfl rfl rfl (fun _ => rfl) rfl (fun w G bs hI hΓ => f285 w n (by omega) x_.content K1 M1 (hΓ.get 1 rfl) ((ok_DataP hokx_).2.1)) (fun _ => rfl) (fun _ => rfl) ?_
 rintro ⟨p3, c3⟩ hq3
 have q3 := len_implBI x_.content
 refine TXP.callF 9 9 (fun _ _ h => GoT.ow_rd h) (fun _ f hf => GoT.fak f hf) (by kernel_rfl) (by kernel_rfl) rfl rfl rfl rfl rfl rfl rfl (fun _ => rfl) rfl (fun w G bs hI hΓ => f286 w n (by omega) ([] : List UInt8) none 0 (rdSl_nil _ _ _) x_.keyName K2 M2 (hΓ.get 2 rfl) (ok_nil (α := UInt8)) ((ok_DataP hokx_).2.2.1)) (fun _ => rfl) (fun _ => rfl) ?_
 rintro ⟨p4, c4⟩ hq4
 have q4 := len_implAN ([] : List UInt8) x_.keyName
 refine TXP.callF 10 11 (fun _ _ h => GoT.ow_rd h) (fun _ f hf => GoT.fak f hf) (by kernel_rfl) (by kernel_rfl) rfl rfl rfl rfl rfl rfl rfl (fun _ => rfl) rfl (fun w G bs hI hΓ => f285 w (n + 1) (by omega) (impl_AppendName ([] : List UInt8) x_.keyName) p4 c4 (hΓ.get 9 rfl) hq4) (fun _ => rfl) (fun _ => rfl) ?_
 rintro ⟨p5, c5⟩ hq5
 have q5 := len_implBI (impl_AppendName ([] : List UInt8) x_.keyName)
 refine TXP.splitS (α := Int) (l := [x_.freshUntil]) 0 13 rfl rfl rfl ⟨(), _, emp, _, rfl, emp_le _, Le.refl _, emp_dj _, trivial, rfl⟩ rfl ?_ ?_
 ·skip
  refine TXP.done ?_
  refine TX.all2 11 15 (by kernel_rfl) ?_ ?_
  ·skip
   refine TS.op 11 rfl (by kernel_rfl) ?_
   refine WX.bld ttOk rfl rfl rfl rfl rfl rfl rfl ?_
   intro p6
   refine R0 ?_
   refine WX.turn [6] 15 rfl (fun h hs => ol_one (α := (List Int)) (a := (impl_BytesToInts (impl_AppendName ([] : List UInt8) x_.name))) (x := (p2, c2)) hs) (gs := [MF.ol (GoT.sh ((impl_BytesToInts (impl_AppendName ([] : List UInt8) x_.name)) : (List Int)) (p2, c2)) (([(impl_BytesToInts (impl_AppendName ([] : List UInt8) x_.name))]) : List (List Int))]) rfl ?_
   refine WX.turn [15, 8] 16 rfl (fun h hs => ol_snoc (α := (List Int)) (a := (impl_BytesToInts x_.content)) (x := (p3, c3)) hs) (gs := [MF.ol (GoT.sh ((impl_BytesToInts (impl_AppendName ([] : List UInt8) x_.name)) : (List Int)) (p2, c2) ++ GoT.sh ((impl_BytesToInts x_.content) : (List Int)) (p3, c3)) (([(impl_BytesToInts (impl_AppendName ([] : List UInt8) x_.name))] ++ [(impl_BytesToInts x_.content)]) : List (List Int))]) rfl ?_
   refine WX.turn [16, 12] 14 rfl (fun h hs => ol_snoc (α := (List Int)) (a := (impl_BytesToInts (impl_AppendName ([] : List UInt8) x_.keyName))) (x := (p5, c5)) hs) (gs := [MF.ol [.slice p2 (((impl_BytesToInts (impl_AppendName ([] : List UInt8) x_.name))).length) c2, .slice p3 (((impl_BytesToInts x_.content)).length) c3, .slice p5 (((impl_BytesToInts (impl_AppendName ([] : List UInt8) x_.keyName))).length) c5] ([(impl_BytesToInts (impl_AppendName ([] : List UInt8) x_.name)), (impl_BytesToInts x_.content), (impl_BytesToInts (impl_AppendName ([] : List UInt8) x_.keyName))] : List (List Int))]) rfl ?_
   refine WX.seal 14 14 17 rfl rfl rfl rfl rfl ?_
   refine WX.back0 ?_
   refine TX.all2 12 15 (by kernel_rfl) ?_ ?_
   ·skip
    have r1 : (x_.content).length ≤ bd n := (okl (ok_DataP hokx_).2.1).1
    have r2 : (impl_AppendName ([] : List UInt8) x_.name).length ≤ bd (n + 1) := (okl hq1).1
    have r3 : (impl_BytesToInts (impl_AppendName ([] : List UInt8) x_.name)).length ≤ bd (n + 2) := (okl hq2).1
    have r4 : (impl_BytesToInts x_.content).length ≤ bd (n + 1) := (okl hq3).1
    have r5 : (impl_AppendName ([] : List UInt8) x_.keyName).length ≤ bd (n + 1) := (okl hq4).1
    have r6 : (impl_BytesToInts (impl_AppendName ([] : List UInt8) x_.keyName)).length ≤ bd (n + 2) := (okl hq5).1
    refine TS.callF 12 19 (fun _ _ h => GoT.ow_rd h) (fun _ f hf => GoT.fak f hf) rfl rfl rfl rfl rfl rfl (fun _ => rfl) rfl (fun w G bs hI hΓ => f284 w (n + 2) (by omega) ([(impl_BytesToInts (impl_AppendName ([] : List UInt8) x_.name)), (impl_BytesToInts x_.content), (impl_BytesToInts (impl_AppendName ([] : List UInt8) x_.keyName))]) p6 3 (hΓ.get 17 rfl) (by simp) (okl_mk (by simp; omega) (all_cons (α := (List Int)) hq2 (all_cons (α := (List Int)) (GoT.okm (α := List Int) (by omega) hq3) (all_cons (α := (List Int)) hq5 (fun a ha => by cases ha)))) : GoT.ok (n + 2) ([(impl_BytesToInts (impl_AppendName ([] : List UInt8) x_.name)), (impl_BytesToInts x_.content), (impl_BytesToInts (impl_AppendName ([] : List UInt8) x_.keyName))] : List (List Int)))) (fun _ => rfl) (fun _ => rfl) ?_
    rintro ⟨p7, c6⟩ hq6
    have q6 := len_Concat ([(impl_BytesToInts (impl_AppendName ([] : List UInt8) x_.name)), (impl_BytesToInts x_.content), (impl_BytesToInts (impl_AppendName ([] : List UInt8) x_.keyName))])
    refine TX.all1 15 (by kernel_rfl) ?_
    refine TS.op 15 rfl (by kernel_rfl) ?_
    refine WX.bld ttOk rfl rfl rfl rfl rfl rfl rfl ?_
    intro p8
    refine R0 ?_
    refine WX.turn [] 21 rfl (fun h hs => ol_one (α := Int) (a := x_.freshUntil) (x := ()) hs) (gs := [MF.ol [.int .i64 (x_.freshUntil)] ([x_.freshUntil] : List Int)]) rfl ?_
    refine WX.seal 18 21 22 rfl rfl rfl rfl rfl ?_
    refine WX.back0 ?_
    refine TX.all1 16 (by kernel_rfl) ?_
    refine TS.op 16 rfl (by kernel_rfl) ?_
    refine WX.opn (kk := 1) 501 20 24 rfl rfl rfl ?_
    intro xs1 hx1
    refine WX.der 25 (MF.rs .der p8 1 ([x_.freshUntil])) rfl (fun _ hΓ => (hΓ.get 23 rfl : OwSl _ _ _ _).rd) ?_
    have r7 : -9223372036854775808 ≤ x_.freshUntil ∧ x_.freshUntil ≤ 9223372036854775807 := (ok_DataP hokx_).2.2.2.1
    have r8 : (slices_Concat_int ([(impl_BytesToInts (impl_AppendName ([] : List UInt8) x_.name)), (impl_BytesToInts x_.content), (impl_BytesToInts (impl_AppendName ([] : List UInt8) x_.keyName))])).length ≤ bd (n + 3) := (okl hq6).1
    refine WX.appG1 501 25 26 (((slices_Concat_int ([(impl_BytesToInts (impl_AppendName ([] : List UInt8) x_.name)), (impl_BytesToInts x_.content), (impl_BytesToInts (impl_AppendName ([] : List UInt8) x_.keyName))])) ++ [x_.freshUntil]) : List Int).length ttOk rfl rfl rfl rfl rfl rfl rfl rfl rfl rfl rfl rfl rfl (by first | (simp; done) | (simp; omega)) (by simp; omega) (by simp; omega) (fun _ _ _ => rfl) ?_
    intro ys1 p9 c7
    refine WX.know (fun G hΓ => (hΓ.get 26 rfl : RdL _ _ _).flat) ?_
    intro hf1
    refine WX.turn [24] 27 rfl (fun h hs => ol_flat hs hf1) (gs := [MF.ol (xs1 ++ ys1) (((slices_Concat_int ([(impl_BytesToInts (impl_AppendName ([] : List UInt8) x_.name)), (impl_BytesToInts x_.content), (impl_BytesToInts (impl_AppendName ([] : List UInt8) x_.keyName))])) ++ [x_.freshUntil]) : List Int)]) rfl ?_
    refine R0 ?_
    refine WX.back0 ?_
    refine TX.takes (fuel := 0) ttOk [17] (by kernel_rfl) rfl ?_
    refine TX.tail [] rfl rfl (by kernel_rfl) ?_
    refine R0 ?_
    refine WX.seal 501 27 28 rfl rfl rfl rfl rfl ?_
    have hP1 : impl_SignedPortion x_ = ((slices_Concat_int ([(impl_BytesToInts (impl_AppendName ([] : List UInt8) x_.name)), (impl_BytesToInts x_.content), (impl_BytesToInts (impl_AppendName ([] : List UInt8) x_.keyName))])) ++ [x_.freshUntil]) := by simp only [impl_SignedPortion, ct, cf]
    refine R1 ?_
    intro w1 G bs hI hΓ
    rw [hP1]
    exact Post.of [29] (p9, c7) hI hΓ rfl rfl rfl (okl_mk (by simp; omega) (fun a ha => GoT.okm (by omega) ((fun a ha => GoT.okm (show (n + 3) ≤ (n + 4) by omega) ((all_app (okl hq6).2 (fun a ha => GoT.okm (by omega) ((all_cons (α := Int) (ok_DataP hokx_).2.2.2.1 (fun a ha => by cases ha)) a ha))) a ha)) a ha)) : GoT.ok (n + 5) (((slices_Concat_int ([(impl_BytesToInts (impl_AppendName ([] : List UInt8) x_.name)), (impl_BytesToInts x_.content), (impl_BytesToInts (impl_AppendName ([] : List UInt8) x_.keyName))])) ++ [x_.freshUntil]) : List Int))
   ·skip
    refine TS.op 15 rfl (by kernel_rfl) ?_
    refine WX.bld ttOk rfl rfl rfl rfl rfl rfl rfl ?_
    intro p10
    refine R0 ?_
    refine WX.turn [] 30 rfl (fun h hs => ol_one (α := Int) (a := x_.freshUntil) (x := ()) hs) (gs := [MF.ol [.int .i64 (x_.freshUntil)] ([x_.freshUntil] : List Int)]) rfl ?_
    refine WX.seal 18 30 31 rfl rfl rfl rfl rfl ?_
    refine WX.back0 ?_
    refine TX.all1 12 (by kernel_rfl) ?_
    refine TS.der 33 (MF.rs .der p6 3 ([(impl_BytesToInts (impl_AppendName ([] : List UInt8) x_.name)), (impl_BytesToInts x_.content), (impl_BytesToInts (impl_AppendName ([] : List UInt8) x_.keyName))])) rfl (fun _ hΓ => (hΓ.get 18 rfl : OwSl _ _ _ _).rd) ?_
    have r9 : (x_.content).length ≤ bd n := (okl (ok_DataP hokx_).2.1).1
    have r10 : (impl_AppendName ([] : List UInt8) x_.name).length ≤ bd (n + 1) := (okl hq1).1
    have r11 : (impl_BytesToInts (impl_AppendName ([] : List UInt8) x_.name)).length ≤ bd (n + 2) := (okl hq2).1
    have r12 : (impl_BytesToInts x_.content).length ≤ bd (n + 1) := (okl hq3).1
    have r13 : (impl_AppendName ([] : List UInt8) x_.keyName).length ≤ bd (n + 1) := (okl hq4).1
    have r14 : (impl_BytesToInts (impl_AppendName ([] : List UInt8) x_.keyName)).length ≤ bd (n + 2) := (okl hq5).1
    refine TS.callF 12 34 (fun _ _ h => GoT.ow_rd h) (fun _ f hf => GoT.fak f hf) rfl rfl rfl rfl rfl rfl (fun _ => rfl) rfl (fun w G bs hI hΓ => f284 w (n + 2) (by omega) ([(impl_BytesToInts (impl_AppendName ([] : List UInt8) x_.name)), (impl_BytesToInts x_.content), (impl_BytesToInts (impl_AppendName ([] : List UInt8) x_.keyName))]) p6 3 (hΓ.get 33 rfl) (by simp) (okl_mk (by simp; omega) (all_cons (α := (List Int)) hq2 (all_cons (α := (List Int)) (GoT.okm (α := List Int) (by omega) hq3) (all_cons (α := (List Int)) hq5 (fun a ha => by cases ha)))) : GoT.ok (n + 2) ([(impl_BytesToInts (impl_AppendName ([] : List UInt8) x_.name)), (impl_BytesToInts x_.content), (impl_BytesToInts (impl_AppendName ([] : List UInt8) x_.keyName))] : List (List Int)))) (fun _ => rfl) (fun _ => rfl) ?_
    rintro ⟨p11, c8⟩ hq7
    have q7 := len_Concat ([(impl_BytesToInts (impl_AppendName ([] : List UInt8) x_.name)), (impl_BytesToInts x_.content), (impl_BytesToInts (impl_AppendName ([] : List UInt8) x_.keyName))])
    refine TX.all1 16 (by kernel_rfl) ?_
    refine TS.op 16 rfl (by kernel_rfl) ?_
    refine WX.opn (kk := 1) 502 35 36 rfl rfl rfl ?_
    intro xs2 hx2
    refine WX.der 37 (MF.rs .der p10 1 ([x_.freshUntil])) rfl (fun _ hΓ => (hΓ.get 32 rfl : OwSl _ _ _ _).rd) ?_
    have r15 : -9223372036854775808 ≤ x_.freshUntil ∧ x_.freshUntil ≤ 9223372036854775807 := (ok_DataP hokx_).2.2.2.1
    have r16 : (slices_Concat_int ([(impl_BytesToInts (impl_AppendName ([] : List UInt8) x_.name)), (impl_BytesToInts x_.content), (impl_BytesToInts (impl_AppendName ([] : List UInt8) x_.keyName))])).length ≤ bd (n + 3) := (okl hq7).1
    refine WX.appG1 502 37 38 (((slices_Concat_int ([(impl_BytesToInts (impl_AppendName ([] : List UInt8) x_.name)), (impl_BytesToInts x_.content), (impl_BytesToInts (impl_AppendName ([] : List UInt8) x_.keyName))])) ++ [x_.freshUntil]) : List Int).length ttOk rfl rfl rfl rfl rfl rfl rfl rfl rfl rfl rfl rfl rfl (by first | (simp; done) | (simp; omega)) (by simp; omega) (by simp; omega) (fun _ _ _ => rfl) ?_
    intro ys2 p12 c9
    refine WX.know (fun G hΓ => (hΓ.get 38 rfl : RdL _ _ _).flat) ?_
    intro hf2
    refine WX.turn [36] 39 rfl (fun h hs => ol_flat hs hf2) (gs := [MF.ol (xs2 ++ ys2) (((slices_Concat_int ([(impl_BytesToInts (impl_AppendName ([] : List UInt8) x_.name)), (impl_BytesToInts x_.content), (impl_BytesToInts (impl_AppendName ([] : List UInt8) x_.keyName))])) ++ [x_.freshUntil]) : List Int)]) rfl ?_
    refine R0 ?_
    refine WX.back0 ?_
    refine TX.takes (fuel := 0) ttOk [17] (by kernel_rfl) rfl ?_
    refine TX.tail [] rfl rfl (by kernel_rfl) ?_
    refine R0 ?_
    refine WX.seal 502 39 40 rfl rfl rfl rfl rfl ?_
    have hP2 : impl_SignedPortion x_ = ((slices_Concat_int ([(impl_BytesToInts (impl_AppendName ([] : List UInt8) x_.name)), (impl_BytesToInts x_.content), (impl_BytesToInts (impl_AppendName ([] : List UInt8) x_.keyName))])) ++ [x_.freshUntil]) := by simp only [impl_SignedPortion, ct, cf]
    refine R1 ?_
    intro w1 G bs hI hΓ
    rw [hP2]
    exact Post.of [41] (p12, c9) hI hΓ rfl rfl rfl (okl_mk (by simp; omega) (fun a ha => GoT.okm (by omega) ((fun a ha => GoT.okm (show (n + 3) ≤ (n + 4) by omega) ((all_app (okl hq7).2 (fun a ha => GoT.okm (by omega) ((all_cons (α := Int) (ok_DataP hokx_).2.2.2.1 (fun a ha => by cases ha)) a ha))) a ha)) a ha)) : GoT.ok (n + 5) (((slices_Concat_int ([(impl_BytesToInts (impl_AppendName ([] : List UInt8) x_.name)), (impl_BytesToInts x_.content), (impl_BytesToInts (impl_AppendName ([] : List UInt8) x_.keyName))])) ++ [x_.freshUntil]) : List Int))
  ·skip
   refine TS.op 15 rfl (by kernel_rfl) ?_
   refine WX.bld ttOk rfl rfl rfl rfl rfl rfl rfl ?_
   intro p13
   refine R0 ?_
   refine WX.turn [] 42 rfl (fun h hs => ol_one (α := Int) (a := x_.freshUntil) (x := ()) hs) (gs := [MF.ol [.int .i64 (x_.freshUntil)] ([x_.freshUntil] : List Int)]) rfl ?_
   refine WX.seal 18 42 43 rfl rfl rfl rfl rfl ?_
   refine WX.back0 ?_
   refine TX.all1 11 (by kernel_rfl) ?_
   refine TS.op 11 rfl (by kernel_rfl) ?_
   refine WX.bld ttOk rfl rfl rfl rfl rfl rfl rfl ?_
   intro p14
   refine R0 ?_
   refine WX.turn [6] 46 rfl (fun h hs => ol_one (α := (List Int)) (a := (impl_BytesToInts (impl_AppendName ([] : List UInt8) x_.name))) (x := (p2, c2)) hs) (gs := [MF.ol (GoT.sh ((impl_BytesToInts (impl_AppendName ([] : List UInt8) x_.name)) : (List Int)) (p2, c2)) (([(impl_BytesToInts (impl_AppendName ([] : List UInt8) x_.name))]) : List (List Int))]) rfl ?_
   refine WX.turn [46, 8] 47 rfl (fun h hs => ol_snoc (α := (List Int)) (a := (impl_BytesToInts x_.content)) (x := (p3, c3)) hs) (gs := [MF.ol (GoT.sh ((impl_BytesToInts (impl_AppendName ([] : List UInt8) x_.name)) : (List Int)) (p2, c2) ++ GoT.sh ((impl_BytesToInts x_.content) : (List Int)) (p3, c3)) (([(impl_BytesToInts (impl_AppendName ([] : List UInt8) x_.name))] ++ [(impl_BytesToInts x_.content)]) : List (List Int))]) rfl ?_
   refine WX.turn [47, 12] 45 rfl (fun h hs => ol_snoc (α := (List Int)) (a := (impl_BytesToInts (impl_AppendName ([] : List UInt8) x_.keyName))) (x := (p5, c5)) hs) (gs := [MF.ol [.slice p2 (((impl_BytesToInts (impl_AppendName ([] : List UInt8) x_.name))).length) c2, .slice p3 (((impl_BytesToInts x_.content)).length) c3, .slice p5 (((impl_BytesToInts (impl_AppendName ([] : List UInt8) x_.keyName))).length) c5] ([(impl_BytesToInts (impl_AppendName ([] : List UInt8) x_.name)), (impl_BytesToInts x_.content), (impl_BytesToInts (impl_AppendName ([] : List UInt8) x_.keyName))] : List (List Int))]) rfl ?_
   refine WX.seal 14 45 48 rfl rfl rfl rfl rfl ?_
   refine WX.back0 ?_
   refine TX.all1 12 (by kernel_rfl) ?_
   have r17 : (x_.content).length ≤ bd n := (okl (ok_DataP hokx_).2.1).1
   have r18 : (impl_AppendName ([] : List UInt8) x_.name).length ≤ bd (n + 1) := (okl hq1).1
   have r19 : (impl_BytesToInts (impl_AppendName ([] : List UInt8) x_.name)).length ≤ bd (n + 2) := (okl hq2).1
   have r20 : (impl_BytesToInts x_.content).length ≤ bd (n + 1) := (okl hq3).1
   have r21 : (impl_AppendName ([] : List UInt8) x_.keyName).length ≤ bd (n + 1) := (okl hq4).1
   have r22 : (impl_BytesToInts (impl_AppendName ([] : List UInt8) x_.keyName)).length ≤ bd (n + 2) := (okl hq5).1
   refine TS.callF 12 50 (fun _ _ h => GoT.ow_rd h) (fun _ f hf => GoT.fak f hf) rfl rfl rfl rfl rfl rfl (fun _ => rfl) rfl (fun w G bs hI hΓ => f284 w (n + 2) (by omega) ([(impl_BytesToInts (impl_AppendName ([] : List UInt8) x_.name)), (impl_BytesToInts x_.content), (impl_BytesToInts (impl_AppendName ([] : List UInt8) x_.keyName))]) p14 3 (hΓ.get 48 rfl) (by simp) (okl_mk (by simp; omega) (all_cons (α := (List Int)) hq2 (all_cons (α := (List Int)) (GoT.okm (α := List Int) (by omega) hq3) (all_cons (α := (List Int)) hq5 (fun a ha => by cases ha)))) : GoT.ok (n + 2) ([(impl_BytesToInts (impl_AppendName ([] : List UInt8) x_.name)), (impl_BytesToInts x_.content), (impl_BytesToInts (impl_AppendName ([] : List UInt8) x_.keyName))] : List (List Int)))) (fun _ => rfl) (fun _ => rfl) ?_
   rintro ⟨p15, c10⟩ hq8
   have q8 := len_Concat ([(impl_BytesToInts (impl_AppendName ([] : List UInt8) x_.name)), (impl_BytesToInts x_.content), (impl_BytesToInts (impl_AppendName ([] : List UInt8) x_.keyName))])
   refine TX.all1 16 (by kernel_rfl) ?_
   refine TS.op 16 rfl (by kernel_rfl) ?_
   refine WX.opn (kk := 1) 503 51 52 rfl rfl rfl ?_
   intro xs3 hx3
   refine WX.der 53 (MF.rs .der p13 1 ([x_.freshUntil])) rfl (fun _ hΓ => (hΓ.get 44 rfl : OwSl _ _ _ _).rd) ?_
   have r23 : -9223372036854775808 ≤ x_.freshUntil ∧ x_.freshUntil ≤ 9223372036854775807 := (ok_DataP hokx_).2.2.2.1
   have r24 : (slices_Concat_int ([(impl_BytesToInts (impl_AppendName ([] : List UInt8) x_.name)), (impl_BytesToInts x_.content), (impl_BytesToInts (impl_AppendName ([] : List UInt8) x_.keyName))])).length ≤ bd (n + 3) := (okl hq8).1
   refine WX.appG1 503 53 54 (((slices_Concat_int ([(impl_BytesToInts (impl_AppendName ([] : List UInt8) x_.name)), (impl_BytesToInts x_.content), (impl_BytesToInts (impl_AppendName ([] : List UInt8) x_.keyName))])) ++ [x_.freshUntil]) : List Int).length ttOk rfl rfl rfl rfl rfl rfl rfl rfl rfl rfl rfl rfl rfl (by first | (simp; done) | (simp; omega)) (by simp; omega) (by simp; omega) (fun _ _ _ => rfl) ?_
   intro ys3 p16 c11
   refine WX.know (fun G hΓ => (hΓ.get 54 rfl : RdL _ _ _).flat) ?_
   intro hf3
   refine WX.turn [52] 55 rfl (fun h hs => ol_flat hs hf3) (gs := [MF.ol (xs3 ++ ys3) (((slices_Concat_int ([(impl_BytesToInts (impl_AppendName ([] : List UInt8) x_.name)), (impl_BytesToInts x_.content), (impl_BytesToInts (impl_AppendName ([] : List UInt8) x_.keyName))])) ++ [x_.freshUntil]) : List Int)]) rfl ?_
   refine R0 ?_
   refine WX.back0 ?_
   refine TX.takes (fuel := 0) ttOk [17] (by kernel_rfl) rfl ?_
   refine TX.tail [] rfl rfl (by kernel_rfl) ?_
   refine R0 ?_
   refine WX.seal 503 55 56 rfl rfl rfl rfl rfl ?_
   have hP3 : impl_SignedPortion x_ = ((slices_Concat_int ([(impl_BytesToInts (impl_AppendName ([] : List UInt8) x_.name)), (impl_BytesToInts x_.content), (impl_BytesToInts (impl_AppendName ([] : List UInt8) x_.keyName))])) ++ [x_.freshUntil]) := by simp only [impl_SignedPortion, ct, cf]
   refine R1 ?_
   intro w1 G bs hI hΓ
   rw [hP3]
   exact Post.of [57] (p16, c11) hI hΓ rfl rfl rfl (okl_mk (by simp; omega) (fun a ha => GoT.okm (by omega) ((fun a ha => GoT.okm (show (n + 3) ≤ (n + 4) by omega) ((all_app (okl hq8).2 (fun a ha => GoT.okm (by omega) ((all_cons (α := Int) (ok_DataP hokx_).2.2.2.1 (fun a ha => by cases ha)) a ha))) a ha)) a ha)) : GoT.ok (n + 5) (((slices_Concat_int ([(impl_BytesToInts (impl_AppendName ([] : List UInt8) x_.name)), (impl_BytesToInts x_.content), (impl_BytesToInts (impl_AppendName ([] : List UInt8) x_.keyName))])) ++ [x_.freshUntil]) : List Int))
 ·skip
  intro p17
  refine TXP.done ?_
  refine TX.all1 11 (by kernel_rfl) ?_
  refine TS.op 11 rfl (by kernel_rfl) ?_
  refine WX.bld ttOk rfl rfl rfl rfl rfl rfl rfl ?_
  intro p18
  refine R0 ?_
  refine WX.turn [6] 59 rfl (fun h hs => ol_one (α := (List Int)) (a := (impl_BytesToInts (impl_AppendName ([] : List UInt8) x_.name))) (x := (p2, c2)) hs) (gs := [MF.ol (GoT.sh ((impl_BytesToInts (impl_AppendName ([] : List UInt8) x_.name)) : (List Int)) (p2, c2)) (([(impl_BytesToInts (impl_AppendName ([] : List UInt8) x_.name))]) : List (List Int))]) rfl ?_
  refine WX.turn [59, 8] 60 rfl (fun h hs => ol_snoc (α := (List Int)) (a := (impl_BytesToInts x_.content)) (x := (p3, c3)) hs) (gs := [MF.ol (GoT.sh ((impl_BytesToInts (impl_AppendName ([] : List UInt8) x_.name)) : (List Int)) (p2, c2) ++ GoT.sh ((impl_BytesToInts x_.content) : (List Int)) (p3, c3)) (([(impl_BytesToInts (impl_AppendName ([] : List UInt8) x_.name))] ++ [(impl_BytesToInts x_.content)]) : List (List Int))]) rfl ?_
  refine WX.turn [60, 12] 58 rfl (fun h hs => ol_snoc (α := (List Int)) (a := (impl_BytesToInts (impl_AppendName ([] : List UInt8) x_.keyName))) (x := (p5, c5)) hs) (gs := [MF.ol [.slice p2 (((impl_BytesToInts (impl_AppendName ([] : List UInt8) x_.name))).length) c2, .slice p3 (((impl_BytesToInts x_.content)).length) c3, .slice p5 (((impl_BytesToInts (impl_AppendName ([] : List UInt8) x_.keyName))).length) c5] ([(impl_BytesToInts (impl_AppendName ([] : List UInt8) x_.name)), (impl_BytesToInts x_.content), (impl_BytesToInts (impl_AppendName ([] : List UInt8) x_.keyName))] : List (List Int))]) rfl ?_
  refine WX.seal 14 58 61 rfl rfl rfl rfl rfl ?_
  refine WX.back0 ?_
  refine TX.all1 12 (by kernel_rfl) ?_
  have r25 : (x_.content).length ≤ bd n := (okl (ok_DataP hokx_).2.1).1
  have r26 : (impl_AppendName ([] : List UInt8) x_.name).length ≤ bd (n + 1) := (okl hq1).1
  have r27 : (impl_BytesToInts (impl_AppendName ([] : List UInt8) x_.name)).length ≤ bd (n + 2) := (okl hq2).1
  have r28 : (impl_BytesToInts x_.content).length ≤ bd (n + 1) := (okl hq3).1
  have r29 : (impl_AppendName ([] : List UInt8) x_.keyName).length ≤ bd (n + 1) := (okl hq4).1
  have r30 : (impl_BytesToInts (impl_AppendName ([] : List UInt8) x_.keyName)).length ≤ bd (n + 2) := (okl hq5).1
  refine TS.callF 12 63 (fun _ _ h => GoT.ow_rd h) (fun _ f hf => GoT.fak f hf) rfl rfl rfl rfl rfl rfl (fun _ => rfl) rfl (fun w G bs hI hΓ => f284 w (n + 2) (by omega) ([(impl_BytesToInts (impl_AppendName ([] : List UInt8) x_.name)), (impl_BytesToInts x_.content), (impl_BytesToInts (impl_AppendName ([] : List UInt8) x_.keyName))]) p18 3 (hΓ.get 61 rfl) (by simp) (okl_mk (by simp; omega) (all_cons (α := (List Int)) hq2 (all_cons (α := (List Int)) (GoT.okm (α := List Int) (by omega) hq3) (all_cons (α := (List Int)) hq5 (fun a ha => by cases ha)))) : GoT.ok (n + 2) ([(impl_BytesToInts (impl_AppendName ([] : List UInt8) x_.name)), (impl_BytesToInts x_.content), (impl_BytesToInts (impl_AppendName ([] : List UInt8) x_.keyName))] : List (List Int)))) (fun _ => rfl) (fun _ => rfl) ?_
  rintro ⟨p19, c12⟩ hq9
  have q9 := len_Concat ([(impl_BytesToInts (impl_AppendName ([] : List UInt8) x_.name)), (impl_BytesToInts x_.content), (impl_BytesToInts (impl_AppendName ([] : List UInt8) x_.keyName))])
  refine TX.all1 16 (by kernel_rfl) ?_
  refine TS.op 16 rfl (by kernel_rfl) ?_
  refine WX.opn (kk := 1) 504 64 65 rfl rfl rfl ?_
  intro xs4 hx4
  have r31 : -9223372036854775808 ≤ x_.freshUntil ∧ x_.freshUntil ≤ 9223372036854775807 := (ok_DataP hokx_).2.2.2.1
  have r32 : (slices_Concat_int ([(impl_BytesToInts (impl_AppendName ([] : List UInt8) x_.name)), (impl_BytesToInts x_.content), (impl_BytesToInts (impl_AppendName ([] : List UInt8) x_.keyName))])).length ≤ bd (n + 3) := (okl hq9).1
  refine WX.appG1 504 13 66 (((slices_Concat_int ([(impl_BytesToInts (impl_AppendName ([] : List UInt8) x_.name)), (impl_BytesToInts x_.content), (impl_BytesToInts (impl_AppendName ([] : List UInt8) x_.keyName))])) ++ ([x_.freshUntil] : List Int)) : List Int).length ttOk rfl rfl rfl rfl rfl rfl rfl rfl rfl rfl rfl rfl rfl (by first | (simp; done) | (simp; omega)) (by simp; omega) (by simp; omega) (fun _ _ _ => rfl) ?_
  intro ys4 p20 c13
  refine WX.know (fun G hΓ => (hΓ.get 66 rfl : RdL _ _ _).flat) ?_
  intro hf4
  refine WX.turn [65] 67 rfl (fun h hs => ol_flat hs hf4) (gs := [MF.ol (xs4 ++ ys4) (((slices_Concat_int ([(impl_BytesToInts (impl_AppendName ([] : List UInt8) x_.name)), (impl_BytesToInts x_.content), (impl_BytesToInts (impl_AppendName ([] : List UInt8) x_.keyName))])) ++ ([x_.freshUntil] : List Int)) : List Int)]) rfl ?_
  refine R0 ?_
  refine WX.back0 ?_
  refine TX.takes (fuel := 0) ttOk [17] (by kernel_rfl) rfl ?_
  refine TX.tail [] rfl rfl (by kernel_rfl) ?_
  refine R0 ?_
  refine WX.seal 504 67 68 rfl rfl rfl rfl rfl ?_
  have hP4 : impl_SignedPortion x_ = ((slices_Concat_int ([(impl_BytesToInts (impl_AppendName ([] : List UInt8) x_.name)), (impl_BytesToInts x_.content), (impl_BytesToInts (impl_AppendName ([] : List UInt8) x_.keyName))])) ++ ([x_.freshUntil] : List Int)) := by simp only [impl_SignedPortion, ct, cf]
  refine R1 ?_
  intro w1 G bs hI hΓ
  rw [hP4]
  exact Post.of [69] (p20, c13) hI hΓ rfl rfl rfl (okl_mk (by simp; omega) (fun a ha => GoT.okm (by omega) ((fun a ha => GoT.okm (show (n + 3) ≤ (n + 4) by omega) ((all_app (okl hq9).2 (fun a ha => GoT.okm (by omega) ((all_cons (α := Int) (ok_DataP hokx_).2.2.2.1 (fun a ha => by cases ha)) a ha))) a ha)) a ha)) : GoT.ok (n + 5) (((slices_Concat_int ([(impl_BytesToInts (impl_AppendName ([] : List UInt8) x_.name)), (impl_BytesToInts x_.content), (impl_BytesToInts (impl_AppendName ([] : List UInt8) x_.keyName))])) ++ ([x_.freshUntil] : List Int)) : List Int))
end Go.Proofs.YtolepebgdfdciaaGreat

namespace Go.Stp
set_option linter.unusedVariables false
set_option linter.unusedSimpArgs false
def slices_IndexFunc_Data_L1 (fq : DataP → Bool) : List DataP → Nat → Option (Int)
  | [], i => none
  | e1 :: rest_, i =>
    bif fq e1 then
      (some ((i : Nat) : Int))
    else
      slices_IndexFunc_Data_L1 fq rest_ (i + 1)
def slices_IndexFunc_Data (s : (List DataP)) (fq : DataP → Bool) : Int :=
  match slices_IndexFunc_Data_L1 fq s 0 with
    | some r_ => r_
    | none =>
      (-1)
end Go.Stp

namespace Go.Proofs.YtolepebgdfdciaaGreat
open Go.Stp
set_option linter.unusedVariables false
set_option linter.unusedSimpArgs false
theorem f173 (w : World) (n : Nat) (hn : n + 0 ≤ 9) (s : (List DataP)) (ps : Option Addr) (cs : Nat) (N0 : RdSl (hp w) ps cs s) (fg : FuncId) (fc : List Value) (fq : DataP → Bool) (ff : ∀ w1, Kp emp w w1 → ∀ (e0 : DataP) (x0 : GoT.X DataP), GoT.ok n e0 → All (hp w1) (GoT.fa .der e0 x0) → Does Tryz.prog fg ([Value.agg ⟨GoT.sh e0 x0⟩] ++ fc).toArray w1 emp (fun rv _ => rv = .bool (fq e0) ∧ True)) (hoks : GoT.ok n s) :
  Does Tryz.prog 173 #[.slice ps ((s).length) cs, .func (.func fg) #[] fc.toArray] w emp (fun (rv : Value) (_ : World) => rv = .int .i64 ((slices_IndexFunc_Data s fq)) ∧ GoT.ok n ((slices_IndexFunc_Data s fq) : Int)) := by
 have hbP := bd_pos n
 have hbB := bd_big (n := n) (by omega)
 refine WX.enter (tt := tt) (Γ := [(0, MF.rs .stb ps cs s)]) Tryz.func173 rfl (by kernel_rfl) rfl (allS_cons rfl N0 allS_nil) ?_
 refine R0 ?_
 have r1 : (s).length ≤ bd n := (okl hoks).1
 refine WX.loop (ι := Nat) ⟨fun i => (i ≤ (s).length) ∧ (slices_IndexFunc_Data_L1 fq s 0 = slices_IndexFunc_Data_L1 fq ((s).drop i) i), fun i => (s).length - i, fun i => [(8, .v (.int .i64 (((i : Nat) : Int)))), (7, .v (.int .i64 ((((s).length : Nat) : Int)))), (0, .v (.slice ps ((s).length) cs)), (1, .v (.func (.func fg) #[] fc.toArray))], fun i => [], fun i => [], fun i => [(0, MF.rs .stb ps cs s)]⟩ 0 ⟨(Nat.zero_le _), rfl⟩
  (.cons rfl (.cons rfl (.cons rfl (.cons rfl (.nil))))) .nil .nil [0] rfl ?_
 rintro i hpre
 have hpre_ : (i ≤ (s).length) ∧ (slices_IndexFunc_Data_L1 fq s 0 = slices_IndexFunc_Data_L1 fq ((s).drop i) i) := hpre
 clear hpre
 obtain ⟨v1, v2⟩ := hpre_
 refine R0 ?_
 refine WX.cases 9 rfl (fun h1 => ?_) (fun h1 => ?_)
 ·skip
  have h1d := B.dt h1
  have e1i : i < (s).length := (by omega)
  obtain ⟨e1, e1h⟩ : ∃ e1, (s)[i]? = some e1 := ⟨_, List.getElem?_eq_getElem e1i⟩
  have ok1 : GoT.ok n e1 := (okl hoks).2 _ (List.mem_of_getElem? e1h)
  refine R0 ?_
  refine WX.idx 0 i ttOk rfl rfl rfl rfl rfl rfl rfl rfl rfl rfl e1i ?_
  rintro ad1 rfl
  refine WX.ldE 0 1 e1 ttOk rfl rfl rfl rfl rfl rfl rfl rfl e1h (fun _ => rfl) (fun _ => rfl) ?_
  rintro ⟨⟨p1, c1⟩, ⟨p2, c2⟩, ⟨p3, c3⟩, ⟨⟩, ⟨⟩⟩
  refine WX.callV rfl rfl rfl rfl rfl (fun _ => rfl) rfl (fun w G bs hI hΓ => ff w hI.keep e1 ((p1, c1), (p2, c2), (p3, c3), (), ()) ok1 (All.cons (hΓ.get 1 rfl : RdSl _ _ _ _) (All.cons (hΓ.get 2 rfl : RdSl _ _ _ _) (All.cons (hΓ.get 3 rfl : RdSl _ _ _ _) All.nil)))) ?_
  intro hq1
  refine R0 ?_
  refine WX.cases 16 rfl (fun h2 => ?_) (fun h2 => ?_)
  ·skip
   refine R0 ?_
   have hP1 : slices_IndexFunc_Data_L1 fq s 0 = (some ((i : Nat) : Int)) := by rw [v2, drop_get e1h]; simp only [slices_IndexFunc_Data_L1, h2, ct, cf]
   have hP2 : slices_IndexFunc_Data s fq = ((i : Nat) : Int) := by simp only [slices_IndexFunc_Data, hP1, ct, cf]
   refine R1 ?_
   intro w1 G bs hI hΓ
   rw [hP2]
   exact ⟨rfl, (show I64 ((i : Nat) : Int) from (by unfold I64; omega))⟩
  ·skip
   refine R0 ?_
   refine WX.see rfl rfl rfl (fun _ hΓ => looks_arith rfl rfl rfl rfl (by unfold I64; first | omega | (simp only [List.length_take] at *; omega))) ?_
   refine R0 ?_
   exact WX.iter (i + 1) ⟨(by omega), (by rw [v2, drop_get e1h]; simp only [slices_IndexFunc_Data_L1, h2, ct, cf])⟩ (by first | (dsimp only; omega) | omega) (.cons rfl (.cons rfl (.cons rfl (.cons rfl (.nil))))) .nil .nil [0] rfl
 ·skip
  have h1d := B.df h1
  refine R0 ?_
  have hX1 : slices_IndexFunc_Data_L1 fq s 0 = none := by rw [v2, List.drop_eq_nil_of_le (show (s).length ≤ i by omega)]; simp only [slices_IndexFunc_Data_L1, ct, cf]
  have hP3 : slices_IndexFunc_Data s fq = (-1) := by simp only [slices_IndexFunc_Data, hX1, ct, cf]
  refine R1 ?_
  intro w1 G bs hI hΓ
  rw [hP3]
  exact ⟨rfl, (show I64 (-1) from (by unfold I64; omega))⟩
end Go.Proofs.YtolepebgdfdciaaGreat

namespace Go.Stp
set_option linter.unusedVariables false
set_option linter.unusedSimpArgs false
def slices_Index_string_L1 (v : Str) : List Str → Nat → Option (Int)
  | [], i => none
  | e1 :: rest_, i =>
    bif ((v).toList == (e1).toList) then
      (some ((i : Nat) : Int))
    else
      slices_Index_string_L1 v rest_ (i + 1)
def slices_Index_string (s : (List Str)) (v : Str) : Int :=
  match slices_Index_string_L1 v s 0 with
    | some r_ => r_
    | none =>
      (-1)
def slices_Contains_string (s : (List Str)) (v : Str) : Bool :=
  (decide ((slices_Index_string s v) ≥ 0))
def impl_ValidSecret (secret : Int) : Bool :=
  (impl_InRange secret 1 2147483646)
def spec_ValidSecret (secret : Int) : Bool :=
  (spec_l1In secret 1 2147483646)
def impl_isVariable (s : Str) : Bool :=
  bif ((((s).size : Nat) : Int) == 2) then
    match ((s).data.toList)[0]? with
      | none => default
      | some e1 =>
        bif (((e1).toNat : Int) == 63) then
          match ((s).data.toList)[1]? with
            | none => default
            | some e2 =>
              bif decide (((e2).toNat : Int) ≥ 97) then
                (decide (((e2).toNat : Int) ≤ 122))
              else
                false
        else
          false
  else
    false
def spec_l5Letter (s : Str) : Bool :=
  bif ((((s).size : Nat) : Int) == 2) then
    match ((s).data.toList)[0]? with
      | none => default
      | some e1 =>
        bif (((e1).toNat : Int) == 63) then
          match ((s).data.toList)[1]? with
            | none => default
            | some e2 =>
              (spec_l1In ((e2).toNat : Int) 97 122)
        else
          false
  else
    false
def impl_ValidPattern_L1 (p_ : Pattern) : List Str → Nat → Option (Bool)
  | [], i => none
  | e1 :: rest_, i =>
    bif (!(impl_ValidPart e1)) then
      bif (!((e1).toList == ((⟨#[42]⟩ : Str)).toList)) then
        bif (!(impl_isVariable e1)) then
          bif (!((e1).toList == ((⟨#[42, 42]⟩ : Str)).toList)) then
            (some false)
          else
            bif (((i : Nat) : Int) != IntKind.i64.wrap ((((p_.parts).length : Nat) : Int) - 1)) then
              (some false)
            else
              impl_ValidPattern_L1 p_ rest_ (i + 1)
        else
          impl_ValidPattern_L1 p_ rest_ (i + 1)
      else
        impl_ValidPattern_L1 p_ rest_ (i + 1)
    else
      impl_ValidPattern_L1 p_ rest_ (i + 1)
def impl_ValidPattern (p_ : Pattern) : Bool :=
  match impl_ValidPattern_L1 p_ p_.parts 0 with
    | some r_ => r_
    | none =>
      (decide ((((p_.parts).length : Nat) : Int) ≤ 6))
def spec_ValidPattern_L1 (p_ : Pattern) : List Str → Nat → Option (Bool)
  | [], i => none
  | e1 :: rest_, i =>
    bif (!(spec_ValidPart e1)) then
      bif (!((e1).toList == ((⟨#[42]⟩ : Str)).toList)) then
        bif (!(spec_l5Letter e1)) then
          bif (!((e1).toList == ((⟨#[42, 42]⟩ : Str)).toList)) then
            (some false)
          else
            bif decide (((i : Nat) : Int) < IntKind.i64.wrap ((((p_.parts).length : Nat) : Int) - 1)) then
              (some false)
            else
              spec_ValidPattern_L1 p_ rest_ (i + 1)
        else
          spec_ValidPattern_L1 p_ rest_ (i + 1)
      else
        spec_ValidPattern_L1 p_ rest_ (i + 1)
    else
      spec_ValidPattern_L1 p_ rest_ (i + 1)
def spec_ValidPattern (p_ : Pattern) : Bool :=
  match spec_ValidPattern_L1 p_ p_.parts 0 with
    | some r_ => r_
    | none =>
      (decide ((((p_.parts).length : Nat) : Int) ≤ 6))
def spec_l10Has_L1 (s : Str) : List Str → Option (Bool)
  | [] => none
  | e1 :: rest_ =>
    bif ((e1).toList == (s).toList) then
      (some true)
    else
      spec_l10Has_L1 s rest_
def spec_l10Has (p_ : Pattern) (s : Str) : Bool :=
  match spec_l10Has_L1 s p_.parts with
    | some r_ => r_
    | none =>
      false
def impl_ValidRule_L1 (r : Rule) : List Str → Option (Bool)
  | [] => none
  | e1 :: rest_ =>
    bif (impl_isVariable e1) then
      bif (!(slices_Contains_string r.dataPattern.parts e1)) then
        (some false)
      else
        impl_ValidRule_L1 r rest_
    else
      impl_ValidRule_L1 r rest_
def impl_ValidRule (r : Rule) : Bool :=
  bif (!(impl_ValidPattern r.dataPattern)) then
    false
  else
    bif (!(impl_ValidPattern r.keyPattern)) then
      false
    else
      match impl_ValidRule_L1 r r.keyPattern.parts with
        | some r_ => r_
        | none =>
          true
def spec_ValidRule_L1 (r : Rule) : List Str → Option (Bool)
  | [] => none
  | e1 :: rest_ =>
    bif (spec_l5Letter e1) then
      bif (!(spec_l10Has r.dataPattern e1)) then
        (some false)
      else
        spec_ValidRule_L1 r rest_
    else
      spec_ValidRule_L1 r rest_
def spec_ValidRule (r : Rule) : Bool :=
  bif (!(spec_ValidPattern r.dataPattern)) then
    false
  else
    bif (!(spec_ValidPattern r.keyPattern)) then
      false
    else
      match spec_ValidRule_L1 r r.keyPattern.parts with
        | some r_ => r_
        | none =>
          true
def slices_IndexFunc_Rule_L1 (fq : Rule → Bool) : List Rule → Nat → Option (Int)
  | [], i => none
  | e1 :: rest_, i =>
    bif fq e1 then
      (some ((i : Nat) : Int))
    else
      slices_IndexFunc_Rule_L1 fq rest_ (i + 1)
def slices_IndexFunc_Rule (s : (List Rule)) (fq : Rule → Bool) : Int :=
  match slices_IndexFunc_Rule_L1 fq s 0 with
    | some r_ => r_
    | none =>
      (-1)
def spec_l9Find_L1 (n_ : Name) : List Key → Nat → Option (Int)
  | [], i => none
  | e1 :: rest_, i =>
    bif (spec_EqualNames e1.name n_) then
      (some ((i : Nat) : Int))
    else
      spec_l9Find_L1 n_ rest_ (i + 1)
def spec_l9Find (l : (List Key)) (n_ : Name) : Int :=
  match spec_l9Find_L1 n_ l 0 with
    | some r_ => r_
    | none =>
      (-1)
end Go.Stp

