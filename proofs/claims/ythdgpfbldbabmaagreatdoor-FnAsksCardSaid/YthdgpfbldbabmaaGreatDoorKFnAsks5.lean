/-
  What the proof of one law needs: rules of the program logic, functions as Lean functions, contracts. No condition but what each says. Written by a program (pack.py) out of my own texts.
-/
import Derived.Test.YthdgpfbldbabmaaGreatDoorKFnAsks4
namespace Go.Proofs.YthdgpfbldbabmaaGreatDoor
open Go.Stp
set_option linter.unusedVariables false
set_option linter.unusedSimpArgs false
theorem f134 (w : World) (n : Nat) (hn : n + 0 ≤ 9) (n_ : Int) (m : Int) (hokn_ : GoT.ok n n_) (hokm : GoT.ok n m) :
 Does Tryz.prog 134 #[.int .i64 (n_), .int .i64 (m)] w emp (fun (rv : Value) (_ : World) => rv = .int .i64 ((a2r n_ m)) ∧ GoT.ok n ((a2r n_ m) : Int)) := by
 have hb := bS0 hn
 refine EN Tryz.func134 Z allS_nil ?_
 refine R0 ?_
 refine CV Z Z Z Z Z O Z (fun w γ => f55 w n τ1 m 1 1000000000000 hokm (i6 1) (i6 1000000000000)) ?_
 intro hq1
 refine R0 ?_
 refine WX.cases 7 Z ?_ ?_ <;> intro h1
 ·skip
  have h1d := (B.nt h1)
  refine R0 ?_
  have hP1 : a2r n_ m = 0 := by simp only [a2r, h1, cT, cF]
  refine R1 ?_
  intro w1 G bs hI hΓ
  rw [hP1]
  exact ⟨Z, (i6 0)⟩
 have h1d := (B.nf h1)
 have h1r := inR_spec (B.nf h1)
 refine R0 ?_
 have r1 := tmod_rng n_ (show (0 : Int) < m by omega)
 refine WX.see Z Z Z (fun _ hΓ => looks_rem Z Z Z τ1) ?_
 refine R0 ?_
 refine WX.see Z Z Z (fun _ hΓ => looks_wrap Z Z Z Z) ?_
 refine R0 ?_
 have r2 := tmod_rng (IntKind.i64.wrap ((Int.tmod n_ m) + m)) (show (0 : Int) < m by omega)
 refine WX.see Z Z Z (fun _ hΓ => looks_rem Z Z Z τ1) ?_
 refine R0 ?_
 have hP2 : a2r n_ m = (Int.tmod (IntKind.i64.wrap ((Int.tmod n_ m) + m)) m) := by simp only [a2r, h1, cT, cF]
 have r3 : -9223372036854775808 ≤ n_ ∧ n_ ≤ 9223372036854775807 := hokn_
 have r4 : -9223372036854775808 ≤ m ∧ m ≤ 9223372036854775807 := hokm
 refine R1 ?_
 intro w1 G bs hI hΓ
 rw [hP2]
 exact ⟨Z, (i6 (Int.tmod (IntKind.i64.wrap ((Int.tmod n_ m) + m)) m))⟩
theorem f113 (w : World) (n : Nat) (hn : n + 1 ≤ 9) (b : (List UInt8)) (pb cb) (N0 : RdSl (hp w) pb cb b) (hokb : GoT.ok n b) :
 Does Tryz.prog 113 #[.slice pb ((b).length) cb] w emp (Post w emp (fun x : GoT.X ((List Int)) => (GoT.sh ((a00 b) : (List Int)) x).headD undef) (fun x => GoT.oa ((a00 b) : (List Int)) x) (GoT.ok (n + 1) ((a00 b) : (List Int)))) := by
 have hb := bS1 hn
 refine EN Tryz.func113 Z (aS1 N0) ?_
 refine R0 ?_
 refine WX.bld ttOk Z Z Z Z Z Z Z ?_
 intro p1
 have r1 : (b).length ≤ bd n := (okl hokb).1
 refine R0 ?_
 refine WX.turn [] 1 Z (fun h hs => ol_one (α := Int) (a := (((b).length : Nat) : Int)) (x := ()) hs) (gs := [MF.ol [.int .i64 ((((b).length : Nat) : Int))] ([(((b).length : Nat) : Int)] : List Int)]) Z ?_
 refine WX.loop (ι := (Option Addr) × Nat × (List Value) × (List Int) × Nat) ⟨fun | (pl, cl, xsl, l, i) => (i ≤ (b).length) ∧ (∀ z_ ∈ l, GoT.ok n z_) ∧ (l.length ≤ i + 1) ∧ (a2y b ([(((b).length : Nat) : Int)] : List Int) = a2y ((b).drop i) l), fun | (pl, cl, xsl, l, i) => (b).length - i, fun | (pl, cl, xsl, l, i) => [(3, .v (.slice pl ((l).length) cl)), (4, .v (.int .i64 (((i : Nat) : Int)))), (0, .v (.slice pb ((b).length) cb))], fun | (pl, cl, xsl, l, i) => [], fun | (pl, cl, xsl, l, i) => [(7, ⟨1, pl, (l).length, cl, xsl⟩)], fun | (pl, cl, xsl, l, i) => [(0, MF.rs .stb pb cb b), (1, MF.ol xsl (l : List Int))]⟩ (p1, 1, [.int .i64 ((((b).length : Nat) : Int))], ([(((b).length : Nat) : Int)] : List Int), 0) ⟨(Nat.zero_le _), (all_cons (α := Int) (i6 (((b).length : Nat) : Int)) (fun a ha => by cases ha)), τ11, Z⟩
  (.cons Z (.cons Z (.cons Z (.nil)))) .nil (.cons Z (.nil)) [0, 1] Z ?_
 rintro ⟨pl, cl, xsl, l, i⟩ ⟨v1, v2, v3, v4⟩
 refine R0 ?_
 refine WX.cases 11 Z ?_ ?_ <;> intro h1
 ·skip
  have h1d := B.dt h1
  have e1i : i < (b).length := τ1
  obtain ⟨e1, e1h⟩ : ∃ e1, (b)[i]? = some e1 := ⟨_, List.getElem?_eq_getElem e1i⟩
  refine R0 ?_
  refine WX.idx 0 i ttOk Z Z Z Z Z Z Z Z Z Z e1i ?_
  rintro ad1 rfl
  refine WX.ldE 0 2 e1 ttOk Z Z Z Z Z Z Z Z e1h O O ?_
  rintro ⟨⟩
  refine WX.see Z Z Z (fun _ hΓ => looks_ofU8 ttOk Z Z Z Z Z Z) ?_
  refine WX.bld ttOk Z Z Z Z Z Z Z ?_
  intro p2
  have r2 : (e1).toNat < 256 := UInt8.toNat_lt _
  refine WX.turn [] 2 Z (fun h hs => ol_one (α := Int) (a := ((e1).toNat : Int)) (x := ()) hs) (gs := [MF.ol [.int .i64 (((e1).toNat : Int))] ([((e1).toNat : Int)] : List Int)]) Z ?_
  refine WX.know (fun G hΓ => (hΓ.get 2 Z : OwL _ _ _).rd.one) ?_
  intro ho1
  refine WX.appR1 7 20 ((l ++ [((e1).toNat : Int)]) : List Int).length ttOk Z Z Z Z Z Z Z Z Z Z Z Z Z ho1 τ11 τ3 τ3 (fun _ _ => Z) ?_
  intro p3 c1
  refine WX.turn [1, 2] 3 Z (fun h hs => ol_app hs) (gs := [MF.ol (xsl ++ [.int .i64 (((e1).toNat : Int))]) ((l ++ [((e1).toNat : Int)]) : List Int)]) Z ?_
  refine R0 ?_
  refine WX.see Z Z Z (fun _ hΓ => looks_arith Z Z Z Z τ2) ?_
  refine R0 ?_
  refine WX.turn [3] 1 Z (fun _ h => h) Z ?_
  exact WX.iter (p3, c1, (xsl ++ [.int .i64 (((e1).toNat : Int))]), ((l ++ [((e1).toNat : Int)]) : List Int), i + 1) ⟨τ1, (all_app v2 (all_cons (α := Int) (i6 ((e1).toNat : Int)) (fun a ha => by cases ha))), τ5, (by rw [v4, drop_get e1h]; simp only [a2y, cT, cF])⟩ τ4 (.cons Z (.cons Z (.cons Z (.nil)))) .nil (.cons Z (.nil)) [0, 1] Z
 have h1d := B.df h1
 refine R0 ?_
 have hX1 : a2y b ([(((b).length : Nat) : Int)] : List Int) = ((l) : List Int) := by rw [v4, List.drop_eq_nil_of_le (show (b).length ≤ i by omega)]; simp only [a2y, cT, cF]
 refine WX.seal 7 1 4 Z Z Z Z Z ?_
 have hP1 : a00 b = l := by simp only [a00, hX1, cT, cF]
 refine R1 ?_
 intro w1 G bs hI hΓ
 rw [hP1]
 exact Post.of [5] (pl, cl) hI hΓ Z Z Z (okl_mk τ1 (fun a ha => GoT.okm τ1 (v2 a ha)) : GoT.ok (n + 1) (l : List Int))
theorem f90 (w : World) (n : Nat) (hn : n + 5 ≤ 9) (x_ : DataP) (K0 M0) (N0 : RdSl (hp w) K0 M0 x_.name.parts) (K1 M1) (N1 : RdSl (hp w) K1 M1 x_.content) (K2 M2) (N2 : RdSl (hp w) K2 M2 x_.keyName.parts) (hokx_ : GoT.ok n x_) :
 Does Tryz.prog 90 #[.agg #[.slice K0 ((x_.name.parts).length) M0, .slice K1 ((x_.content).length) M1, .slice K2 ((x_.keyName.parts).length) M2, .int .i64 (x_.freshUntil), .int .i64 (x_.signature)]] w emp (Post w emp (fun x : GoT.X ((List Int)) => (GoT.sh ((a2z x_) : (List Int)) x).headD undef) (fun x => GoT.oa ((a2z x_) : (List Int)) x) (GoT.ok (n + 5) ((a2z x_) : (List Int)))) := by
 have hb := bS5 hn
 refine EN Tryz.func90 Z (aS3 N0 N1 N2) ?_
 refine R0 ?_
 refine WX.meet (ι := (Option Addr) × Nat) ⟨fun | (pm1, cm1) => (GoT.ok (n + 3) (((a00 (a01 ([]) x_.name)) ++ (a00 x_.content)) : List Int)) ∧ (-9223372036854775808 ≤ x_.freshUntil ∧ x_.freshUntil ≤ 9223372036854775807) ∧ (-9223372036854775808 ≤ x_.signature ∧ x_.signature ≤ 9223372036854775807), fun _ => 0, fun | (pm1, cm1) => [(3, .v (.slice pm1 ((((a00 (a01 ([]) x_.name)) ++ (a00 x_.content))).length) cm1)), (1, .p 1 0)], fun | (pm1, cm1) => [(1, ⟨28, [.slice K0 ((x_.name.parts).length) M0, .slice K1 ((x_.content).length) M1, .slice K2 ((x_.keyName.parts).length) M2, .int .i64 (x_.freshUntil), .int .i64 (x_.signature)]⟩)], fun _ => [], fun | (pm1, cm1) => [(18, MF.os pm1 cm1 ((a00 (a01 ([]) x_.name)) ++ (a00 x_.content))), (0, MF.rs .stb K0 M0 x_.name.parts), (1, MF.rs .stb K1 M1 x_.content), (2, MF.rs .stb K2 M2 x_.keyName.parts)]⟩ ?_ ?_
 ·skip
  refine WX.draw [2, 3, 4, 6, 7, 8, 9] mixed ?_
  intro bs G0 hΓ0
  refine DX.takes (fuel := 8) ttOk [(1, true), (5, true)] J Z ?_
  refine DX.toTX ?_
  intro S_
  refine TX.share (ι := (Option Addr) × Nat) ⟨fun | (pm7, cm7) => (GoT.ok (n + 2) ((a00 (a01 ([]) x_.name)) : List Int)) ∧ (-9223372036854775808 ≤ x_.freshUntil ∧ x_.freshUntil ≤ 9223372036854775807) ∧ (-9223372036854775808 ≤ x_.signature ∧ x_.signature ≤ 9223372036854775807), fun _ => 0, fun | (pm7, cm7) => [(8, .v (.slice pm7 (((a00 (a01 ([]) x_.name))).length) cm7)), (9, .p 1 1), (1, .p 1 0)], fun | (pm7, cm7) => [(1, ⟨28, [.slice K0 ((x_.name.parts).length) M0, .slice K1 ((x_.content).length) M1, .slice K2 ((x_.keyName.parts).length) M2, .int .i64 (x_.freshUntil), .int .i64 (x_.signature)]⟩)], fun _ => [], fun | (pm7, cm7) => [(33, MF.os pm7 cm7 (a00 (a01 ([]) x_.name))), (0, MF.rs .stb K0 M0 x_.name.parts), (1, MF.rs .stb K1 M1 x_.content), (2, MF.rs .stb K2 M2 x_.keyName.parts)]⟩ 4 #[true, true, true, true, true, true, false, false, false, false] ?_ (fun N_9 => ?_)
  ·skip
   rintro ⟨pm7, cm7⟩ ⟨hm25, hm26, hm27⟩
   refine TX.tail [6, 7, 8, 9] Z Z J ?_
   refine R0 ?_
   refine CF 35 Z Z Z Z Z O Z (fun w γ => f113 w n τ1 x_.content K1 M1 (γ.q 1 Z) ((ok_DataP hokx_).2.1)) ?_
   rintro ⟨p9, c7⟩ hq6
   have q6 := len_specBI x_.content
   refine WX.opn (kk := 1) 502 33 37 Z Z Z ?_
   intro xs2 hx2
   refine WX.der 38 (MF.rs .der p9 c7 (a00 x_.content)) Z (fun _ hΓ => (hΓ.get 36 Z : OwSl _ _ _ _).rd) ?_
   have r5 : (x_.content).length ≤ bd n := (okl (ok_DataP hokx_).2.1).1
   have r6 : (a00 (a01 ([]) x_.name)).length ≤ bd (n + 2) := (okl hm25).1
   have r7 : (a00 x_.content).length ≤ bd (n + 1) := (okl hq6).1
   refine WX.appG1 502 38 39 (((a00 (a01 ([]) x_.name)) ++ (a00 x_.content)) : List Int).length ttOk Z Z Z Z Z Z Z Z Z Z Z Z Z τ7 τ0 τ0 (fun _ _ _ => Z) ?_
   intro ys2 p10 c8
   refine WX.know (fun G hΓ => (hΓ.get 39 Z : RdL _ _ _).flat) ?_
   intro hf2
   refine WX.turn [37] 40 Z (fun h hs => ol_flat hs hf2) (gs := [MF.ol (xs2 ++ ys2) (((a00 (a01 ([]) x_.name)) ++ (a00 x_.content)) : List Int)]) Z ?_
   refine R0 ?_
   refine WX.seal 502 40 41 Z Z Z Z Z ?_
   refine WX.turn [42] 18 Z (fun _ h => h) Z ?_
   exact WX.iter (p10, c8) ⟨(okl_mk τ0 (fun a ha => GoT.okm (show (n + 2) ≤ (n + 3) by omega) ((all_app (okl hm25).2 (fun a ha => GoT.okm τ1 ((okl hq6).2 a ha))) a ha)) : GoT.ok (n + 3) (((a00 (a01 ([]) x_.name)) ++ (a00 x_.content)) : List Int)), (ok_DataP hokx_).2.2.2.1, (ok_DataP hokx_).2.2.2.2⟩ Nat.zero_lt_one (.cons Z (.cons Z (.nil))) (.cons Z (.nil)) .nil [18, 0, 1, 2] Z
  refine TX.share (ι := (Option Addr) × Nat) ⟨fun | (pm8, cm8) => (GoT.ok (n + 1) ((a01 ([]) x_.name) : List UInt8)) ∧ (-9223372036854775808 ≤ x_.freshUntil ∧ x_.freshUntil ≤ 9223372036854775807) ∧ (-9223372036854775808 ≤ x_.signature ∧ x_.signature ≤ 9223372036854775807), fun _ => 0, fun | (pm8, cm8) => [(10, .v (.slice K1 ((x_.content).length) M1)), (7, .v (.slice pm8 (((a01 ([]) x_.name)).length) cm8)), (1, .p 1 0)], fun | (pm8, cm8) => [(1, ⟨28, [.slice K0 ((x_.name.parts).length) M0, .slice K1 ((x_.content).length) M1, .slice K2 ((x_.keyName.parts).length) M2, .int .i64 (x_.freshUntil), .int .i64 (x_.signature)]⟩)], fun _ => [], fun | (pm8, cm8) => [(1, MF.rs .stb K1 M1 x_.content), (34, MF.os pm8 cm8 (a01 ([]) x_.name)), (0, MF.rs .stb K0 M0 x_.name.parts), (2, MF.rs .stb K2 M2 x_.keyName.parts)]⟩ 4 #[true, true, true, true, false, true, true, false, false, false] ?_ (fun N_10 => ?_)
  ·skip
   rintro ⟨pm8, cm8⟩ ⟨hm28, hm29, hm30⟩
   refine TX.tail [4, 7, 8, 9] Z Z J ?_
   refine WX.der 43 (MF.rs .der pm8 cm8 (a01 ([]) x_.name)) Z (fun _ hΓ => (hΓ.get 34 Z : OwSl _ _ _ _).rd) ?_
   refine CF 44 Z Z Z Z Z O Z (fun w γ => f113 w (n + 1) τ1 (a01 ([]) x_.name) pm8 cm8 (γ.q 43 Z) hm28) ?_
   rintro ⟨p11, c9⟩ hq7
   have q7 := len_specBI (a01 ([]) x_.name)
   refine CF 46 Z Z Z Z Z O Z (fun w γ => f113 w n τ1 x_.content K1 M1 (γ.q 1 Z) ((ok_DataP hokx_).2.1)) ?_
   rintro ⟨p12, c10⟩ hq8
   have q8 := len_specBI x_.content
   refine WX.opn (kk := 1) 503 45 48 Z Z Z ?_
   intro xs3 hx3
   refine WX.der 49 (MF.rs .der p12 c10 (a00 x_.content)) Z (fun _ hΓ => (hΓ.get 47 Z : OwSl _ _ _ _).rd) ?_
   have r8 : (x_.content).length ≤ bd n := (okl (ok_DataP hokx_).2.1).1
   have r9 : (a01 ([]) x_.name).length ≤ bd (n + 1) := (okl hm28).1
   have r10 : (a00 (a01 ([]) x_.name)).length ≤ bd (n + 2) := (okl hq7).1
   have r11 : (a00 x_.content).length ≤ bd (n + 1) := (okl hq8).1
   refine WX.appG1 503 49 50 (((a00 (a01 ([]) x_.name)) ++ (a00 x_.content)) : List Int).length ttOk Z Z Z Z Z Z Z Z Z Z Z Z Z τ7 τ0 τ0 (fun _ _ _ => Z) ?_
   intro ys3 p13 c11
   refine WX.know (fun G hΓ => (hΓ.get 50 Z : RdL _ _ _).flat) ?_
   intro hf3
   refine WX.turn [48] 51 Z (fun h hs => ol_flat hs hf3) (gs := [MF.ol (xs3 ++ ys3) (((a00 (a01 ([]) x_.name)) ++ (a00 x_.content)) : List Int)]) Z ?_
   refine R0 ?_
   refine WX.seal 503 51 52 Z Z Z Z Z ?_
   refine WX.turn [53] 18 Z (fun _ h => h) Z ?_
   exact WX.iter (p13, c11) ⟨(okl_mk τ0 (fun a ha => GoT.okm (show (n + 2) ≤ (n + 3) by omega) ((all_app (okl hq7).2 (fun a ha => GoT.okm τ1 ((okl hq8).2 a ha))) a ha)) : GoT.ok (n + 3) (((a00 (a01 ([]) x_.name)) ++ (a00 x_.content)) : List Int)), (ok_DataP hokx_).2.2.2.1, (ok_DataP hokx_).2.2.2.2⟩ Nat.zero_lt_one (.cons Z (.cons Z (.nil))) (.cons Z (.nil)) .nil [18, 0, 1, 2] Z
  refine TX.share (ι := (Option Addr) × Nat) ⟨fun | (pm5, cm5) => (GoT.ok (n + 1) ((a01 ([]) x_.name) : List UInt8)) ∧ (-9223372036854775808 ≤ x_.freshUntil ∧ x_.freshUntil ≤ 9223372036854775807) ∧ (-9223372036854775808 ≤ x_.signature ∧ x_.signature ≤ 9223372036854775807), fun _ => 0, fun | (pm5, cm5) => [(7, .v (.slice pm5 (((a01 ([]) x_.name)).length) cm5)), (9, .p 1 1), (1, .p 1 0)], fun | (pm5, cm5) => [(1, ⟨28, [.slice K0 ((x_.name.parts).length) M0, .slice K1 ((x_.content).length) M1, .slice K2 ((x_.keyName.parts).length) M2, .int .i64 (x_.freshUntil), .int .i64 (x_.signature)]⟩)], fun _ => [], fun | (pm5, cm5) => [(28, MF.os pm5 cm5 (a01 ([]) x_.name)), (0, MF.rs .stb K0 M0 x_.name.parts), (1, MF.rs .stb K1 M1 x_.content), (2, MF.rs .stb K2 M2 x_.keyName.parts)]⟩ 5 #[true, true, true, true, false, true, false, false, false, false] ?_ (fun N_7 => ?_)
  ·skip
   rintro ⟨pm5, cm5⟩ ⟨hm19, hm20, hm21⟩
   refine TX.all2 4 6 J ?_ ?_
   ·skip
    refine TS.op 4 Z J ?_
    refine WX.der 54 (MF.rs .der pm5 cm5 (a01 ([]) x_.name)) Z (fun _ hΓ => (hΓ.get 28 Z : OwSl _ _ _ _).rd) ?_
    refine CF 55 Z Z Z Z Z O Z (fun w γ => f113 w (n + 1) τ1 (a01 ([]) x_.name) pm5 cm5 (γ.q 54 Z) hm19) ?_
    rintro ⟨p14, c12⟩ hq9
    have q9 := len_specBI (a01 ([]) x_.name)
    refine R0 ?_
    refine WX.turn [56] 33 Z (fun _ h => h) Z ?_
    refine WX.back0 ?_
    exact TX.use N_9 (p14, c12) ⟨hq9, (ok_DataP hokx_).2.2.2.1, (ok_DataP hokx_).2.2.2.2⟩ J (.cons Z (.cons Z (.cons Z (.nil)))) (.cons Z (.nil)) .nil [33, 0, 1, 2] Z
   refine TS.op 6 Z J ?_
   refine R0 ?_
   refine WX.turn [28] 34 Z (fun _ h => h) Z ?_
   refine WX.back0 ?_
   exact TX.use N_10 (pm5, cm5) ⟨hm19, (ok_DataP hokx_).2.2.2.1, (ok_DataP hokx_).2.2.2.2⟩ J (.cons Z (.cons Z (.cons Z (.nil)))) (.cons Z (.nil)) .nil [1, 34, 0, 2] Z
  refine TX.share (ι := (Option Addr) × Nat) ⟨fun | (pm6, cm6) => (GoT.ok n ([] : List UInt8)) ∧ (-9223372036854775808 ≤ x_.freshUntil ∧ x_.freshUntil ≤ 9223372036854775807) ∧ (-9223372036854775808 ≤ x_.signature ∧ x_.signature ≤ 9223372036854775807), fun _ => 0, fun | (pm6, cm6) => [(10, .v (.slice K1 ((x_.content).length) M1)), (6, .v (.agg #[.slice K0 ((x_.name.parts).length) M0])), (4, .v (.slice pm6 (0) cm6)), (1, .p 1 0)], fun | (pm6, cm6) => [(1, ⟨28, [.slice K0 ((x_.name.parts).length) M0, .slice K1 ((x_.content).length) M1, .slice K2 ((x_.keyName.parts).length) M2, .int .i64 (x_.freshUntil), .int .i64 (x_.signature)]⟩)], fun _ => [], fun | (pm6, cm6) => [(1, MF.rs .stb K1 M1 x_.content), (0, MF.rs .stb K0 M0 x_.name.parts), (29, MF.os pm6 cm6 ([] : List UInt8)), (2, MF.rs .stb K2 M2 x_.keyName.parts)]⟩ 5 #[true, true, true, false, false, true, true, false, false, false] ?_ (fun N_8 => ?_)
  ·skip
   rintro ⟨pm6, cm6⟩ ⟨hm22, hm23, hm24⟩
   refine TX.tail [3, 4, 7, 8, 9] Z Z J ?_
   refine WX.der 57 (MF.rs .der pm6 cm6 ([])) Z (fun _ hΓ => (hΓ.get 29 Z : OwSl _ _ _ _).rd) ?_
   refine CF 58 Z Z Z Z Z O Z (fun w γ => f114 w n τ1 ([]) pm6 cm6 (γ.q 57 Z) x_.name K0 M0 (γ.q 0 Z) hm22 ((ok_DataP hokx_).1)) ?_
   rintro ⟨p15, c13⟩ hq10
   have q10 := len_specAN ([]) x_.name
   refine CF 60 Z Z Z Z Z O Z (fun w γ => f113 w (n + 1) τ1 (a01 ([]) x_.name) p15 c13 (γ.q 58 Z) hq10) ?_
   rintro ⟨p16, c14⟩ hq11
   have q11 := len_specBI (a01 ([]) x_.name)
   refine CF 62 Z Z Z Z Z O Z (fun w γ => f113 w n τ1 x_.content K1 M1 (γ.q 1 Z) ((ok_DataP hokx_).2.1)) ?_
   rintro ⟨p17, c15⟩ hq12
   have q12 := len_specBI x_.content
   refine WX.opn (kk := 1) 504 61 64 Z Z Z ?_
   intro xs4 hx4
   refine WX.der 65 (MF.rs .der p17 c15 (a00 x_.content)) Z (fun _ hΓ => (hΓ.get 63 Z : OwSl _ _ _ _).rd) ?_
   have r12 : (x_.content).length ≤ bd n := (okl (ok_DataP hokx_).2.1).1
   have r13 : ([]).length ≤ bd n := (okl hm22).1
   have r14 : (a01 ([]) x_.name).length ≤ bd (n + 1) := (okl hq10).1
   have r15 : (a00 (a01 ([]) x_.name)).length ≤ bd (n + 2) := (okl hq11).1
   have r16 : (a00 x_.content).length ≤ bd (n + 1) := (okl hq12).1
   refine WX.appG1 504 65 66 (((a00 (a01 ([]) x_.name)) ++ (a00 x_.content)) : List Int).length ttOk Z Z Z Z Z Z Z Z Z Z Z Z Z τ7 τ0 τ0 (fun _ _ _ => Z) ?_
   intro ys4 p18 c16
   refine WX.know (fun G hΓ => (hΓ.get 66 Z : RdL _ _ _).flat) ?_
   intro hf4
   refine WX.turn [64] 67 Z (fun h hs => ol_flat hs hf4) (gs := [MF.ol (xs4 ++ ys4) (((a00 (a01 ([]) x_.name)) ++ (a00 x_.content)) : List Int)]) Z ?_
   refine R0 ?_
   refine WX.seal 504 67 68 Z Z Z Z Z ?_
   refine WX.turn [69] 18 Z (fun _ h => h) Z ?_
   exact WX.iter (p18, c16) ⟨(okl_mk τ0 (fun a ha => GoT.okm (show (n + 2) ≤ (n + 3) by omega) ((all_app (okl hq11).2 (fun a ha => GoT.okm τ1 ((okl hq12).2 a ha))) a ha)) : GoT.ok (n + 3) (((a00 (a01 ([]) x_.name)) ++ (a00 x_.content)) : List Int)), (ok_DataP hokx_).2.2.2.1, (ok_DataP hokx_).2.2.2.2⟩ Nat.zero_lt_one (.cons Z (.cons Z (.nil))) (.cons Z (.nil)) .nil [18, 0, 1, 2] Z
  refine TX.share (ι := (Option Addr) × Nat) ⟨fun | (pm3, cm3) => (GoT.ok n ([] : List UInt8)) ∧ (-9223372036854775808 ≤ x_.freshUntil ∧ x_.freshUntil ≤ 9223372036854775807) ∧ (-9223372036854775808 ≤ x_.signature ∧ x_.signature ≤ 9223372036854775807), fun _ => 0, fun | (pm3, cm3) => [(6, .v (.agg #[.slice K0 ((x_.name.parts).length) M0])), (4, .v (.slice pm3 (0) cm3)), (9, .p 1 1), (1, .p 1 0)], fun | (pm3, cm3) => [(1, ⟨28, [.slice K0 ((x_.name.parts).length) M0, .slice K1 ((x_.content).length) M1, .slice K2 ((x_.keyName.parts).length) M2, .int .i64 (x_.freshUntil), .int .i64 (x_.signature)]⟩)], fun _ => [], fun | (pm3, cm3) => [(0, MF.rs .stb K0 M0 x_.name.parts), (23, MF.os pm3 cm3 ([] : List UInt8)), (1, MF.rs .stb K1 M1 x_.content), (2, MF.rs .stb K2 M2 x_.keyName.parts)]⟩ 6 #[true, true, true, false, false, true, false, false, false, false] ?_ (fun N_4 => ?_)
  ·skip
   rintro ⟨pm3, cm3⟩ ⟨hm11, hm12, hm13⟩
   refine TX.all2 3 6 J ?_ ?_
   ·skip
    refine TS.op 3 Z J ?_
    refine WX.der 70 (MF.rs .der pm3 cm3 ([])) Z (fun _ hΓ => (hΓ.get 23 Z : OwSl _ _ _ _).rd) ?_
    refine CF 71 Z Z Z Z Z O Z (fun w γ => f114 w n τ1 ([]) pm3 cm3 (γ.q 70 Z) x_.name K0 M0 (γ.q 0 Z) hm11 ((ok_DataP hokx_).1)) ?_
    rintro ⟨p19, c17⟩ hq13
    have q13 := len_specAN ([]) x_.name
    refine R0 ?_
    refine WX.turn [72] 28 Z (fun _ h => h) Z ?_
    refine WX.back0 ?_
    exact TX.use N_7 (p19, c17) ⟨hq13, (ok_DataP hokx_).2.2.2.1, (ok_DataP hokx_).2.2.2.2⟩ J (.cons Z (.cons Z (.cons Z (.nil)))) (.cons Z (.nil)) .nil [28, 0, 1, 2] Z
   refine TS.op 6 Z J ?_
   refine R0 ?_
   refine WX.turn [23] 29 Z (fun _ h => h) Z ?_
   refine WX.back0 ?_
   exact TX.use N_8 (pm3, cm3) ⟨hm11, (ok_DataP hokx_).2.2.2.1, (ok_DataP hokx_).2.2.2.2⟩ J (.cons Z (.cons Z (.cons Z (.cons Z (.nil))))) (.cons Z (.nil)) .nil [1, 0, 29, 2] Z
  refine TX.share (ι := (Option Addr) × Nat) ⟨fun | (pm4, cm4) => (GoT.ok n ([] : List UInt8)) ∧ (-9223372036854775808 ≤ x_.freshUntil ∧ x_.freshUntil ≤ 9223372036854775807) ∧ (-9223372036854775808 ≤ x_.signature ∧ x_.signature ≤ 9223372036854775807), fun _ => 0, fun | (pm4, cm4) => [(10, .v (.slice K1 ((x_.content).length) M1)), (4, .v (.slice pm4 (0) cm4)), (5, .p 1 0), (1, .p 1 0)], fun | (pm4, cm4) => [(1, ⟨28, [.slice K0 ((x_.name.parts).length) M0, .slice K1 ((x_.content).length) M1, .slice K2 ((x_.keyName.parts).length) M2, .int .i64 (x_.freshUntil), .int .i64 (x_.signature)]⟩)], fun _ => [], fun | (pm4, cm4) => [(1, MF.rs .stb K1 M1 x_.content), (24, MF.os pm4 cm4 ([] : List UInt8)), (0, MF.rs .stb K0 M0 x_.name.parts), (2, MF.rs .stb K2 M2 x_.keyName.parts)]⟩ 6 #[true, true, false, false, false, true, true, false, false, false] ?_ (fun N_5 => ?_)
  ·skip
   rintro ⟨pm4, cm4⟩ ⟨hm14, hm15, hm16⟩
   refine TX.tail [2, 3, 4, 7, 8, 9] Z Z J ?_
   refine R0 ?_
   refine WX.der 73 (MF.rs .der pm4 cm4 ([])) Z (fun _ hΓ => (hΓ.get 24 Z : OwSl _ _ _ _).rd) ?_
   refine CF 74 Z Z Z Z Z O Z (fun w γ => f114 w n τ1 ([]) pm4 cm4 (γ.q 73 Z) x_.name K0 M0 (γ.q 0 Z) hm14 ((ok_DataP hokx_).1)) ?_
   rintro ⟨p20, c18⟩ hq14
   have q14 := len_specAN ([]) x_.name
   refine CF 76 Z Z Z Z Z O Z (fun w γ => f113 w (n + 1) τ1 (a01 ([]) x_.name) p20 c18 (γ.q 74 Z) hq14) ?_
   rintro ⟨p21, c19⟩ hq15
   have q15 := len_specBI (a01 ([]) x_.name)
   refine CF 78 Z Z Z Z Z O Z (fun w γ => f113 w n τ1 x_.content K1 M1 (γ.q 1 Z) ((ok_DataP hokx_).2.1)) ?_
   rintro ⟨p22, c20⟩ hq16
   have q16 := len_specBI x_.content
   refine WX.opn (kk := 1) 505 77 80 Z Z Z ?_
   intro xs5 hx5
   refine WX.der 81 (MF.rs .der p22 c20 (a00 x_.content)) Z (fun _ hΓ => (hΓ.get 79 Z : OwSl _ _ _ _).rd) ?_
   have r17 : (x_.content).length ≤ bd n := (okl (ok_DataP hokx_).2.1).1
   have r18 : ([]).length ≤ bd n := (okl hm14).1
   have r19 : (a01 ([]) x_.name).length ≤ bd (n + 1) := (okl hq14).1
   have r20 : (a00 (a01 ([]) x_.name)).length ≤ bd (n + 2) := (okl hq15).1
   have r21 : (a00 x_.content).length ≤ bd (n + 1) := (okl hq16).1
   refine WX.appG1 505 81 82 (((a00 (a01 ([]) x_.name)) ++ (a00 x_.content)) : List Int).length ttOk Z Z Z Z Z Z Z Z Z Z Z Z Z τ7 τ0 τ0 (fun _ _ _ => Z) ?_
   intro ys5 p23 c21
   refine WX.know (fun G hΓ => (hΓ.get 82 Z : RdL _ _ _).flat) ?_
   intro hf5
   refine WX.turn [80] 83 Z (fun h hs => ol_flat hs hf5) (gs := [MF.ol (xs5 ++ ys5) (((a00 (a01 ([]) x_.name)) ++ (a00 x_.content)) : List Int)]) Z ?_
   refine R0 ?_
   refine WX.seal 505 83 84 Z Z Z Z Z ?_
   refine WX.turn [85] 18 Z (fun _ h => h) Z ?_
   exact WX.iter (p23, c21) ⟨(okl_mk τ0 (fun a ha => GoT.okm (show (n + 2) ≤ (n + 3) by omega) ((all_app (okl hq15).2 (fun a ha => GoT.okm τ1 ((okl hq16).2 a ha))) a ha)) : GoT.ok (n + 3) (((a00 (a01 ([]) x_.name)) ++ (a00 x_.content)) : List Int)), (ok_DataP hokx_).2.2.2.1, (ok_DataP hokx_).2.2.2.2⟩ Nat.zero_lt_one (.cons Z (.cons Z (.nil))) (.cons Z (.nil)) .nil [18, 0, 1, 2] Z
  refine TX.share (ι := Unit) ⟨fun _ => (-9223372036854775808 ≤ x_.freshUntil ∧ x_.freshUntil ≤ 9223372036854775807) ∧ (-9223372036854775808 ≤ x_.signature ∧ x_.signature ≤ 9223372036854775807), fun _ => 0, fun _ => [(10, .v (.slice K1 ((x_.content).length) M1)), (6, .v (.agg #[.slice K0 ((x_.name.parts).length) M0])), (1, .p 1 0)], fun _ => [(1, ⟨28, [.slice K0 ((x_.name.parts).length) M0, .slice K1 ((x_.content).length) M1, .slice K2 ((x_.keyName.parts).length) M2, .int .i64 (x_.freshUntil), .int .i64 (x_.signature)]⟩)], fun _ => [], fun _ => [(1, MF.rs .stb K1 M1 x_.content), (0, MF.rs .stb K0 M0 x_.name.parts), (2, MF.rs .stb K2 M2 x_.keyName.parts)]⟩ 6 #[false, true, true, false, false, true, true, false, false, false] ?_ (fun N_6 => ?_)
  ·skip
   rintro - ⟨hm17, hm18⟩
   refine TX.tail [0, 3, 4, 7, 8, 9] Z Z J ?_
   refine WX.bld ttOk Z Z Z Z Z Z Z ?_
   intro p24
   refine WX.free 86 (MF.ol [] ([] : List UInt8)) Z ?_
   refine WX.seal 4 86 87 Z Z Z Z Z ?_
   refine CF 89 Z Z Z Z Z O Z (fun w γ => f114 w n τ1 ([]) p24 0 (γ.q 87 Z) x_.name K0 M0 (γ.q 0 Z) (okl_mk (Nat.zero_le _) (fun _ _ => trivial) : GoT.ok n ([] : List UInt8)) ((ok_DataP hokx_).1)) ?_
   rintro ⟨p25, c22⟩ hq17
   have q17 := len_specAN ([]) x_.name
   refine CF 91 Z Z Z Z Z O Z (fun w γ => f113 w (n + 1) τ1 (a01 ([]) x_.name) p25 c22 (γ.q 89 Z) hq17) ?_
   rintro ⟨p26, c23⟩ hq18
   have q18 := len_specBI (a01 ([]) x_.name)
   refine CF 93 Z Z Z Z Z O Z (fun w γ => f113 w n τ1 x_.content K1 M1 (γ.q 1 Z) ((ok_DataP hokx_).2.1)) ?_
   rintro ⟨p27, c24⟩ hq19
   have q19 := len_specBI x_.content
   refine WX.opn (kk := 1) 506 92 95 Z Z Z ?_
   intro xs6 hx6
   refine WX.der 96 (MF.rs .der p27 c24 (a00 x_.content)) Z (fun _ hΓ => (hΓ.get 94 Z : OwSl _ _ _ _).rd) ?_
   have r22 : (x_.content).length ≤ bd n := (okl (ok_DataP hokx_).2.1).1
   have r23 : (a01 ([]) x_.name).length ≤ bd (n + 1) := (okl hq17).1
   have r24 : (a00 (a01 ([]) x_.name)).length ≤ bd (n + 2) := (okl hq18).1
   have r25 : (a00 x_.content).length ≤ bd (n + 1) := (okl hq19).1
   refine WX.appG1 506 96 97 (((a00 (a01 ([]) x_.name)) ++ (a00 x_.content)) : List Int).length ttOk Z Z Z Z Z Z Z Z Z Z Z Z Z τ7 τ0 τ0 (fun _ _ _ => Z) ?_
   intro ys6 p28 c25
   refine WX.know (fun G hΓ => (hΓ.get 97 Z : RdL _ _ _).flat) ?_
   intro hf6
   refine WX.turn [95] 98 Z (fun h hs => ol_flat hs hf6) (gs := [MF.ol (xs6 ++ ys6) (((a00 (a01 ([]) x_.name)) ++ (a00 x_.content)) : List Int)]) Z ?_
   refine R0 ?_
   refine WX.seal 506 98 99 Z Z Z Z Z ?_
   refine WX.turn [100] 18 Z (fun _ h => h) Z ?_
   exact WX.iter (p28, c25) ⟨(okl_mk τ0 (fun a ha => GoT.okm (show (n + 2) ≤ (n + 3) by omega) ((all_app (okl hq18).2 (fun a ha => GoT.okm τ1 ((okl hq19).2 a ha))) a ha)) : GoT.ok (n + 3) (((a00 (a01 ([]) x_.name)) ++ (a00 x_.content)) : List Int)), (ok_DataP hokx_).2.2.2.1, (ok_DataP hokx_).2.2.2.2⟩ Nat.zero_lt_one (.cons Z (.cons Z (.nil))) (.cons Z (.nil)) .nil [18, 0, 1, 2] Z
  refine TX.share (ι := (Option Addr) × Nat) ⟨fun | (pm2, cm2) => (GoT.ok n ([] : List UInt8)) ∧ (-9223372036854775808 ≤ x_.freshUntil ∧ x_.freshUntil ≤ 9223372036854775807) ∧ (-9223372036854775808 ≤ x_.signature ∧ x_.signature ≤ 9223372036854775807), fun _ => 0, fun | (pm2, cm2) => [(4, .v (.slice pm2 (0) cm2)), (9, .p 1 1), (5, .p 1 0), (1, .p 1 0)], fun | (pm2, cm2) => [(1, ⟨28, [.slice K0 ((x_.name.parts).length) M0, .slice K1 ((x_.content).length) M1, .slice K2 ((x_.keyName.parts).length) M2, .int .i64 (x_.freshUntil), .int .i64 (x_.signature)]⟩)], fun _ => [], fun | (pm2, cm2) => [(22, MF.os pm2 cm2 ([] : List UInt8)), (0, MF.rs .stb K0 M0 x_.name.parts), (1, MF.rs .stb K1 M1 x_.content), (2, MF.rs .stb K2 M2 x_.keyName.parts)]⟩ 7 #[true, true, false, false, false, true, false, false, false, false] ?_ (fun N_1 => ?_)
  ·skip
   rintro ⟨pm2, cm2⟩ ⟨hm4, hm5, hm6⟩
   refine TX.all2 2 6 J ?_ ?_
   ·skip
    refine TS.op 2 Z J ?_
    refine R0 ?_
    refine WX.turn [22] 23 Z (fun _ h => h) Z ?_
    refine WX.back0 ?_
    exact TX.use N_4 (pm2, cm2) ⟨hm4, (ok_DataP hokx_).2.2.2.1, (ok_DataP hokx_).2.2.2.2⟩ J (.cons Z (.cons Z (.cons Z (.cons Z (.nil))))) (.cons Z (.nil)) .nil [0, 23, 1, 2] Z
   refine TS.op 6 Z J ?_
   refine R0 ?_
   refine WX.turn [22] 24 Z (fun _ h => h) Z ?_
   refine WX.back0 ?_
   exact TX.use N_5 (pm2, cm2) ⟨hm4, (ok_DataP hokx_).2.2.2.1, (ok_DataP hokx_).2.2.2.2⟩ J (.cons Z (.cons Z (.cons Z (.cons Z (.nil))))) (.cons Z (.nil)) .nil [1, 24, 0, 2] Z
  refine TX.share (ι := Unit) ⟨fun _ => (-9223372036854775808 ≤ x_.freshUntil ∧ x_.freshUntil ≤ 9223372036854775807) ∧ (-9223372036854775808 ≤ x_.signature ∧ x_.signature ≤ 9223372036854775807), fun _ => 0, fun _ => [(6, .v (.agg #[.slice K0 ((x_.name.parts).length) M0])), (9, .p 1 1), (1, .p 1 0)], fun _ => [(1, ⟨28, [.slice K0 ((x_.name.parts).length) M0, .slice K1 ((x_.content).length) M1, .slice K2 ((x_.keyName.parts).length) M2, .int .i64 (x_.freshUntil), .int .i64 (x_.signature)]⟩)], fun _ => [], fun _ => [(0, MF.rs .stb K0 M0 x_.name.parts), (1, MF.rs .stb K1 M1 x_.content), (2, MF.rs .stb K2 M2 x_.keyName.parts)]⟩ 7 #[false, true, true, false, false, true, false, false, false, false] ?_ (fun N_2 => ?_)
  ·skip
   rintro - ⟨hm7, hm8⟩
   refine TX.all2 0 6 J ?_ ?_
   ·skip
    refine TS.op 0 Z J ?_
    refine WX.bld ttOk Z Z Z Z Z Z Z ?_
    intro p29
    refine R0 ?_
    refine WX.free 101 (MF.ol [] ([] : List UInt8)) Z ?_
    refine WX.seal 4 101 102 Z Z Z Z Z ?_
    refine WX.turn [103] 23 Z (fun _ h => h) Z ?_
    refine WX.back0 ?_
    exact TX.use N_4 (p29, 0) ⟨(okl_mk (Nat.zero_le _) (fun _ _ => trivial) : GoT.ok n ([] : List UInt8)), (ok_DataP hokx_).2.2.2.1, (ok_DataP hokx_).2.2.2.2⟩ J (.cons Z (.cons Z (.cons Z (.cons Z (.nil))))) (.cons Z (.nil)) .nil [0, 23, 1, 2] Z
   refine TS.op 6 Z J ?_
   refine R0 ?_
   refine WX.back0 ?_
   exact TX.use N_6 () ⟨(ok_DataP hokx_).2.2.2.1, (ok_DataP hokx_).2.2.2.2⟩ J (.cons Z (.cons Z (.cons Z (.nil)))) (.cons Z (.nil)) .nil [1, 0, 2] Z
  refine TX.share (ι := Unit) ⟨fun _ => (-9223372036854775808 ≤ x_.freshUntil ∧ x_.freshUntil ≤ 9223372036854775807) ∧ (-9223372036854775808 ≤ x_.signature ∧ x_.signature ≤ 9223372036854775807), fun _ => 0, fun _ => [(10, .v (.slice K1 ((x_.content).length) M1)), (5, .p 1 0), (1, .p 1 0)], fun _ => [(1, ⟨28, [.slice K0 ((x_.name.parts).length) M0, .slice K1 ((x_.content).length) M1, .slice K2 ((x_.keyName.parts).length) M2, .int .i64 (x_.freshUntil), .int .i64 (x_.signature)]⟩)], fun _ => [], fun _ => [(1, MF.rs .stb K1 M1 x_.content), (0, MF.rs .stb K0 M0 x_.name.parts), (2, MF.rs .stb K2 M2 x_.keyName.parts)]⟩ 7 #[false, true, false, false, false, true, true, false, false, false] ?_ (fun N_3 => ?_)
  ·skip
   rintro - ⟨hm9, hm10⟩
   refine TX.all2 0 2 J ?_ ?_
   ·skip
    refine TS.op 0 Z J ?_
    refine WX.bld ttOk Z Z Z Z Z Z Z ?_
    intro p30
    refine R0 ?_
    refine WX.free 104 (MF.ol [] ([] : List UInt8)) Z ?_
    refine WX.seal 4 104 105 Z Z Z Z Z ?_
    refine WX.turn [106] 24 Z (fun _ h => h) Z ?_
    refine WX.back0 ?_
    exact TX.use N_5 (p30, 0) ⟨(okl_mk (Nat.zero_le _) (fun _ _ => trivial) : GoT.ok n ([] : List UInt8)), (ok_DataP hokx_).2.2.2.1, (ok_DataP hokx_).2.2.2.2⟩ J (.cons Z (.cons Z (.cons Z (.cons Z (.nil))))) (.cons Z (.nil)) .nil [1, 24, 0, 2] Z
   refine TS.op 2 Z J ?_
   refine R0 ?_
   refine WX.back0 ?_
   exact TX.use N_6 () ⟨(ok_DataP hokx_).2.2.2.1, (ok_DataP hokx_).2.2.2.2⟩ J (.cons Z (.cons Z (.cons Z (.nil)))) (.cons Z (.nil)) .nil [1, 0, 2] Z
  refine TX.all3 0 2 6 J ?_ ?_ ?_
  ·skip
   refine TS.op 0 Z J ?_
   refine WX.bld ttOk Z Z Z Z Z Z Z ?_
   intro p31
   refine R0 ?_
   refine WX.free 107 (MF.ol [] ([] : List UInt8)) Z ?_
   refine WX.seal 4 107 108 Z Z Z Z Z ?_
   refine WX.turn [109] 22 Z (fun _ h => h) Z ?_
   refine WX.back0 ?_
   exact TX.use N_1 (p31, 0) ⟨(okl_mk (Nat.zero_le _) (fun _ _ => trivial) : GoT.ok n ([] : List UInt8)), (ok_DataP hokx_).2.2.2.1, (ok_DataP hokx_).2.2.2.2⟩ J (.cons Z (.cons Z (.cons Z (.cons Z (.nil))))) (.cons Z (.nil)) .nil [22, 0, 1, 2] Z
  ·skip
   refine TS.op 2 Z J ?_
   refine R0 ?_
   refine WX.back0 ?_
   exact TX.use N_2 () ⟨(ok_DataP hokx_).2.2.2.1, (ok_DataP hokx_).2.2.2.2⟩ J (.cons Z (.cons Z (.cons Z (.nil)))) (.cons Z (.nil)) .nil [0, 1, 2] Z
  refine TS.op 6 Z J ?_
  refine R0 ?_
  refine WX.back0 ?_
  exact TX.use N_3 () ⟨(ok_DataP hokx_).2.2.2.1, (ok_DataP hokx_).2.2.2.2⟩ J (.cons Z (.cons Z (.cons Z (.nil)))) (.cons Z (.nil)) .nil [1, 0, 2] Z
 rintro ⟨pm1, cm1⟩ ⟨hm1, hm2, hm3⟩
 refine R0 ?_
 refine WX.meet (ι := (Option Addr) × Nat) ⟨fun | (pm9, cm9) => (GoT.ok (n + 5) (((((a00 (a01 ([]) x_.name)) ++ (a00 x_.content)) ++ (a00 (a01 ([]) x_.keyName))) ++ [x_.freshUntil]) : List Int)), fun _ => 0, fun | (pm9, cm9) => [(2, .v (.slice pm9 ((((((a00 (a01 ([]) x_.name)) ++ (a00 x_.content)) ++ (a00 (a01 ([]) x_.keyName))) ++ [x_.freshUntil])).length) cm9))], fun | (pm9, cm9) => [], fun _ => [], fun | (pm9, cm9) => [(126, MF.os pm9 cm9 ((((a00 (a01 ([]) x_.name)) ++ (a00 x_.content)) ++ (a00 (a01 ([]) x_.keyName))) ++ [x_.freshUntil])), (0, MF.rs .stb K0 M0 x_.name.parts), (1, MF.rs .stb K1 M1 x_.content), (2, MF.rs .stb K2 M2 x_.keyName.parts)]⟩ ?_ ?_
 ·skip
  refine WX.der 127 (MF.rs .der pm1 cm1 ((a00 (a01 ([]) x_.name)) ++ (a00 x_.content))) Z (fun _ hΓ => (hΓ.get 18 Z : OwSl _ _ _ _).rd) ?_
  refine WX.draw [3, 4, 5, 6, 8, 10, 11] mixed ?_
  intro bs G0 hΓ0
  refine DX.takes (fuel := 9) ttOk [(0, true), (2, true), (7, true)] J Z ?_
  refine DX.toTX ?_
  intro S_
  refine TX.share (ι := (Option Addr) × Nat) ⟨fun | (pm43, cm43) => (GoT.ok (n + 4) ((((a00 (a01 ([]) x_.name)) ++ (a00 x_.content)) ++ (a00 (a01 ([]) x_.keyName))) : List Int)) ∧ (-9223372036854775808 ≤ x_.freshUntil ∧ x_.freshUntil ≤ 9223372036854775807), fun _ => 0, fun | (pm43, cm43) => [(19, .v (.slice pm43 (((((a00 (a01 ([]) x_.name)) ++ (a00 x_.content)) ++ (a00 (a01 ([]) x_.keyName)))).length) cm43)), (21, .v (.int .i64 (x_.freshUntil)))], fun | (pm43, cm43) => [], fun _ => [], fun | (pm43, cm43) => [(197, MF.os pm43 cm43 (((a00 (a01 ([]) x_.name)) ++ (a00 x_.content)) ++ (a00 (a01 ([]) x_.keyName)))), (0, MF.rs .stb K0 M0 x_.name.parts), (1, MF.rs .stb K1 M1 x_.content), (2, MF.rs .stb K2 M2 x_.keyName.parts)]⟩ 3 #[true, true, true, true, true, true, true, true, true, false, false, false] ?_ (fun N_28 => ?_)
  ·skip
   rintro ⟨pm43, cm43⟩ ⟨hm91, hm92⟩
   refine TX.tail [9, 10, 11] Z Z J ?_
   refine WX.bld ttOk Z Z Z Z Z Z Z ?_
   intro p49
   refine WX.opn (kk := 1) 510 197 204 Z Z Z ?_
   intro xs10 hx10
   refine WX.turn [] 205 Z (fun h hs => ol_one (α := Int) (a := x_.freshUntil) (x := ()) hs) (gs := [MF.ol [.int .i64 (x_.freshUntil)] ([x_.freshUntil] : List Int)]) Z ?_
   have r37 : (x_.content).length ≤ bd n := (okl (ok_DataP hokx_).2.1).1
   have r38 : -9223372036854775808 ≤ x_.freshUntil ∧ x_.freshUntil ≤ 9223372036854775807 := (ok_DataP hokx_).2.2.2.1
   have r39 : ((a00 (a01 ([]) x_.name)) ++ (a00 x_.content)).length ≤ bd (n + 3) := (okl hm1).1
   have r40 : (((a00 (a01 ([]) x_.name)) ++ (a00 x_.content)) ++ (a00 (a01 ([]) x_.keyName))).length ≤ bd (n + 4) := (okl hm91).1
   refine WX.know (fun G hΓ => (hΓ.get 205 Z : OwL _ _ _).rd.one) ?_
   intro ho2
   refine WX.appR1 510 22 (((((a00 (a01 ([]) x_.name)) ++ (a00 x_.content)) ++ (a00 (a01 ([]) x_.keyName))) ++ [x_.freshUntil]) : List Int).length ttOk Z Z Z Z Z Z Z Z Z Z Z Z Z ho2 (by first | (simp; done) | (rw [List.length_append]; rfl) | (simp; omega)) τ0 τ0 (fun _ _ => Z) ?_
   intro p50 c34
   refine WX.turn [204, 205] 206 Z (fun h hs => ol_app hs) (gs := [MF.ol (xs10 ++ [.int .i64 (x_.freshUntil)]) (((((a00 (a01 ([]) x_.name)) ++ (a00 x_.content)) ++ (a00 (a01 ([]) x_.keyName))) ++ [x_.freshUntil]) : List Int)]) Z ?_
   refine R0 ?_
   refine WX.seal 510 206 207 Z Z Z Z Z ?_
   refine WX.turn [208] 126 Z (fun _ h => h) Z ?_
   exact WX.iter (p50, c34) (okl_mk τ0 (fun a ha => GoT.okm (show (n + 4) ≤ (n + 5) by omega) ((all_app (okl hm91).2 (fun a ha => GoT.okm τ1 ((all_cons (α := Int) (ok_DataP hokx_).2.2.2.1 (fun a ha => by cases ha)) a ha))) a ha)) : GoT.ok (n + 5) (((((a00 (a01 ([]) x_.name)) ++ (a00 x_.content)) ++ (a00 (a01 ([]) x_.keyName))) ++ [x_.freshUntil]) : List Int)) Nat.zero_lt_one (.cons Z (.nil)) .nil .nil [126, 0, 1, 2] Z
  refine TX.share (ι := (Option Addr) × Nat × (Option Addr) × Nat × (Option Addr) × Nat) ⟨fun | (pm44, cm44, pm45, cm45, pm46, cm46) => (GoT.ok n ([x_.freshUntil] : List Int)) ∧ (GoT.ok (n + 2) ((a00 (a01 ([]) x_.keyName)) : List Int)) ∧ (GoT.ok (n + 3) (((a00 (a01 ([]) x_.name)) ++ (a00 x_.content)) : List Int)), fun _ => 0, fun | (pm44, cm44, pm45, cm45, pm46, cm46) => [(22, .v (.slice pm44 (([x_.freshUntil]).length) cm44)), (18, .v (.slice pm45 (((a00 (a01 ([]) x_.keyName))).length) cm45)), (13, .v (.slice pm46 ((((a00 (a01 ([]) x_.name)) ++ (a00 x_.content))).length) cm46))], fun | (pm44, cm44, pm45, cm45, pm46, cm46) => [], fun _ => [], fun | (pm44, cm44, pm45, cm45, pm46, cm46) => [(201, MF.os pm44 cm44 ([x_.freshUntil])), (202, MF.os pm45 cm45 (a00 (a01 ([]) x_.keyName))), (203, MF.os pm46 cm46 ((a00 (a01 ([]) x_.name)) ++ (a00 x_.content))), (0, MF.rs .stb K0 M0 x_.name.parts), (1, MF.rs .stb K1 M1 x_.content), (2, MF.rs .stb K2 M2 x_.keyName.parts)]⟩ 3 #[true, true, true, true, true, true, false, true, true, true, false, false] ?_ (fun N_29 => ?_)
  ·skip
   rintro ⟨pm44, cm44, pm45, cm45, pm46, cm46⟩ ⟨hm93, hm94, hm95⟩
   refine TX.tail [6, 10, 11] Z Z J ?_
   refine WX.opn (kk := 1) 511 203 209 Z Z Z ?_
   intro xs11 hx11
   refine WX.der 210 (MF.rs .der pm45 cm45 (a00 (a01 ([]) x_.keyName))) Z (fun _ hΓ => (hΓ.get 202 Z : OwSl _ _ _ _).rd) ?_
   have r41 : (x_.content).length ≤ bd n := (okl (ok_DataP hokx_).2.1).1
   have r42 : ((a00 (a01 ([]) x_.name)) ++ (a00 x_.content)).length ≤ bd (n + 3) := (okl hm1).1
   have r43 : (a00 (a01 ([]) x_.keyName)).length ≤ bd (n + 2) := (okl hm94).1
   refine WX.appG1 511 210 211 ((((a00 (a01 ([]) x_.name)) ++ (a00 x_.content)) ++ (a00 (a01 ([]) x_.keyName))) : List Int).length ttOk Z Z Z Z Z Z Z Z Z Z Z Z Z τ7 τ0 τ0 (fun _ _ _ => Z) ?_
   intro ys10 p51 c35
   refine WX.know (fun G hΓ => (hΓ.get 211 Z : RdL _ _ _).flat) ?_
   intro hf10
   refine WX.turn [209] 212 Z (fun h hs => ol_flat hs hf10) (gs := [MF.ol (xs11 ++ ys10) ((((a00 (a01 ([]) x_.name)) ++ (a00 x_.content)) ++ (a00 (a01 ([]) x_.keyName))) : List Int)]) Z ?_
   refine WX.der 213 (MF.rs .der pm44 cm44 ([x_.freshUntil])) Z (fun _ hΓ => (hΓ.get 201 Z : OwSl _ _ _ _).rd) ?_
   have r44 : -9223372036854775808 ≤ x_.freshUntil ∧ x_.freshUntil ≤ 9223372036854775807 := (ok_DataP hokx_).2.2.2.1
   have r45 : ([x_.freshUntil]).length ≤ bd n := (okl hm93).1
   refine WX.appG1 511 213 214 (((((a00 (a01 ([]) x_.name)) ++ (a00 x_.content)) ++ (a00 (a01 ([]) x_.keyName))) ++ [x_.freshUntil]) : List Int).length ttOk Z Z Z Z Z Z Z Z Z Z Z Z Z τ7 τ0 τ0 (fun _ _ _ => Z) ?_
   intro ys11 p52 c36
   refine WX.know (fun G hΓ => (hΓ.get 214 Z : RdL _ _ _).flat) ?_
   intro hf11
   refine WX.turn [212] 215 Z (fun h hs => ol_flat hs hf11) (gs := [MF.ol ((xs11 ++ ys10) ++ ys11) (((((a00 (a01 ([]) x_.name)) ++ (a00 x_.content)) ++ (a00 (a01 ([]) x_.keyName))) ++ [x_.freshUntil]) : List Int)]) Z ?_
   refine R0 ?_
   refine WX.seal 511 215 216 Z Z Z Z Z ?_
   refine WX.turn [217] 126 Z (fun _ h => h) Z ?_
   exact WX.iter (p52, c36) (okl_mk τ0 (fun a ha => GoT.okm (show (n + 4) ≤ (n + 5) by omega) ((all_app (fun a ha => GoT.okm (show (n + 3) ≤ (n + 4) by omega) ((all_app (okl hm95).2 (fun a ha => GoT.okm τ1 ((okl hm94).2 a ha))) a ha)) (fun a ha => GoT.okm τ1 ((okl hm93).2 a ha))) a ha)) : GoT.ok (n + 5) (((((a00 (a01 ([]) x_.name)) ++ (a00 x_.content)) ++ (a00 (a01 ([]) x_.keyName))) ++ [x_.freshUntil]) : List Int)) Nat.zero_lt_one (.cons Z (.nil)) .nil .nil [126, 0, 1, 2] Z
  refine TX.share (ι := (Option Addr) × Nat) ⟨fun | (pm37, cm37) => (GoT.ok (n + 4) ((((a00 (a01 ([]) x_.name)) ++ (a00 x_.content)) ++ (a00 (a01 ([]) x_.keyName))) : List Int)) ∧ (-9223372036854775808 ≤ x_.freshUntil ∧ x_.freshUntil ≤ 9223372036854775807) ∧ (-9223372036854775808 ≤ x_.signature ∧ x_.signature ≤ 9223372036854775807), fun _ => 0, fun | (pm37, cm37) => [(19, .v (.slice pm37 (((((a00 (a01 ([]) x_.name)) ++ (a00 x_.content)) ++ (a00 (a01 ([]) x_.keyName)))).length) cm37)), (20, .p 1 3)], fun | (pm37, cm37) => [(1, ⟨28, [.slice K0 ((x_.name.parts).length) M0, .slice K1 ((x_.content).length) M1, .slice K2 ((x_.keyName.parts).length) M2, .int .i64 (x_.freshUntil), .int .i64 (x_.signature)]⟩)], fun _ => [], fun | (pm37, cm37) => [(182, MF.os pm37 cm37 (((a00 (a01 ([]) x_.name)) ++ (a00 x_.content)) ++ (a00 (a01 ([]) x_.keyName)))), (0, MF.rs .stb K0 M0 x_.name.parts), (1, MF.rs .stb K1 M1 x_.content), (2, MF.rs .stb K2 M2 x_.keyName.parts)]⟩ 4 #[true, true, true, true, true, true, true, true, false, false, false, false] ?_ (fun N_25 => ?_)
  ·skip
   rintro ⟨pm37, cm37⟩ ⟨hm82, hm83, hm84⟩
   refine TX.tail [8, 9, 10, 11] Z Z J ?_
   refine R0 ?_
   refine WX.bld ttOk Z Z Z Z Z Z Z ?_
   intro p53
   refine WX.opn (kk := 1) 512 182 218 Z Z Z ?_
   intro xs12 hx12
   refine WX.turn [] 219 Z (fun h hs => ol_one (α := Int) (a := x_.freshUntil) (x := ()) hs) (gs := [MF.ol [.int .i64 (x_.freshUntil)] ([x_.freshUntil] : List Int)]) Z ?_
   have r46 : (x_.content).length ≤ bd n := (okl (ok_DataP hokx_).2.1).1
   have r47 : -9223372036854775808 ≤ x_.freshUntil ∧ x_.freshUntil ≤ 9223372036854775807 := (ok_DataP hokx_).2.2.2.1
   have r48 : ((a00 (a01 ([]) x_.name)) ++ (a00 x_.content)).length ≤ bd (n + 3) := (okl hm1).1
   have r49 : (((a00 (a01 ([]) x_.name)) ++ (a00 x_.content)) ++ (a00 (a01 ([]) x_.keyName))).length ≤ bd (n + 4) := (okl hm82).1
   refine WX.know (fun G hΓ => (hΓ.get 219 Z : OwL _ _ _).rd.one) ?_
   intro ho3
   refine WX.appR1 512 22 (((((a00 (a01 ([]) x_.name)) ++ (a00 x_.content)) ++ (a00 (a01 ([]) x_.keyName))) ++ [x_.freshUntil]) : List Int).length ttOk Z Z Z Z Z Z Z Z Z Z Z Z Z ho3 (by first | (simp; done) | (rw [List.length_append]; rfl) | (simp; omega)) τ0 τ0 (fun _ _ => Z) ?_
   intro p54 c37
   refine WX.turn [218, 219] 220 Z (fun h hs => ol_app hs) (gs := [MF.ol (xs12 ++ [.int .i64 (x_.freshUntil)]) (((((a00 (a01 ([]) x_.name)) ++ (a00 x_.content)) ++ (a00 (a01 ([]) x_.keyName))) ++ [x_.freshUntil]) : List Int)]) Z ?_
   refine R0 ?_
   refine WX.seal 512 220 221 Z Z Z Z Z ?_
   refine WX.turn [222] 126 Z (fun _ h => h) Z ?_
   exact WX.iter (p54, c37) (okl_mk τ0 (fun a ha => GoT.okm (show (n + 4) ≤ (n + 5) by omega) ((all_app (okl hm82).2 (fun a ha => GoT.okm τ1 ((all_cons (α := Int) (ok_DataP hokx_).2.2.2.1 (fun a ha => by cases ha)) a ha))) a ha)) : GoT.ok (n + 5) (((((a00 (a01 ([]) x_.name)) ++ (a00 x_.content)) ++ (a00 (a01 ([]) x_.keyName))) ++ [x_.freshUntil]) : List Int)) Nat.zero_lt_one (.cons Z (.nil)) .nil .nil [126, 0, 1, 2] Z
  refine TX.share (ι := (Option Addr) × Nat × (Option Addr) × Nat) ⟨fun | (pm38, cm38, pm39, cm39) => (-9223372036854775808 ≤ x_.freshUntil ∧ x_.freshUntil ≤ 9223372036854775807) ∧ (GoT.ok (n + 2) ((a00 (a01 ([]) x_.keyName)) : List Int)) ∧ (GoT.ok (n + 3) (((a00 (a01 ([]) x_.name)) ++ (a00 x_.content)) : List Int)), fun _ => 0, fun | (pm38, cm38, pm39, cm39) => [(21, .v (.int .i64 (x_.freshUntil))), (18, .v (.slice pm38 (((a00 (a01 ([]) x_.keyName))).length) cm38)), (13, .v (.slice pm39 ((((a00 (a01 ([]) x_.name)) ++ (a00 x_.content))).length) cm39))], fun | (pm38, cm38, pm39, cm39) => [], fun _ => [], fun | (pm38, cm38, pm39, cm39) => [(183, MF.os pm38 cm38 (a00 (a01 ([]) x_.keyName))), (184, MF.os pm39 cm39 ((a00 (a01 ([]) x_.name)) ++ (a00 x_.content))), (0, MF.rs .stb K0 M0 x_.name.parts), (1, MF.rs .stb K1 M1 x_.content), (2, MF.rs .stb K2 M2 x_.keyName.parts)]⟩ 4 #[true, true, true, true, true, true, false, true, true, false, false, false] ?_ (fun N_26 => ?_)
  ·skip
   rintro ⟨pm38, cm38, pm39, cm39⟩ ⟨hm85, hm86, hm87⟩
   refine TX.all2 6 9 J ?_ ?_
   ·skip
    refine TS.op 6 Z J ?_
    refine WX.opn (kk := 1) 513 184 223 Z Z Z ?_
    intro xs13 hx13
    refine WX.der 224 (MF.rs .der pm38 cm38 (a00 (a01 ([]) x_.keyName))) Z (fun _ hΓ => (hΓ.get 183 Z : OwSl _ _ _ _).rd) ?_
    have r50 : (x_.content).length ≤ bd n := (okl (ok_DataP hokx_).2.1).1
    have r51 : ((a00 (a01 ([]) x_.name)) ++ (a00 x_.content)).length ≤ bd (n + 3) := (okl hm1).1
    have r52 : (a00 (a01 ([]) x_.keyName)).length ≤ bd (n + 2) := (okl hm86).1
    refine WX.appG1 513 224 225 ((((a00 (a01 ([]) x_.name)) ++ (a00 x_.content)) ++ (a00 (a01 ([]) x_.keyName))) : List Int).length ttOk Z Z Z Z Z Z Z Z Z Z Z Z Z τ7 τ0 τ0 (fun _ _ _ => Z) ?_
    intro ys12 p55 c38
    refine WX.know (fun G hΓ => (hΓ.get 225 Z : RdL _ _ _).flat) ?_
    intro hf12
    refine WX.turn [223] 226 Z (fun h hs => ol_flat hs hf12) (gs := [MF.ol (xs13 ++ ys12) ((((a00 (a01 ([]) x_.name)) ++ (a00 x_.content)) ++ (a00 (a01 ([]) x_.keyName))) : List Int)]) Z ?_
    refine R0 ?_
    refine WX.seal 513 226 227 Z Z Z Z Z ?_
    refine WX.turn [228] 197 Z (fun _ h => h) Z ?_
    refine WX.back0 ?_
    exact TX.use N_28 (p55, c38) ⟨(okl_mk τ0 (fun a ha => GoT.okm (show (n + 3) ≤ (n + 4) by omega) ((all_app (okl hm87).2 (fun a ha => GoT.okm τ1 ((okl hm86).2 a ha))) a ha)) : GoT.ok (n + 4) ((((a00 (a01 ([]) x_.name)) ++ (a00 x_.content)) ++ (a00 (a01 ([]) x_.keyName))) : List Int)), (ok_DataP hokx_).2.2.2.1⟩ J (.cons Z (.cons Z (.nil))) .nil .nil [197, 0, 1, 2] Z
   refine TS.op 9 Z J ?_
   refine WX.bld ttOk Z Z Z Z Z Z Z ?_
   intro p56
   refine R0 ?_
   refine WX.turn [] 229 Z (fun h hs => ol_one (α := Int) (a := x_.freshUntil) (x := ()) hs) (gs := [MF.ol [.int .i64 (x_.freshUntil)] ([x_.freshUntil] : List Int)]) Z ?_
   refine WX.seal 22 229 230 Z Z Z Z Z ?_
   refine WX.turn [231] 201 Z (fun _ h => h) Z ?_
   refine WX.turn [183] 202 Z (fun _ h => h) Z ?_
   refine WX.turn [184] 203 Z (fun _ h => h) Z ?_
   have r53 : -9223372036854775808 ≤ x_.freshUntil ∧ x_.freshUntil ≤ 9223372036854775807 := (ok_DataP hokx_).2.2.2.1
   refine WX.back0 ?_
   exact TX.use N_29 (p56, 1, pm38, cm38, pm39, cm39) ⟨(okl_mk τ0 (all_cons (α := Int) (ok_DataP hokx_).2.2.2.1 (fun a ha => by cases ha)) : GoT.ok n ([x_.freshUntil] : List Int)), hm86, hm87⟩ J (.cons Z (.cons Z (.cons Z (.nil)))) .nil .nil [201, 202, 203, 0, 1, 2] Z
  refine TX.share (ι := (Option Addr) × Nat × (Option Addr) × Nat × (Option Addr) × Nat) ⟨fun | (pm40, cm40, pm41, cm41, pm42, cm42) => (GoT.ok n ([x_.freshUntil] : List Int)) ∧ (GoT.ok (n + 1) ((a01 ([]) x_.keyName) : List UInt8)) ∧ (GoT.ok (n + 3) (((a00 (a01 ([]) x_.name)) ++ (a00 x_.content)) : List Int)), fun _ => 0, fun | (pm40, cm40, pm41, cm41, pm42, cm42) => [(22, .v (.slice pm40 (([x_.freshUntil]).length) cm40)), (17, .v (.slice pm41 (((a01 ([]) x_.keyName)).length) cm41)), (13, .v (.slice pm42 ((((a00 (a01 ([]) x_.name)) ++ (a00 x_.content))).length) cm42))], fun | (pm40, cm40, pm41, cm41, pm42, cm42) => [], fun _ => [], fun | (pm40, cm40, pm41, cm41, pm42, cm42) => [(188, MF.os pm40 cm40 ([x_.freshUntil])), (189, MF.os pm41 cm41 (a01 ([]) x_.keyName)), (190, MF.os pm42 cm42 ((a00 (a01 ([]) x_.name)) ++ (a00 x_.content))), (0, MF.rs .stb K0 M0 x_.name.parts), (1, MF.rs .stb K1 M1 x_.content), (2, MF.rs .stb K2 M2 x_.keyName.parts)]⟩ 4 #[true, true, true, true, true, false, false, true, true, true, false, false] ?_ (fun N_27 => ?_)
  ·skip
   rintro ⟨pm40, cm40, pm41, cm41, pm42, cm42⟩ ⟨hm88, hm89, hm90⟩
   refine TX.tail [5, 6, 10, 11] Z Z J ?_
   refine WX.der 232 (MF.rs .der pm41 cm41 (a01 ([]) x_.keyName)) Z (fun _ hΓ => (hΓ.get 189 Z : OwSl _ _ _ _).rd) ?_
   refine CF 233 Z Z Z Z Z O Z (fun w γ => f113 w (n + 1) τ1 (a01 ([]) x_.keyName) pm41 cm41 (γ.q 232 Z) hm89) ?_
   rintro ⟨p57, c39⟩ hq24
   have q24 := len_specBI (a01 ([]) x_.keyName)
   refine WX.opn (kk := 1) 514 190 235 Z Z Z ?_
   intro xs14 hx14
   refine WX.der 236 (MF.rs .der p57 c39 (a00 (a01 ([]) x_.keyName))) Z (fun _ hΓ => (hΓ.get 234 Z : OwSl _ _ _ _).rd) ?_
   have r54 : (x_.content).length ≤ bd n := (okl (ok_DataP hokx_).2.1).1
   have r55 : ((a00 (a01 ([]) x_.name)) ++ (a00 x_.content)).length ≤ bd (n + 3) := (okl hm1).1
   have r56 : (a01 ([]) x_.keyName).length ≤ bd (n + 1) := (okl hm89).1
   have r57 : (a00 (a01 ([]) x_.keyName)).length ≤ bd (n + 2) := (okl hq24).1
   refine WX.appG1 514 236 237 ((((a00 (a01 ([]) x_.name)) ++ (a00 x_.content)) ++ (a00 (a01 ([]) x_.keyName))) : List Int).length ttOk Z Z Z Z Z Z Z Z Z Z Z Z Z τ7 τ0 τ0 (fun _ _ _ => Z) ?_
   intro ys13 p58 c40
   refine WX.know (fun G hΓ => (hΓ.get 237 Z : RdL _ _ _).flat) ?_
   intro hf13
   refine WX.turn [235] 238 Z (fun h hs => ol_flat hs hf13) (gs := [MF.ol (xs14 ++ ys13) ((((a00 (a01 ([]) x_.name)) ++ (a00 x_.content)) ++ (a00 (a01 ([]) x_.keyName))) : List Int)]) Z ?_
   refine WX.der 239 (MF.rs .der pm40 cm40 ([x_.freshUntil])) Z (fun _ hΓ => (hΓ.get 188 Z : OwSl _ _ _ _).rd) ?_
   have r58 : -9223372036854775808 ≤ x_.freshUntil ∧ x_.freshUntil ≤ 9223372036854775807 := (ok_DataP hokx_).2.2.2.1
   have r59 : ([x_.freshUntil]).length ≤ bd n := (okl hm88).1
   refine WX.appG1 514 239 240 (((((a00 (a01 ([]) x_.name)) ++ (a00 x_.content)) ++ (a00 (a01 ([]) x_.keyName))) ++ [x_.freshUntil]) : List Int).length ttOk Z Z Z Z Z Z Z Z Z Z Z Z Z τ7 τ0 τ0 (fun _ _ _ => Z) ?_
   intro ys14 p59 c41
   refine WX.know (fun G hΓ => (hΓ.get 240 Z : RdL _ _ _).flat) ?_
   intro hf14
   refine WX.turn [238] 241 Z (fun h hs => ol_flat hs hf14) (gs := [MF.ol ((xs14 ++ ys13) ++ ys14) (((((a00 (a01 ([]) x_.name)) ++ (a00 x_.content)) ++ (a00 (a01 ([]) x_.keyName))) ++ [x_.freshUntil]) : List Int)]) Z ?_
   refine R0 ?_
   refine WX.seal 514 241 242 Z Z Z Z Z ?_
   refine WX.turn [243] 126 Z (fun _ h => h) Z ?_
   exact WX.iter (p59, c41) (okl_mk τ0 (fun a ha => GoT.okm (show (n + 4) ≤ (n + 5) by omega) ((all_app (fun a ha => GoT.okm (show (n + 3) ≤ (n + 4) by omega) ((all_app (okl hm90).2 (fun a ha => GoT.okm τ1 ((okl hq24).2 a ha))) a ha)) (fun a ha => GoT.okm τ1 ((okl hm88).2 a ha))) a ha)) : GoT.ok (n + 5) (((((a00 (a01 ([]) x_.name)) ++ (a00 x_.content)) ++ (a00 (a01 ([]) x_.keyName))) ++ [x_.freshUntil]) : List Int)) Nat.zero_lt_one (.cons Z (.nil)) .nil .nil [126, 0, 1, 2] Z
  refine TX.share (ι := (Option Addr) × Nat × (Option Addr) × Nat) ⟨fun | (pm30, cm30, pm31, cm31) => (GoT.ok (n + 2) ((a00 (a01 ([]) x_.keyName)) : List Int)) ∧ (GoT.ok (n + 3) (((a00 (a01 ([]) x_.name)) ++ (a00 x_.content)) : List Int)) ∧ (-9223372036854775808 ≤ x_.freshUntil ∧ x_.freshUntil ≤ 9223372036854775807) ∧ (-9223372036854775808 ≤ x_.signature ∧ x_.signature ≤ 9223372036854775807), fun _ => 0, fun | (pm30, cm30, pm31, cm31) => [(18, .v (.slice pm30 (((a00 (a01 ([]) x_.keyName))).length) cm30)), (20, .p 1 3), (13, .v (.slice pm31 ((((a00 (a01 ([]) x_.name)) ++ (a00 x_.content))).length) cm31))], fun | (pm30, cm30, pm31, cm31) => [(1, ⟨28, [.slice K0 ((x_.name.parts).length) M0, .slice K1 ((x_.content).length) M1, .slice K2 ((x_.keyName.parts).length) M2, .int .i64 (x_.freshUntil), .int .i64 (x_.signature)]⟩)], fun _ => [], fun | (pm30, cm30, pm31, cm31) => [(166, MF.os pm30 cm30 (a00 (a01 ([]) x_.keyName))), (167, MF.os pm31 cm31 ((a00 (a01 ([]) x_.name)) ++ (a00 x_.content))), (0, MF.rs .stb K0 M0 x_.name.parts), (1, MF.rs .stb K1 M1 x_.content), (2, MF.rs .stb K2 M2 x_.keyName.parts)]⟩ 5 #[true, true, true, true, true, true, false, true, false, false, false, false] ?_ (fun N_22 => ?_)
  ·skip
   rintro ⟨pm30, cm30, pm31, cm31⟩ ⟨hm72, hm73, hm74, hm75⟩
   refine TX.all2 6 8 J ?_ ?_
   ·skip
    refine TS.op 6 Z J ?_
    refine WX.opn (kk := 1) 515 167 244 Z Z Z ?_
    intro xs15 hx15
    refine WX.der 245 (MF.rs .der pm30 cm30 (a00 (a01 ([]) x_.keyName))) Z (fun _ hΓ => (hΓ.get 166 Z : OwSl _ _ _ _).rd) ?_
    have r60 : (x_.content).length ≤ bd n := (okl (ok_DataP hokx_).2.1).1
    have r61 : ((a00 (a01 ([]) x_.name)) ++ (a00 x_.content)).length ≤ bd (n + 3) := (okl hm1).1
    have r62 : (a00 (a01 ([]) x_.keyName)).length ≤ bd (n + 2) := (okl hm72).1
    refine WX.appG1 515 245 246 ((((a00 (a01 ([]) x_.name)) ++ (a00 x_.content)) ++ (a00 (a01 ([]) x_.keyName))) : List Int).length ttOk Z Z Z Z Z Z Z Z Z Z Z Z Z τ7 τ0 τ0 (fun _ _ _ => Z) ?_
    intro ys15 p60 c42
    refine WX.know (fun G hΓ => (hΓ.get 246 Z : RdL _ _ _).flat) ?_
    intro hf15
    refine WX.turn [244] 247 Z (fun h hs => ol_flat hs hf15) (gs := [MF.ol (xs15 ++ ys15) ((((a00 (a01 ([]) x_.name)) ++ (a00 x_.content)) ++ (a00 (a01 ([]) x_.keyName))) : List Int)]) Z ?_
    refine R0 ?_
    refine WX.seal 515 247 248 Z Z Z Z Z ?_
    refine WX.turn [249] 182 Z (fun _ h => h) Z ?_
    refine WX.back0 ?_
    exact TX.use N_25 (p60, c42) ⟨(okl_mk τ0 (fun a ha => GoT.okm (show (n + 3) ≤ (n + 4) by omega) ((all_app (okl hm73).2 (fun a ha => GoT.okm τ1 ((okl hm72).2 a ha))) a ha)) : GoT.ok (n + 4) ((((a00 (a01 ([]) x_.name)) ++ (a00 x_.content)) ++ (a00 (a01 ([]) x_.keyName))) : List Int)), (ok_DataP hokx_).2.2.2.1, (ok_DataP hokx_).2.2.2.2⟩ J (.cons Z (.cons Z (.nil))) (.cons Z (.nil)) .nil [182, 0, 1, 2] Z
   refine TS.op 8 Z J ?_
   refine R0 ?_
   refine WX.turn [166] 183 Z (fun _ h => h) Z ?_
   refine WX.turn [167] 184 Z (fun _ h => h) Z ?_
   refine WX.back0 ?_
   exact TX.use N_26 (pm30, cm30, pm31, cm31) ⟨(ok_DataP hokx_).2.2.2.1, hm72, hm73⟩ J (.cons Z (.cons Z (.cons Z (.nil)))) .nil .nil [183, 184, 0, 1, 2] Z
  refine TX.share (ι := (Option Addr) × Nat × (Option Addr) × Nat) ⟨fun | (pm32, cm32, pm33, cm33) => (-9223372036854775808 ≤ x_.freshUntil ∧ x_.freshUntil ≤ 9223372036854775807) ∧ (GoT.ok (n + 1) ((a01 ([]) x_.keyName) : List UInt8)) ∧ (GoT.ok (n + 3) (((a00 (a01 ([]) x_.name)) ++ (a00 x_.content)) : List Int)), fun _ => 0, fun | (pm32, cm32, pm33, cm33) => [(21, .v (.int .i64 (x_.freshUntil))), (17, .v (.slice pm32 (((a01 ([]) x_.keyName)).length) cm32)), (13, .v (.slice pm33 ((((a00 (a01 ([]) x_.name)) ++ (a00 x_.content))).length) cm33))], fun | (pm32, cm32, pm33, cm33) => [], fun _ => [], fun | (pm32, cm32, pm33, cm33) => [(168, MF.os pm32 cm32 (a01 ([]) x_.keyName)), (169, MF.os pm33 cm33 ((a00 (a01 ([]) x_.name)) ++ (a00 x_.content))), (0, MF.rs .stb K0 M0 x_.name.parts), (1, MF.rs .stb K1 M1 x_.content), (2, MF.rs .stb K2 M2 x_.keyName.parts)]⟩ 5 #[true, true, true, true, true, false, false, true, true, false, false, false] ?_ (fun N_23 => ?_)
  ·skip
   rintro ⟨pm32, cm32, pm33, cm33⟩ ⟨hm76, hm77, hm78⟩
   refine TX.all2 5 9 J ?_ ?_
   ·skip
    refine TS.op 5 Z J ?_
    refine WX.der 250 (MF.rs .der pm32 cm32 (a01 ([]) x_.keyName)) Z (fun _ hΓ => (hΓ.get 168 Z : OwSl _ _ _ _).rd) ?_
    refine CF 251 Z Z Z Z Z O Z (fun w γ => f113 w (n + 1) τ1 (a01 ([]) x_.keyName) pm32 cm32 (γ.q 250 Z) hm77) ?_
    rintro ⟨p61, c43⟩ hq25
    have q25 := len_specBI (a01 ([]) x_.keyName)
    refine R0 ?_
    refine WX.turn [252] 183 Z (fun _ h => h) Z ?_
    refine WX.turn [169] 184 Z (fun _ h => h) Z ?_
    refine WX.back0 ?_
    exact TX.use N_26 (p61, c43, pm33, cm33) ⟨(ok_DataP hokx_).2.2.2.1, hq25, hm78⟩ J (.cons Z (.cons Z (.cons Z (.nil)))) .nil .nil [183, 184, 0, 1, 2] Z
   refine TS.op 9 Z J ?_
   refine WX.bld ttOk Z Z Z Z Z Z Z ?_
   intro p62
   refine R0 ?_
   refine WX.turn [] 253 Z (fun h hs => ol_one (α := Int) (a := x_.freshUntil) (x := ()) hs) (gs := [MF.ol [.int .i64 (x_.freshUntil)] ([x_.freshUntil] : List Int)]) Z ?_
   refine WX.seal 22 253 254 Z Z Z Z Z ?_
   refine WX.turn [255] 188 Z (fun _ h => h) Z ?_
   refine WX.turn [168] 189 Z (fun _ h => h) Z ?_
   refine WX.turn [169] 190 Z (fun _ h => h) Z ?_
   have r63 : -9223372036854775808 ≤ x_.freshUntil ∧ x_.freshUntil ≤ 9223372036854775807 := (ok_DataP hokx_).2.2.2.1
   refine WX.back0 ?_
   exact TX.use N_27 (p62, 1, pm32, cm32, pm33, cm33) ⟨(okl_mk τ0 (all_cons (α := Int) (ok_DataP hokx_).2.2.2.1 (fun a ha => by cases ha)) : GoT.ok n ([x_.freshUntil] : List Int)), hm77, hm78⟩ J (.cons Z (.cons Z (.cons Z (.nil)))) .nil .nil [188, 189, 190, 0, 1, 2] Z
  refine TX.share (ι := (Option Addr) × Nat × (Option Addr) × Nat × (Option Addr) × Nat) ⟨fun | (pm34, cm34, pm35, cm35, pm36, cm36) => (GoT.ok n ([x_.freshUntil] : List Int)) ∧ (GoT.ok n ([] : List UInt8)) ∧ (GoT.ok (n + 3) (((a00 (a01 ([]) x_.name)) ++ (a00 x_.content)) : List Int)), fun _ => 0, fun | (pm34, cm34, pm35, cm35, pm36, cm36) => [(22, .v (.slice pm34 (([x_.freshUntil]).length) cm34)), (16, .v (.agg #[.slice K2 ((x_.keyName.parts).length) M2])), (14, .v (.slice pm35 (0) cm35)), (13, .v (.slice pm36 ((((a00 (a01 ([]) x_.name)) ++ (a00 x_.content))).length) cm36))], fun | (pm34, cm34, pm35, cm35, pm36, cm36) => [], fun _ => [], fun | (pm34, cm34, pm35, cm35, pm36, cm36) => [(173, MF.os pm34 cm34 ([x_.freshUntil])), (2, MF.rs .stb K2 M2 x_.keyName.parts), (174, MF.os pm35 cm35 ([] : List UInt8)), (175, MF.os pm36 cm36 ((a00 (a01 ([]) x_.name)) ++ (a00 x_.content))), (0, MF.rs .stb K0 M0 x_.name.parts), (1, MF.rs .stb K1 M1 x_.content)]⟩ 5 #[true, true, true, true, false, false, false, true, true, true, false, false] ?_ (fun N_24 => ?_)
  ·skip
   rintro ⟨pm34, cm34, pm35, cm35, pm36, cm36⟩ ⟨hm79, hm80, hm81⟩
   refine TX.tail [4, 5, 6, 10, 11] Z Z J ?_
   refine WX.der 256 (MF.rs .der pm35 cm35 ([])) Z (fun _ hΓ => (hΓ.get 174 Z : OwSl _ _ _ _).rd) ?_
   refine CF 257 Z Z Z Z Z O Z (fun w γ => f114 w n τ1 ([]) pm35 cm35 (γ.q 256 Z) x_.keyName K2 M2 (γ.q 2 Z) hm80 ((ok_DataP hokx_).2.2.1)) ?_
   rintro ⟨p63, c44⟩ hq26
   have q26 := len_specAN ([]) x_.keyName
   refine CF 259 Z Z Z Z Z O Z (fun w γ => f113 w (n + 1) τ1 (a01 ([]) x_.keyName) p63 c44 (γ.q 257 Z) hq26) ?_
   rintro ⟨p64, c45⟩ hq27
   have q27 := len_specBI (a01 ([]) x_.keyName)
   refine WX.opn (kk := 1) 516 175 261 Z Z Z ?_
   intro xs16 hx16
   refine WX.der 262 (MF.rs .der p64 c45 (a00 (a01 ([]) x_.keyName))) Z (fun _ hΓ => (hΓ.get 260 Z : OwSl _ _ _ _).rd) ?_
   have r64 : (x_.content).length ≤ bd n := (okl (ok_DataP hokx_).2.1).1
   have r65 : ((a00 (a01 ([]) x_.name)) ++ (a00 x_.content)).length ≤ bd (n + 3) := (okl hm1).1
   have r66 : ([]).length ≤ bd n := (okl hm80).1
   have r67 : (a01 ([]) x_.keyName).length ≤ bd (n + 1) := (okl hq26).1
   have r68 : (a00 (a01 ([]) x_.keyName)).length ≤ bd (n + 2) := (okl hq27).1
   refine WX.appG1 516 262 263 ((((a00 (a01 ([]) x_.name)) ++ (a00 x_.content)) ++ (a00 (a01 ([]) x_.keyName))) : List Int).length ttOk Z Z Z Z Z Z Z Z Z Z Z Z Z τ7 τ0 τ0 (fun _ _ _ => Z) ?_
   intro ys16 p65 c46
   refine WX.know (fun G hΓ => (hΓ.get 263 Z : RdL _ _ _).flat) ?_
   intro hf16
   refine WX.turn [261] 264 Z (fun h hs => ol_flat hs hf16) (gs := [MF.ol (xs16 ++ ys16) ((((a00 (a01 ([]) x_.name)) ++ (a00 x_.content)) ++ (a00 (a01 ([]) x_.keyName))) : List Int)]) Z ?_
   refine WX.der 265 (MF.rs .der pm34 cm34 ([x_.freshUntil])) Z (fun _ hΓ => (hΓ.get 173 Z : OwSl _ _ _ _).rd) ?_
   have r69 : -9223372036854775808 ≤ x_.freshUntil ∧ x_.freshUntil ≤ 9223372036854775807 := (ok_DataP hokx_).2.2.2.1
   have r70 : ([x_.freshUntil]).length ≤ bd n := (okl hm79).1
   refine WX.appG1 516 265 266 (((((a00 (a01 ([]) x_.name)) ++ (a00 x_.content)) ++ (a00 (a01 ([]) x_.keyName))) ++ [x_.freshUntil]) : List Int).length ttOk Z Z Z Z Z Z Z Z Z Z Z Z Z τ7 τ0 τ0 (fun _ _ _ => Z) ?_
   intro ys17 p66 c47
   refine WX.know (fun G hΓ => (hΓ.get 266 Z : RdL _ _ _).flat) ?_
   intro hf17
   refine WX.turn [264] 267 Z (fun h hs => ol_flat hs hf17) (gs := [MF.ol ((xs16 ++ ys16) ++ ys17) (((((a00 (a01 ([]) x_.name)) ++ (a00 x_.content)) ++ (a00 (a01 ([]) x_.keyName))) ++ [x_.freshUntil]) : List Int)]) Z ?_
   refine R0 ?_
   refine WX.seal 516 267 268 Z Z Z Z Z ?_
   refine WX.turn [269] 126 Z (fun _ h => h) Z ?_
   exact WX.iter (p66, c47) (okl_mk τ0 (fun a ha => GoT.okm (show (n + 4) ≤ (n + 5) by omega) ((all_app (fun a ha => GoT.okm (show (n + 3) ≤ (n + 4) by omega) ((all_app (okl hm81).2 (fun a ha => GoT.okm τ1 ((okl hq27).2 a ha))) a ha)) (fun a ha => GoT.okm τ1 ((okl hm79).2 a ha))) a ha)) : GoT.ok (n + 5) (((((a00 (a01 ([]) x_.name)) ++ (a00 x_.content)) ++ (a00 (a01 ([]) x_.keyName))) ++ [x_.freshUntil]) : List Int)) Nat.zero_lt_one (.cons Z (.nil)) .nil .nil [126, 0, 1, 2] Z
  refine TX.share (ι := (Option Addr) × Nat × (Option Addr) × Nat) ⟨fun | (pm21, cm21, pm22, cm22) => (GoT.ok (n + 1) ((a01 ([]) x_.keyName) : List UInt8)) ∧ (GoT.ok (n + 3) (((a00 (a01 ([]) x_.name)) ++ (a00 x_.content)) : List Int)) ∧ (-9223372036854775808 ≤ x_.freshUntil ∧ x_.freshUntil ≤ 9223372036854775807) ∧ (-9223372036854775808 ≤ x_.signature ∧ x_.signature ≤ 9223372036854775807), fun _ => 0, fun | (pm21, cm21, pm22, cm22) => [(17, .v (.slice pm21 (((a01 ([]) x_.keyName)).length) cm21)), (20, .p 1 3), (13, .v (.slice pm22 ((((a00 (a01 ([]) x_.name)) ++ (a00 x_.content))).length) cm22))], fun | (pm21, cm21, pm22, cm22) => [(1, ⟨28, [.slice K0 ((x_.name.parts).length) M0, .slice K1 ((x_.content).length) M1, .slice K2 ((x_.keyName.parts).length) M2, .int .i64 (x_.freshUntil), .int .i64 (x_.signature)]⟩)], fun _ => [], fun | (pm21, cm21, pm22, cm22) => [(148, MF.os pm21 cm21 (a01 ([]) x_.keyName)), (149, MF.os pm22 cm22 ((a00 (a01 ([]) x_.name)) ++ (a00 x_.content))), (0, MF.rs .stb K0 M0 x_.name.parts), (1, MF.rs .stb K1 M1 x_.content), (2, MF.rs .stb K2 M2 x_.keyName.parts)]⟩ 6 #[true, true, true, true, true, false, false, true, false, false, false, false] ?_ (fun N_18 => ?_)
  ·skip
   rintro ⟨pm21, cm21, pm22, cm22⟩ ⟨hm58, hm59, hm60, hm61⟩
   refine TX.all2 5 8 J ?_ ?_
   ·skip
    refine TS.op 5 Z J ?_
    refine WX.der 270 (MF.rs .der pm21 cm21 (a01 ([]) x_.keyName)) Z (fun _ hΓ => (hΓ.get 148 Z : OwSl _ _ _ _).rd) ?_
    refine CF 271 Z Z Z Z Z O Z (fun w γ => f113 w (n + 1) τ1 (a01 ([]) x_.keyName) pm21 cm21 (γ.q 270 Z) hm58) ?_
    rintro ⟨p67, c48⟩ hq28
    have q28 := len_specBI (a01 ([]) x_.keyName)
    refine R0 ?_
    refine WX.turn [272] 166 Z (fun _ h => h) Z ?_
    refine WX.turn [149] 167 Z (fun _ h => h) Z ?_
    refine WX.back0 ?_
    exact TX.use N_22 (p67, c48, pm22, cm22) ⟨hq28, hm59, (ok_DataP hokx_).2.2.2.1, (ok_DataP hokx_).2.2.2.2⟩ J (.cons Z (.cons Z (.cons Z (.nil)))) (.cons Z (.nil)) .nil [166, 167, 0, 1, 2] Z
   refine TS.op 8 Z J ?_
   refine R0 ?_
   refine WX.turn [148] 168 Z (fun _ h => h) Z ?_
   refine WX.turn [149] 169 Z (fun _ h => h) Z ?_
   refine WX.back0 ?_
   exact TX.use N_23 (pm21, cm21, pm22, cm22) ⟨(ok_DataP hokx_).2.2.2.1, hm58, hm59⟩ J (.cons Z (.cons Z (.cons Z (.nil)))) .nil .nil [168, 169, 0, 1, 2] Z
  refine TX.share (ι := (Option Addr) × Nat × (Option Addr) × Nat) ⟨fun | (pm23, cm23, pm24, cm24) => (-9223372036854775808 ≤ x_.freshUntil ∧ x_.freshUntil ≤ 9223372036854775807) ∧ (GoT.ok n ([] : List UInt8)) ∧ (GoT.ok (n + 3) (((a00 (a01 ([]) x_.name)) ++ (a00 x_.content)) : List Int)), fun _ => 0, fun | (pm23, cm23, pm24, cm24) => [(21, .v (.int .i64 (x_.freshUntil))), (16, .v (.agg #[.slice K2 ((x_.keyName.parts).length) M2])), (14, .v (.slice pm23 (0) cm23)), (13, .v (.slice pm24 ((((a00 (a01 ([]) x_.name)) ++ (a00 x_.content))).length) cm24))], fun | (pm23, cm23, pm24, cm24) => [], fun _ => [], fun | (pm23, cm23, pm24, cm24) => [(2, MF.rs .stb K2 M2 x_.keyName.parts), (150, MF.os pm23 cm23 ([] : List UInt8)), (151, MF.os pm24 cm24 ((a00 (a01 ([]) x_.name)) ++ (a00 x_.content))), (0, MF.rs .stb K0 M0 x_.name.parts), (1, MF.rs .stb K1 M1 x_.content)]⟩ 6 #[true, true, true, true, false, false, false, true, true, false, false, false] ?_ (fun N_19 => ?_)
  ·skip
   rintro ⟨pm23, cm23, pm24, cm24⟩ ⟨hm62, hm63, hm64⟩
   refine TX.all2 4 9 J ?_ ?_
   ·skip
    refine TS.op 4 Z J ?_
    refine WX.der 273 (MF.rs .der pm23 cm23 ([])) Z (fun _ hΓ => (hΓ.get 150 Z : OwSl _ _ _ _).rd) ?_
    refine CF 274 Z Z Z Z Z O Z (fun w γ => f114 w n τ1 ([]) pm23 cm23 (γ.q 273 Z) x_.keyName K2 M2 (γ.q 2 Z) hm63 ((ok_DataP hokx_).2.2.1)) ?_
    rintro ⟨p68, c49⟩ hq29
    have q29 := len_specAN ([]) x_.keyName
    refine R0 ?_
    refine WX.turn [275] 168 Z (fun _ h => h) Z ?_
    refine WX.turn [151] 169 Z (fun _ h => h) Z ?_
    refine WX.back0 ?_
    exact TX.use N_23 (p68, c49, pm24, cm24) ⟨(ok_DataP hokx_).2.2.2.1, hq29, hm64⟩ J (.cons Z (.cons Z (.cons Z (.nil)))) .nil .nil [168, 169, 0, 1, 2] Z
   refine TS.op 9 Z J ?_
   refine WX.bld ttOk Z Z Z Z Z Z Z ?_
   intro p69
   refine R0 ?_
   refine WX.turn [] 276 Z (fun h hs => ol_one (α := Int) (a := x_.freshUntil) (x := ()) hs) (gs := [MF.ol [.int .i64 (x_.freshUntil)] ([x_.freshUntil] : List Int)]) Z ?_
   refine WX.seal 22 276 277 Z Z Z Z Z ?_
   refine WX.turn [278] 173 Z (fun _ h => h) Z ?_
   refine WX.turn [150] 174 Z (fun _ h => h) Z ?_
   refine WX.turn [151] 175 Z (fun _ h => h) Z ?_
   have r71 : -9223372036854775808 ≤ x_.freshUntil ∧ x_.freshUntil ≤ 9223372036854775807 := (ok_DataP hokx_).2.2.2.1
   refine WX.back0 ?_
   exact TX.use N_24 (p69, 1, pm23, cm23, pm24, cm24) ⟨(okl_mk τ0 (all_cons (α := Int) (ok_DataP hokx_).2.2.2.1 (fun a ha => by cases ha)) : GoT.ok n ([x_.freshUntil] : List Int)), hm63, hm64⟩ J (.cons Z (.cons Z (.cons Z (.cons Z (.nil))))) .nil .nil [173, 2, 174, 175, 0, 1] Z
  refine TX.share (ι := (Option Addr) × Nat × (Option Addr) × Nat × (Option Addr) × Nat) ⟨fun | (pm25, cm25, pm26, cm26, pm27, cm27) => (GoT.ok n ([x_.freshUntil] : List Int)) ∧ (GoT.ok n ([] : List UInt8)) ∧ (GoT.ok (n + 3) (((a00 (a01 ([]) x_.name)) ++ (a00 x_.content)) : List Int)) ∧ (-9223372036854775808 ≤ x_.freshUntil ∧ x_.freshUntil ≤ 9223372036854775807) ∧ (-9223372036854775808 ≤ x_.signature ∧ x_.signature ≤ 9223372036854775807), fun _ => 0, fun | (pm25, cm25, pm26, cm26, pm27, cm27) => [(22, .v (.slice pm25 (([x_.freshUntil]).length) cm25)), (14, .v (.slice pm26 (0) cm26)), (15, .p 1 2), (13, .v (.slice pm27 ((((a00 (a01 ([]) x_.name)) ++ (a00 x_.content))).length) cm27))], fun | (pm25, cm25, pm26, cm26, pm27, cm27) => [(1, ⟨28, [.slice K0 ((x_.name.parts).length) M0, .slice K1 ((x_.content).length) M1, .slice K2 ((x_.keyName.parts).length) M2, .int .i64 (x_.freshUntil), .int .i64 (x_.signature)]⟩)], fun _ => [], fun | (pm25, cm25, pm26, cm26, pm27, cm27) => [(155, MF.os pm25 cm25 ([x_.freshUntil])), (156, MF.os pm26 cm26 ([] : List UInt8)), (157, MF.os pm27 cm27 ((a00 (a01 ([]) x_.name)) ++ (a00 x_.content))), (0, MF.rs .stb K0 M0 x_.name.parts), (1, MF.rs .stb K1 M1 x_.content), (2, MF.rs .stb K2 M2 x_.keyName.parts)]⟩ 6 #[true, true, true, false, false, false, false, true, true, true, false, false] ?_ (fun N_20 => ?_)
  ·skip
   rintro ⟨pm25, cm25, pm26, cm26, pm27, cm27⟩ ⟨hm65, hm66, hm67, hm68, hm69⟩
   refine TX.tail [3, 4, 5, 6, 10, 11] Z Z J ?_
   refine R0 ?_
   refine WX.der 279 (MF.rs .der pm26 cm26 ([])) Z (fun _ hΓ => (hΓ.get 156 Z : OwSl _ _ _ _).rd) ?_
   refine CF 280 Z Z Z Z Z O Z (fun w γ => f114 w n τ1 ([]) pm26 cm26 (γ.q 279 Z) x_.keyName K2 M2 (γ.q 2 Z) hm66 ((ok_DataP hokx_).2.2.1)) ?_
   rintro ⟨p70, c50⟩ hq30
   have q30 := len_specAN ([]) x_.keyName
   refine CF 282 Z Z Z Z Z O Z (fun w γ => f113 w (n + 1) τ1 (a01 ([]) x_.keyName) p70 c50 (γ.q 280 Z) hq30) ?_
   rintro ⟨p71, c51⟩ hq31
   have q31 := len_specBI (a01 ([]) x_.keyName)
   refine WX.opn (kk := 1) 517 157 284 Z Z Z ?_
   intro xs17 hx17
   refine WX.der 285 (MF.rs .der p71 c51 (a00 (a01 ([]) x_.keyName))) Z (fun _ hΓ => (hΓ.get 283 Z : OwSl _ _ _ _).rd) ?_
   have r72 : (x_.content).length ≤ bd n := (okl (ok_DataP hokx_).2.1).1
   have r73 : ((a00 (a01 ([]) x_.name)) ++ (a00 x_.content)).length ≤ bd (n + 3) := (okl hm1).1
   have r74 : ([]).length ≤ bd n := (okl hm66).1
   have r75 : (a01 ([]) x_.keyName).length ≤ bd (n + 1) := (okl hq30).1
   have r76 : (a00 (a01 ([]) x_.keyName)).length ≤ bd (n + 2) := (okl hq31).1
   refine WX.appG1 517 285 286 ((((a00 (a01 ([]) x_.name)) ++ (a00 x_.content)) ++ (a00 (a01 ([]) x_.keyName))) : List Int).length ttOk Z Z Z Z Z Z Z Z Z Z Z Z Z τ7 τ0 τ0 (fun _ _ _ => Z) ?_
   intro ys18 p72 c52
   refine WX.know (fun G hΓ => (hΓ.get 286 Z : RdL _ _ _).flat) ?_
   intro hf18
   refine WX.turn [284] 287 Z (fun h hs => ol_flat hs hf18) (gs := [MF.ol (xs17 ++ ys18) ((((a00 (a01 ([]) x_.name)) ++ (a00 x_.content)) ++ (a00 (a01 ([]) x_.keyName))) : List Int)]) Z ?_
   refine WX.der 288 (MF.rs .der pm25 cm25 ([x_.freshUntil])) Z (fun _ hΓ => (hΓ.get 155 Z : OwSl _ _ _ _).rd) ?_
   have r77 : -9223372036854775808 ≤ x_.freshUntil ∧ x_.freshUntil ≤ 9223372036854775807 := (ok_DataP hokx_).2.2.2.1
   have r78 : ([x_.freshUntil]).length ≤ bd n := (okl hm65).1
   refine WX.appG1 517 288 289 (((((a00 (a01 ([]) x_.name)) ++ (a00 x_.content)) ++ (a00 (a01 ([]) x_.keyName))) ++ [x_.freshUntil]) : List Int).length ttOk Z Z Z Z Z Z Z Z Z Z Z Z Z τ7 τ0 τ0 (fun _ _ _ => Z) ?_
   intro ys19 p73 c53
   refine WX.know (fun G hΓ => (hΓ.get 289 Z : RdL _ _ _).flat) ?_
   intro hf19
   refine WX.turn [287] 290 Z (fun h hs => ol_flat hs hf19) (gs := [MF.ol ((xs17 ++ ys18) ++ ys19) (((((a00 (a01 ([]) x_.name)) ++ (a00 x_.content)) ++ (a00 (a01 ([]) x_.keyName))) ++ [x_.freshUntil]) : List Int)]) Z ?_
   refine R0 ?_
   refine WX.seal 517 290 291 Z Z Z Z Z ?_
   refine WX.turn [292] 126 Z (fun _ h => h) Z ?_
   exact WX.iter (p73, c53) (okl_mk τ0 (fun a ha => GoT.okm (show (n + 4) ≤ (n + 5) by omega) ((all_app (fun a ha => GoT.okm (show (n + 3) ≤ (n + 4) by omega) ((all_app (okl hm67).2 (fun a ha => GoT.okm τ1 ((okl hq31).2 a ha))) a ha)) (fun a ha => GoT.okm τ1 ((okl hm65).2 a ha))) a ha)) : GoT.ok (n + 5) (((((a00 (a01 ([]) x_.name)) ++ (a00 x_.content)) ++ (a00 (a01 ([]) x_.keyName))) ++ [x_.freshUntil]) : List Int)) Nat.zero_lt_one (.cons Z (.nil)) .nil .nil [126, 0, 1, 2] Z
  refine TX.share (ι := (Option Addr) × Nat × (Option Addr) × Nat) ⟨fun | (pm28, cm28, pm29, cm29) => (GoT.ok n ([x_.freshUntil] : List Int)) ∧ (GoT.ok (n + 3) (((a00 (a01 ([]) x_.name)) ++ (a00 x_.content)) : List Int)), fun _ => 0, fun | (pm28, cm28, pm29, cm29) => [(22, .v (.slice pm28 (([x_.freshUntil]).length) cm28)), (16, .v (.agg #[.slice K2 ((x_.keyName.parts).length) M2])), (13, .v (.slice pm29 ((((a00 (a01 ([]) x_.name)) ++ (a00 x_.content))).length) cm29))], fun | (pm28, cm28, pm29, cm29) => [], fun _ => [], fun | (pm28, cm28, pm29, cm29) => [(161, MF.os pm28 cm28 ([x_.freshUntil])), (2, MF.rs .stb K2 M2 x_.keyName.parts), (162, MF.os pm29 cm29 ((a00 (a01 ([]) x_.name)) ++ (a00 x_.content))), (0, MF.rs .stb K0 M0 x_.name.parts), (1, MF.rs .stb K1 M1 x_.content)]⟩ 6 #[true, false, true, true, false, false, false, true, true, true, false, false] ?_ (fun N_21 => ?_)
  ·skip
   rintro ⟨pm28, cm28, pm29, cm29⟩ ⟨hm70, hm71⟩
   refine TX.tail [1, 4, 5, 6, 10, 11] Z Z J ?_
   refine WX.bld ttOk Z Z Z Z Z Z Z ?_
   intro p74
   refine WX.free 293 (MF.ol [] ([] : List UInt8)) Z ?_
   refine WX.seal 14 293 294 Z Z Z Z Z ?_
   refine CF 296 Z Z Z Z Z O Z (fun w γ => f114 w n τ1 ([]) p74 0 (γ.q 294 Z) x_.keyName K2 M2 (γ.q 2 Z) (okl_mk (Nat.zero_le _) (fun _ _ => trivial) : GoT.ok n ([] : List UInt8)) ((ok_DataP hokx_).2.2.1)) ?_
   rintro ⟨p75, c54⟩ hq32
   have q32 := len_specAN ([]) x_.keyName
   refine CF 298 Z Z Z Z Z O Z (fun w γ => f113 w (n + 1) τ1 (a01 ([]) x_.keyName) p75 c54 (γ.q 296 Z) hq32) ?_
   rintro ⟨p76, c55⟩ hq33
   have q33 := len_specBI (a01 ([]) x_.keyName)
   refine WX.opn (kk := 1) 518 162 300 Z Z Z ?_
   intro xs18 hx18
   refine WX.der 301 (MF.rs .der p76 c55 (a00 (a01 ([]) x_.keyName))) Z (fun _ hΓ => (hΓ.get 299 Z : OwSl _ _ _ _).rd) ?_
   have r79 : (x_.content).length ≤ bd n := (okl (ok_DataP hokx_).2.1).1
   have r80 : ((a00 (a01 ([]) x_.name)) ++ (a00 x_.content)).length ≤ bd (n + 3) := (okl hm1).1
   have r81 : (a01 ([]) x_.keyName).length ≤ bd (n + 1) := (okl hq32).1
   have r82 : (a00 (a01 ([]) x_.keyName)).length ≤ bd (n + 2) := (okl hq33).1
   refine WX.appG1 518 301 302 ((((a00 (a01 ([]) x_.name)) ++ (a00 x_.content)) ++ (a00 (a01 ([]) x_.keyName))) : List Int).length ttOk Z Z Z Z Z Z Z Z Z Z Z Z Z τ7 τ0 τ0 (fun _ _ _ => Z) ?_
   intro ys20 p77 c56
   refine WX.know (fun G hΓ => (hΓ.get 302 Z : RdL _ _ _).flat) ?_
   intro hf20
   refine WX.turn [300] 303 Z (fun h hs => ol_flat hs hf20) (gs := [MF.ol (xs18 ++ ys20) ((((a00 (a01 ([]) x_.name)) ++ (a00 x_.content)) ++ (a00 (a01 ([]) x_.keyName))) : List Int)]) Z ?_
   refine WX.der 304 (MF.rs .der pm28 cm28 ([x_.freshUntil])) Z (fun _ hΓ => (hΓ.get 161 Z : OwSl _ _ _ _).rd) ?_
   have r83 : -9223372036854775808 ≤ x_.freshUntil ∧ x_.freshUntil ≤ 9223372036854775807 := (ok_DataP hokx_).2.2.2.1
   have r84 : ([x_.freshUntil]).length ≤ bd n := (okl hm70).1
   refine WX.appG1 518 304 305 (((((a00 (a01 ([]) x_.name)) ++ (a00 x_.content)) ++ (a00 (a01 ([]) x_.keyName))) ++ [x_.freshUntil]) : List Int).length ttOk Z Z Z Z Z Z Z Z Z Z Z Z Z τ7 τ0 τ0 (fun _ _ _ => Z) ?_
   intro ys21 p78 c57
   refine WX.know (fun G hΓ => (hΓ.get 305 Z : RdL _ _ _).flat) ?_
   intro hf21
   refine WX.turn [303] 306 Z (fun h hs => ol_flat hs hf21) (gs := [MF.ol ((xs18 ++ ys20) ++ ys21) (((((a00 (a01 ([]) x_.name)) ++ (a00 x_.content)) ++ (a00 (a01 ([]) x_.keyName))) ++ [x_.freshUntil]) : List Int)]) Z ?_
   refine R0 ?_
   refine WX.seal 518 306 307 Z Z Z Z Z ?_
   refine WX.turn [308] 126 Z (fun _ h => h) Z ?_
   exact WX.iter (p78, c57) (okl_mk τ0 (fun a ha => GoT.okm (show (n + 4) ≤ (n + 5) by omega) ((all_app (fun a ha => GoT.okm (show (n + 3) ≤ (n + 4) by omega) ((all_app (okl hm71).2 (fun a ha => GoT.okm τ1 ((okl hq33).2 a ha))) a ha)) (fun a ha => GoT.okm τ1 ((okl hm70).2 a ha))) a ha)) : GoT.ok (n + 5) (((((a00 (a01 ([]) x_.name)) ++ (a00 x_.content)) ++ (a00 (a01 ([]) x_.keyName))) ++ [x_.freshUntil]) : List Int)) Nat.zero_lt_one (.cons Z (.nil)) .nil .nil [126, 0, 1, 2] Z
  refine TX.share (ι := (Option Addr) × Nat × (Option Addr) × Nat) ⟨fun | (pm14, cm14, pm15, cm15) => (GoT.ok n ([] : List UInt8)) ∧ (GoT.ok (n + 3) (((a00 (a01 ([]) x_.name)) ++ (a00 x_.content)) : List Int)) ∧ (-9223372036854775808 ≤ x_.freshUntil ∧ x_.freshUntil ≤ 9223372036854775807) ∧ (-9223372036854775808 ≤ x_.signature ∧ x_.signature ≤ 9223372036854775807), fun _ => 0, fun | (pm14, cm14, pm15, cm15) => [(16, .v (.agg #[.slice K2 ((x_.keyName.parts).length) M2])), (14, .v (.slice pm14 (0) cm14)), (20, .p 1 3), (13, .v (.slice pm15 ((((a00 (a01 ([]) x_.name)) ++ (a00 x_.content))).length) cm15))], fun | (pm14, cm14, pm15, cm15) => [(1, ⟨28, [.slice K0 ((x_.name.parts).length) M0, .slice K1 ((x_.content).length) M1, .slice K2 ((x_.keyName.parts).length) M2, .int .i64 (x_.freshUntil), .int .i64 (x_.signature)]⟩)], fun _ => [], fun | (pm14, cm14, pm15, cm15) => [(2, MF.rs .stb K2 M2 x_.keyName.parts), (135, MF.os pm14 cm14 ([] : List UInt8)), (136, MF.os pm15 cm15 ((a00 (a01 ([]) x_.name)) ++ (a00 x_.content))), (0, MF.rs .stb K0 M0 x_.name.parts), (1, MF.rs .stb K1 M1 x_.content)]⟩ 7 #[true, true, true, true, false, false, false, true, false, false, false, false] ?_ (fun N_14 => ?_)
  ·skip
   rintro ⟨pm14, cm14, pm15, cm15⟩ ⟨hm43, hm44, hm45, hm46⟩
   refine TX.all2 4 8 J ?_ ?_
   ·skip
    refine TS.op 4 Z J ?_
    refine WX.der 309 (MF.rs .der pm14 cm14 ([])) Z (fun _ hΓ => (hΓ.get 135 Z : OwSl _ _ _ _).rd) ?_
    refine CF 310 Z Z Z Z Z O Z (fun w γ => f114 w n τ1 ([]) pm14 cm14 (γ.q 309 Z) x_.keyName K2 M2 (γ.q 2 Z) hm43 ((ok_DataP hokx_).2.2.1)) ?_
    rintro ⟨p79, c58⟩ hq34
    have q34 := len_specAN ([]) x_.keyName
    refine R0 ?_
    refine WX.turn [311] 148 Z (fun _ h => h) Z ?_
    refine WX.turn [136] 149 Z (fun _ h => h) Z ?_
    refine WX.back0 ?_
    exact TX.use N_18 (p79, c58, pm15, cm15) ⟨hq34, hm44, (ok_DataP hokx_).2.2.2.1, (ok_DataP hokx_).2.2.2.2⟩ J (.cons Z (.cons Z (.cons Z (.nil)))) (.cons Z (.nil)) .nil [148, 149, 0, 1, 2] Z
   refine TS.op 8 Z J ?_
   refine R0 ?_
   refine WX.turn [135] 150 Z (fun _ h => h) Z ?_
   refine WX.turn [136] 151 Z (fun _ h => h) Z ?_
   refine WX.back0 ?_
   exact TX.use N_19 (pm14, cm14, pm15, cm15) ⟨(ok_DataP hokx_).2.2.2.1, hm43, hm44⟩ J (.cons Z (.cons Z (.cons Z (.cons Z (.nil))))) .nil .nil [2, 150, 151, 0, 1] Z
  refine TX.share (ι := (Option Addr) × Nat × (Option Addr) × Nat) ⟨fun | (pm16, cm16, pm17, cm17) => (-9223372036854775808 ≤ x_.freshUntil ∧ x_.freshUntil ≤ 9223372036854775807) ∧ (GoT.ok n ([] : List UInt8)) ∧ (GoT.ok (n + 3) (((a00 (a01 ([]) x_.name)) ++ (a00 x_.content)) : List Int)) ∧ (-9223372036854775808 ≤ x_.freshUntil ∧ x_.freshUntil ≤ 9223372036854775807) ∧ (-9223372036854775808 ≤ x_.signature ∧ x_.signature ≤ 9223372036854775807), fun _ => 0, fun | (pm16, cm16, pm17, cm17) => [(21, .v (.int .i64 (x_.freshUntil))), (14, .v (.slice pm16 (0) cm16)), (15, .p 1 2), (13, .v (.slice pm17 ((((a00 (a01 ([]) x_.name)) ++ (a00 x_.content))).length) cm17))], fun | (pm16, cm16, pm17, cm17) => [(1, ⟨28, [.slice K0 ((x_.name.parts).length) M0, .slice K1 ((x_.content).length) M1, .slice K2 ((x_.keyName.parts).length) M2, .int .i64 (x_.freshUntil), .int .i64 (x_.signature)]⟩)], fun _ => [], fun | (pm16, cm16, pm17, cm17) => [(137, MF.os pm16 cm16 ([] : List UInt8)), (138, MF.os pm17 cm17 ((a00 (a01 ([]) x_.name)) ++ (a00 x_.content))), (0, MF.rs .stb K0 M0 x_.name.parts), (1, MF.rs .stb K1 M1 x_.content), (2, MF.rs .stb K2 M2 x_.keyName.parts)]⟩ 7 #[true, true, true, false, false, false, false, true, true, false, false, false] ?_ (fun N_15 => ?_)
  ·skip
   rintro ⟨pm16, cm16, pm17, cm17⟩ ⟨hm47, hm48, hm49, hm50, hm51⟩
   refine TX.all2 3 9 J ?_ ?_
   ·skip
    refine TS.op 3 Z J ?_
    refine R0 ?_
    refine WX.turn [137] 150 Z (fun _ h => h) Z ?_
    refine WX.turn [138] 151 Z (fun _ h => h) Z ?_
    refine WX.back0 ?_
    exact TX.use N_19 (pm16, cm16, pm17, cm17) ⟨(ok_DataP hokx_).2.2.2.1, hm48, hm49⟩ J (.cons Z (.cons Z (.cons Z (.cons Z (.nil))))) .nil .nil [2, 150, 151, 0, 1] Z
   refine TS.op 9 Z J ?_
   refine WX.bld ttOk Z Z Z Z Z Z Z ?_
   intro p80
   refine R0 ?_
   refine WX.turn [] 312 Z (fun h hs => ol_one (α := Int) (a := x_.freshUntil) (x := ()) hs) (gs := [MF.ol [.int .i64 (x_.freshUntil)] ([x_.freshUntil] : List Int)]) Z ?_
   refine WX.seal 22 312 313 Z Z Z Z Z ?_
   refine WX.turn [314] 155 Z (fun _ h => h) Z ?_
   refine WX.turn [137] 156 Z (fun _ h => h) Z ?_
   refine WX.turn [138] 157 Z (fun _ h => h) Z ?_
   have r85 : -9223372036854775808 ≤ x_.freshUntil ∧ x_.freshUntil ≤ 9223372036854775807 := (ok_DataP hokx_).2.2.2.1
   refine WX.back0 ?_
   exact TX.use N_20 (p80, 1, pm16, cm16, pm17, cm17) ⟨(okl_mk τ0 (all_cons (α := Int) (ok_DataP hokx_).2.2.2.1 (fun a ha => by cases ha)) : GoT.ok n ([x_.freshUntil] : List Int)), hm48, hm49, (ok_DataP hokx_).2.2.2.1, (ok_DataP hokx_).2.2.2.2⟩ J (.cons Z (.cons Z (.cons Z (.cons Z (.nil))))) (.cons Z (.nil)) .nil [155, 156, 157, 0, 1, 2] Z
  refine TX.share (ι := (Option Addr) × Nat) ⟨fun | (pm18, cm18) => (-9223372036854775808 ≤ x_.freshUntil ∧ x_.freshUntil ≤ 9223372036854775807) ∧ (GoT.ok (n + 3) (((a00 (a01 ([]) x_.name)) ++ (a00 x_.content)) : List Int)), fun _ => 0, fun | (pm18, cm18) => [(21, .v (.int .i64 (x_.freshUntil))), (16, .v (.agg #[.slice K2 ((x_.keyName.parts).length) M2])), (13, .v (.slice pm18 ((((a00 (a01 ([]) x_.name)) ++ (a00 x_.content))).length) cm18))], fun | (pm18, cm18) => [], fun _ => [], fun | (pm18, cm18) => [(2, MF.rs .stb K2 M2 x_.keyName.parts), (139, MF.os pm18 cm18 ((a00 (a01 ([]) x_.name)) ++ (a00 x_.content))), (0, MF.rs .stb K0 M0 x_.name.parts), (1, MF.rs .stb K1 M1 x_.content)]⟩ 7 #[true, false, true, true, false, false, false, true, true, false, false, false] ?_ (fun N_16 => ?_)
  ·skip
   rintro ⟨pm18, cm18⟩ ⟨hm52, hm53⟩
   refine TX.all2 1 9 J ?_ ?_
   ·skip
    refine TS.op 1 Z J ?_
    refine WX.bld ttOk Z Z Z Z Z Z Z ?_
    intro p81
    refine R0 ?_
    refine WX.free 315 (MF.ol [] ([] : List UInt8)) Z ?_
    refine WX.seal 14 315 316 Z Z Z Z Z ?_
    refine WX.turn [317] 150 Z (fun _ h => h) Z ?_
    refine WX.turn [139] 151 Z (fun _ h => h) Z ?_
    refine WX.back0 ?_
    exact TX.use N_19 (p81, 0, pm18, cm18) ⟨(ok_DataP hokx_).2.2.2.1, (okl_mk (Nat.zero_le _) (fun _ _ => trivial) : GoT.ok n ([] : List UInt8)), hm53⟩ J (.cons Z (.cons Z (.cons Z (.cons Z (.nil))))) .nil .nil [2, 150, 151, 0, 1] Z
   refine TS.op 9 Z J ?_
   refine WX.bld ttOk Z Z Z Z Z Z Z ?_
   intro p82
   refine R0 ?_
   refine WX.turn [] 318 Z (fun h hs => ol_one (α := Int) (a := x_.freshUntil) (x := ()) hs) (gs := [MF.ol [.int .i64 (x_.freshUntil)] ([x_.freshUntil] : List Int)]) Z ?_
   refine WX.seal 22 318 319 Z Z Z Z Z ?_
   refine WX.turn [320] 161 Z (fun _ h => h) Z ?_
   refine WX.turn [139] 162 Z (fun _ h => h) Z ?_
   have r86 : -9223372036854775808 ≤ x_.freshUntil ∧ x_.freshUntil ≤ 9223372036854775807 := (ok_DataP hokx_).2.2.2.1
   refine WX.back0 ?_
   exact TX.use N_21 (p82, 1, pm18, cm18) ⟨(okl_mk τ0 (all_cons (α := Int) (ok_DataP hokx_).2.2.2.1 (fun a ha => by cases ha)) : GoT.ok n ([x_.freshUntil] : List Int)), hm53⟩ J (.cons Z (.cons Z (.cons Z (.nil)))) .nil .nil [161, 2, 162, 0, 1] Z
  refine TX.share (ι := (Option Addr) × Nat × (Option Addr) × Nat) ⟨fun | (pm19, cm19, pm20, cm20) => (GoT.ok n ([x_.freshUntil] : List Int)) ∧ (GoT.ok (n + 3) (((a00 (a01 ([]) x_.name)) ++ (a00 x_.content)) : List Int)) ∧ (-9223372036854775808 ≤ x_.freshUntil ∧ x_.freshUntil ≤ 9223372036854775807) ∧ (-9223372036854775808 ≤ x_.signature ∧ x_.signature ≤ 9223372036854775807), fun _ => 0, fun | (pm19, cm19, pm20, cm20) => [(22, .v (.slice pm19 (([x_.freshUntil]).length) cm19)), (15, .p 1 2), (13, .v (.slice pm20 ((((a00 (a01 ([]) x_.name)) ++ (a00 x_.content))).length) cm20))], fun | (pm19, cm19, pm20, cm20) => [(1, ⟨28, [.slice K0 ((x_.name.parts).length) M0, .slice K1 ((x_.content).length) M1, .slice K2 ((x_.keyName.parts).length) M2, .int .i64 (x_.freshUntil), .int .i64 (x_.signature)]⟩)], fun _ => [], fun | (pm19, cm19, pm20, cm20) => [(143, MF.os pm19 cm19 ([x_.freshUntil])), (144, MF.os pm20 cm20 ((a00 (a01 ([]) x_.name)) ++ (a00 x_.content))), (0, MF.rs .stb K0 M0 x_.name.parts), (1, MF.rs .stb K1 M1 x_.content), (2, MF.rs .stb K2 M2 x_.keyName.parts)]⟩ 7 #[true, false, true, false, false, false, false, true, true, true, false, false] ?_ (fun N_17 => ?_)
  ·skip
   rintro ⟨pm19, cm19, pm20, cm20⟩ ⟨hm54, hm55, hm56, hm57⟩
   refine TX.all2 1 3 J ?_ ?_
   ·skip
    refine TS.op 1 Z J ?_
    refine WX.bld ttOk Z Z Z Z Z Z Z ?_
    intro p83
    refine R0 ?_
    refine WX.free 321 (MF.ol [] ([] : List UInt8)) Z ?_
    refine WX.seal 14 321 322 Z Z Z Z Z ?_
    refine WX.turn [143] 155 Z (fun _ h => h) Z ?_
    refine WX.turn [323] 156 Z (fun _ h => h) Z ?_
    refine WX.turn [144] 157 Z (fun _ h => h) Z ?_
    refine WX.back0 ?_
    exact TX.use N_20 (pm19, cm19, p83, 0, pm20, cm20) ⟨hm54, (okl_mk (Nat.zero_le _) (fun _ _ => trivial) : GoT.ok n ([] : List UInt8)), hm55, (ok_DataP hokx_).2.2.2.1, (ok_DataP hokx_).2.2.2.2⟩ J (.cons Z (.cons Z (.cons Z (.cons Z (.nil))))) (.cons Z (.nil)) .nil [155, 156, 157, 0, 1, 2] Z
   refine TS.op 3 Z J ?_
   refine R0 ?_
   refine WX.turn [143] 161 Z (fun _ h => h) Z ?_
   refine WX.turn [144] 162 Z (fun _ h => h) Z ?_
   refine WX.back0 ?_
   exact TX.use N_21 (pm19, cm19, pm20, cm20) ⟨hm54, hm55⟩ J (.cons Z (.cons Z (.cons Z (.nil)))) .nil .nil [161, 2, 162, 0, 1] Z
  refine TX.share (ι := (Option Addr) × Nat × (Option Addr) × Nat) ⟨fun | (pm10, cm10, pm11, cm11) => (GoT.ok n ([] : List UInt8)) ∧ (GoT.ok (n + 3) (((a00 (a01 ([]) x_.name)) ++ (a00 x_.content)) : List Int)) ∧ (-9223372036854775808 ≤ x_.freshUntil ∧ x_.freshUntil ≤ 9223372036854775807) ∧ (-9223372036854775808 ≤ x_.signature ∧ x_.signature ≤ 9223372036854775807), fun _ => 0, fun | (pm10, cm10, pm11, cm11) => [(14, .v (.slice pm10 (0) cm10)), (20, .p 1 3), (15, .p 1 2), (13, .v (.slice pm11 ((((a00 (a01 ([]) x_.name)) ++ (a00 x_.content))).length) cm11))], fun | (pm10, cm10, pm11, cm11) => [(1, ⟨28, [.slice K0 ((x_.name.parts).length) M0, .slice K1 ((x_.content).length) M1, .slice K2 ((x_.keyName.parts).length) M2, .int .i64 (x_.freshUntil), .int .i64 (x_.signature)]⟩)], fun _ => [], fun | (pm10, cm10, pm11, cm11) => [(131, MF.os pm10 cm10 ([] : List UInt8)), (132, MF.os pm11 cm11 ((a00 (a01 ([]) x_.name)) ++ (a00 x_.content))), (0, MF.rs .stb K0 M0 x_.name.parts), (1, MF.rs .stb K1 M1 x_.content), (2, MF.rs .stb K2 M2 x_.keyName.parts)]⟩ 8 #[true, true, true, false, false, false, false, true, false, false, false, false] ?_ (fun N_11 => ?_)
  ·skip
   rintro ⟨pm10, cm10, pm11, cm11⟩ ⟨hm32, hm33, hm34, hm35⟩
   refine TX.all2 3 8 J ?_ ?_
   ·skip
    refine TS.op 3 Z J ?_
    refine R0 ?_
    refine WX.turn [131] 135 Z (fun _ h => h) Z ?_
    refine WX.turn [132] 136 Z (fun _ h => h) Z ?_
    refine WX.back0 ?_
    exact TX.use N_14 (pm10, cm10, pm11, cm11) ⟨hm32, hm33, (ok_DataP hokx_).2.2.2.1, (ok_DataP hokx_).2.2.2.2⟩ J (.cons Z (.cons Z (.cons Z (.cons Z (.nil))))) (.cons Z (.nil)) .nil [2, 135, 136, 0, 1] Z
   refine TS.op 8 Z J ?_
   refine R0 ?_
   refine WX.turn [131] 137 Z (fun _ h => h) Z ?_
   refine WX.turn [132] 138 Z (fun _ h => h) Z ?_
   refine WX.back0 ?_
   exact TX.use N_15 (pm10, cm10, pm11, cm11) ⟨(ok_DataP hokx_).2.2.2.1, hm32, hm33, (ok_DataP hokx_).2.2.2.1, (ok_DataP hokx_).2.2.2.2⟩ J (.cons Z (.cons Z (.cons Z (.cons Z (.nil))))) (.cons Z (.nil)) .nil [137, 138, 0, 1, 2] Z
  refine TX.share (ι := (Option Addr) × Nat) ⟨fun | (pm12, cm12) => (GoT.ok (n + 3) (((a00 (a01 ([]) x_.name)) ++ (a00 x_.content)) : List Int)) ∧ (-9223372036854775808 ≤ x_.freshUntil ∧ x_.freshUntil ≤ 9223372036854775807) ∧ (-9223372036854775808 ≤ x_.signature ∧ x_.signature ≤ 9223372036854775807), fun _ => 0, fun | (pm12, cm12) => [(16, .v (.agg #[.slice K2 ((x_.keyName.parts).length) M2])), (20, .p 1 3), (13, .v (.slice pm12 ((((a00 (a01 ([]) x_.name)) ++ (a00 x_.content))).length) cm12))], fun | (pm12, cm12) => [(1, ⟨28, [.slice K0 ((x_.name.parts).length) M0, .slice K1 ((x_.content).length) M1, .slice K2 ((x_.keyName.parts).length) M2, .int .i64 (x_.freshUntil), .int .i64 (x_.signature)]⟩)], fun _ => [], fun | (pm12, cm12) => [(2, MF.rs .stb K2 M2 x_.keyName.parts), (133, MF.os pm12 cm12 ((a00 (a01 ([]) x_.name)) ++ (a00 x_.content))), (0, MF.rs .stb K0 M0 x_.name.parts), (1, MF.rs .stb K1 M1 x_.content)]⟩ 8 #[true, false, true, true, false, false, false, true, false, false, false, false] ?_ (fun N_12 => ?_)
  ·skip
   rintro ⟨pm12, cm12⟩ ⟨hm36, hm37, hm38⟩
   refine TX.all2 1 8 J ?_ ?_
   ·skip
    refine TS.op 1 Z J ?_
    refine WX.bld ttOk Z Z Z Z Z Z Z ?_
    intro p84
    refine R0 ?_
    refine WX.free 324 (MF.ol [] ([] : List UInt8)) Z ?_
    refine WX.seal 14 324 325 Z Z Z Z Z ?_
    refine WX.turn [326] 135 Z (fun _ h => h) Z ?_
    refine WX.turn [133] 136 Z (fun _ h => h) Z ?_
    refine WX.back0 ?_
    exact TX.use N_14 (p84, 0, pm12, cm12) ⟨(okl_mk (Nat.zero_le _) (fun _ _ => trivial) : GoT.ok n ([] : List UInt8)), hm36, (ok_DataP hokx_).2.2.2.1, (ok_DataP hokx_).2.2.2.2⟩ J (.cons Z (.cons Z (.cons Z (.cons Z (.nil))))) (.cons Z (.nil)) .nil [2, 135, 136, 0, 1] Z
   refine TS.op 8 Z J ?_
   refine R0 ?_
   refine WX.turn [133] 139 Z (fun _ h => h) Z ?_
   refine WX.back0 ?_
   exact TX.use N_16 (pm12, cm12) ⟨(ok_DataP hokx_).2.2.2.1, hm36⟩ J (.cons Z (.cons Z (.cons Z (.nil)))) .nil .nil [2, 139, 0, 1] Z
  refine TX.share (ι := (Option Addr) × Nat) ⟨fun | (pm13, cm13) => (-9223372036854775808 ≤ x_.freshUntil ∧ x_.freshUntil ≤ 9223372036854775807) ∧ (GoT.ok (n + 3) (((a00 (a01 ([]) x_.name)) ++ (a00 x_.content)) : List Int)) ∧ (-9223372036854775808 ≤ x_.freshUntil ∧ x_.freshUntil ≤ 9223372036854775807) ∧ (-9223372036854775808 ≤ x_.signature ∧ x_.signature ≤ 9223372036854775807), fun _ => 0, fun | (pm13, cm13) => [(21, .v (.int .i64 (x_.freshUntil))), (15, .p 1 2), (13, .v (.slice pm13 ((((a00 (a01 ([]) x_.name)) ++ (a00 x_.content))).length) cm13))], fun | (pm13, cm13) => [(1, ⟨28, [.slice K0 ((x_.name.parts).length) M0, .slice K1 ((x_.content).length) M1, .slice K2 ((x_.keyName.parts).length) M2, .int .i64 (x_.freshUntil), .int .i64 (x_.signature)]⟩)], fun _ => [], fun | (pm13, cm13) => [(134, MF.os pm13 cm13 ((a00 (a01 ([]) x_.name)) ++ (a00 x_.content))), (0, MF.rs .stb K0 M0 x_.name.parts), (1, MF.rs .stb K1 M1 x_.content), (2, MF.rs .stb K2 M2 x_.keyName.parts)]⟩ 8 #[true, false, true, false, false, false, false, true, true, false, false, false] ?_ (fun N_13 => ?_)
  ·skip
   rintro ⟨pm13, cm13⟩ ⟨hm39, hm40, hm41, hm42⟩
   refine TX.all3 1 3 9 J ?_ ?_ ?_
   ·skip
    refine TS.op 1 Z J ?_
    refine WX.bld ttOk Z Z Z Z Z Z Z ?_
    intro p85
    refine R0 ?_
    refine WX.free 327 (MF.ol [] ([] : List UInt8)) Z ?_
    refine WX.seal 14 327 328 Z Z Z Z Z ?_
    refine WX.turn [329] 137 Z (fun _ h => h) Z ?_
    refine WX.turn [134] 138 Z (fun _ h => h) Z ?_
    refine WX.back0 ?_
    exact TX.use N_15 (p85, 0, pm13, cm13) ⟨(ok_DataP hokx_).2.2.2.1, (okl_mk (Nat.zero_le _) (fun _ _ => trivial) : GoT.ok n ([] : List UInt8)), hm40, (ok_DataP hokx_).2.2.2.1, (ok_DataP hokx_).2.2.2.2⟩ J (.cons Z (.cons Z (.cons Z (.cons Z (.nil))))) (.cons Z (.nil)) .nil [137, 138, 0, 1, 2] Z
   ·skip
    refine TS.op 3 Z J ?_
    refine R0 ?_
    refine WX.turn [134] 139 Z (fun _ h => h) Z ?_
    refine WX.back0 ?_
    exact TX.use N_16 (pm13, cm13) ⟨(ok_DataP hokx_).2.2.2.1, hm40⟩ J (.cons Z (.cons Z (.cons Z (.nil)))) .nil .nil [2, 139, 0, 1] Z
   refine TS.op 9 Z J ?_
   refine WX.bld ttOk Z Z Z Z Z Z Z ?_
   intro p86
   refine R0 ?_
   refine WX.turn [] 330 Z (fun h hs => ol_one (α := Int) (a := x_.freshUntil) (x := ()) hs) (gs := [MF.ol [.int .i64 (x_.freshUntil)] ([x_.freshUntil] : List Int)]) Z ?_
   refine WX.seal 22 330 331 Z Z Z Z Z ?_
   refine WX.turn [332] 143 Z (fun _ h => h) Z ?_
   refine WX.turn [134] 144 Z (fun _ h => h) Z ?_
   have r87 : -9223372036854775808 ≤ x_.freshUntil ∧ x_.freshUntil ≤ 9223372036854775807 := (ok_DataP hokx_).2.2.2.1
   refine WX.back0 ?_
   exact TX.use N_17 (p86, 1, pm13, cm13) ⟨(okl_mk τ0 (all_cons (α := Int) (ok_DataP hokx_).2.2.2.1 (fun a ha => by cases ha)) : GoT.ok n ([x_.freshUntil] : List Int)), hm40, (ok_DataP hokx_).2.2.2.1, (ok_DataP hokx_).2.2.2.2⟩ J (.cons Z (.cons Z (.cons Z (.nil)))) (.cons Z (.nil)) .nil [143, 144, 0, 1, 2] Z
  refine TX.all3 1 3 8 J ?_ ?_ ?_
  ·skip
   refine TS.op 1 Z J ?_
   refine WX.bld ttOk Z Z Z Z Z Z Z ?_
   intro p87
   refine R0 ?_
   refine WX.free 333 (MF.ol [] ([] : List UInt8)) Z ?_
   refine WX.seal 14 333 334 Z Z Z Z Z ?_
   refine WX.turn [335] 131 Z (fun _ h => h) Z ?_
   refine WX.turn [18] 132 Z (fun _ h => h) Z ?_
   refine WX.back0 ?_
   exact TX.use N_11 (p87, 0, pm1, cm1) ⟨(okl_mk (Nat.zero_le _) (fun _ _ => trivial) : GoT.ok n ([] : List UInt8)), hm1, (ok_DataP hokx_).2.2.2.1, (ok_DataP hokx_).2.2.2.2⟩ J (.cons Z (.cons Z (.cons Z (.cons Z (.nil))))) (.cons Z (.nil)) .nil [131, 132, 0, 1, 2] Z
  ·skip
   refine TS.op 3 Z J ?_
   refine R0 ?_
   refine WX.turn [18] 133 Z (fun _ h => h) Z ?_
   refine WX.back0 ?_
   exact TX.use N_12 (pm1, cm1) ⟨hm1, (ok_DataP hokx_).2.2.2.1, (ok_DataP hokx_).2.2.2.2⟩ J (.cons Z (.cons Z (.cons Z (.nil)))) (.cons Z (.nil)) .nil [2, 133, 0, 1] Z
  refine TS.op 8 Z J ?_
  refine R0 ?_
  refine WX.turn [18] 134 Z (fun _ h => h) Z ?_
  refine WX.back0 ?_
  exact TX.use N_13 (pm1, cm1) ⟨(ok_DataP hokx_).2.2.2.1, hm1, (ok_DataP hokx_).2.2.2.1, (ok_DataP hokx_).2.2.2.2⟩ J (.cons Z (.cons Z (.cons Z (.nil)))) (.cons Z (.nil)) .nil [134, 0, 1, 2] Z
 rintro ⟨pm9, cm9⟩ hm31
 have hP1 : a2z x_ = ((((a00 (a01 ([]) x_.name)) ++ (a00 x_.content)) ++ (a00 (a01 ([]) x_.keyName))) ++ [x_.freshUntil]) := by simp only [a2z, cT, cF]
 refine R1 ?_
 intro w1 G bs hI hΓ
 rw [hP1]
 exact Post.of [126] (pm9, cm9) hI hΓ Z Z Z hm31
theorem f112 (w : World) (n : Nat) (hn : n + 0 ≤ 9) (l : (List Int)) (pl cl) (N0 : RdSl (hp w) pl cl l) (hokl : GoT.ok n l) :
 Does Tryz.prog 112 #[.slice pl ((l).length) cl] w emp (fun (rv : Value) (_ : World) => rv = .int .i64 ((a30 l)) ∧ GoT.ok n ((a30 l) : Int)) := by
 have hb := bS0 hn
 refine EN Tryz.func112 Z (aS1 N0) ?_
 refine R0 ?_
 have r1 : (l).length ≤ bd n := (okl hokl).1
 refine WX.loop (ι := Int × Nat) ⟨fun | (d, i) => (i ≤ (l).length) ∧ (-9223372036854775808 ≤ d ∧ d ≤ 9223372036854775807) ∧ (a3w l 11 = a3w ((l).drop i) d), fun | (d, i) => (l).length - i, fun | (d, i) => [(3, .v (.int .i64 (d))), (4, .v (.int .i64 (((i : Nat) : Int)))), (0, .v (.slice pl ((l).length) cl))], fun | (d, i) => [], fun | (d, i) => [], fun | (d, i) => [(0, MF.rs .stb pl cl l)]⟩ (11, 0) ⟨(Nat.zero_le _), τ6, Z⟩
  (.cons Z (.cons Z (.cons Z (.nil)))) .nil .nil [0] Z ?_
 rintro ⟨d, i⟩ ⟨v1, v2, v3⟩
 refine R0 ?_
 refine WX.cases 8 Z ?_ ?_ <;> intro h1
 ·skip
  have h1d := B.dt h1
  have e1i : i < (l).length := τ1
  obtain ⟨e1, e1h⟩ : ∃ e1, (l)[i]? = some e1 := ⟨_, List.getElem?_eq_getElem e1i⟩
  have ok1 : GoT.ok n e1 := (okl hokl).2 _ (List.mem_of_getElem? e1h)
  refine R0 ?_
  refine WX.see Z Z Z (fun _ hΓ => looks_wrap Z Z Z Z) ?_
  refine R0 ?_
  refine WX.idx 0 i ttOk Z Z Z Z Z Z Z Z Z Z e1i ?_
  rintro ad1 rfl
  refine WX.ldE 0 1 e1 ttOk Z Z Z Z Z Z Z Z e1h O O ?_
  rintro ⟨⟩
  refine CV Z Z Z Z Z O Z (fun w γ => f134 w n τ1 e1 2147483647 ok1 (i6 2147483647)) ?_
  intro hq1
  refine WX.see Z Z Z (fun _ hΓ => looks_wrap Z Z Z Z) ?_
  refine WX.see Z Z Z (fun _ hΓ => looks_wrap Z Z Z Z) ?_
  have r2 := tmod_rng (IntKind.i64.wrap ((IntKind.i64.wrap ((IntKind.i64.wrap (d * 1000003)) + (a2r e1 2147483647))) + 13)) (show (0 : Int) < 2147483647 by omega)
  refine WX.see Z Z Z (fun _ hΓ => looks_rem Z Z Z τ9) ?_
  refine R0 ?_
  refine WX.see Z Z Z (fun _ hΓ => looks_arith Z Z Z Z τ2) ?_
  refine R0 ?_
  have r3 : -9223372036854775808 ≤ e1 ∧ e1 ≤ 9223372036854775807 := ok1
  have r4 : -9223372036854775808 ≤ (a2r e1 2147483647) ∧ (a2r e1 2147483647) ≤ 9223372036854775807 := hq1
  exact WX.iter (Int.tmod (IntKind.i64.wrap ((IntKind.i64.wrap ((IntKind.i64.wrap (d * 1000003)) + (a2r e1 2147483647))) + 13)) 2147483647, i + 1) ⟨τ1, τ6, (by rw [v3, drop_get e1h]; simp only [a3w, cT, cF])⟩ τ4 (.cons Z (.cons Z (.cons Z (.nil)))) .nil .nil [0] Z
 have h1d := B.df h1
 refine R0 ?_
 have hX1 : a3w l 11 = d := by rw [v3, List.drop_eq_nil_of_le (show (l).length ≤ i by omega)]; simp only [a3w, cT, cF]
 have hP1 : a30 l = d := by simp only [a30, hX1, cT, cF]
 refine R1 ?_
 intro w1 G bs hI hΓ
 rw [hP1]
 exact ⟨Z, v2⟩
theorem f89 (w : World) (n : Nat) (hn : n + 2 ≤ 9) (secret : Int) (l : (List Int)) (pl cl) (N0 : RdSl (hp w) pl cl l) (hoksecret : GoT.ok n secret) (hokl : GoT.ok n l) :
 Does Tryz.prog 89 #[.int .i64 (secret), .slice pl ((l).length) cl] w emp (fun (rv : Value) (_ : World) => rv = .int .i64 ((a3x secret l)) ∧ GoT.ok n ((a3x secret l) : Int)) := by
 have hb := bS2 hn
 refine EN Tryz.func89 Z (aS1 N0) ?_
 refine R0 ?_
 refine WX.bld ttOk Z Z Z Z Z Z Z ?_
 intro p1
 refine R0 ?_
 refine WX.turn [] 1 Z (fun h hs => ol_one (α := Int) (a := secret) (x := ()) hs) (gs := [MF.ol [.int .i64 (secret)] ([secret] : List Int)]) Z ?_
 have r1 : -9223372036854775808 ≤ secret ∧ secret ≤ 9223372036854775807 := hoksecret
 have r2 : (l).length ≤ bd n := (okl hokl).1
 refine WX.appG1 6 0 2 (([secret] ++ l) : List Int).length ttOk Z Z Z Z Z Z Z Z Z Z Z Z Z τ7 τ3 τ3 (fun _ _ _ => Z) ?_
 intro ys1 p2 c1
 refine WX.know (fun G hΓ => (hΓ.get 2 Z : RdL _ _ _).flat) ?_
 intro hf1
 refine WX.turn [1] 3 Z (fun h hs => ol_flat hs hf1) (gs := [MF.ol ([.int .i64 (secret)] ++ ys1) (([secret] ++ l) : List Int)]) Z ?_
 refine R0 ?_
 refine WX.bld ttOk Z Z Z Z Z Z Z ?_
 intro p3
 refine WX.turn [] 4 Z (fun h hs => ol_one (α := Int) (a := secret) (x := ()) hs) (gs := [MF.ol [.int .i64 (secret)] ([secret] : List Int)]) Z ?_
 refine WX.know (fun G hΓ => (hΓ.get 4 Z : OwL _ _ _).rd.one) ?_
 intro ho1
 refine WX.appR1 6 10 ((([secret] ++ l) ++ [secret]) : List Int).length ttOk Z Z Z Z Z Z Z Z Z Z Z Z Z ho1 τ11 τ3 τ3 (fun _ _ => Z) ?_
 intro p4 c2
 refine WX.turn [3, 4] 5 Z (fun h hs => ol_app hs) (gs := [MF.ol (([.int .i64 (secret)] ++ ys1) ++ [.int .i64 (secret)]) ((([secret] ++ l) ++ [secret]) : List Int)]) Z ?_
 refine WX.seal 6 5 6 Z Z Z Z Z ?_
 refine CV Z Z Z Z Z O Z (fun w γ => f112 w (n + 2) τ1 (([secret] ++ l) ++ [secret]) p4 c2 (γ.q 6 Z) (okl_mk τ3 (fun a ha => GoT.okm (show (n + 1) ≤ (n + 2) by omega) ((all_app (fun a ha => GoT.okm (show n ≤ (n + 1) by omega) ((all_app (all_cons (α := Int) hoksecret (fun a ha => by cases ha)) (okl hokl).2) a ha)) (fun a ha => GoT.okm τ1 ((all_cons (α := Int) hoksecret (fun a ha => by cases ha)) a ha))) a ha)) : GoT.ok (n + 2) ((([secret] ++ l) ++ [secret]) : List Int))) ?_
 intro hq1
 refine R0 ?_
 have hP1 : a3x secret l = (a30 (([secret] ++ l) ++ [secret])) := by simp only [a3x, cT, cF]
 refine R1 ?_
 intro w1 G bs hI hΓ
 rw [hP1]
 exact ⟨Z, hq1⟩
theorem f152 (w : World) (n : Nat) (hn : n + 0 ≤ 9) (n_ : Int) (m : Int) (hokn_ : GoT.ok n n_) (hokm : GoT.ok n m) :
 Does Tryz.prog 152 #[.int .i64 (n_), .int .i64 (m)] w emp (fun (rv : Value) (_ : World) => rv = .int .i64 ((a2s n_ m)) ∧ GoT.ok n ((a2s n_ m) : Int)) := by
 have hb := bS0 hn
 refine EN Tryz.func152 Z allS_nil ?_
 refine R0 ?_
 refine CV Z Z Z Z Z O Z (fun w γ => f52 w n τ1 m 1 1000000000000 hokm (i6 1) (i6 1000000000000)) ?_
 intro hq1
 refine R0 ?_
 refine WX.cases 7 Z ?_ ?_ <;> intro h1
 ·skip
  have h1d := (B.nt h1)
  refine R0 ?_
  have hP1 : a2s n_ m = 0 := by simp only [a2s, h1, cT, cF]
  refine R1 ?_
  intro w1 G bs hI hΓ
  rw [hP1]
  exact ⟨Z, (i6 0)⟩
 have h1d := (B.nf h1)
 have h1r := inR_impl (B.nf h1)
 refine R0 ?_
 have r1 := tmod_rng n_ (show (0 : Int) < m by omega)
 refine WX.see Z Z Z (fun _ hΓ => looks_rem Z Z Z τ1) ?_
 refine R0 ?_
 refine WX.see Z Z Z (fun _ hΓ => looks_wrap Z Z Z Z) ?_
 refine R0 ?_
 have r2 := tmod_rng (IntKind.i64.wrap ((Int.tmod n_ m) + m)) (show (0 : Int) < m by omega)
 refine WX.see Z Z Z (fun _ hΓ => looks_rem Z Z Z τ1) ?_
 refine R0 ?_
 have hP2 : a2s n_ m = (Int.tmod (IntKind.i64.wrap ((Int.tmod n_ m) + m)) m) := by simp only [a2s, h1, cT, cF]
 have r3 : -9223372036854775808 ≤ n_ ∧ n_ ≤ 9223372036854775807 := hokn_
 have r4 : -9223372036854775808 ≤ m ∧ m ≤ 9223372036854775807 := hokm
 refine R1 ?_
 intro w1 G bs hI hΓ
 rw [hP2]
 exact ⟨Z, (i6 (Int.tmod (IntKind.i64.wrap ((Int.tmod n_ m) + m)) m))⟩
theorem f148 (w : World) (n : Nat) (hn : n + 1 ≤ 9) (b : (List UInt8)) (pb cb) (N0 : RdSl (hp w) pb cb b) (hokb : GoT.ok n b) :
 Does Tryz.prog 148 #[.slice pb ((b).length) cb] w emp (Post w emp (fun x : GoT.X ((List Int)) => (GoT.sh ((a05 b) : (List Int)) x).headD undef) (fun x => GoT.oa ((a05 b) : (List Int)) x) (GoT.ok (n + 1) ((a05 b) : (List Int)))) := by
 have hb := bS1 hn
 refine EN Tryz.func148 Z (aS1 N0) ?_
 refine R0 ?_
 refine WX.bld ttOk Z Z Z Z Z Z Z ?_
 intro p1
 have r1 : (b).length ≤ bd n := (okl hokb).1
 refine R0 ?_
 refine WX.turn [] 1 Z (fun h hs => ol_one (α := Int) (a := (((b).length : Nat) : Int)) (x := ()) hs) (gs := [MF.ol [.int .i64 ((((b).length : Nat) : Int))] ([(((b).length : Nat) : Int)] : List Int)]) Z ?_
 refine WX.loop (ι := (Option Addr) × Nat × (List Value) × (List Int) × Nat) ⟨fun | (pout, cout, xsout, out, i) => (i ≤ (b).length) ∧ (∀ z_ ∈ out, GoT.ok n z_) ∧ (out.length ≤ i + 1) ∧ (a32 b ([(((b).length : Nat) : Int)] : List Int) = a32 ((b).drop i) out), fun | (pout, cout, xsout, out, i) => (b).length - i, fun | (pout, cout, xsout, out, i) => [(3, .v (.slice pout ((out).length) cout)), (11, .v (.int .i64 (((i : Nat) : Int)))), (10, .v (.int .i64 ((((b).length : Nat) : Int)))), (9, .v (.slice pb ((b).length) cb))], fun | (pout, cout, xsout, out, i) => [], fun | (pout, cout, xsout, out, i) => [(8, ⟨1, pout, (out).length, cout, xsout⟩)], fun | (pout, cout, xsout, out, i) => [(0, MF.rs .stb pb cb b), (1, MF.ol xsout (out : List Int))]⟩ (p1, 1, [.int .i64 ((((b).length : Nat) : Int))], ([(((b).length : Nat) : Int)] : List Int), 0) ⟨(Nat.zero_le _), (all_cons (α := Int) (i6 (((b).length : Nat) : Int)) (fun a ha => by cases ha)), τ11, Z⟩
  (.cons Z (.cons Z (.cons Z (.cons Z (.nil))))) .nil (.cons Z (.nil)) [0, 1] Z ?_
 rintro ⟨pout, cout, xsout, out, i⟩ ⟨v1, v2, v3, v4⟩
 refine R0 ?_
 refine WX.cases 12 Z ?_ ?_ <;> intro h1
 ·skip
  have h1d := B.dt h1
  have e1i : i < (b).length := τ1
  obtain ⟨e1, e1h⟩ : ∃ e1, (b)[i]? = some e1 := ⟨_, List.getElem?_eq_getElem e1i⟩
  refine R0 ?_
  refine WX.idx 0 i ttOk Z Z Z Z Z Z Z Z Z Z e1i ?_
  rintro ad1 rfl
  refine WX.ldE 0 2 e1 ttOk Z Z Z Z Z Z Z Z e1h O O ?_
  rintro ⟨⟩
  refine R0 ?_
  refine WX.see Z Z Z (fun _ hΓ => looks_ofU8 ttOk Z Z Z Z Z Z) ?_
  refine WX.bld ttOk Z Z Z Z Z Z Z ?_
  intro p2
  have r2 : (e1).toNat < 256 := UInt8.toNat_lt _
  refine WX.turn [] 2 Z (fun h hs => ol_one (α := Int) (a := ((e1).toNat : Int)) (x := ()) hs) (gs := [MF.ol [.int .i64 (((e1).toNat : Int))] ([((e1).toNat : Int)] : List Int)]) Z ?_
  refine WX.know (fun G hΓ => (hΓ.get 2 Z : OwL _ _ _).rd.one) ?_
  intro ho1
  refine WX.appR1 8 18 ((out ++ [((e1).toNat : Int)]) : List Int).length ttOk Z Z Z Z Z Z Z Z Z Z Z Z Z ho1 τ11 τ3 τ3 (fun _ _ => Z) ?_
  intro p3 c1
  refine WX.turn [1, 2] 3 Z (fun h hs => ol_app hs) (gs := [MF.ol (xsout ++ [.int .i64 (((e1).toNat : Int))]) ((out ++ [((e1).toNat : Int)]) : List Int)]) Z ?_
  refine R0 ?_
  refine WX.see Z Z Z (fun _ hΓ => looks_arith Z Z Z Z τ2) ?_
  refine R0 ?_
  refine WX.turn [3] 1 Z (fun _ h => h) Z ?_
  exact WX.iter (p3, c1, (xsout ++ [.int .i64 (((e1).toNat : Int))]), ((out ++ [((e1).toNat : Int)]) : List Int), i + 1) ⟨τ1, (all_app v2 (all_cons (α := Int) (i6 ((e1).toNat : Int)) (fun a ha => by cases ha))), τ5, (by rw [v4, drop_get e1h]; simp only [a32, cT, cF])⟩ τ4 (.cons Z (.cons Z (.cons Z (.cons Z (.nil))))) .nil (.cons Z (.nil)) [0, 1] Z
 have h1d := B.df h1
 refine R0 ?_
 have hX1 : a32 b ([(((b).length : Nat) : Int)] : List Int) = ((out) : List Int) := by rw [v4, List.drop_eq_nil_of_le (show (b).length ≤ i by omega)]; simp only [a32, cT, cF]
 refine WX.seal 8 1 4 Z Z Z Z Z ?_
 have hP1 : a05 b = out := by simp only [a05, hX1, cT, cF]
 refine R1 ?_
 intro w1 G bs hI hΓ
 rw [hP1]
 exact Post.of [5] (pout, cout) hI hΓ Z Z Z (okl_mk τ1 (fun a ha => GoT.okm τ1 (v2 a ha)) : GoT.ok (n + 1) (out : List Int))
theorem f133 (w : World) (n : Nat) (hn : n + 0 ≤ 9) (l : (List Int)) (pl cl) (N0 : RdSl (hp w) pl cl l) (hokl : GoT.ok n l) :
 Does Tryz.prog 133 #[.slice pl ((l).length) cl] w emp (fun (rv : Value) (_ : World) => rv = .int .i64 ((a33 l)) ∧ GoT.ok n ((a33 l) : Int)) := by
 have hb := bS0 hn
 refine EN Tryz.func133 Z (aS1 N0) ?_
 refine R0 ?_
 have r1 : (l).length ≤ bd n := (okl hokl).1
 refine WX.loop (ι := Int × Nat) ⟨fun | (d, i) => (i ≤ (l).length) ∧ (-9223372036854775808 ≤ d ∧ d ≤ 9223372036854775807) ∧ (a3y l 11 = a3y ((l).drop i) d), fun | (d, i) => (l).length - i, fun | (d, i) => [(3, .v (.int .i64 (d))), (8, .v (.int .i64 (((i : Nat) : Int)))), (7, .v (.int .i64 ((((l).length : Nat) : Int)))), (6, .v (.slice pl ((l).length) cl))], fun | (d, i) => [], fun | (d, i) => [], fun | (d, i) => [(0, MF.rs .stb pl cl l)]⟩ (11, 0) ⟨(Nat.zero_le _), τ6, Z⟩
  (.cons Z (.cons Z (.cons Z (.cons Z (.nil))))) .nil .nil [0] Z ?_
 rintro ⟨d, i⟩ ⟨v1, v2, v3⟩
 refine R0 ?_
 refine WX.cases 9 Z ?_ ?_ <;> intro h1
 ·skip
  have h1d := B.dt h1
  have e1i : i < (l).length := τ1
  obtain ⟨e1, e1h⟩ : ∃ e1, (l)[i]? = some e1 := ⟨_, List.getElem?_eq_getElem e1i⟩
  have ok1 : GoT.ok n e1 := (okl hokl).2 _ (List.mem_of_getElem? e1h)
  refine R0 ?_
  refine WX.idx 0 i ttOk Z Z Z Z Z Z Z Z Z Z e1i ?_
  rintro ad1 rfl
  refine WX.ldE 0 1 e1 ttOk Z Z Z Z Z Z Z Z e1h O O ?_
  rintro ⟨⟩
  refine R0 ?_
  refine WX.see Z Z Z (fun _ hΓ => looks_wrap Z Z Z Z) ?_
  refine R0 ?_
  refine CV Z Z Z Z Z O Z (fun w γ => f152 w n τ1 e1 2147483647 ok1 (i6 2147483647)) ?_
  intro hq1
  refine WX.see Z Z Z (fun _ hΓ => looks_wrap Z Z Z Z) ?_
  refine WX.see Z Z Z (fun _ hΓ => looks_wrap Z Z Z Z) ?_
  have r2 := tmod_rng (IntKind.i64.wrap ((IntKind.i64.wrap ((IntKind.i64.wrap (d * 1000003)) + (a2s e1 2147483647))) + 13)) (show (0 : Int) < 2147483647 by omega)
  refine WX.see Z Z Z (fun _ hΓ => looks_rem Z Z Z τ9) ?_
  refine R0 ?_
  refine WX.see Z Z Z (fun _ hΓ => looks_arith Z Z Z Z τ2) ?_
  refine R0 ?_
  have r3 : -9223372036854775808 ≤ e1 ∧ e1 ≤ 9223372036854775807 := ok1
  have r4 : -9223372036854775808 ≤ (a2s e1 2147483647) ∧ (a2s e1 2147483647) ≤ 9223372036854775807 := hq1
  exact WX.iter (Int.tmod (IntKind.i64.wrap ((IntKind.i64.wrap ((IntKind.i64.wrap (d * 1000003)) + (a2s e1 2147483647))) + 13)) 2147483647, i + 1) ⟨τ1, τ6, (by rw [v3, drop_get e1h]; simp only [a3y, cT, cF])⟩ τ4 (.cons Z (.cons Z (.cons Z (.cons Z (.nil))))) .nil .nil [0] Z
 have h1d := B.df h1
 refine R0 ?_
 have hX1 : a3y l 11 = d := by rw [v3, List.drop_eq_nil_of_le (show (l).length ≤ i by omega)]; simp only [a3y, cT, cF]
 have hP1 : a33 l = d := by simp only [a33, hX1, cT, cF]
 refine R1 ?_
 intro w1 G bs hI hΓ
 rw [hP1]
 exact ⟨Z, v2⟩
theorem f164 (w : World) (n : Nat) (hn : n + 0 ≤ 9) (s : List Int) (ps cs) (N0 : RdSl (hp w) ps cs s) (n_ : Int) (hq0 : ps = none ∧ cs = 0 ∧ s = []) (hq1 : 0 ≤ n_ ∧ n_ ≤ 4398046511104) (hoks : GoT.ok n s) (hokn_ : GoT.ok n n_) :
    Does Tryz.prog 164 #[.slice ps ((s).length) cs, .int .i64 (n_)] w emp (Post w emp (fun x : GoT.X (List Int) => (GoT.sh ((slices_Grow_int s n_) : List Int) x).headD undef) (fun x => GoT.oa ((slices_Grow_int s n_) : List Int) x) (GoT.ok n ((slices_Grow_int s n_) : List Int))) := by
  obtain ⟨rfl, rfl, rfl⟩ := hq0
  refine EN Tryz.func164 Z allS_nil ?_
  refine R0 ?_
  refine WX.cases 6 Z ?_ ?_ <;> intro h1
  · have h1d := B.dt h1
    omega
  refine R0 ?_
  refine WX.see Z Z Z (fun _ hΓ => looks_cap ttOk Z Z Z Z) ?_
  refine R0 ?_
  refine WX.see Z Z Z (fun _ hΓ => looks_arith Z Z Z Z (by unfold I64; simp only [List.length_nil]; omega)) ?_
  refine WX.see Z Z Z (fun _ hΓ => looks_arith Z Z Z Z (by unfold I64; simp only [List.length_nil]; omega)) ?_
  refine R0 ?_
  refine WX.cases 16 Z ?_ ?_ <;> intro h2
  · have h2d := B.dt h2
    simp only [List.length_nil] at h2d
    refine R0 ?_
    refine WX.see Z Z Z (fun _ hΓ => looks_cap ttOk Z Z Z Z) ?_
    refine WX.see Z Z Z (fun _ hΓ => looks_slH 0 ttOk Z Z Z Z Z (Nat.le_refl _)) ?_
    refine R0 ?_
    refine WX.row0 501 1 none Z ?_
    refine WX.appZ 501 0 n_.toNat ttOk Z Z Z Z Z Z Z Z Z (by simp only [List.length_nil]; omega) Z Z (Nat.le_refl _) τ1 (show 0 < 0 + n_.toNat by omega) τ1 τ1 Z ?_
    intro p1 c1
    refine R0 ?_
    refine WX.see Z Z Z (fun _ hΓ => looks_slH 0 ttOk Z Z Z Z Z (Nat.zero_le _)) ?_
    refine R0 ?_
    refine WX.narrow 22 0 Z (Nat.zero_le _) Z ?_
    refine WX.free 1 (MF.ol [] ([] : List Int)) Z ?_
    refine WX.seal 22 1 2 Z Z Z Z Z ?_
    refine R1 ?_
    intro w1 G bs hI hΓ
    exact Post.of [3] (p1, c1) hI hΓ Z Z Z ok_nil
  · refine R0 ?_
    refine WX.free 1 (MF.os none 0 ([] : List Int)) (owSl_nil _ _) ?_
    refine R1 ?_
    intro w1 G bs hI hΓ
    exact Post.of [1] (none, 0) hI hΓ Z Z Z ok_nil
theorem f147 (w : World) (n : Nat) (hn : n + 1 ≤ 9) (slices : (List (List Int))) (K0 M0) (N0 : RdSl (hp w) K0 M0 slices) (hq0 : slices.length ≤ 4) (hokslices : GoT.ok n slices) :
 Does Tryz.prog 147 #[.slice K0 ((slices).length) M0] w emp (Post w emp (fun x : GoT.X ((List Int)) => (GoT.sh ((slices_Concat_int slices) : (List Int)) x).headD undef) (fun x => GoT.oa ((slices_Concat_int slices) : (List Int)) x) (GoT.ok (n + 1) ((slices_Concat_int slices) : (List Int)))) := by
 have hb := bS1 hn
 refine EN Tryz.func147 Z (aS1 N0) ?_
 refine R0 ?_
 have r1 : (slices).length ≤ bd n := (okl hokslices).1
 refine WX.loop (ι := Int × Nat) ⟨fun | (size, i) => (i ≤ (slices).length) ∧ (-9223372036854775808 ≤ size ∧ size ≤ 9223372036854775807) ∧ (0 ≤ size ∧ size ≤ 274877906944 * ((i : Nat) : Int)) ∧ (slices_Concat_int_L1 slices 0 = slices_Concat_int_L1 ((slices).drop i) size), fun | (size, i) => (slices).length - i, fun | (size, i) => [(3, .v (.int .i64 (size))), (11, .v (.int .i64 (((i : Nat) : Int)))), (10, .v (.int .i64 ((((slices).length : Nat) : Int)))), (9, .v (.slice K0 ((slices).length) M0)), (0, .v (.slice K0 ((slices).length) M0))], fun | (size, i) => [], fun | (size, i) => [], fun | (size, i) => [(0, MF.rs .stb K0 M0 slices)]⟩ (0, 0) ⟨(Nat.zero_le _), τ6, τ1, Z⟩
  (.cons Z (.cons Z (.cons Z (.cons Z (.cons Z (.nil)))))) .nil .nil [0] Z ?_
 rintro ⟨size, i⟩ ⟨v1, v2, v3, v4⟩
 refine R0 ?_
 refine WX.cases 12 Z ?_ ?_ <;> intro h1
 ·skip
  have h1d := B.dt h1
  have e1i : i < (slices).length := τ1
  obtain ⟨e1, e1h⟩ : ∃ e1, (slices)[i]? = some e1 := ⟨_, List.getElem?_eq_getElem e1i⟩
  have ok1 : GoT.ok n e1 := (okl hokslices).2 _ (List.mem_of_getElem? e1h)
  refine R0 ?_
  refine WX.idx 0 i ttOk Z Z Z Z Z Z Z Z Z Z e1i ?_
  rintro ad1 rfl
  refine WX.ldE 0 1 e1 ttOk Z Z Z Z Z Z Z Z e1h O O ?_
  rintro ⟨p1, c1⟩
  refine R0 ?_
  have r2 : (e1).length ≤ bd n := (okl ok1).1
  refine WX.see Z Z Z (fun _ hΓ => looks_arith Z Z Z Z τ2) ?_
  refine R0 ?_
  refine WX.cases 20 Z ?_ ?_ <;> intro h2
  ·skip
   have h2d := B.dt h2
   exfalso; omega
  have h2d := B.df h2
  refine R0 ?_
  refine WX.see Z Z Z (fun _ hΓ => looks_arith Z Z Z Z τ2) ?_
  refine R0 ?_
  exact WX.iter (size + (((e1).length : Nat) : Int), i + 1) ⟨τ1, τ6, τ1, (by rw [v4, drop_get e1h]; simp only [slices_Concat_int_L1, h2, cT, cF])⟩ τ4 (.cons Z (.cons Z (.cons Z (.cons Z (.cons Z (.nil)))))) .nil .nil [0] Z
 have h1d := B.df h1
 refine R0 ?_
 have hX1 : slices_Concat_int_L1 slices 0 = size := by rw [v4, List.drop_eq_nil_of_le (show (slices).length ≤ i by omega)]; simp only [slices_Concat_int_L1, cT, cF]
 refine CF 2 Z Z Z Z Z O Z (fun w γ => f164 w n τ1 ([] : List Int) none 0 (rdSl_nil _ _ _) size ⟨Z, Z, Z⟩ τ1 (ok_nil (α := Int)) v2) ?_
 rintro ⟨p2, c2⟩ hq1
 refine R0 ?_
 refine WX.loop (ι := (Option Addr) × Nat × (List Int) × Nat) ⟨fun | (pnewslice, cnewslice, newslice, i) => (i ≤ (slices).length) ∧ (newslice.length ≤ bd (n + 1) ∧ ∀ z_ ∈ newslice, GoT.ok (n + 1) z_) ∧ (newslice.length ≤ 0 ∨ (i = 1 ∧ newslice.length ≤ bd n) ∨ (i = 2 ∧ newslice.length ≤ 2 * bd n) ∨ (i = 3 ∧ newslice.length ≤ 3 * bd n) ∨ (4 ≤ i ∧ newslice.length ≤ 4 * bd n)) ∧ (slices_Concat_int_L2 slices ((slices_Grow_int ([] : List Int) size) : List Int) = slices_Concat_int_L2 ((slices).drop i) newslice), fun | (pnewslice, cnewslice, newslice, i) => (slices).length - i, fun | (pnewslice, cnewslice, newslice, i) => [(6, .v (.slice pnewslice ((newslice).length) cnewslice)), (27, .v (.int .i64 (((i : Nat) : Int)))), (26, .v (.int .i64 ((((slices).length : Nat) : Int)))), (25, .v (.slice K0 ((slices).length) M0))], fun | (pnewslice, cnewslice, newslice, i) => [], fun | (pnewslice, cnewslice, newslice, i) => [], fun | (pnewslice, cnewslice, newslice, i) => [(0, MF.rs .stb K0 M0 slices), (3, MF.os pnewslice cnewslice newslice)]⟩ (p2, c2, ((slices_Grow_int ([] : List Int) size) : List Int), 0) ⟨(Nat.zero_le _), (GoT.okm (α := List Int) τ1 hq1), (by simp [slices_Grow_int]), Z⟩
  (.cons Z (.cons Z (.cons Z (.cons Z (.nil))))) .nil .nil [0, 3] Z ?_
 rintro ⟨pnewslice, cnewslice, newslice, i⟩ ⟨v5, v6, v7, v8⟩
 have v6L := v6.1
 refine R0 ?_
 refine WX.cases 28 Z ?_ ?_ <;> intro h3
 ·skip
  have h3d := B.dt h3
  have e2i : i < (slices).length := τ1
  obtain ⟨e2, e2h⟩ : ∃ e2, (slices)[i]? = some e2 := ⟨_, List.getElem?_eq_getElem e2i⟩
  have ok2 : GoT.ok n e2 := (okl hokslices).2 _ (List.mem_of_getElem? e2h)
  refine R0 ?_
  refine WX.idx 0 i ttOk Z Z Z Z Z Z Z Z Z Z e2i ?_
  rintro ad2 rfl
  refine WX.ldE 0 4 e2 ttOk Z Z Z Z Z Z Z Z e2h O O ?_
  rintro ⟨p3, c3⟩
  refine R0 ?_
  refine WX.opn (kk := 1) 501 3 5 Z Z Z ?_
  intro xs1 hx1
  have r3 : (e2).length ≤ bd n := (okl ok2).1
  refine WX.appG1 501 4 6 ((newslice ++ e2) : List Int).length ttOk Z Z Z Z Z Z Z Z Z Z Z Z Z τ7 τ3 τ3 (fun _ _ _ => Z) ?_
  intro ys1 p4 c4
  refine WX.know (fun G hΓ => (hΓ.get 6 Z : RdL _ _ _).flat) ?_
  intro hf1
  refine WX.turn [5] 7 Z (fun h hs => ol_flat hs hf1) (gs := [MF.ol (xs1 ++ ys1) ((newslice ++ e2) : List Int)]) Z ?_
  refine R0 ?_
  refine WX.see Z Z Z (fun _ hΓ => looks_arith Z Z Z Z τ2) ?_
  refine R0 ?_
  refine WX.seal 501 7 8 Z Z Z Z Z ?_
  refine WX.turn [9] 3 Z (fun _ h => h) Z ?_
  exact WX.iter (p4, c4, (newslice ++ e2), i + 1) ⟨τ1, (okl_mk τ3 (all_app v6.2 (fun a ha => GoT.okm τ1 ((okl ok2).2 a ha))) : GoT.ok (n + 1) ((newslice ++ e2) : List Int)), (by simp only [List.length_append]; omega), (by rw [v8, drop_get e2h]; simp only [slices_Concat_int_L2, cT, cF])⟩ τ4 (.cons Z (.cons Z (.cons Z (.cons Z (.nil))))) .nil .nil [0, 3] Z
 have h3d := B.df h3
 refine R0 ?_
 have hX2 : slices_Concat_int_L2 slices ((slices_Grow_int ([] : List Int) size) : List Int) = ((newslice) : List Int) := by rw [v8, List.drop_eq_nil_of_le (show (slices).length ≤ i by omega)]; simp only [slices_Concat_int_L2, cT, cF]
 have hP1 : slices_Concat_int slices = newslice := by simp only [slices_Concat_int, hX1, hX2, cT, cF]
 refine R1 ?_
 intro w1 G bs hI hΓ
 rw [hP1]
 exact Post.of [3] (pnewslice, cnewslice) hI hΓ Z Z Z (okl_of v6)
theorem f126 (w : World) (n : Nat) (hn : n + 1 ≤ 9) (secret : Int) (l : (List Int)) (pl cl) (N0 : RdSl (hp w) pl cl l) (hoksecret : GoT.ok n secret) (hokl : GoT.ok n l) :
 Does Tryz.prog 126 #[.int .i64 (secret), .slice pl ((l).length) cl] w emp (fun (rv : Value) (_ : World) => rv = .int .i64 ((a4d secret l)) ∧ GoT.ok n ((a4d secret l) : Int)) := by
 have hb := bS1 hn
 refine EN Tryz.func126 Z (aS1 N0) ?_
 refine R0 ?_
 refine WX.bld ttOk Z Z Z Z Z Z Z ?_
 intro p1
 refine R0 ?_
 refine WX.bld ttOk Z Z Z Z Z Z Z ?_
 intro p2
 refine WX.turn [] 1 Z (fun h hs => ol_one (α := Int) (a := secret) (x := ()) hs) (gs := [MF.ol [.int .i64 (secret)] ([secret] : List Int)]) Z ?_
 refine WX.seal 6 1 2 Z Z Z Z Z ?_
 refine WX.turn [] 4 Z (fun h hs => ol_one (α := Int) (a := secret) (x := ()) hs) (gs := [MF.ol [.int .i64 (secret)] ([secret] : List Int)]) Z ?_
 refine WX.seal 9 4 5 Z Z Z Z Z ?_
 refine WX.bld ttOk Z Z Z Z Z Z Z ?_
 intro p3
 have r1 : -9223372036854775808 ≤ secret ∧ secret ≤ 9223372036854775807 := hoksecret
 refine WX.freeze [3] 7 (MF.rs .stb p1 1 ([secret] : (List Int))) Z Z (fun h hs => (sep_one hs : OwSl _ _ _ _).rd) ?_
 refine WX.freeze [6] 8 (MF.rs .stb p2 1 ([secret] : (List Int))) Z Z (fun h hs => (sep_one hs : OwSl _ _ _ _).rd) ?_
 refine WX.free 9 (MF.rl .stb [] ([] : List ((List Int)))) Z ?_
 refine WX.stb2 10 (MF.rl .stb (GoT.sh (([secret]) : (List Int)) (p1, 1)) (([([secret])]) : List ((List Int)))) Z 9 7 Z Z Z Z (fun G a b => RdL.snoc (a := (([secret]) : (List Int))) (x := (p1, 1)) (fun f hf => by cases List.mem_singleton.1 hf; exact b) (a : RdL _ _ _)) ?_
 refine WX.stb2 11 (MF.rl .stb (GoT.sh (([secret]) : (List Int)) (p1, 1) ++ GoT.sh (l : (List Int)) (pl, cl)) (([([secret])] ++ [l]) : List ((List Int)))) Z 10 0 Z Z Z Z (fun G a b => RdL.snoc (a := (l : (List Int))) (x := (pl, cl)) (fun f hf => by cases List.mem_singleton.1 hf; exact b) (a : RdL _ _ _)) ?_
 refine WX.stb2 12 (MF.rl .stb ([.slice p1 (1) 1, .slice pl ((l).length) cl, .slice p2 (1) 1]) ([([secret]), l, ([secret])] : List ((List Int)))) Z 11 8 Z Z Z Z (fun G a b => RdL.snoc (a := (([secret]) : (List Int))) (x := (p2, 1)) (fun f hf => by cases List.mem_singleton.1 hf; exact b) (a : RdL _ _ _)) ?_
 refine WX.sealS 10 12 13 Z Z Z Z Z ?_
 have r2 : (l).length ≤ bd n := (okl hokl).1
 refine CF 14 Z Z Z Z Z O Z (fun w γ => f147 w n τ1 ([([secret]), l, ([secret])]) p3 3 (γ.q 13 Z) τ11 (okl_mk τ3 (all_cons (α := (List Int)) (okl_mk τ3 (all_cons (α := Int) hoksecret (fun a ha => by cases ha)) : GoT.ok n ([secret] : List Int)) (all_cons (α := (List Int)) hokl (all_cons (α := (List Int)) (okl_mk τ3 (all_cons (α := Int) hoksecret (fun a ha => by cases ha)) : GoT.ok n ([secret] : List Int)) (fun a ha => by cases ha)))) : GoT.ok n ([([secret]), l, ([secret])] : List (List Int)))) ?_
 rintro ⟨p4, c1⟩ hq1
 have q1 := len_Concat ([([secret]), l, ([secret])])
 refine CV Z Z Z Z Z O Z (fun w γ => f133 w (n + 1) τ1 (slices_Concat_int ([([secret]), l, ([secret])])) p4 c1 (γ.q 14 Z) hq1) ?_
 intro hq2
 refine R0 ?_
 have hP1 : a4d secret l = (a33 (slices_Concat_int ([([secret]), l, ([secret])]))) := by simp only [a4d, cT, cF]
 refine R1 ?_
 intro w1 G bs hI hΓ
 rw [hP1]
 exact ⟨Z, hq2⟩
theorem f127 (w : World) (n : Nat) (hn : n + 5 ≤ 9) (x_ : DataP) (K0 M0) (N0 : RdSl (hp w) K0 M0 x_.name.parts) (K1 M1) (N1 : RdSl (hp w) K1 M1 x_.content) (K2 M2) (N2 : RdSl (hp w) K2 M2 x_.keyName.parts) (hokx_ : GoT.ok n x_) :
 Does Tryz.prog 127 #[.agg #[.slice K0 ((x_.name.parts).length) M0, .slice K1 ((x_.content).length) M1, .slice K2 ((x_.keyName.parts).length) M2, .int .i64 (x_.freshUntil), .int .i64 (x_.signature)]] w emp (Post w emp (fun x : GoT.X ((List Int)) => (GoT.sh ((a29 x_) : (List Int)) x).headD undef) (fun x => GoT.oa ((a29 x_) : (List Int)) x) (GoT.ok (n + 5) ((a29 x_) : (List Int)))) := by
 have hb := bS5 hn
 refine EN Tryz.func127 Z (aS3 N0 N1 N2) ?_
 refine R0 ?_
 refine WX.draw [16] mixed ?_
 intro bs G0 hΓ0
 refine DX.takes (fuel := 10) ttOk [(0, true), (1, false), (4, true), (5, false), (7, true), (8, false), (13, true), (14, false)] J Z ?_
 refine DX.toTX ?_
 intro S_
 refine TX.toP ?_
 refine TXP.pend (PI.lit 15 18 1 3 [.int .i64 (x_.freshUntil)] [(17, .v (.int .i64 (x_.freshUntil)))]) (lit_ok ttOk Z Z Z Z Z Z Z) (.cons Z .nil) Z J Z ?_
 refine TPF 2 3 J J Z Z Z Z Z Z Z O Z (fun w γ => f149 w n τ1 ([] : List UInt8) none 0 (rdSl_nil _ _ _) x_.name K0 M0 (γ.q 0 Z) (ok_nil (α := UInt8)) ((ok_DataP hokx_).1)) ?_
 rintro ⟨p1, c1⟩ hq1
 have q1 := len_implAN ([] : List UInt8) x_.name
 refine TPF 3 5 J J Z Z Z Z Z Z Z O Z (fun w γ => f148 w (n + 1) τ1 (a07 ([] : List UInt8) x_.name) p1 c1 (γ.q 3 Z) hq1) ?_
 rintro ⟨p2, c2⟩ hq2
 have q2 := len_implBI (a07 ([] : List UInt8) x_.name)
 refine TPF 6 7 J J Z Z Z Z Z Z Z O Z (fun w γ => f148 w n τ1 x_.content K1 M1 (γ.q 1 Z) ((ok_DataP hokx_).2.1)) ?_
 rintro ⟨p3, c3⟩ hq3
 have q3 := len_implBI x_.content
 refine TPF 9 9 J J Z Z Z Z Z Z Z O Z (fun w γ => f149 w n τ1 ([] : List UInt8) none 0 (rdSl_nil _ _ _) x_.keyName K2 M2 (γ.q 2 Z) (ok_nil (α := UInt8)) ((ok_DataP hokx_).2.2.1)) ?_
 rintro ⟨p4, c4⟩ hq4
 have q4 := len_implAN ([] : List UInt8) x_.keyName
 refine TPF 10 11 J J Z Z Z Z Z Z Z O Z (fun w γ => f148 w (n + 1) τ1 (a07 ([] : List UInt8) x_.keyName) p4 c4 (γ.q 9 Z) hq4) ?_
 rintro ⟨p5, c5⟩ hq5
 have q5 := len_implBI (a07 ([] : List UInt8) x_.keyName)
 refine TXP.splitS (α := Int) (l := [x_.freshUntil]) 0 13 Z Z Z ⟨(), _, emp, _, Z, emp_le _, Le.refl _, emp_dj _, trivial, Z⟩ Z ?_ ?_
 ·skip
  refine TXP.done ?_
  refine TX.all2 11 15 J ?_ ?_
  ·skip
   refine TS.op 11 Z J ?_
   refine WX.bld ttOk Z Z Z Z Z Z Z ?_
   intro p6
   refine R0 ?_
   refine WX.turn [6] 15 Z (fun h hs => ol_one (α := (List Int)) (a := (a05 (a07 ([] : List UInt8) x_.name))) (x := (p2, c2)) hs) (gs := [MF.ol (GoT.sh ((a05 (a07 ([] : List UInt8) x_.name)) : (List Int)) (p2, c2)) (([(a05 (a07 ([] : List UInt8) x_.name))]) : List (List Int))]) Z ?_
   refine WX.turn [15, 8] 16 Z (fun h hs => ol_snoc (α := (List Int)) (a := (a05 x_.content)) (x := (p3, c3)) hs) (gs := [MF.ol (GoT.sh ((a05 (a07 ([] : List UInt8) x_.name)) : (List Int)) (p2, c2) ++ GoT.sh ((a05 x_.content) : (List Int)) (p3, c3)) (([(a05 (a07 ([] : List UInt8) x_.name))] ++ [(a05 x_.content)]) : List (List Int))]) Z ?_
   refine WX.turn [16, 12] 14 Z (fun h hs => ol_snoc (α := (List Int)) (a := (a05 (a07 ([] : List UInt8) x_.keyName))) (x := (p5, c5)) hs) (gs := [MF.ol [.slice p2 (((a05 (a07 ([] : List UInt8) x_.name))).length) c2, .slice p3 (((a05 x_.content)).length) c3, .slice p5 (((a05 (a07 ([] : List UInt8) x_.keyName))).length) c5] ([(a05 (a07 ([] : List UInt8) x_.name)), (a05 x_.content), (a05 (a07 ([] : List UInt8) x_.keyName))] : List (List Int))]) Z ?_
   refine WX.seal 14 14 17 Z Z Z Z Z ?_
   refine WX.back0 ?_
   refine TX.all2 12 15 J ?_ ?_
   ·skip
    have r1 : (x_.content).length ≤ bd n := (okl (ok_DataP hokx_).2.1).1
    have r2 : (a07 ([] : List UInt8) x_.name).length ≤ bd (n + 1) := (okl hq1).1
    have r3 : (a05 (a07 ([] : List UInt8) x_.name)).length ≤ bd (n + 2) := (okl hq2).1
    have r4 : (a05 x_.content).length ≤ bd (n + 1) := (okl hq3).1
    have r5 : (a07 ([] : List UInt8) x_.keyName).length ≤ bd (n + 1) := (okl hq4).1
    have r6 : (a05 (a07 ([] : List UInt8) x_.keyName)).length ≤ bd (n + 2) := (okl hq5).1
    refine TSF 12 19 Z Z Z Z Z Z O Z (fun w γ => f147 w (n + 2) τ1 ([(a05 (a07 ([] : List UInt8) x_.name)), (a05 x_.content), (a05 (a07 ([] : List UInt8) x_.keyName))]) p6 3 (γ.q 17 Z) τ11 (okl_mk τ3 (all_cons (α := (List Int)) hq2 (all_cons (α := (List Int)) (GoT.okm (α := List Int) τ1 hq3) (all_cons (α := (List Int)) hq5 (fun a ha => by cases ha)))) : GoT.ok (n + 2) ([(a05 (a07 ([] : List UInt8) x_.name)), (a05 x_.content), (a05 (a07 ([] : List UInt8) x_.keyName))] : List (List Int)))) ?_
    rintro ⟨p7, c6⟩ hq6
    have q6 := len_Concat ([(a05 (a07 ([] : List UInt8) x_.name)), (a05 x_.content), (a05 (a07 ([] : List UInt8) x_.keyName))])
    refine TX.all1 15 J ?_
    refine TS.op 15 Z J ?_
    refine WX.bld ttOk Z Z Z Z Z Z Z ?_
    intro p8
    refine R0 ?_
    refine WX.turn [] 21 Z (fun h hs => ol_one (α := Int) (a := x_.freshUntil) (x := ()) hs) (gs := [MF.ol [.int .i64 (x_.freshUntil)] ([x_.freshUntil] : List Int)]) Z ?_
    refine WX.seal 18 21 22 Z Z Z Z Z ?_
    refine WX.back0 ?_
    refine TX.all1 16 J ?_
    refine TS.op 16 Z J ?_
    refine WX.opn (kk := 1) 501 20 24 Z Z Z ?_
    intro xs1 hx1
    refine WX.der 25 (MF.rs .der p8 1 ([x_.freshUntil])) Z (fun _ hΓ => (hΓ.get 23 Z : OwSl _ _ _ _).rd) ?_
    have r7 : -9223372036854775808 ≤ x_.freshUntil ∧ x_.freshUntil ≤ 9223372036854775807 := (ok_DataP hokx_).2.2.2.1
    have r8 : (slices_Concat_int ([(a05 (a07 ([] : List UInt8) x_.name)), (a05 x_.content), (a05 (a07 ([] : List UInt8) x_.keyName))])).length ≤ bd (n + 3) := (okl hq6).1
    refine WX.appG1 501 25 26 (((slices_Concat_int ([(a05 (a07 ([] : List UInt8) x_.name)), (a05 x_.content), (a05 (a07 ([] : List UInt8) x_.keyName))])) ++ [x_.freshUntil]) : List Int).length ttOk Z Z Z Z Z Z Z Z Z Z Z Z Z τ7 τ3 τ3 (fun _ _ _ => Z) ?_
    intro ys1 p9 c7
    refine WX.know (fun G hΓ => (hΓ.get 26 Z : RdL _ _ _).flat) ?_
    intro hf1
    refine WX.turn [24] 27 Z (fun h hs => ol_flat hs hf1) (gs := [MF.ol (xs1 ++ ys1) (((slices_Concat_int ([(a05 (a07 ([] : List UInt8) x_.name)), (a05 x_.content), (a05 (a07 ([] : List UInt8) x_.keyName))])) ++ [x_.freshUntil]) : List Int)]) Z ?_
    refine R0 ?_
    refine WX.back0 ?_
    refine TX.takes (fuel := 0) ttOk [17] J Z ?_
    refine TX.tail [] Z Z J ?_
    refine R0 ?_
    refine WX.seal 501 27 28 Z Z Z Z Z ?_
    have hP1 : a29 x_ = ((slices_Concat_int ([(a05 (a07 ([] : List UInt8) x_.name)), (a05 x_.content), (a05 (a07 ([] : List UInt8) x_.keyName))])) ++ [x_.freshUntil]) := by simp only [a29, cT, cF]
    refine R1 ?_
    intro w1 G bs hI hΓ
    rw [hP1]
    exact Post.of [29] (p9, c7) hI hΓ Z Z Z (okl_mk τ3 (fun a ha => GoT.okm τ1 ((fun a ha => GoT.okm (show (n + 3) ≤ (n + 4) by omega) ((all_app (okl hq6).2 (fun a ha => GoT.okm τ1 ((all_cons (α := Int) (ok_DataP hokx_).2.2.2.1 (fun a ha => by cases ha)) a ha))) a ha)) a ha)) : GoT.ok (n + 5) (((slices_Concat_int ([(a05 (a07 ([] : List UInt8) x_.name)), (a05 x_.content), (a05 (a07 ([] : List UInt8) x_.keyName))])) ++ [x_.freshUntil]) : List Int))
   refine TS.op 15 Z J ?_
   refine WX.bld ttOk Z Z Z Z Z Z Z ?_
   intro p10
   refine R0 ?_
   refine WX.turn [] 30 Z (fun h hs => ol_one (α := Int) (a := x_.freshUntil) (x := ()) hs) (gs := [MF.ol [.int .i64 (x_.freshUntil)] ([x_.freshUntil] : List Int)]) Z ?_
   refine WX.seal 18 30 31 Z Z Z Z Z ?_
   refine WX.back0 ?_
   refine TX.all1 12 J ?_
   refine TS.der 33 (MF.rs .der p6 3 ([(a05 (a07 ([] : List UInt8) x_.name)), (a05 x_.content), (a05 (a07 ([] : List UInt8) x_.keyName))])) Z (fun _ hΓ => (hΓ.get 18 Z : OwSl _ _ _ _).rd) ?_
   have r9 : (x_.content).length ≤ bd n := (okl (ok_DataP hokx_).2.1).1
   have r10 : (a07 ([] : List UInt8) x_.name).length ≤ bd (n + 1) := (okl hq1).1
   have r11 : (a05 (a07 ([] : List UInt8) x_.name)).length ≤ bd (n + 2) := (okl hq2).1
   have r12 : (a05 x_.content).length ≤ bd (n + 1) := (okl hq3).1
   have r13 : (a07 ([] : List UInt8) x_.keyName).length ≤ bd (n + 1) := (okl hq4).1
   have r14 : (a05 (a07 ([] : List UInt8) x_.keyName)).length ≤ bd (n + 2) := (okl hq5).1
   refine TSF 12 34 Z Z Z Z Z Z O Z (fun w γ => f147 w (n + 2) τ1 ([(a05 (a07 ([] : List UInt8) x_.name)), (a05 x_.content), (a05 (a07 ([] : List UInt8) x_.keyName))]) p6 3 (γ.q 33 Z) τ11 (okl_mk τ3 (all_cons (α := (List Int)) hq2 (all_cons (α := (List Int)) (GoT.okm (α := List Int) τ1 hq3) (all_cons (α := (List Int)) hq5 (fun a ha => by cases ha)))) : GoT.ok (n + 2) ([(a05 (a07 ([] : List UInt8) x_.name)), (a05 x_.content), (a05 (a07 ([] : List UInt8) x_.keyName))] : List (List Int)))) ?_
   rintro ⟨p11, c8⟩ hq7
   have q7 := len_Concat ([(a05 (a07 ([] : List UInt8) x_.name)), (a05 x_.content), (a05 (a07 ([] : List UInt8) x_.keyName))])
   refine TX.all1 16 J ?_
   refine TS.op 16 Z J ?_
   refine WX.opn (kk := 1) 502 35 36 Z Z Z ?_
   intro xs2 hx2
   refine WX.der 37 (MF.rs .der p10 1 ([x_.freshUntil])) Z (fun _ hΓ => (hΓ.get 32 Z : OwSl _ _ _ _).rd) ?_
   have r15 : -9223372036854775808 ≤ x_.freshUntil ∧ x_.freshUntil ≤ 9223372036854775807 := (ok_DataP hokx_).2.2.2.1
   have r16 : (slices_Concat_int ([(a05 (a07 ([] : List UInt8) x_.name)), (a05 x_.content), (a05 (a07 ([] : List UInt8) x_.keyName))])).length ≤ bd (n + 3) := (okl hq7).1
   refine WX.appG1 502 37 38 (((slices_Concat_int ([(a05 (a07 ([] : List UInt8) x_.name)), (a05 x_.content), (a05 (a07 ([] : List UInt8) x_.keyName))])) ++ [x_.freshUntil]) : List Int).length ttOk Z Z Z Z Z Z Z Z Z Z Z Z Z τ7 τ3 τ3 (fun _ _ _ => Z) ?_
   intro ys2 p12 c9
   refine WX.know (fun G hΓ => (hΓ.get 38 Z : RdL _ _ _).flat) ?_
   intro hf2
   refine WX.turn [36] 39 Z (fun h hs => ol_flat hs hf2) (gs := [MF.ol (xs2 ++ ys2) (((slices_Concat_int ([(a05 (a07 ([] : List UInt8) x_.name)), (a05 x_.content), (a05 (a07 ([] : List UInt8) x_.keyName))])) ++ [x_.freshUntil]) : List Int)]) Z ?_
   refine R0 ?_
   refine WX.back0 ?_
   refine TX.takes (fuel := 0) ttOk [17] J Z ?_
   refine TX.tail [] Z Z J ?_
   refine R0 ?_
   refine WX.seal 502 39 40 Z Z Z Z Z ?_
   have hP2 : a29 x_ = ((slices_Concat_int ([(a05 (a07 ([] : List UInt8) x_.name)), (a05 x_.content), (a05 (a07 ([] : List UInt8) x_.keyName))])) ++ [x_.freshUntil]) := by simp only [a29, cT, cF]
   refine R1 ?_
   intro w1 G bs hI hΓ
   rw [hP2]
   exact Post.of [41] (p12, c9) hI hΓ Z Z Z (okl_mk τ3 (fun a ha => GoT.okm τ1 ((fun a ha => GoT.okm (show (n + 3) ≤ (n + 4) by omega) ((all_app (okl hq7).2 (fun a ha => GoT.okm τ1 ((all_cons (α := Int) (ok_DataP hokx_).2.2.2.1 (fun a ha => by cases ha)) a ha))) a ha)) a ha)) : GoT.ok (n + 5) (((slices_Concat_int ([(a05 (a07 ([] : List UInt8) x_.name)), (a05 x_.content), (a05 (a07 ([] : List UInt8) x_.keyName))])) ++ [x_.freshUntil]) : List Int))
  refine TS.op 15 Z J ?_
  refine WX.bld ttOk Z Z Z Z Z Z Z ?_
  intro p13
  refine R0 ?_
  refine WX.turn [] 42 Z (fun h hs => ol_one (α := Int) (a := x_.freshUntil) (x := ()) hs) (gs := [MF.ol [.int .i64 (x_.freshUntil)] ([x_.freshUntil] : List Int)]) Z ?_
  refine WX.seal 18 42 43 Z Z Z Z Z ?_
  refine WX.back0 ?_
  refine TX.all1 11 J ?_
  refine TS.op 11 Z J ?_
  refine WX.bld ttOk Z Z Z Z Z Z Z ?_
  intro p14
  refine R0 ?_
  refine WX.turn [6] 46 Z (fun h hs => ol_one (α := (List Int)) (a := (a05 (a07 ([] : List UInt8) x_.name))) (x := (p2, c2)) hs) (gs := [MF.ol (GoT.sh ((a05 (a07 ([] : List UInt8) x_.name)) : (List Int)) (p2, c2)) (([(a05 (a07 ([] : List UInt8) x_.name))]) : List (List Int))]) Z ?_
  refine WX.turn [46, 8] 47 Z (fun h hs => ol_snoc (α := (List Int)) (a := (a05 x_.content)) (x := (p3, c3)) hs) (gs := [MF.ol (GoT.sh ((a05 (a07 ([] : List UInt8) x_.name)) : (List Int)) (p2, c2) ++ GoT.sh ((a05 x_.content) : (List Int)) (p3, c3)) (([(a05 (a07 ([] : List UInt8) x_.name))] ++ [(a05 x_.content)]) : List (List Int))]) Z ?_
  refine WX.turn [47, 12] 45 Z (fun h hs => ol_snoc (α := (List Int)) (a := (a05 (a07 ([] : List UInt8) x_.keyName))) (x := (p5, c5)) hs) (gs := [MF.ol [.slice p2 (((a05 (a07 ([] : List UInt8) x_.name))).length) c2, .slice p3 (((a05 x_.content)).length) c3, .slice p5 (((a05 (a07 ([] : List UInt8) x_.keyName))).length) c5] ([(a05 (a07 ([] : List UInt8) x_.name)), (a05 x_.content), (a05 (a07 ([] : List UInt8) x_.keyName))] : List (List Int))]) Z ?_
  refine WX.seal 14 45 48 Z Z Z Z Z ?_
  refine WX.back0 ?_
  refine TX.all1 12 J ?_
  have r17 : (x_.content).length ≤ bd n := (okl (ok_DataP hokx_).2.1).1
  have r18 : (a07 ([] : List UInt8) x_.name).length ≤ bd (n + 1) := (okl hq1).1
  have r19 : (a05 (a07 ([] : List UInt8) x_.name)).length ≤ bd (n + 2) := (okl hq2).1
  have r20 : (a05 x_.content).length ≤ bd (n + 1) := (okl hq3).1
  have r21 : (a07 ([] : List UInt8) x_.keyName).length ≤ bd (n + 1) := (okl hq4).1
  have r22 : (a05 (a07 ([] : List UInt8) x_.keyName)).length ≤ bd (n + 2) := (okl hq5).1
  refine TSF 12 50 Z Z Z Z Z Z O Z (fun w γ => f147 w (n + 2) τ1 ([(a05 (a07 ([] : List UInt8) x_.name)), (a05 x_.content), (a05 (a07 ([] : List UInt8) x_.keyName))]) p14 3 (γ.q 48 Z) τ11 (okl_mk τ3 (all_cons (α := (List Int)) hq2 (all_cons (α := (List Int)) (GoT.okm (α := List Int) τ1 hq3) (all_cons (α := (List Int)) hq5 (fun a ha => by cases ha)))) : GoT.ok (n + 2) ([(a05 (a07 ([] : List UInt8) x_.name)), (a05 x_.content), (a05 (a07 ([] : List UInt8) x_.keyName))] : List (List Int)))) ?_
  rintro ⟨p15, c10⟩ hq8
  have q8 := len_Concat ([(a05 (a07 ([] : List UInt8) x_.name)), (a05 x_.content), (a05 (a07 ([] : List UInt8) x_.keyName))])
  refine TX.all1 16 J ?_
  refine TS.op 16 Z J ?_
  refine WX.opn (kk := 1) 503 51 52 Z Z Z ?_
  intro xs3 hx3
  refine WX.der 53 (MF.rs .der p13 1 ([x_.freshUntil])) Z (fun _ hΓ => (hΓ.get 44 Z : OwSl _ _ _ _).rd) ?_
  have r23 : -9223372036854775808 ≤ x_.freshUntil ∧ x_.freshUntil ≤ 9223372036854775807 := (ok_DataP hokx_).2.2.2.1
  have r24 : (slices_Concat_int ([(a05 (a07 ([] : List UInt8) x_.name)), (a05 x_.content), (a05 (a07 ([] : List UInt8) x_.keyName))])).length ≤ bd (n + 3) := (okl hq8).1
  refine WX.appG1 503 53 54 (((slices_Concat_int ([(a05 (a07 ([] : List UInt8) x_.name)), (a05 x_.content), (a05 (a07 ([] : List UInt8) x_.keyName))])) ++ [x_.freshUntil]) : List Int).length ttOk Z Z Z Z Z Z Z Z Z Z Z Z Z τ7 τ3 τ3 (fun _ _ _ => Z) ?_
  intro ys3 p16 c11
  refine WX.know (fun G hΓ => (hΓ.get 54 Z : RdL _ _ _).flat) ?_
  intro hf3
  refine WX.turn [52] 55 Z (fun h hs => ol_flat hs hf3) (gs := [MF.ol (xs3 ++ ys3) (((slices_Concat_int ([(a05 (a07 ([] : List UInt8) x_.name)), (a05 x_.content), (a05 (a07 ([] : List UInt8) x_.keyName))])) ++ [x_.freshUntil]) : List Int)]) Z ?_
  refine R0 ?_
  refine WX.back0 ?_
  refine TX.takes (fuel := 0) ttOk [17] J Z ?_
  refine TX.tail [] Z Z J ?_
  refine R0 ?_
  refine WX.seal 503 55 56 Z Z Z Z Z ?_
  have hP3 : a29 x_ = ((slices_Concat_int ([(a05 (a07 ([] : List UInt8) x_.name)), (a05 x_.content), (a05 (a07 ([] : List UInt8) x_.keyName))])) ++ [x_.freshUntil]) := by simp only [a29, cT, cF]
  refine R1 ?_
  intro w1 G bs hI hΓ
  rw [hP3]
  exact Post.of [57] (p16, c11) hI hΓ Z Z Z (okl_mk τ3 (fun a ha => GoT.okm τ1 ((fun a ha => GoT.okm (show (n + 3) ≤ (n + 4) by omega) ((all_app (okl hq8).2 (fun a ha => GoT.okm τ1 ((all_cons (α := Int) (ok_DataP hokx_).2.2.2.1 (fun a ha => by cases ha)) a ha))) a ha)) a ha)) : GoT.ok (n + 5) (((slices_Concat_int ([(a05 (a07 ([] : List UInt8) x_.name)), (a05 x_.content), (a05 (a07 ([] : List UInt8) x_.keyName))])) ++ [x_.freshUntil]) : List Int))
 intro p17
 refine TXP.done ?_
 refine TX.all1 11 J ?_
 refine TS.op 11 Z J ?_
 refine WX.bld ttOk Z Z Z Z Z Z Z ?_
 intro p18
 refine R0 ?_
 refine WX.turn [6] 59 Z (fun h hs => ol_one (α := (List Int)) (a := (a05 (a07 ([] : List UInt8) x_.name))) (x := (p2, c2)) hs) (gs := [MF.ol (GoT.sh ((a05 (a07 ([] : List UInt8) x_.name)) : (List Int)) (p2, c2)) (([(a05 (a07 ([] : List UInt8) x_.name))]) : List (List Int))]) Z ?_
 refine WX.turn [59, 8] 60 Z (fun h hs => ol_snoc (α := (List Int)) (a := (a05 x_.content)) (x := (p3, c3)) hs) (gs := [MF.ol (GoT.sh ((a05 (a07 ([] : List UInt8) x_.name)) : (List Int)) (p2, c2) ++ GoT.sh ((a05 x_.content) : (List Int)) (p3, c3)) (([(a05 (a07 ([] : List UInt8) x_.name))] ++ [(a05 x_.content)]) : List (List Int))]) Z ?_
 refine WX.turn [60, 12] 58 Z (fun h hs => ol_snoc (α := (List Int)) (a := (a05 (a07 ([] : List UInt8) x_.keyName))) (x := (p5, c5)) hs) (gs := [MF.ol [.slice p2 (((a05 (a07 ([] : List UInt8) x_.name))).length) c2, .slice p3 (((a05 x_.content)).length) c3, .slice p5 (((a05 (a07 ([] : List UInt8) x_.keyName))).length) c5] ([(a05 (a07 ([] : List UInt8) x_.name)), (a05 x_.content), (a05 (a07 ([] : List UInt8) x_.keyName))] : List (List Int))]) Z ?_
 refine WX.seal 14 58 61 Z Z Z Z Z ?_
 refine WX.back0 ?_
 refine TX.all1 12 J ?_
 have r25 : (x_.content).length ≤ bd n := (okl (ok_DataP hokx_).2.1).1
 have r26 : (a07 ([] : List UInt8) x_.name).length ≤ bd (n + 1) := (okl hq1).1
 have r27 : (a05 (a07 ([] : List UInt8) x_.name)).length ≤ bd (n + 2) := (okl hq2).1
 have r28 : (a05 x_.content).length ≤ bd (n + 1) := (okl hq3).1
 have r29 : (a07 ([] : List UInt8) x_.keyName).length ≤ bd (n + 1) := (okl hq4).1
 have r30 : (a05 (a07 ([] : List UInt8) x_.keyName)).length ≤ bd (n + 2) := (okl hq5).1
 refine TSF 12 63 Z Z Z Z Z Z O Z (fun w γ => f147 w (n + 2) τ1 ([(a05 (a07 ([] : List UInt8) x_.name)), (a05 x_.content), (a05 (a07 ([] : List UInt8) x_.keyName))]) p18 3 (γ.q 61 Z) τ11 (okl_mk τ3 (all_cons (α := (List Int)) hq2 (all_cons (α := (List Int)) (GoT.okm (α := List Int) τ1 hq3) (all_cons (α := (List Int)) hq5 (fun a ha => by cases ha)))) : GoT.ok (n + 2) ([(a05 (a07 ([] : List UInt8) x_.name)), (a05 x_.content), (a05 (a07 ([] : List UInt8) x_.keyName))] : List (List Int)))) ?_
 rintro ⟨p19, c12⟩ hq9
 have q9 := len_Concat ([(a05 (a07 ([] : List UInt8) x_.name)), (a05 x_.content), (a05 (a07 ([] : List UInt8) x_.keyName))])
 refine TX.all1 16 J ?_
 refine TS.op 16 Z J ?_
 refine WX.opn (kk := 1) 504 64 65 Z Z Z ?_
 intro xs4 hx4
 have r31 : -9223372036854775808 ≤ x_.freshUntil ∧ x_.freshUntil ≤ 9223372036854775807 := (ok_DataP hokx_).2.2.2.1
 have r32 : (slices_Concat_int ([(a05 (a07 ([] : List UInt8) x_.name)), (a05 x_.content), (a05 (a07 ([] : List UInt8) x_.keyName))])).length ≤ bd (n + 3) := (okl hq9).1
 refine WX.appG1 504 13 66 (((slices_Concat_int ([(a05 (a07 ([] : List UInt8) x_.name)), (a05 x_.content), (a05 (a07 ([] : List UInt8) x_.keyName))])) ++ ([x_.freshUntil] : List Int)) : List Int).length ttOk Z Z Z Z Z Z Z Z Z Z Z Z Z τ7 τ3 τ3 (fun _ _ _ => Z) ?_
 intro ys4 p20 c13
 refine WX.know (fun G hΓ => (hΓ.get 66 Z : RdL _ _ _).flat) ?_
 intro hf4
 refine WX.turn [65] 67 Z (fun h hs => ol_flat hs hf4) (gs := [MF.ol (xs4 ++ ys4) (((slices_Concat_int ([(a05 (a07 ([] : List UInt8) x_.name)), (a05 x_.content), (a05 (a07 ([] : List UInt8) x_.keyName))])) ++ ([x_.freshUntil] : List Int)) : List Int)]) Z ?_
 refine R0 ?_
 refine WX.back0 ?_
 refine TX.takes (fuel := 0) ttOk [17] J Z ?_
 refine TX.tail [] Z Z J ?_
 refine R0 ?_
 refine WX.seal 504 67 68 Z Z Z Z Z ?_
 have hP4 : a29 x_ = ((slices_Concat_int ([(a05 (a07 ([] : List UInt8) x_.name)), (a05 x_.content), (a05 (a07 ([] : List UInt8) x_.keyName))])) ++ ([x_.freshUntil] : List Int)) := by simp only [a29, cT, cF]
 refine R1 ?_
 intro w1 G bs hI hΓ
 rw [hP4]
 exact Post.of [69] (p20, c13) hI hΓ Z Z Z (okl_mk τ3 (fun a ha => GoT.okm τ1 ((fun a ha => GoT.okm (show (n + 3) ≤ (n + 4) by omega) ((all_app (okl hq9).2 (fun a ha => GoT.okm τ1 ((all_cons (α := Int) (ok_DataP hokx_).2.2.2.1 (fun a ha => by cases ha)) a ha))) a ha)) a ha)) : GoT.ok (n + 5) (((slices_Concat_int ([(a05 (a07 ([] : List UInt8) x_.name)), (a05 x_.content), (a05 (a07 ([] : List UInt8) x_.keyName))])) ++ ([x_.freshUntil] : List Int)) : List Int))
end Go.Proofs.YthdgpfbldbabmaaGreatDoor

namespace Go.Stp
set_option linter.unusedVariables false
set_option linter.unusedSimpArgs false
def a3n (secret : Int) (x_ : DataP) : DataP :=
 (DataP.mk ((a1t x_).name) ((a1t x_).content) ((a1t x_).keyName) ((a1t x_).freshUntil) (a3x secret (a2z x_)))
end Go.Stp

namespace Go.Proofs.YthdgpfbldbabmaaGreatDoor
open Go.Stp
set_option linter.unusedVariables false
set_option linter.unusedSimpArgs false
theorem f66 (w : World) (n : Nat) (hn : n + 7 ≤ 9) (secret : Int) (x_ : DataP) (K0 M0) (N0 : RdSl (hp w) K0 M0 x_.name.parts) (K1 M1) (N1 : RdSl (hp w) K1 M1 x_.content) (K2 M2) (N2 : RdSl (hp w) K2 M2 x_.keyName.parts) (hoksecret : GoT.ok n secret) (hokx_ : GoT.ok n x_) :
 Does Tryz.prog 66 #[.int .i64 (secret), .agg #[.slice K0 ((x_.name.parts).length) M0, .slice K1 ((x_.content).length) M1, .slice K2 ((x_.keyName.parts).length) M2, .int .i64 (x_.freshUntil), .int .i64 (x_.signature)]] w emp (Post w emp (fun x : GoT.X (DataP) => .agg ⟨GoT.sh ((a3n secret x_) : DataP) x⟩) (fun x => GoT.oa ((a3n secret x_) : DataP) x) (GoT.ok n ((a3n secret x_) : DataP))) := by
 have hb := bS7 hn
 refine EN Tryz.func66 Z (aS3 N0 N1 N2) ?_
 refine R0 ?_
 refine CF 3 Z Z Z Z Z O Z (fun w γ => f46 w n τ1 x_ K0 M0 (γ.q 0 Z) K1 M1 (γ.q 1 Z) K2 M2 (γ.q 2 Z) hokx_) ?_
 rintro ⟨⟨p1, c1⟩, ⟨p2, c2⟩, ⟨p3, c3⟩, ⟨⟩, ⟨⟩⟩ hq1
 refine R0 ?_
 refine CF 9 Z Z Z Z Z O Z (fun w γ => f90 w n τ1 x_ K0 M0 (γ.q 0 Z) K1 M1 (γ.q 1 Z) K2 M2 (γ.q 2 Z) hokx_) ?_
 rintro ⟨p4, c4⟩ hq2
 refine CV Z Z Z Z Z O Z (fun w γ => f89 w (n + 5) τ1 secret (a2z x_) p4 c4 (γ.q 9 Z) hoksecret hq2) ?_
 intro hq3
 refine R0 ?_
 have hP1 : a3n secret x_ = (DataP.mk ((a1t x_).name) ((a1t x_).content) ((a1t x_).keyName) ((a1t x_).freshUntil) (a3x secret (a2z x_))) := by simp only [a3n, cT, cF]
 refine R1 ?_
 intro w1 G bs hI hΓ
 rw [hP1]
 exact Post.of [6, 7, 8] ((p1, c1), (p2, c2), (p3, c3), (), ()) hI hΓ Z Z Z (And.intro (ok_DataP hq1).1 (And.intro (ok_DataP hq1).2.1 (And.intro (ok_DataP hq1).2.2.1 (And.intro (ok_DataP hq1).2.2.2.1 hq3))))
end Go.Proofs.YthdgpfbldbabmaaGreatDoor

namespace Go.Stp
set_option linter.unusedVariables false
set_option linter.unusedSimpArgs false
def a2t (b : (List Str)) : List Str → Nat → Option (Bool)
 | [], i => none
 | e1 :: rest_, i =>
  match (b)[i]? with
   | none => default
   | some e2 =>
    bif (!((e1).toList == (e2).toList)) then
     (some false)
    else
     a2t b rest_ (i + 1)
def a3z (a : (List Str)) (b : (List Str)) : Bool :=
 bif ((((a).length : Nat) : Int) != (((b).length : Nat) : Int)) then
  false
 else
  match a2t b a 0 with
   | some r_ => r_
   | none =>
    true
def a3e (a : Name) (b : Name) : Bool :=
 (a3z a.parts b.parts)
def a2g (b : (List UInt8)) : List UInt8 → Nat → Option (Bool)
 | [], i => none
 | e1 :: rest_, i =>
  match (b)[i]? with
   | none => default
   | some e2 =>
    bif (((e1).toNat : Int) != ((e2).toNat : Int)) then
     (some false)
    else
     a2g b rest_ (i + 1)
def a3o (a : (List UInt8)) (b : (List UInt8)) : Bool :=
 bif ((((a).length : Nat) : Int) != (((b).length : Nat) : Int)) then
  false
 else
  match a2g b a 0 with
   | some r_ => r_
   | none =>
    true
end Go.Stp

namespace Go.Proofs.YthdgpfbldbabmaaGreatDoor
open Go.Stp
set_option linter.unusedVariables false
set_option linter.unusedSimpArgs false
theorem f61 (w : World) (n : Nat) (hn : n + 0 ≤ 9) (a : (List Str)) (pa ca) (N0 : RdSl (hp w) pa ca a) (b : (List Str)) (pb cb) (N1 : RdSl (hp w) pb cb b) (hoka : GoT.ok n a) (hokb : GoT.ok n b) :
 Does Tryz.prog 61 #[.slice pa ((a).length) ca, .slice pb ((b).length) cb] w emp (pB (a3z a b)) := by
 have hb := bS0 hn
 refine EN Tryz.func61 Z (aS2 N0 N1) ?_
 refine R0 ?_
 refine WX.cases 10 Z ?_ ?_ <;> intro h1
 ·skip
  have h1d := B.nt' h1
  refine R0 ?_
  exact R4 Z (by simp only [a3z, h1, cT, cF])
 have h1d := B.nf' h1
 refine R0 ?_
 have r1 : (a).length ≤ bd n := (okl hoka).1
 refine WX.loop (ι := Nat) ⟨fun i => (i ≤ (a).length) ∧ (a2t b a 0 = a2t b ((a).drop i) i), fun i => (a).length - i, fun i => [(5, .v (.int .i64 (((i : Nat) : Int)))), (0, .v (.slice pa ((a).length) ca)), (1, .v (.slice pb ((b).length) cb))], fun i => [], fun i => [], fun i => [(0, MF.rs .stb pa ca a), (1, MF.rs .stb pb cb b)]⟩ 0 ⟨(Nat.zero_le _), Z⟩
  (.cons Z (.cons Z (.cons Z (.nil)))) .nil .nil [0, 1] Z ?_
 rintro i ⟨v1, v2⟩
 refine R0 ?_
 refine WX.cases 14 Z ?_ ?_ <;> intro h2
 ·skip
  have h2d := B.dt h2
  have e1i : i < (a).length := τ1
  obtain ⟨e1, e1h⟩ : ∃ e1, (a)[i]? = some e1 := ⟨_, List.getElem?_eq_getElem e1i⟩
  have ok1 : GoT.ok n e1 := (okl hoka).2 _ (List.mem_of_getElem? e1h)
  refine R0 ?_
  refine WX.draw [] mixed ?_
  intro bs G0 hΓ0
  refine DX.takes (fuel := 7) ttOk [(0, true), (1, true)] J Z ?_
  refine DX.idx 2 0 i ttOk hΓ0 J Z Z Z Z Z Z Z Z Z Z Z e1i ?_
  rintro ad1 rfl
  refine DX.ldE 3 0 2 e1 ttOk hΓ0 J Z Z Z Z Z Z Z Z e1h O O ?_
  rintro ⟨⟩
  refine DX.takes (fuel := 3) ttOk [(4, true), (5, true)] J Z ?_
  have e2i : i < (b).length := τ6
  obtain ⟨e2, e2h⟩ : ∃ e2, (b)[i]? = some e2 := ⟨_, List.getElem?_eq_getElem e2i⟩
  have ok2 : GoT.ok n e2 := (okl hokb).2 _ (List.mem_of_getElem? e2h)
  refine DX.idx 6 1 i ttOk hΓ0 J Z Z Z Z Z Z Z Z Z Z Z e2i ?_
  rintro ad2 rfl
  refine DX.ldE 7 1 2 e2 ttOk hΓ0 J Z Z Z Z Z Z Z Z e2h O O ?_
  rintro ⟨⟩
  refine DX.takes (fuel := 0) ttOk [(8, true)] J Z ?_
  refine DX.tail2 [] Z Z J ?_
  refine R0 ?_
  refine WX.cases 25 Z ?_ ?_ <;> intro h3
  ·skip
   have h3d := B.ef (B.nt h3)
   refine R0 ?_
   have hP2 : a2t b a 0 = (some false) := by rw [v2, drop_get e1h]; simp only [a2t, e2h, h3, cT, cF]
   exact R4 Z (by simp only [a3z, h1, hP2, cT, cF])
  have h3d := B.et (B.nf h3)
  refine R0 ?_
  refine WX.see Z Z Z (fun _ hΓ => looks_arith Z Z Z Z τ2) ?_
  refine R0 ?_
  exact WX.iter (i + 1) ⟨τ1, (by rw [v2, drop_get e1h]; simp only [a2t, e2h, h3, cT, cF])⟩ τ4 (.cons Z (.cons Z (.cons Z (.nil)))) .nil .nil [0, 1] Z
 have h2d := B.df h2
 refine R0 ?_
 have hX1 : a2t b a 0 = none := by rw [v2, List.drop_eq_nil_of_le (show (a).length ≤ i by omega)]; simp only [a2t, cT, cF]
 exact R4 Z (by simp only [a3z, h1, hX1, cT, cF])
theorem f27 (w : World) (n : Nat) (hn : n + 0 ≤ 9) (a : Name) (pa ca) (N0 : RdSl (hp w) pa ca a.parts) (b : Name) (pb cb) (N1 : RdSl (hp w) pb cb b.parts) (hoka : GoT.ok n a) (hokb : GoT.ok n b) :
 Does Tryz.prog 27 #[.agg #[.slice pa ((a.parts).length) ca], .agg #[.slice pb ((b.parts).length) cb]] w emp (pB (a3e a b)) := by
 have hb := bS0 hn
 refine EN Tryz.func27 Z (aS2 N0 N1) ?_
 refine R0 ?_
 refine CV Z Z Z Z Z O Z (fun w γ => f61 w n τ1 a.parts pa ca (γ.q 0 Z) b.parts pb cb (γ.q 1 Z) (ok_Name hoka) (ok_Name hokb)) ?_
 intro hq1
 refine R0 ?_
 exact R4 Z (by simp only [a3e, cT, cF])
theorem f60 (w : World) (n : Nat) (hn : n + 0 ≤ 9) (a : (List UInt8)) (pa ca) (N0 : RdSl (hp w) pa ca a) (b : (List UInt8)) (pb cb) (N1 : RdSl (hp w) pb cb b) (hoka : GoT.ok n a) (hokb : GoT.ok n b) :
 Does Tryz.prog 60 #[.slice pa ((a).length) ca, .slice pb ((b).length) cb] w emp (pB (a3o a b)) := by
 have hb := bS0 hn
 refine EN Tryz.func60 Z (aS2 N0 N1) ?_
 refine R0 ?_
 refine WX.cases 10 Z ?_ ?_ <;> intro h1
 ·skip
  have h1d := B.nt' h1
  refine R0 ?_
  exact R4 Z (by simp only [a3o, h1, cT, cF])
 have h1d := B.nf' h1
 refine R0 ?_
 have r1 : (a).length ≤ bd n := (okl hoka).1
 refine WX.loop (ι := Nat) ⟨fun i => (i ≤ (a).length) ∧ (a2g b a 0 = a2g b ((a).drop i) i), fun i => (a).length - i, fun i => [(5, .v (.int .i64 (((i : Nat) : Int)))), (0, .v (.slice pa ((a).length) ca)), (1, .v (.slice pb ((b).length) cb))], fun i => [], fun i => [], fun i => [(0, MF.rs .stb pa ca a), (1, MF.rs .stb pb cb b)]⟩ 0 ⟨(Nat.zero_le _), Z⟩
  (.cons Z (.cons Z (.cons Z (.nil)))) .nil .nil [0, 1] Z ?_
 rintro i ⟨v1, v2⟩
 refine R0 ?_
 refine WX.cases 14 Z ?_ ?_ <;> intro h2
 ·skip
  have h2d := B.dt h2
  have e1i : i < (a).length := τ1
  obtain ⟨e1, e1h⟩ : ∃ e1, (a)[i]? = some e1 := ⟨_, List.getElem?_eq_getElem e1i⟩
  refine R0 ?_
  refine WX.draw [] mixed ?_
  intro bs G0 hΓ0
  refine DX.takes (fuel := 7) ttOk [(0, true), (1, true)] J Z ?_
  refine DX.idx 2 0 i ttOk hΓ0 J Z Z Z Z Z Z Z Z Z Z Z e1i ?_
  rintro ad1 rfl
  refine DX.ldE 3 0 2 e1 ttOk hΓ0 J Z Z Z Z Z Z Z Z e1h O O ?_
  rintro ⟨⟩
  refine DX.takes (fuel := 3) ttOk [(4, true), (5, true)] J Z ?_
  have e2i : i < (b).length := τ6
  obtain ⟨e2, e2h⟩ : ∃ e2, (b)[i]? = some e2 := ⟨_, List.getElem?_eq_getElem e2i⟩
  refine DX.idx 6 1 i ttOk hΓ0 J Z Z Z Z Z Z Z Z Z Z Z e2i ?_
  rintro ad2 rfl
  refine DX.ldE 7 1 2 e2 ttOk hΓ0 J Z Z Z Z Z Z Z Z e2h O O ?_
  rintro ⟨⟩
  refine DX.takes (fuel := 0) ttOk [(8, true)] J Z ?_
  refine DX.tail2 [] Z Z J ?_
  refine R0 ?_
  refine WX.cases 25 Z ?_ ?_ <;> intro h3
  ·skip
   have h3d := B.nt' h3
   refine R0 ?_
   have hP2 : a2g b a 0 = (some false) := by rw [v2, drop_get e1h]; simp only [a2g, e2h, h3, cT, cF]
   exact R4 Z (by simp only [a3o, h1, hP2, cT, cF])
  have h3d := B.nf' h3
  refine R0 ?_
  refine WX.see Z Z Z (fun _ hΓ => looks_arith Z Z Z Z τ2) ?_
  refine R0 ?_
  exact WX.iter (i + 1) ⟨τ1, (by rw [v2, drop_get e1h]; simp only [a2g, e2h, h3, cT, cF])⟩ τ4 (.cons Z (.cons Z (.cons Z (.nil)))) .nil .nil [0, 1] Z
 have h2d := B.df h2
 refine R0 ?_
 have hX1 : a2g b a 0 = none := by rw [v2, List.drop_eq_nil_of_le (show (a).length ≤ i by omega)]; simp only [a2g, cT, cF]
 exact R4 Z (by simp only [a3o, h1, hX1, cT, cF])
end Go.Proofs.YthdgpfbldbabmaaGreatDoor

namespace Go.Stp
set_option linter.unusedVariables false
set_option linter.unusedSimpArgs false
def a2h (a : DataP) (b : DataP) : Bool :=
 bif (a3e a.name b.name) then
  bif (a3o a.content b.content) then
   bif (a3e a.keyName b.keyName) then
    bif (a.freshUntil == b.freshUntil) then
     (a.signature == b.signature)
    else
     false
   else
    false
  else
   false
 else
  false
end Go.Stp

namespace Go.Proofs.YthdgpfbldbabmaaGreatDoor
open Go.Stp
set_option linter.unusedVariables false
set_option linter.unusedSimpArgs false
theorem f26 (w : World) (n : Nat) (hn : n + 0 ≤ 9) (a : DataP) (K0 M0) (N0 : RdSl (hp w) K0 M0 a.name.parts) (K1 M1) (N1 : RdSl (hp w) K1 M1 a.content) (K2 M2) (N2 : RdSl (hp w) K2 M2 a.keyName.parts) (b : DataP) (K3 M3) (N3 : RdSl (hp w) K3 M3 b.name.parts) (K4 M4) (N4 : RdSl (hp w) K4 M4 b.content) (K5 M5) (N5 : RdSl (hp w) K5 M5 b.keyName.parts) (hoka : GoT.ok n a) (hokb : GoT.ok n b) :
 Does Tryz.prog 26 #[.agg #[.slice K0 ((a.name.parts).length) M0, .slice K1 ((a.content).length) M1, .slice K2 ((a.keyName.parts).length) M2, .int .i64 (a.freshUntil), .int .i64 (a.signature)], .agg #[.slice K3 ((b.name.parts).length) M3, .slice K4 ((b.content).length) M4, .slice K5 ((b.keyName.parts).length) M5, .int .i64 (b.freshUntil), .int .i64 (b.signature)]] w emp (pB (a2h a b)) := by
 have hb := bS0 hn
 refine EN Tryz.func26 Z (aS6 N0 N1 N2 N3 N4 N5) ?_
 refine R0 ?_
 refine CV Z Z Z Z Z O Z (fun w γ => f27 w n τ1 a.name K0 M0 (γ.q 0 Z) b.name K3 M3 (γ.q 3 Z) ((ok_DataP hoka).1) ((ok_DataP hokb).1)) ?_
 intro hq1
 refine R0 ?_
 refine WX.cases 10 Z ?_ ?_ <;> intro h1
 ·skip
  refine R0 ?_
  refine CV Z Z Z Z Z O Z (fun w γ => f60 w n τ1 a.content K1 M1 (γ.q 1 Z) b.content K4 M4 (γ.q 4 Z) ((ok_DataP hoka).2.1) ((ok_DataP hokb).2.1)) ?_
  intro hq2
  refine R0 ?_
  refine WX.cases 17 Z ?_ ?_ <;> intro h2
  ·skip
   refine R0 ?_
   refine CV Z Z Z Z Z O Z (fun w γ => f27 w n τ1 a.keyName K2 M2 (γ.q 2 Z) b.keyName K5 M5 (γ.q 5 Z) ((ok_DataP hoka).2.2.1) ((ok_DataP hokb).2.2.1)) ?_
   intro hq3
   refine R0 ?_
   refine WX.cases 24 Z ?_ ?_ <;> intro h3
   ·skip
    refine R0 ?_
    refine WX.cases 31 Z ?_ ?_ <;> intro h4
    ·skip
     have h4d := B.et h4
     refine R0 ?_
     exact R4 Z (by simp only [a2h, h1, h2, h3, h4, cT, cF])
    have h4d := B.ef h4
    refine R0 ?_
    exact R4 Z (by simp only [a2h, h1, h2, h3, h4, cT, cF])
   refine R0 ?_
   exact R4 Z (by simp only [a2h, h1, h2, h3, cT, cF])
  refine R0 ?_
  exact R4 Z (by simp only [a2h, h1, h2, cT, cF])
 refine R0 ?_
 exact R4 Z (by simp only [a2h, h1, cT, cF])
end Go.Proofs.YthdgpfbldbabmaaGreatDoor

namespace Go.Stp
set_option linter.unusedVariables false
set_option linter.unusedSimpArgs false
def slices_Index_string_L1 (v : Str) : List Str → Nat → Option (Int)
 | [], i => none
 | e1 :: rest_, i =>
  bif ((v).toList == (e1).toList) then
   (some ((i : Nat) : Int))
  else
   slices_Index_string_L1 v rest_ (i + 1)
def slices_Index_string (s : (List Str)) (v : Str) : Int :=
 match slices_Index_string_L1 v s 0 with
  | some r_ => r_
  | none =>
   (-1)
def slices_Contains_string (s : (List Str)) (v : Str) : Bool :=
 (decide ((slices_Index_string s v) ≥ 0))
def a4u (secret : Int) : Bool :=
 (a0r secret 1 2147483646)
def a4v (secret : Int) : Bool :=
 (a0m secret 1 2147483646)
def a3p (s : Str) : Bool :=
 bif ((((s).size : Nat) : Int) == 2) then
  match ((s).data.toList)[0]? with
   | none => default
   | some e1 =>
    bif (((e1).toNat : Int) == 63) then
     match ((s).data.toList)[1]? with
      | none => default
      | some e2 =>
       bif decide (((e2).toNat : Int) ≥ 97) then
        (decide (((e2).toNat : Int) ≤ 122))
       else
        false
    else
     false
 else
  false
def a2a (s : Str) : Bool :=
 bif ((((s).size : Nat) : Int) == 2) then
  match ((s).data.toList)[0]? with
   | none => default
   | some e1 =>
    bif (((e1).toNat : Int) == 63) then
     match ((s).data.toList)[1]? with
      | none => default
      | some e2 =>
       (a0m ((e2).toNat : Int) 97 122)
    else
     false
 else
  false
def a1k (p_ : Pattern) : List Str → Nat → Option (Bool)
 | [], i => none
 | e1 :: rest_, i =>
  bif (!(a2x e1)) then
   bif (!((e1).toList == ((⟨#[42]⟩ : Str)).toList)) then
    bif (!(a3p e1)) then
     bif (!((e1).toList == ((⟨#[42, 42]⟩ : Str)).toList)) then
      (some false)
     else
      bif (((i : Nat) : Int) != IntKind.i64.wrap ((((p_.parts).length : Nat) : Int) - 1)) then
       (some false)
      else
       a1k p_ rest_ (i + 1)
    else
     a1k p_ rest_ (i + 1)
   else
    a1k p_ rest_ (i + 1)
  else
   a1k p_ rest_ (i + 1)
def a40 (p_ : Pattern) : Bool :=
 match a1k p_ p_.parts 0 with
  | some r_ => r_
  | none =>
   (decide ((((p_.parts).length : Nat) : Int) ≤ 6))
def a12 (p_ : Pattern) : List Str → Nat → Option (Bool)
 | [], i => none
 | e1 :: rest_, i =>
  bif (!(a1f e1)) then
   bif (!((e1).toList == ((⟨#[42]⟩ : Str)).toList)) then
    bif (!(a2a e1)) then
     bif (!((e1).toList == ((⟨#[42, 42]⟩ : Str)).toList)) then
      (some false)
     else
      bif decide (((i : Nat) : Int) < IntKind.i64.wrap ((((p_.parts).length : Nat) : Int) - 1)) then
       (some false)
      else
       a12 p_ rest_ (i + 1)
    else
     a12 p_ rest_ (i + 1)
   else
    a12 p_ rest_ (i + 1)
  else
   a12 p_ rest_ (i + 1)
def a2b (p_ : Pattern) : Bool :=
 match a12 p_ p_.parts 0 with
  | some r_ => r_
  | none =>
   (decide ((((p_.parts).length : Nat) : Int) ≤ 6))
def a34 (s : Str) : List Str → Option (Bool)
 | [] => none
 | e1 :: rest_ =>
  bif ((e1).toList == (s).toList) then
   (some true)
  else
   a34 s rest_
def a4h (p_ : Pattern) (s : Str) : Bool :=
 match a34 s p_.parts with
  | some r_ => r_
  | none =>
   false
def a2u (r : Rule) : List Str → Option (Bool)
 | [] => none
 | e1 :: rest_ =>
  bif (a3p e1) then
   bif (!(slices_Contains_string r.dataPattern.parts e1)) then
    (some false)
   else
    a2u r rest_
  else
   a2u r rest_
def a47 (r : Rule) : Bool :=
 bif (!(a40 r.dataPattern)) then
  false
 else
  bif (!(a40 r.keyPattern)) then
   false
  else
   match a2u r r.keyPattern.parts with
    | some r_ => r_
    | none =>
     true
def a2v (r : Rule) : List Str → Option (Bool)
 | [] => none
 | e1 :: rest_ =>
  bif (a2a e1) then
   bif (!(a4h r.dataPattern e1)) then
    (some false)
   else
    a2v r rest_
  else
   a2v r rest_
def a35 (r : Rule) : Bool :=
 bif (!(a2b r.dataPattern)) then
  false
 else
  bif (!(a2b r.keyPattern)) then
   false
  else
   match a2v r r.keyPattern.parts with
    | some r_ => r_
    | none =>
     true
def slices_IndexFunc_Rule_L1 (fq : Rule → Bool) : List Rule → Nat → Option (Int)
 | [], i => none
 | e1 :: rest_, i =>
  bif fq e1 then
   (some ((i : Nat) : Int))
  else
   slices_IndexFunc_Rule_L1 fq rest_ (i + 1)
def slices_IndexFunc_Rule (s : (List Rule)) (fq : Rule → Bool) : Int :=
 match slices_IndexFunc_Rule_L1 fq s 0 with
  | some r_ => r_
  | none =>
   (-1)
def slices_IndexFunc_Data_L1 (fq : DataP → Bool) : List DataP → Nat → Option (Int)
 | [], i => none
 | e1 :: rest_, i =>
  bif fq e1 then
   (some ((i : Nat) : Int))
  else
   slices_IndexFunc_Data_L1 fq rest_ (i + 1)
def slices_IndexFunc_Data (s : (List DataP)) (fq : DataP → Bool) : Int :=
 match slices_IndexFunc_Data_L1 fq s 0 with
  | some r_ => r_
  | none =>
   (-1)
def a2c (n_ : Name) : List Key → Nat → Option (Int)
 | [], i => none
 | e1 :: rest_, i =>
  bif (a22 e1.name n_) then
   (some ((i : Nat) : Int))
  else
   a2c n_ rest_ (i + 1)
def a1l (l : (List Key)) (n_ : Name) : Int :=
 match a2c n_ l 0 with
  | some r_ => r_
  | none =>
   (-1)
end Go.Stp

namespace Go.Proofs.YthdgpfbldbabmaaGreatDoor
open Go.Stp
set_option linter.unusedVariables false
set_option linter.unusedSimpArgs false
theorem f175 (w : World) (n : Nat) (hn : n + 0 ≤ 9) (s : (List Str)) (ps cs) (N0 : RdSl (hp w) ps cs s) (v : Str) (hoks : GoT.ok n s) (hokv : GoT.ok n v) :
 Does Tryz.prog 175 #[.slice ps ((s).length) cs, .string v] w emp (fun (rv : Value) (_ : World) => rv = .int .i64 ((slices_Index_string s v)) ∧ GoT.ok n ((slices_Index_string s v) : Int)) := by
 have hb := bS0 hn
 refine EN Tryz.func175 Z (aS1 N0) ?_
 refine R0 ?_
 have r1 : (s).length ≤ bd n := (okl hoks).1
 refine WX.loop (ι := Nat) ⟨fun i => (i ≤ (s).length) ∧ (slices_Index_string_L1 v s 0 = slices_Index_string_L1 v ((s).drop i) i), fun i => (s).length - i, fun i => [(8, .v (.int .i64 (((i : Nat) : Int)))), (7, .v (.int .i64 ((((s).length : Nat) : Int)))), (0, .v (.slice ps ((s).length) cs)), (1, .v (.string v))], fun i => [], fun i => [], fun i => [(0, MF.rs .stb ps cs s)]⟩ 0 ⟨(Nat.zero_le _), Z⟩
  (.cons Z (.cons Z (.cons Z (.cons Z (.nil))))) .nil .nil [0] Z ?_
 rintro i ⟨v1, v2⟩
 refine R0 ?_
 refine WX.cases 9 Z ?_ ?_ <;> intro h1
 ·skip
  have h1d := B.dt h1
  have e1i : i < (s).length := τ1
  obtain ⟨e1, e1h⟩ : ∃ e1, (s)[i]? = some e1 := ⟨_, List.getElem?_eq_getElem e1i⟩
  have ok1 : GoT.ok n e1 := (okl hoks).2 _ (List.mem_of_getElem? e1h)
  refine R0 ?_
  refine WX.idx 0 i ttOk Z Z Z Z Z Z Z Z Z Z e1i ?_
  rintro ad1 rfl
  refine WX.ldE 0 1 e1 ttOk Z Z Z Z Z Z Z Z e1h O O ?_
  rintro ⟨⟩
  refine R0 ?_
  refine WX.cases 16 Z ?_ ?_ <;> intro h2
  ·skip
   have h2d := B.et h2
   refine R0 ?_
   have hP1 : slices_Index_string_L1 v s 0 = (some ((i : Nat) : Int)) := by rw [v2, drop_get e1h]; simp only [slices_Index_string_L1, h2, cT, cF]
   have hP2 : slices_Index_string s v = ((i : Nat) : Int) := by simp only [slices_Index_string, hP1, cT, cF]
   refine R1 ?_
   intro w1 G bs hI hΓ
   rw [hP2]
   exact ⟨Z, (i6 ((i : Nat) : Int))⟩
  have h2d := B.ef h2
  refine R0 ?_
  refine WX.see Z Z Z (fun _ hΓ => looks_arith Z Z Z Z τ2) ?_
  refine R0 ?_
  exact WX.iter (i + 1) ⟨τ1, (by rw [v2, drop_get e1h]; simp only [slices_Index_string_L1, h2, cT, cF])⟩ τ4 (.cons Z (.cons Z (.cons Z (.cons Z (.nil))))) .nil .nil [0] Z
 have h1d := B.df h1
 refine R0 ?_
 have hX1 : slices_Index_string_L1 v s 0 = none := by rw [v2, List.drop_eq_nil_of_le (show (s).length ≤ i by omega)]; simp only [slices_Index_string_L1, cT, cF]
 have hP3 : slices_Index_string s v = (-1) := by simp only [slices_Index_string, hX1, cT, cF]
 refine R1 ?_
 intro w1 G bs hI hΓ
 rw [hP3]
 exact ⟨Z, (i6 (-1))⟩
theorem f171 (w : World) (n : Nat) (hn : n + 0 ≤ 9) (s : (List Str)) (ps cs) (N0 : RdSl (hp w) ps cs s) (v : Str) (hoks : GoT.ok n s) (hokv : GoT.ok n v) :
 Does Tryz.prog 171 #[.slice ps ((s).length) cs, .string v] w emp (pB (slices_Contains_string s v)) := by
 have hb := bS0 hn
 refine EN Tryz.func171 Z (aS1 N0) ?_
 refine R0 ?_
 refine CV Z Z Z Z Z O Z (fun w γ => f175 w n τ1 s ps cs (γ.q 0 Z) v hoks hokv) ?_
 intro hq1
 refine R0 ?_
 exact R4 Z (by simp only [slices_Contains_string, cT, cF])
theorem f125 (w : World) (n : Nat) (hn : n + 0 ≤ 9) (secret : Int) (hoksecret : GoT.ok n secret) :
 Does Tryz.prog 125 #[.int .i64 (secret)] w emp (pB (a4u secret)) := by
 have hb := bS0 hn
 refine EN Tryz.func125 Z allS_nil ?_
 refine R0 ?_
 refine CV Z Z Z Z Z O Z (fun w γ => f52 w n τ1 secret 1 2147483646 hoksecret (i6 1) (i6 2147483646)) ?_
 intro hq1
 refine R0 ?_
 exact R4 Z (by simp only [a4u, cT, cF])
theorem f139 (w : World) (n : Nat) (hn : n + 0 ≤ 9) (secret : Int) (hoksecret : GoT.ok n secret) :
 Does Tryz.prog 139 #[.int .i64 (secret)] w emp (pB (a4v secret)) := by
 have hb := bS0 hn
 refine EN Tryz.func139 Z allS_nil ?_
 refine R0 ?_
 refine CV Z Z Z Z Z O Z (fun w γ => f55 w n τ1 secret 1 2147483646 hoksecret (i6 1) (i6 2147483646)) ?_
 intro hq1
 refine R0 ?_
 exact R4 Z (by simp only [a4v, cT, cF])
theorem f170 (w : World) (n : Nat) (hn : n + 0 ≤ 9) (s : Str) (hoks : GoT.ok n s) :
 Does Tryz.prog 170 #[.string s] w emp (pB (a3p s)) := by
 have hb := bS0 hn
 refine EN Tryz.func170 Z allS_nil ?_
 refine R0 ?_
 refine WX.cases 6 Z ?_ ?_ <;> intro h1
 ·skip
  have h1d := B.et h1
  refine R0 ?_
  have e1i : 0 < ((s).data.toList).length := (by rw [show ((s).data.toList).length = (s).size from by simp]; omega)
  obtain ⟨e1, e1h⟩ : ∃ e1, ((s).data.toList)[0]? = some e1 := ⟨_, List.getElem?_eq_getElem e1i⟩
  refine WX.see Z Z Z (fun _ hΓ => looks_strIdx ttOk Z Z Z Z Z e1h) ?_
  refine R0 ?_
  refine WX.cases 11 Z ?_ ?_ <;> intro h2
  ·skip
   have h2d := B.et h2
   refine R0 ?_
   have e2i : 1 < ((s).data.toList).length := (by rw [show ((s).data.toList).length = (s).size from by simp]; omega)
   obtain ⟨e2, e2h⟩ : ∃ e2, ((s).data.toList)[1]? = some e2 := ⟨_, List.getElem?_eq_getElem e2i⟩
   refine WX.see Z Z Z (fun _ hΓ => looks_strIdx ttOk Z Z Z Z Z e2h) ?_
   refine R0 ?_
   refine WX.cases 16 Z ?_ ?_ <;> intro h3
   ·skip
    have h3d := B.dt h3
    refine R0 ?_
    refine WX.see Z Z Z (fun _ hΓ => looks_strIdx ttOk Z Z Z Z Z e2h) ?_
    refine R0 ?_
    exact R4 Z (by simp only [a3p, h1, e1h, h2, e2h, h3, cT, cF])
   have h3d := B.df h3
   refine R0 ?_
   exact R4 Z (by simp only [a3p, h1, e1h, h2, e2h, h3, cT, cF])
  have h2d := B.ef h2
  refine R0 ?_
  exact R4 Z (by simp only [a3p, h1, e1h, h2, cT, cF])
 have h1d := B.ef h1
 refine R0 ?_
 exact R4 Z (by simp only [a3p, h1, cT, cF])
theorem f154 (w : World) (n : Nat) (hn : n + 0 ≤ 9) (s : Str) (hoks : GoT.ok n s) :
 Does Tryz.prog 154 #[.string s] w emp (pB (a2a s)) := by
 have hb := bS0 hn
 refine EN Tryz.func154 Z allS_nil ?_
 refine R0 ?_
 refine WX.cases 6 Z ?_ ?_ <;> intro h1
 ·skip
  have h1d := B.et h1
  refine R0 ?_
  have e1i : 0 < ((s).data.toList).length := (by rw [show ((s).data.toList).length = (s).size from by simp]; omega)
  obtain ⟨e1, e1h⟩ : ∃ e1, ((s).data.toList)[0]? = some e1 := ⟨_, List.getElem?_eq_getElem e1i⟩
  refine WX.see Z Z Z (fun _ hΓ => looks_strIdx ttOk Z Z Z Z Z e1h) ?_
  refine R0 ?_
  refine WX.cases 11 Z ?_ ?_ <;> intro h2
  ·skip
   have h2d := B.et h2
   refine R0 ?_
   have e2i : 1 < ((s).data.toList).length := (by rw [show ((s).data.toList).length = (s).size from by simp]; omega)
   obtain ⟨e2, e2h⟩ : ∃ e2, ((s).data.toList)[1]? = some e2 := ⟨_, List.getElem?_eq_getElem e2i⟩
   refine WX.see Z Z Z (fun _ hΓ => looks_strIdx ttOk Z Z Z Z Z e2h) ?_
   refine WX.see Z Z Z (fun _ hΓ => looks_ofU8 ttOk Z Z Z Z Z Z) ?_
   have r1 : (e2).toNat < 256 := UInt8.toNat_lt _
   refine CV Z Z Z Z Z O Z (fun w γ => f55 w n τ1 ((e2).toNat : Int) 97 122 (i6 ((e2).toNat : Int)) (i6 97) (i6 122)) ?_
   intro hq1
   refine R0 ?_
   exact R4 Z (by simp only [a2a, h1, e1h, h2, e2h, cT, cF])
  have h2d := B.ef h2
  refine R0 ?_
  exact R4 Z (by simp only [a2a, h1, e1h, h2, cT, cF])
 have h1d := B.ef h1
 refine R0 ?_
 exact R4 Z (by simp only [a2a, h1, cT, cF])
theorem f167 (w : World) (n : Nat) (hn : n + 0 ≤ 9) (p_ : Pattern) (K0 M0) (N0 : RdSl (hp w) K0 M0 p_.parts) (hokp_ : GoT.ok n p_) :
 Does Tryz.prog 167 #[.agg #[.slice K0 ((p_.parts).length) M0]] w emp (pB (a40 p_)) := by
 have hb := bS0 hn
 refine EN Tryz.func167 Z (aS1 N0) ?_
 refine R0 ?_
 have r1 : (p_.parts).length ≤ bd n := (okl (ok_Pattern hokp_)).1
 refine WX.loop (ι := Nat) ⟨fun i => (i ≤ (p_.parts).length) ∧ (a1k p_ p_.parts 0 = a1k p_ ((p_.parts).drop i) i), fun i => (p_.parts).length - i, fun i => [(8, .v (.int .i64 (((i : Nat) : Int)))), (7, .v (.int .i64 ((((p_.parts).length : Nat) : Int)))), (6, .v (.slice K0 ((p_.parts).length) M0)), (1, .p 1 0)], fun i => [(1, ⟨128, [.slice K0 ((p_.parts).length) M0]⟩)], fun i => [], fun i => [(0, MF.rs .stb K0 M0 p_.parts)]⟩ 0 ⟨(Nat.zero_le _), Z⟩
  (.cons Z (.cons Z (.cons Z (.cons Z (.nil))))) (.cons Z (.nil)) .nil [0] Z ?_
 rintro i ⟨v1, v2⟩
 refine R0 ?_
 refine WX.cases 9 Z ?_ ?_ <;> intro h1
 ·skip
  have h1d := B.dt h1
  have e1i : i < (p_.parts).length := τ1
  obtain ⟨e1, e1h⟩ : ∃ e1, (p_.parts)[i]? = some e1 := ⟨_, List.getElem?_eq_getElem e1i⟩
  have ok1 : GoT.ok n e1 := (okl (ok_Pattern hokp_)).2 _ (List.mem_of_getElem? e1h)
  refine R0 ?_
  refine WX.idx 0 i ttOk Z Z Z Z Z Z Z Z Z Z e1i ?_
  rintro ad1 rfl
  refine WX.ldE 0 1 e1 ttOk Z Z Z Z Z Z Z Z e1h O O ?_
  rintro ⟨⟩
  refine R0 ?_
  refine CV Z Z Z Z Z O Z (fun w γ => f82 w n τ1 e1 ok1) ?_
  intro hq1
  refine R0 ?_
  refine WX.cases 16 Z ?_ ?_ <;> intro h2
  ·skip
   have h2d := (B.nt h2)
   refine R0 ?_
   refine WX.cases 20 Z ?_ ?_ <;> intro h3
   ·skip
    have h3d := B.ef (B.nt h3)
    refine R0 ?_
    refine CV Z Z Z Z Z O Z (fun w γ => f170 w n τ1 e1 ok1) ?_
    intro hq2
    refine R0 ?_
    refine WX.cases 25 Z ?_ ?_ <;> intro h4
    ·skip
     have h4d := (B.nt h4)
     refine R0 ?_
     refine WX.cases 28 Z ?_ ?_ <;> intro h5
     ·skip
      have h5d := B.ef (B.nt h5)
      refine R0 ?_
      have hP1 : a1k p_ p_.parts 0 = (some false) := by rw [v2, drop_get e1h]; simp only [a1k, h2, h3, h4, h5, cT, cF]
      exact R4 Z (by simp only [a40, hP1, cT, cF])
     have h5d := B.et (B.nf h5)
     refine R0 ?_
     refine WX.see Z Z Z (fun _ hΓ => looks_wrap Z Z Z Z) ?_
     refine R0 ?_
     refine WX.cases 36 Z ?_ ?_ <;> intro h6
     ·skip
      have h6d := B.nt' h6
      refine R0 ?_
      have hP3 : a1k p_ p_.parts 0 = (some false) := by rw [v2, drop_get e1h]; simp only [a1k, h2, h3, h4, h5, h6, cT, cF]
      exact R4 Z (by simp only [a40, hP3, cT, cF])
     have h6d := B.nf' h6
     refine R0 ?_
     refine WX.see Z Z Z (fun _ hΓ => looks_arith Z Z Z Z τ2) ?_
     refine R0 ?_
     exact WX.iter (i + 1) ⟨τ1, (by rw [v2, drop_get e1h]; simp only [a1k, h2, h3, h4, h5, h6, cT, cF])⟩ τ4 (.cons Z (.cons Z (.cons Z (.cons Z (.nil))))) (.cons Z (.nil)) .nil [0] Z
    have h4d := (B.nf h4)
    refine R0 ?_
    refine WX.see Z Z Z (fun _ hΓ => looks_arith Z Z Z Z τ2) ?_
    refine R0 ?_
    exact WX.iter (i + 1) ⟨τ1, (by rw [v2, drop_get e1h]; simp only [a1k, h2, h3, h4, cT, cF])⟩ τ4 (.cons Z (.cons Z (.cons Z (.cons Z (.nil))))) (.cons Z (.nil)) .nil [0] Z
   have h3d := B.et (B.nf h3)
   refine R0 ?_
   refine WX.see Z Z Z (fun _ hΓ => looks_arith Z Z Z Z τ2) ?_
   refine R0 ?_
   exact WX.iter (i + 1) ⟨τ1, (by rw [v2, drop_get e1h]; simp only [a1k, h2, h3, cT, cF])⟩ τ4 (.cons Z (.cons Z (.cons Z (.cons Z (.nil))))) (.cons Z (.nil)) .nil [0] Z
  have h2d := (B.nf h2)
  refine R0 ?_
  refine WX.see Z Z Z (fun _ hΓ => looks_arith Z Z Z Z τ2) ?_
  refine R0 ?_
  exact WX.iter (i + 1) ⟨τ1, (by rw [v2, drop_get e1h]; simp only [a1k, h2, cT, cF])⟩ τ4 (.cons Z (.cons Z (.cons Z (.cons Z (.nil))))) (.cons Z (.nil)) .nil [0] Z
 have h1d := B.df h1
 refine R0 ?_
 have hX1 : a1k p_ p_.parts 0 = none := by rw [v2, List.drop_eq_nil_of_le (show (p_.parts).length ≤ i by omega)]; simp only [a1k, cT, cF]
 exact R4 Z (by simp only [a40, hX1, cT, cF])
theorem f153 (w : World) (n : Nat) (hn : n + 0 ≤ 9) (p_ : Pattern) (K0 M0) (N0 : RdSl (hp w) K0 M0 p_.parts) (hokp_ : GoT.ok n p_) :
 Does Tryz.prog 153 #[.agg #[.slice K0 ((p_.parts).length) M0]] w emp (pB (a2b p_)) := by
 have hb := bS0 hn
 refine EN Tryz.func153 Z (aS1 N0) ?_
 refine R0 ?_
 have r1 : (p_.parts).length ≤ bd n := (okl (ok_Pattern hokp_)).1
 refine WX.loop (ι := Nat) ⟨fun i => (i ≤ (p_.parts).length) ∧ (a12 p_ p_.parts 0 = a12 p_ ((p_.parts).drop i) i), fun i => (p_.parts).length - i, fun i => [(3, .v (.int .i64 (((i : Nat) : Int)))), (1, .p 1 0)], fun i => [(1, ⟨128, [.slice K0 ((p_.parts).length) M0]⟩)], fun i => [], fun i => [(0, MF.rs .stb K0 M0 p_.parts)]⟩ 0 ⟨(Nat.zero_le _), Z⟩
  (.cons Z (.cons Z (.nil))) (.cons Z (.nil)) .nil [0] Z ?_
 rintro i ⟨v1, v2⟩
 refine R0 ?_
 refine WX.cases 9 Z ?_ ?_ <;> intro h1
 ·skip
  have h1d := B.dt h1
  have e1i : i < (p_.parts).length := τ1
  obtain ⟨e1, e1h⟩ : ∃ e1, (p_.parts)[i]? = some e1 := ⟨_, List.getElem?_eq_getElem e1i⟩
  have ok1 : GoT.ok n e1 := (okl (ok_Pattern hokp_)).2 _ (List.mem_of_getElem? e1h)
  refine R0 ?_
  refine WX.idx 0 i ttOk Z Z Z Z Z Z Z Z Z Z e1i ?_
  rintro ad1 rfl
  refine WX.ldE 0 1 e1 ttOk Z Z Z Z Z Z Z Z e1h O O ?_
  rintro ⟨⟩
  refine R0 ?_
  refine CV Z Z Z Z Z O Z (fun w γ => f83 w n τ1 e1 ok1) ?_
  intro hq1
  refine R0 ?_
  refine WX.cases 20 Z ?_ ?_ <;> intro h2
  ·skip
   have h2d := (B.nt h2)
   refine R0 ?_
   refine WX.cases 24 Z ?_ ?_ <;> intro h3
   ·skip
    have h3d := B.ef (B.nt h3)
    refine R0 ?_
    refine CV Z Z Z Z Z O Z (fun w γ => f154 w n τ1 e1 ok1) ?_
    intro hq2
    refine R0 ?_
    refine WX.cases 29 Z ?_ ?_ <;> intro h4
    ·skip
     have h4d := (B.nt h4)
     refine R0 ?_
     refine WX.cases 32 Z ?_ ?_ <;> intro h5
     ·skip
      have h5d := B.ef (B.nt h5)
      refine R0 ?_
      have hP1 : a12 p_ p_.parts 0 = (some false) := by rw [v2, drop_get e1h]; simp only [a12, h2, h3, h4, h5, cT, cF]
      exact R4 Z (by simp only [a2b, hP1, cT, cF])
     have h5d := B.et (B.nf h5)
     refine R0 ?_
     refine WX.see Z Z Z (fun _ hΓ => looks_wrap Z Z Z Z) ?_
     refine R0 ?_
     refine WX.cases 40 Z ?_ ?_ <;> intro h6
     ·skip
      have h6d := B.dt h6
      refine R0 ?_
      have hP3 : a12 p_ p_.parts 0 = (some false) := by rw [v2, drop_get e1h]; simp only [a12, h2, h3, h4, h5, h6, cT, cF]
      exact R4 Z (by simp only [a2b, hP3, cT, cF])
     have h6d := B.df h6
     refine R0 ?_
     refine WX.see Z Z Z (fun _ hΓ => looks_arith Z Z Z Z τ2) ?_
     refine R0 ?_
     exact WX.iter (i + 1) ⟨τ1, (by rw [v2, drop_get e1h]; simp only [a12, h2, h3, h4, h5, h6, cT, cF])⟩ τ4 (.cons Z (.cons Z (.nil))) (.cons Z (.nil)) .nil [0] Z
    have h4d := (B.nf h4)
    refine R0 ?_
    refine WX.see Z Z Z (fun _ hΓ => looks_arith Z Z Z Z τ2) ?_
    refine R0 ?_
    exact WX.iter (i + 1) ⟨τ1, (by rw [v2, drop_get e1h]; simp only [a12, h2, h3, h4, cT, cF])⟩ τ4 (.cons Z (.cons Z (.nil))) (.cons Z (.nil)) .nil [0] Z
   have h3d := B.et (B.nf h3)
   refine R0 ?_
   refine WX.see Z Z Z (fun _ hΓ => looks_arith Z Z Z Z τ2) ?_
   refine R0 ?_
   exact WX.iter (i + 1) ⟨τ1, (by rw [v2, drop_get e1h]; simp only [a12, h2, h3, cT, cF])⟩ τ4 (.cons Z (.cons Z (.nil))) (.cons Z (.nil)) .nil [0] Z
  have h2d := (B.nf h2)
  refine R0 ?_
  refine WX.see Z Z Z (fun _ hΓ => looks_arith Z Z Z Z τ2) ?_
  refine R0 ?_
  exact WX.iter (i + 1) ⟨τ1, (by rw [v2, drop_get e1h]; simp only [a12, h2, cT, cF])⟩ τ4 (.cons Z (.cons Z (.nil))) (.cons Z (.nil)) .nil [0] Z
 have h1d := B.df h1
 refine R0 ?_
 have hX1 : a12 p_ p_.parts 0 = none := by rw [v2, List.drop_eq_nil_of_le (show (p_.parts).length ≤ i by omega)]; simp only [a12, cT, cF]
 exact R4 Z (by simp only [a2b, hX1, cT, cF])
theorem f155 (w : World) (n : Nat) (hn : n + 0 ≤ 9) (p_ : Pattern) (K0 M0) (N0 : RdSl (hp w) K0 M0 p_.parts) (s : Str) (hokp_ : GoT.ok n p_) (hoks : GoT.ok n s) :
 Does Tryz.prog 155 #[.agg #[.slice K0 ((p_.parts).length) M0], .string s] w emp (pB (a4h p_ s)) := by
 have hb := bS0 hn
 refine EN Tryz.func155 Z (aS1 N0) ?_
 refine R0 ?_
 have r1 : (p_.parts).length ≤ bd n := (okl (ok_Pattern hokp_)).1
 refine WX.loop (ι := Nat) ⟨fun i => (i ≤ (p_.parts).length) ∧ (a34 s p_.parts = a34 s ((p_.parts).drop i)), fun i => (p_.parts).length - i, fun i => [(5, .v (.int .i64 (((i : Nat) : Int)))), (2, .p 2 0), (1, .v (.string s))], fun i => [(2, ⟨128, [.slice K0 ((p_.parts).length) M0]⟩)], fun i => [], fun i => [(0, MF.rs .stb K0 M0 p_.parts)]⟩ 0 ⟨(Nat.zero_le _), Z⟩
  (.cons Z (.cons Z (.cons Z (.nil)))) (.cons Z (.nil)) .nil [0] Z ?_
 rintro i ⟨v1, v2⟩
 refine R0 ?_
 refine WX.cases 10 Z ?_ ?_ <;> intro h1
 ·skip
  have h1d := B.dt h1
  have e1i : i < (p_.parts).length := τ1
  obtain ⟨e1, e1h⟩ : ∃ e1, (p_.parts)[i]? = some e1 := ⟨_, List.getElem?_eq_getElem e1i⟩
  have ok1 : GoT.ok n e1 := (okl (ok_Pattern hokp_)).2 _ (List.mem_of_getElem? e1h)
  refine R0 ?_
  refine WX.idx 0 i ttOk Z Z Z Z Z Z Z Z Z Z e1i ?_
  rintro ad1 rfl
  refine WX.ldE 0 1 e1 ttOk Z Z Z Z Z Z Z Z e1h O O ?_
  rintro ⟨⟩
  refine R0 ?_
  refine WX.cases 19 Z ?_ ?_ <;> intro h2
  ·skip
   have h2d := B.et h2
   refine R0 ?_
   have hP1 : a34 s p_.parts = (some true) := by rw [v2, drop_get e1h]; simp only [a34, h2, cT, cF]
   exact R4 Z (by simp only [a4h, hP1, cT, cF])
  have h2d := B.ef h2
  refine R0 ?_
  refine WX.see Z Z Z (fun _ hΓ => looks_arith Z Z Z Z τ2) ?_
  refine R0 ?_
  exact WX.iter (i + 1) ⟨τ1, (by rw [v2, drop_get e1h]; simp only [a34, h2, cT, cF])⟩ τ4 (.cons Z (.cons Z (.cons Z (.nil)))) (.cons Z (.nil)) .nil [0] Z
 have h1d := B.df h1
 refine R0 ?_
 have hX1 : a34 s p_.parts = none := by rw [v2, List.drop_eq_nil_of_le (show (p_.parts).length ≤ i by omega)]; simp only [a34, cT, cF]
 exact R4 Z (by simp only [a4h, hX1, cT, cF])
theorem f151 (w : World) (n : Nat) (hn : n + 0 ≤ 9) (r : Rule) (K0 M0) (N0 : RdSl (hp w) K0 M0 r.dataPattern.parts) (K1 M1) (N1 : RdSl (hp w) K1 M1 r.keyPattern.parts) (hokr : GoT.ok n r) :
 Does Tryz.prog 151 #[.agg #[.slice K0 ((r.dataPattern.parts).length) M0, .slice K1 ((r.keyPattern.parts).length) M1]] w emp (pB (a47 r)) := by
 have hb := bS0 hn
 refine EN Tryz.func151 Z (aS2 N0 N1) ?_
 refine R0 ?_
 refine CV Z Z Z Z Z O Z (fun w γ => f167 w n τ1 r.dataPattern K0 M0 (γ.q 0 Z) ((ok_Rule hokr).1)) ?_
 intro hq1
 refine R0 ?_
 refine WX.cases 9 Z ?_ ?_ <;> intro h1
 ·skip
  have h1d := (B.nt h1)
  refine R0 ?_
  exact R4 Z (by simp only [a47, h1, cT, cF])
 have h1d := (B.nf h1)
 refine R0 ?_
 refine CV Z Z Z Z Z O Z (fun w γ => f167 w n τ1 r.keyPattern K1 M1 (γ.q 1 Z) ((ok_Rule hokr).2)) ?_
 intro hq2
 refine R0 ?_
 refine WX.cases 14 Z ?_ ?_ <;> intro h2
 ·skip
  have h2d := (B.nt h2)
  refine R0 ?_
  exact R4 Z (by simp only [a47, h1, h2, cT, cF])
 have h2d := (B.nf h2)
 refine R0 ?_
 have r1 : (r.keyPattern.parts).length ≤ bd n := (okl (ok_Pattern (ok_Rule hokr).2)).1
 refine WX.loop (ι := Nat) ⟨fun i => (i ≤ (r.keyPattern.parts).length) ∧ (a2u r r.keyPattern.parts = a2u r ((r.keyPattern.parts).drop i)), fun i => (r.keyPattern.parts).length - i, fun i => [(19, .v (.int .i64 (((i : Nat) : Int)))), (18, .v (.int .i64 ((((r.keyPattern.parts).length : Nat) : Int)))), (17, .v (.slice K1 ((r.keyPattern.parts).length) M1)), (1, .p 1 0)], fun i => [(1, ⟨130, [.slice K0 ((r.dataPattern.parts).length) M0, .slice K1 ((r.keyPattern.parts).length) M1]⟩)], fun i => [], fun i => [(0, MF.rs .stb K0 M0 r.dataPattern.parts), (1, MF.rs .stb K1 M1 r.keyPattern.parts)]⟩ 0 ⟨(Nat.zero_le _), Z⟩
  (.cons Z (.cons Z (.cons Z (.cons Z (.nil))))) (.cons Z (.nil)) .nil [0, 1] Z ?_
 rintro i ⟨v1, v2⟩
 refine R0 ?_
 refine WX.cases 20 Z ?_ ?_ <;> intro h3
 ·skip
  have h3d := B.dt h3
  have e1i : i < (r.keyPattern.parts).length := τ1
  obtain ⟨e1, e1h⟩ : ∃ e1, (r.keyPattern.parts)[i]? = some e1 := ⟨_, List.getElem?_eq_getElem e1i⟩
  have ok1 : GoT.ok n e1 := (okl (ok_Pattern (ok_Rule hokr).2)).2 _ (List.mem_of_getElem? e1h)
  refine R0 ?_
  refine WX.idx 1 i ttOk Z Z Z Z Z Z Z Z Z Z e1i ?_
  rintro ad1 rfl
  refine WX.ldE 1 2 e1 ttOk Z Z Z Z Z Z Z Z e1h O O ?_
  rintro ⟨⟩
  refine R0 ?_
  refine CV Z Z Z Z Z O Z (fun w γ => f170 w n τ1 e1 ok1) ?_
  intro hq3
  refine R0 ?_
  refine WX.cases 25 Z ?_ ?_ <;> intro h4
  ·skip
   refine R0 ?_
   refine CV Z Z Z Z Z O Z (fun w γ => f171 w n τ1 r.dataPattern.parts K0 M0 (γ.q 0 Z) e1 (ok_Pattern (ok_Rule hokr).1) ok1) ?_
   intro hq4
   refine R0 ?_
   refine WX.cases 32 Z ?_ ?_ <;> intro h5
   ·skip
    have h5d := (B.nt h5)
    refine R0 ?_
    have hP3 : a2u r r.keyPattern.parts = (some false) := by rw [v2, drop_get e1h]; simp only [a2u, h4, h5, cT, cF]
    exact R4 Z (by simp only [a47, h1, h2, hP3, cT, cF])
   have h5d := (B.nf h5)
   refine R0 ?_
   refine WX.see Z Z Z (fun _ hΓ => looks_arith Z Z Z Z τ2) ?_
   refine R0 ?_
   exact WX.iter (i + 1) ⟨τ1, (by rw [v2, drop_get e1h]; simp only [a2u, h4, h5, cT, cF])⟩ τ4 (.cons Z (.cons Z (.cons Z (.cons Z (.nil))))) (.cons Z (.nil)) .nil [0, 1] Z
  refine R0 ?_
  refine WX.see Z Z Z (fun _ hΓ => looks_arith Z Z Z Z τ2) ?_
  refine R0 ?_
  exact WX.iter (i + 1) ⟨τ1, (by rw [v2, drop_get e1h]; simp only [a2u, h4, cT, cF])⟩ τ4 (.cons Z (.cons Z (.cons Z (.cons Z (.nil))))) (.cons Z (.nil)) .nil [0, 1] Z
 have h3d := B.df h3
 refine R0 ?_
 have hX1 : a2u r r.keyPattern.parts = none := by rw [v2, List.drop_eq_nil_of_le (show (r.keyPattern.parts).length ≤ i by omega)]; simp only [a2u, cT, cF]
 exact R4 Z (by simp only [a47, h1, h2, hX1, cT, cF])
theorem f138 (w : World) (n : Nat) (hn : n + 0 ≤ 9) (r : Rule) (K0 M0) (N0 : RdSl (hp w) K0 M0 r.dataPattern.parts) (K1 M1) (N1 : RdSl (hp w) K1 M1 r.keyPattern.parts) (hokr : GoT.ok n r) :
 Does Tryz.prog 138 #[.agg #[.slice K0 ((r.dataPattern.parts).length) M0, .slice K1 ((r.keyPattern.parts).length) M1]] w emp (pB (a35 r)) := by
 have hb := bS0 hn
 refine EN Tryz.func138 Z (aS2 N0 N1) ?_
 refine R0 ?_
 refine CV Z Z Z Z Z O Z (fun w γ => f153 w n τ1 r.dataPattern K0 M0 (γ.q 0 Z) ((ok_Rule hokr).1)) ?_
 intro hq1
 refine R0 ?_
 refine WX.cases 8 Z ?_ ?_ <;> intro h1
 ·skip
  have h1d := (B.nt h1)
  refine R0 ?_
  exact R4 Z (by simp only [a35, h1, cT, cF])
 have h1d := (B.nf h1)
 refine R0 ?_
 refine CV Z Z Z Z Z O Z (fun w γ => f153 w n τ1 r.keyPattern K1 M1 (γ.q 1 Z) ((ok_Rule hokr).2)) ?_
 intro hq2
 refine R0 ?_
 refine WX.cases 13 Z ?_ ?_ <;> intro h2
 ·skip
  have h2d := (B.nt h2)
  refine R0 ?_
  exact R4 Z (by simp only [a35, h1, h2, cT, cF])
 have h2d := (B.nf h2)
 refine R0 ?_
 have r1 : (r.keyPattern.parts).length ≤ bd n := (okl (ok_Pattern (ok_Rule hokr).2)).1
 refine WX.loop (ι := Nat) ⟨fun i => (i ≤ (r.keyPattern.parts).length) ∧ (a2v r r.keyPattern.parts = a2v r ((r.keyPattern.parts).drop i)), fun i => (r.keyPattern.parts).length - i, fun i => [(3, .v (.int .i64 (((i : Nat) : Int)))), (1, .p 1 0)], fun i => [(1, ⟨130, [.slice K0 ((r.dataPattern.parts).length) M0, .slice K1 ((r.keyPattern.parts).length) M1]⟩)], fun i => [], fun i => [(0, MF.rs .stb K0 M0 r.dataPattern.parts), (1, MF.rs .stb K1 M1 r.keyPattern.parts)]⟩ 0 ⟨(Nat.zero_le _), Z⟩
  (.cons Z (.cons Z (.nil))) (.cons Z (.nil)) .nil [0, 1] Z ?_
 rintro i ⟨v1, v2⟩
 refine R0 ?_
 refine WX.cases 19 Z ?_ ?_ <;> intro h3
 ·skip
  have h3d := B.dt h3
  have e1i : i < (r.keyPattern.parts).length := τ1
  obtain ⟨e1, e1h⟩ : ∃ e1, (r.keyPattern.parts)[i]? = some e1 := ⟨_, List.getElem?_eq_getElem e1i⟩
  have ok1 : GoT.ok n e1 := (okl (ok_Pattern (ok_Rule hokr).2)).2 _ (List.mem_of_getElem? e1h)
  refine R0 ?_
  refine WX.draw [] mixed ?_
  intro bs G0 hΓ0
  refine DX.takes (fuel := 15) ttOk [(0, true), (1, true), (2, false), (3, true)] J Z ?_
  refine DX.idx 4 1 i ttOk hΓ0 J Z Z Z Z Z Z Z Z Z Z Z e1i ?_
  rintro ad1 rfl
  refine DX.ldE 5 1 2 e1 ttOk hΓ0 J Z Z Z Z Z Z Z Z e1h O O ?_
  rintro ⟨⟩
  refine DXV 6 Z J Z Z Z Z Z Z O Z (fun w γ => f154 w n τ1 e1 ok1) ?_
  intro hq3
  refine DX.takes (fuel := 11) ttOk [(7, true)] J Z ?_
  refine DX.cases 29 Z ?_ ?_ <;> intro h4
  ·skip
   refine DX.takes (fuel := 5) ttOk [(8, true), (9, false), (10, true), (11, true), (12, false), (13, true)] J Z ?_
   refine DX.idx 14 1 i ttOk hΓ0 J Z Z Z Z Z Z Z Z Z Z Z e1i ?_
   rintro ad2 ⟨⟩
   refine DX.ldE 15 1 2 e1 ttOk hΓ0 J Z Z Z Z Z Z Z Z e1h O O ?_
   rintro ⟨⟩
   refine DXV 16 Z J Z Z Z Z Z Z O Z (fun w γ => f155 w n τ1 r.dataPattern K0 M0 (γ.q 0 Z) e1 ((ok_Rule hokr).1) ok1) ?_
   intro hq4
   refine DX.takes (fuel := 0) ttOk [(17, true), (18, true)] J Z ?_
   refine DX.tail2 [] Z Z J ?_
   refine R0 ?_
   refine WX.cases 40 Z ?_ ?_ <;> intro h5
   ·skip
    have h5d := (B.nt h5)
    refine R0 ?_
    have hP3 : a2v r r.keyPattern.parts = (some false) := by rw [v2, drop_get e1h]; simp only [a2v, h4, h5, cT, cF]
    exact R4 Z (by simp only [a35, h1, h2, hP3, cT, cF])
   have h5d := (B.nf h5)
   refine R0 ?_
   refine WX.see Z Z Z (fun _ hΓ => looks_arith Z Z Z Z τ2) ?_
   refine R0 ?_
   exact WX.iter (i + 1) ⟨τ1, (by rw [v2, drop_get e1h]; simp only [a2v, h4, h5, cT, cF])⟩ τ4 (.cons Z (.cons Z (.nil))) (.cons Z (.nil)) .nil [0, 1] Z
  refine DX.takes (fuel := 0) ttOk [(8, true), (9, true), (10, true), (11, true), (12, true), (13, true), (14, true), (15, true), (16, true), (17, true), (18, true)] J Z ?_
  refine DX.tail2 [] Z Z J ?_
  refine R0 ?_
  refine WX.see Z Z Z (fun _ hΓ => looks_arith Z Z Z Z τ2) ?_
  refine R0 ?_
  exact WX.iter (i + 1) ⟨τ1, (by rw [v2, drop_get e1h]; simp only [a2v, h4, cT, cF])⟩ τ4 (.cons Z (.cons Z (.nil))) (.cons Z (.nil)) .nil [0, 1] Z
 have h3d := B.df h3
 refine R0 ?_
 have hX1 : a2v r r.keyPattern.parts = none := by rw [v2, List.drop_eq_nil_of_le (show (r.keyPattern.parts).length ≤ i by omega)]; simp only [a2v, cT, cF]
 exact R4 Z (by simp only [a35, h1, h2, hX1, cT, cF])
theorem f128 (w : World) (n : Nat) (hn : n + 0 ≤ 9) (s : (List Rule)) (ps cs) (N0 : RdSl (hp w) ps cs s) (fg : FuncId) (fc : List Value) (fq : Rule → Bool) (ff : ∀ w1, Kp emp w w1 → ∀ (e0 : Rule) (x0 : GoT.X Rule), GoT.ok n e0 → All (hp w1) (GoT.fa .der e0 x0) → Does Tryz.prog fg ([Value.agg ⟨GoT.sh e0 x0⟩] ++ fc).toArray w1 emp (fun rv _ => rv = .bool (fq e0) ∧ True)) (hoks : GoT.ok n s) :
 Does Tryz.prog 128 #[.slice ps ((s).length) cs, .func (.func fg) #[] fc.toArray] w emp (fun (rv : Value) (_ : World) => rv = .int .i64 ((slices_IndexFunc_Rule s fq)) ∧ GoT.ok n ((slices_IndexFunc_Rule s fq) : Int)) := by
 have hb := bS0 hn
 refine EN Tryz.func128 Z (aS1 N0) ?_
 refine R0 ?_
 have r1 : (s).length ≤ bd n := (okl hoks).1
 refine WX.loop (ι := Nat) ⟨fun i => (i ≤ (s).length) ∧ (slices_IndexFunc_Rule_L1 fq s 0 = slices_IndexFunc_Rule_L1 fq ((s).drop i) i), fun i => (s).length - i, fun i => [(8, .v (.int .i64 (((i : Nat) : Int)))), (7, .v (.int .i64 ((((s).length : Nat) : Int)))), (0, .v (.slice ps ((s).length) cs)), (1, .v (.func (.func fg) #[] fc.toArray))], fun i => [], fun i => [], fun i => [(0, MF.rs .stb ps cs s)]⟩ 0 ⟨(Nat.zero_le _), Z⟩
  (.cons Z (.cons Z (.cons Z (.cons Z (.nil))))) .nil .nil [0] Z ?_
 rintro i ⟨v1, v2⟩
 refine R0 ?_
 refine WX.cases 9 Z ?_ ?_ <;> intro h1
 ·skip
  have h1d := B.dt h1
  have e1i : i < (s).length := τ1
  obtain ⟨e1, e1h⟩ : ∃ e1, (s)[i]? = some e1 := ⟨_, List.getElem?_eq_getElem e1i⟩
  have ok1 : GoT.ok n e1 := (okl hoks).2 _ (List.mem_of_getElem? e1h)
  refine R0 ?_
  refine WX.idx 0 i ttOk Z Z Z Z Z Z Z Z Z Z e1i ?_
  rintro ad1 rfl
  refine WX.ldE 0 1 e1 ttOk Z Z Z Z Z Z Z Z e1h O O ?_
  rintro ⟨⟨p1, c1⟩, ⟨p2, c2⟩⟩
  refine WX.callV Z Z Z Z Z O Z (fun w G bs hI hΓ => ff w hI.keep e1 ((p1, c1), (p2, c2)) ok1 (All.cons (hΓ.get 1 Z : RdSl _ _ _ _) (All.cons (hΓ.get 2 Z : RdSl _ _ _ _) All.nil))) ?_
  intro hq1
  refine R0 ?_
  refine WX.cases 16 Z ?_ ?_ <;> intro h2
  ·skip
   refine R0 ?_
   have hP1 : slices_IndexFunc_Rule_L1 fq s 0 = (some ((i : Nat) : Int)) := by rw [v2, drop_get e1h]; simp only [slices_IndexFunc_Rule_L1, h2, cT, cF]
   have hP2 : slices_IndexFunc_Rule s fq = ((i : Nat) : Int) := by simp only [slices_IndexFunc_Rule, hP1, cT, cF]
   refine R1 ?_
   intro w1 G bs hI hΓ
   rw [hP2]
   exact ⟨Z, (i6 ((i : Nat) : Int))⟩
  refine R0 ?_
  refine WX.see Z Z Z (fun _ hΓ => looks_arith Z Z Z Z τ2) ?_
  refine R0 ?_
  exact WX.iter (i + 1) ⟨τ1, (by rw [v2, drop_get e1h]; simp only [slices_IndexFunc_Rule_L1, h2, cT, cF])⟩ τ4 (.cons Z (.cons Z (.cons Z (.cons Z (.nil))))) .nil .nil [0] Z
 have h1d := B.df h1
 refine R0 ?_
 have hX1 : slices_IndexFunc_Rule_L1 fq s 0 = none := by rw [v2, List.drop_eq_nil_of_le (show (s).length ≤ i by omega)]; simp only [slices_IndexFunc_Rule_L1, cT, cF]
 have hP3 : slices_IndexFunc_Rule s fq = (-1) := by simp only [slices_IndexFunc_Rule, hX1, cT, cF]
 refine R1 ?_
 intro w1 G bs hI hΓ
 rw [hP3]
 exact ⟨Z, (i6 (-1))⟩
theorem ltL_slices_IndexFunc_Rule : ∀ (f : Rule → Bool) (l : List Rule) (i : Nat) (j : Int), slices_IndexFunc_Rule_L1 f l i = some j → j < ((i + l.length : Nat) : Int)
 | f, [], i, j, h => by cases h
 | f, x :: l, i, j, h => by
  simp only [slices_IndexFunc_Rule_L1] at h
  cases hx : f x
  ·rw [hx, cond_false] at h
   have := ltL_slices_IndexFunc_Rule f l (i + 1) j h
   simp only [List.length_cons]; omega
  ·rw [hx, cond_true] at h
   cases h
   simp only [List.length_cons]; omega
theorem ltI_slices_IndexFunc_Rule (l : List Rule) (f : Rule → Bool) : slices_IndexFunc_Rule l f < ((l.length : Nat) : Int) := by
 unfold slices_IndexFunc_Rule
 cases h : slices_IndexFunc_Rule_L1 f l 0 with
 | none => show (-1 : Int) < _; omega
 | some j => have := ltL_slices_IndexFunc_Rule f l 0 j h; show j < _; omega
theorem f108 (w : World) (n : Nat) (hn : n + 0 ≤ 9) (s : (List DataP)) (ps cs) (N0 : RdSl (hp w) ps cs s) (fg : FuncId) (fc : List Value) (fq : DataP → Bool) (ff : ∀ w1, Kp emp w w1 → ∀ (e0 : DataP) (x0 : GoT.X DataP), GoT.ok n e0 → All (hp w1) (GoT.fa .der e0 x0) → Does Tryz.prog fg ([Value.agg ⟨GoT.sh e0 x0⟩] ++ fc).toArray w1 emp (fun rv _ => rv = .bool (fq e0) ∧ True)) (hoks : GoT.ok n s) :
 Does Tryz.prog 108 #[.slice ps ((s).length) cs, .func (.func fg) #[] fc.toArray] w emp (fun (rv : Value) (_ : World) => rv = .int .i64 ((slices_IndexFunc_Data s fq)) ∧ GoT.ok n ((slices_IndexFunc_Data s fq) : Int)) := by
 have hb := bS0 hn
 refine EN Tryz.func108 Z (aS1 N0) ?_
 refine R0 ?_
 have r1 : (s).length ≤ bd n := (okl hoks).1
 refine WX.loop (ι := Nat) ⟨fun i => (i ≤ (s).length) ∧ (slices_IndexFunc_Data_L1 fq s 0 = slices_IndexFunc_Data_L1 fq ((s).drop i) i), fun i => (s).length - i, fun i => [(8, .v (.int .i64 (((i : Nat) : Int)))), (7, .v (.int .i64 ((((s).length : Nat) : Int)))), (0, .v (.slice ps ((s).length) cs)), (1, .v (.func (.func fg) #[] fc.toArray))], fun i => [], fun i => [], fun i => [(0, MF.rs .stb ps cs s)]⟩ 0 ⟨(Nat.zero_le _), Z⟩
  (.cons Z (.cons Z (.cons Z (.cons Z (.nil))))) .nil .nil [0] Z ?_
 rintro i ⟨v1, v2⟩
 refine R0 ?_
 refine WX.cases 9 Z ?_ ?_ <;> intro h1
 ·skip
  have h1d := B.dt h1
  have e1i : i < (s).length := τ1
  obtain ⟨e1, e1h⟩ : ∃ e1, (s)[i]? = some e1 := ⟨_, List.getElem?_eq_getElem e1i⟩
  have ok1 : GoT.ok n e1 := (okl hoks).2 _ (List.mem_of_getElem? e1h)
  refine R0 ?_
  refine WX.idx 0 i ttOk Z Z Z Z Z Z Z Z Z Z e1i ?_
  rintro ad1 rfl
  refine WX.ldE 0 1 e1 ttOk Z Z Z Z Z Z Z Z e1h O O ?_
  rintro ⟨⟨p1, c1⟩, ⟨p2, c2⟩, ⟨p3, c3⟩, ⟨⟩, ⟨⟩⟩
  refine WX.callV Z Z Z Z Z O Z (fun w G bs hI hΓ => ff w hI.keep e1 ((p1, c1), (p2, c2), (p3, c3), (), ()) ok1 (All.cons (hΓ.get 1 Z : RdSl _ _ _ _) (All.cons (hΓ.get 2 Z : RdSl _ _ _ _) (All.cons (hΓ.get 3 Z : RdSl _ _ _ _) All.nil)))) ?_
  intro hq1
  refine R0 ?_
  refine WX.cases 16 Z ?_ ?_ <;> intro h2
  ·skip
   refine R0 ?_
   have hP1 : slices_IndexFunc_Data_L1 fq s 0 = (some ((i : Nat) : Int)) := by rw [v2, drop_get e1h]; simp only [slices_IndexFunc_Data_L1, h2, cT, cF]
   have hP2 : slices_IndexFunc_Data s fq = ((i : Nat) : Int) := by simp only [slices_IndexFunc_Data, hP1, cT, cF]
   refine R1 ?_
   intro w1 G bs hI hΓ
   rw [hP2]
   exact ⟨Z, (i6 ((i : Nat) : Int))⟩
  refine R0 ?_
  refine WX.see Z Z Z (fun _ hΓ => looks_arith Z Z Z Z τ2) ?_
  refine R0 ?_
  exact WX.iter (i + 1) ⟨τ1, (by rw [v2, drop_get e1h]; simp only [slices_IndexFunc_Data_L1, h2, cT, cF])⟩ τ4 (.cons Z (.cons Z (.cons Z (.cons Z (.nil))))) .nil .nil [0] Z
 have h1d := B.df h1
 refine R0 ?_
 have hX1 : slices_IndexFunc_Data_L1 fq s 0 = none := by rw [v2, List.drop_eq_nil_of_le (show (s).length ≤ i by omega)]; simp only [slices_IndexFunc_Data_L1, cT, cF]
 have hP3 : slices_IndexFunc_Data s fq = (-1) := by simp only [slices_IndexFunc_Data, hX1, cT, cF]
 refine R1 ?_
 intro w1 G bs hI hΓ
 rw [hP3]
 exact ⟨Z, (i6 (-1))⟩
theorem ltL_slices_IndexFunc_Data : ∀ (f : DataP → Bool) (l : List DataP) (i : Nat) (j : Int), slices_IndexFunc_Data_L1 f l i = some j → j < ((i + l.length : Nat) : Int)
 | f, [], i, j, h => by cases h
 | f, x :: l, i, j, h => by
  simp only [slices_IndexFunc_Data_L1] at h
  cases hx : f x
  ·rw [hx, cond_false] at h
   have := ltL_slices_IndexFunc_Data f l (i + 1) j h
   simp only [List.length_cons]; omega
  ·rw [hx, cond_true] at h
   cases h
   simp only [List.length_cons]; omega
theorem ltI_slices_IndexFunc_Data (l : List DataP) (f : DataP → Bool) : slices_IndexFunc_Data l f < ((l.length : Nat) : Int) := by
 unfold slices_IndexFunc_Data
 cases h : slices_IndexFunc_Data_L1 f l 0 with
 | none => show (-1 : Int) < _; omega
 | some j => have := ltL_slices_IndexFunc_Data f l 0 j h; show j < _; omega
theorem f91 (w : World) (n : Nat) (hn : n + 0 ≤ 9) (l : (List Key)) (pl cl) (N0 : RdSl (hp w) pl cl l) (n_ : Name) (K1 M1) (N1 : RdSl (hp w) K1 M1 n_.parts) (hokl : GoT.ok n l) (hokn_ : GoT.ok n n_) :
 Does Tryz.prog 91 #[.slice pl ((l).length) cl, .agg #[.slice K1 ((n_.parts).length) M1]] w emp (fun (rv : Value) (_ : World) => rv = .int .i64 ((a1l l n_)) ∧ GoT.ok n ((a1l l n_) : Int)) := by
 have hb := bS0 hn
 refine EN Tryz.func91 Z (aS2 N0 N1) ?_
 refine R0 ?_
 have r1 : (l).length ≤ bd n := (okl hokl).1
 refine WX.loop (ι := Nat) ⟨fun i => (i ≤ (l).length) ∧ (a2c n_ l 0 = a2c n_ ((l).drop i) i), fun i => (l).length - i, fun i => [(5, .v (.int .i64 (((i : Nat) : Int)))), (3, .p 3 0), (0, .v (.slice pl ((l).length) cl))], fun i => [(3, ⟨26, [.slice K1 ((n_.parts).length) M1]⟩)], fun i => [], fun i => [(0, MF.rs .stb pl cl l), (1, MF.rs .stb K1 M1 n_.parts)]⟩ 0 ⟨(Nat.zero_le _), Z⟩
  (.cons Z (.cons Z (.cons Z (.nil)))) (.cons Z (.nil)) .nil [0, 1] Z ?_
 rintro i ⟨v1, v2⟩
 refine R0 ?_
 refine WX.cases 9 Z ?_ ?_ <;> intro h1
 ·skip
  have h1d := B.dt h1
  have e1i : i < (l).length := τ1
  obtain ⟨e1, e1h⟩ : ∃ e1, (l)[i]? = some e1 := ⟨_, List.getElem?_eq_getElem e1i⟩
  have ok1 : GoT.ok n e1 := (okl hokl).2 _ (List.mem_of_getElem? e1h)
  refine R0 ?_
  refine WX.draw [] mixed ?_
  intro bs G0 hΓ0
  refine DX.takes (fuel := 5) ttOk [(0, true), (1, true)] J Z ?_
  refine DX.idx 2 0 i ttOk hΓ0 J Z Z Z Z Z Z Z Z Z Z Z e1i ?_
  rintro ad1 rfl
  refine DX.takes (fuel := 3) ttOk [(3, true)] J Z ?_
  refine DX.ldE 4 0 2 e1 ttOk hΓ0 J Z Z Z Z Z Z Z Z e1h O O ?_
  rintro ⟨⟨p1, c1⟩, ⟨⟩⟩
  refine DX.takes (fuel := 1) ttOk [(5, false)] J Z ?_
  refine DXV 6 Z J Z Z Z Z Z Z O Z (fun w γ => f44 w n τ1 e1.name p1 c1 (γ.q 2 Z) n_ K1 M1 (γ.q 1 Z) ((ok_Key ok1).1) hokn_) ?_
  intro hq1
  refine DX.tail2 [] Z Z J ?_
  refine R0 ?_
  refine WX.cases 18 Z ?_ ?_ <;> intro h2
  ·skip
   refine R0 ?_
   have hP1 : a2c n_ l 0 = (some ((i : Nat) : Int)) := by rw [v2, drop_get e1h]; simp only [a2c, h2, cT, cF]
   have hP2 : a1l l n_ = ((i : Nat) : Int) := by simp only [a1l, hP1, cT, cF]
   refine R1 ?_
   intro w1 G bs hI hΓ
   rw [hP2]
   exact ⟨Z, (i6 ((i : Nat) : Int))⟩
  refine R0 ?_
  refine WX.see Z Z Z (fun _ hΓ => looks_arith Z Z Z Z τ2) ?_
  refine R0 ?_
  exact WX.iter (i + 1) ⟨τ1, (by rw [v2, drop_get e1h]; simp only [a2c, h2, cT, cF])⟩ τ4 (.cons Z (.cons Z (.cons Z (.nil)))) (.cons Z (.nil)) .nil [0, 1] Z
 have h1d := B.df h1
 refine R0 ?_
 have hX1 : a2c n_ l 0 = none := by rw [v2, List.drop_eq_nil_of_le (show (l).length ≤ i by omega)]; simp only [a2c, cT, cF]
 have hP3 : a1l l n_ = (-1) := by simp only [a1l, hX1, cT, cF]
 refine R1 ?_
 intro w1 G bs hI hΓ
 rw [hP3]
 exact ⟨Z, (i6 (-1))⟩
end Go.Proofs.YthdgpfbldbabmaaGreatDoor

