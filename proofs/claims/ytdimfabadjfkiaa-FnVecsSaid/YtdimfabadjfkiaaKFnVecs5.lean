/-
  What the proof of one law needs: rules of the program logic, functions as Lean functions, contracts. No condition but what each says. Written by a program (pack.py) out of my own texts.
-/
import Derived.Test.YtdimfabadjfkiaaKFnVecs4
namespace Go.Proofs.Ytdimfabadjfkiaa
open Go.Stp
set_option linter.unusedVariables false
set_option linter.unusedSimpArgs false
theorem f55 (w : World) (n : Nat) (hn : n + 1 ≤ 9) (b : (List UInt8)) (pb : Option Addr) (cb : Nat) (N0 : RdSl (hp w) pb cb b) (n_ : Int) (hokb : GoT.ok n b) (hokn_ : GoT.ok n n_) :
  Does Try.prog 55 #[.slice pb ((b).length) cb, .int .i64 (n_)] w emp (Post w emp (fun x : GoT.X ((List UInt8)) => (GoT.sh ((impl_AppendVarint b n_) : (List UInt8)) x).headD undef) (fun x => GoT.oa ((impl_AppendVarint b n_) : (List UInt8)) x) (GoT.ok (n + 1) ((impl_AppendVarint b n_) : (List UInt8)))) := by
 have hbP := bd_pos n
 have hbS0 : bd (n + 1) = 4 * bd (n) := bd_succ (n := n) (by omega)
 have hbB := bd_big (n := (n + 1)) (by omega)
 have hbM := bd_mono (show n ≤ n + 1 by omega)
 refine WX.enter (tt := tt) (Γ := [(0, MF.rs .stb pb cb b)]) Try.func55 rfl (by kernel_rfl) rfl (allS_cons rfl N0 allS_nil) ?_
 refine R0 ?_
 refine WX.callF 1 (fun _ _ h => GoT.ow_rd h) (fun _ f hf => GoT.fak f hf) rfl rfl rfl rfl rfl (fun _ => rfl) rfl (fun w G bs hI hΓ => f85 w n (by omega) b pb cb (hΓ.get 0 rfl) hokb) (fun _ => rfl) (fun _ => rfl) ?_
 rintro ⟨p1, c1⟩ hq1
 refine R0 ?_
 refine WX.callV rfl rfl rfl rfl rfl (fun _ => rfl) rfl (fun w G bs hI hΓ => f63 w n (by omega) n_ 0 1000000000000 hokn_ (show I64 0 from (by unfold I64; omega)) (show I64 1000000000000 from (by unfold I64; omega))) ?_
 intro hq2
 refine R0 ?_
 refine WX.cases 10 rfl (fun h1 => ?_) (fun h1 => ?_)
 ·skip
  have h1d := (B.nt h1)
  refine R0 ?_
  have hP1 : impl_AppendVarint b n_ = b := by simp only [impl_AppendVarint, h1, ct, cf]
  refine R1 ?_
  intro w1 G bs hI hΓ
  rw [hP1]
  exact Post.of [2] (p1, c1) hI hΓ rfl rfl rfl (GoT.okm (α := List UInt8) (by omega) hq1)
 ·skip
  have h1d := (B.nf h1)
  have h1r := inR_impl (B.nf h1)
  refine R0 ?_
  refine WX.loop (ι := Int × (Option Addr) × Nat × (List UInt8)) ⟨fun | (n_2, pout, cout, out) => (-9223372036854775808 ≤ n_2 ∧ n_2 ≤ 9223372036854775807) ∧ (out.length ≤ bd (n + 1) ∧ ∀ z_ ∈ out, GoT.ok (n + 1) z_) ∧ (avI n_2 (out.length - b.length) ∧ b.length ≤ out.length) ∧ (impl_AppendVarint_L1 n_ (b : List UInt8) = impl_AppendVarint_L1 n_2 out), fun | (n_2, pout, cout, out) => n_2.toNat, fun | (n_2, pout, cout, out) => [(1, .v (.int .i64 (n_2))), (5, .v (.slice pout ((out).length) cout))], fun | (n_2, pout, cout, out) => [], fun | (n_2, pout, cout, out) => [], fun | (n_2, pout, cout, out) => [(0, MF.rs .stb pb cb b), (2, MF.os pout cout out)]⟩ (n_, p1, c1, (b : List UInt8)) ⟨hokn_, (GoT.okm (α := List UInt8) (by omega) hq1), ⟨by rw [Nat.sub_self]; exact avI_0 h1r, Nat.le_refl _⟩, rfl⟩
   (.cons rfl (.cons rfl (.nil))) .nil .nil [0, 2] rfl ?_
  rintro ⟨n_2, pout, cout, out⟩ hpre
  have hpre_ : (-9223372036854775808 ≤ n_2 ∧ n_2 ≤ 9223372036854775807) ∧ (out.length ≤ bd (n + 1) ∧ ∀ z_ ∈ out, GoT.ok (n + 1) z_) ∧ (avI n_2 (out.length - b.length) ∧ b.length ≤ out.length) ∧ (impl_AppendVarint_L1 n_ (b : List UInt8) = impl_AppendVarint_L1 n_2 out) := hpre
  clear hpre
  obtain ⟨v1, v2, v3, v4⟩ := hpre_
  have v2L := v2.1
  have hz0 := avI_len v3.1
  have hz1 := avI_rng v3.1
  have hz2 : b.length ≤ bd n := (okl hokb).1
  have hz3 := v3.2
  refine R0 ?_
  refine WX.cases 13 rfl (fun h2 => ?_) (fun h2 => ?_)
  ·skip
   have h2d := B.dt h2
   refine R0 ?_
   refine WX.see rfl rfl rfl (fun _ hΓ => looks_toU8 ttOk rfl rfl rfl rfl rfl rfl) ?_
   refine WX.see rfl rfl rfl (fun _ hΓ => looks_orU8 (p := toU8 n_2) (q := (128 : UInt8)) rfl rfl rfl rfl rfl) ?_
   refine WX.bld ttOk rfl rfl rfl rfl rfl rfl rfl ?_
   intro p2
   refine WX.opn (kk := 1) 501 2 3 rfl rfl rfl ?_
   intro xs1 hx1
   refine WX.turn [] 4 rfl (fun h hs => ol_one (α := UInt8) (a := ((toU8 n_2) ||| (128 : UInt8))) (x := ()) hs) (gs := [MF.ol [.int .u8 ((((toU8 n_2) ||| (128 : UInt8))).toNat : Nat)] ([((toU8 n_2) ||| (128 : UInt8))] : List UInt8)]) rfl ?_
   refine WX.know (fun G hΓ => (hΓ.get 4 rfl : OwL _ _ _).rd.one) ?_
   intro ho1
   refine WX.appR1 501 18 ((out ++ [((toU8 n_2) ||| (128 : UInt8))]) : List UInt8).length ttOk rfl rfl rfl rfl rfl rfl rfl rfl rfl rfl rfl rfl rfl ho1 (by simp) (by simp; omega) (by simp; omega) (fun _ _ => rfl) ?_
   intro p3 c2
   refine WX.turn [3, 4] 5 rfl (fun h hs => ol_app hs) (gs := [MF.ol (xs1 ++ [.int .u8 ((((toU8 n_2) ||| (128 : UInt8))).toNat : Nat)]) ((out ++ [((toU8 n_2) ||| (128 : UInt8))]) : List UInt8)]) rfl ?_
   refine R0 ?_
   refine WX.see rfl rfl rfl (fun _ hΓ => looks_shr rfl rfl rfl (by decide)) ?_
   refine R0 ?_
   refine WX.seal 501 5 6 rfl rfl rfl rfl rfl ?_
   refine WX.turn [7] 2 rfl (fun _ h => h) rfl ?_
   have hs7 := sh7 n_2
   exact WX.iter (Int.fdiv n_2 (2 ^ (min (Int.toNat (7 : Int)) 64)), p3, c2, (out ++ [((toU8 n_2) ||| (128 : UInt8))])) ⟨(by first | assumption | omega), (okl_mk (by simp; omega) (fun _ _ => trivial) : GoT.ok (n + 1) ((out ++ [((toU8 n_2) ||| (128 : UInt8))]) : List UInt8)), ⟨by rw [sh7]; exact avI_next v3.1 (by omega) (by simp; omega), by simp; omega⟩, (by rw [v4]; rw [impl_AppendVarint_L1]; simp only [h2, h2d, ct, cf, ↓reduceIte, Bool.false_eq_true])⟩ (by dsimp only; rw [sh7]; omega) (.cons rfl (.cons rfl (.nil))) .nil .nil [0, 2] rfl
  ·skip
   have h2d := B.df h2
   refine R0 ?_
   have hX1 : impl_AppendVarint_L1 n_ (b : List UInt8) = (n_2, ((out) : List UInt8)) := by rw [v4]; rw [impl_AppendVarint_L1]; simp only [h2, h2d, ct, cf, ↓reduceIte, Bool.false_eq_true]
   refine WX.see rfl rfl rfl (fun _ hΓ => looks_toU8 ttOk rfl rfl rfl rfl rfl rfl) ?_
   refine WX.bld ttOk rfl rfl rfl rfl rfl rfl rfl ?_
   intro p4
   refine WX.opn (kk := 1) 502 2 8 rfl rfl rfl ?_
   intro xs2 hx2
   refine WX.turn [] 9 rfl (fun h hs => ol_one (α := UInt8) (a := (toU8 n_2)) (x := ()) hs) (gs := [MF.ol [.int .u8 ((toU8 n_2).toNat : Nat)] ([(toU8 n_2)] : List UInt8)]) rfl ?_
   refine WX.know (fun G hΓ => (hΓ.get 9 rfl : OwL _ _ _).rd.one) ?_
   intro ho2
   refine WX.appR1 502 25 ((out ++ [(toU8 n_2)]) : List UInt8).length ttOk rfl rfl rfl rfl rfl rfl rfl rfl rfl rfl rfl rfl rfl ho2 (by simp) (by simp; omega) (by simp; omega) (fun _ _ => rfl) ?_
   intro p5 c3
   refine WX.turn [8, 9] 10 rfl (fun h hs => ol_app hs) (gs := [MF.ol (xs2 ++ [.int .u8 ((toU8 n_2).toNat : Nat)]) ((out ++ [(toU8 n_2)]) : List UInt8)]) rfl ?_
   refine R0 ?_
   refine WX.seal 502 10 11 rfl rfl rfl rfl rfl ?_
   have hP2 : impl_AppendVarint b n_ = (out ++ [(toU8 n_2)]) := by simp only [impl_AppendVarint, h1, hX1, ct, cf]
   refine R1 ?_
   intro w1 G bs hI hΓ
   rw [hP2]
   exact Post.of [12] (p5, c3) hI hΓ rfl rfl rfl (okl_mk (by simp; omega) (fun _ _ => trivial) : GoT.ok (n + 1) ((out ++ [(toU8 n_2)]) : List UInt8))
theorem f57 (w : World) (n : Nat) (hn : n + 1 ≤ 9) (b : (List UInt8)) (pb : Option Addr) (cb : Nat) (N0 : RdSl (hp w) pb cb b) (n_ : Int) (hokb : GoT.ok n b) (hokn_ : GoT.ok n n_) :
  Does Try.prog 57 #[.slice pb ((b).length) cb, .int .i64 (n_)] w emp (Post w emp (fun x : GoT.X ((List UInt8)) => (GoT.sh ((spec_AppendVarint b n_) : (List UInt8)) x).headD undef) (fun x => GoT.oa ((spec_AppendVarint b n_) : (List UInt8)) x) (GoT.ok (n + 1) ((spec_AppendVarint b n_) : (List UInt8)))) := by
 have hbP := bd_pos n
 have hbS0 : bd (n + 1) = 4 * bd (n) := bd_succ (n := n) (by omega)
 have hbB := bd_big (n := (n + 1)) (by omega)
 have hbM := bd_mono (show n ≤ n + 1 by omega)
 refine WX.enter (tt := tt) (Γ := [(0, MF.rs .stb pb cb b)]) Try.func57 rfl (by kernel_rfl) rfl (allS_cons rfl N0 allS_nil) ?_
 refine R0 ?_
 refine WX.bld ttOk rfl rfl rfl rfl rfl rfl rfl ?_
 intro p1
 refine R0 ?_
 refine WX.free 1 (MF.ol [] ([] : List UInt8)) rfl ?_
 have r1 : (b).length ≤ bd n := (okl hokb).1
 refine WX.appG1 6 0 2 (b : List UInt8).length ttOk rfl rfl rfl rfl rfl rfl rfl rfl rfl rfl rfl rfl rfl (by simp) (by omega) (by omega) (fun _ _ _ => rfl) ?_
 intro ys1 p2 c1
 refine WX.know (fun G hΓ => (hΓ.get 2 rfl : RdL _ _ _).flat) ?_
 intro hf1
 refine WX.turn [1] 3 rfl (fun h hs => ol_flat hs hf1) (gs := [MF.ol ([] ++ ys1) (b : List UInt8)]) rfl ?_
 refine R0 ?_
 refine WX.callV rfl rfl rfl rfl rfl (fun _ => rfl) rfl (fun w G bs hI hΓ => f64 w n (by omega) n_ 0 1000000000000 hokn_ (show I64 0 from (by unfold I64; omega)) (show I64 1000000000000 from (by unfold I64; omega))) ?_
 intro hq1
 refine R0 ?_
 refine WX.cases 11 rfl (fun h1 => ?_) (fun h1 => ?_)
 ·skip
  have h1d := (B.nt h1)
  refine R0 ?_
  refine WX.seal 6 3 4 rfl rfl rfl rfl rfl ?_
  have hP1 : spec_AppendVarint b n_ = b := by simp only [spec_AppendVarint, h1, ct, cf]
  refine R1 ?_
  intro w1 G bs hI hΓ
  rw [hP1]
  exact Post.of [5] (p2, c1) hI hΓ rfl rfl rfl (okl_mk (by omega) (fun _ _ => trivial) : GoT.ok (n + 1) (b : List UInt8))
 ·skip
  have h1d := (B.nf h1)
  have h1r := inR_spec (B.nf h1)
  refine R0 ?_
  refine WX.loop (ι := Int × (Option Addr) × Nat × (List Value) × (List UInt8)) ⟨fun | (n_2, pout, cout, xsout, out) => (-9223372036854775808 ≤ n_2 ∧ n_2 ≤ 9223372036854775807) ∧ (∀ z_ ∈ out, GoT.ok (n + 1) z_) ∧ (avI n_2 (out.length - b.length) ∧ b.length ≤ out.length) ∧ (spec_AppendVarint_L1 n_ (b : List UInt8) = spec_AppendVarint_L1 n_2 out), fun | (n_2, pout, cout, xsout, out) => n_2.toNat, fun | (n_2, pout, cout, xsout, out) => [(1, .v (.int .i64 (n_2))), (5, .v (.slice pout ((out).length) cout))], fun | (n_2, pout, cout, xsout, out) => [], fun | (n_2, pout, cout, xsout, out) => [(6, ⟨1, pout, (out).length, cout, xsout⟩)], fun | (n_2, pout, cout, xsout, out) => [(0, MF.rs .stb pb cb b), (3, MF.ol xsout (out : List UInt8))]⟩ (n_, p2, c1, ([] ++ ys1), (b : List UInt8)) ⟨hokn_, (fun _ _ => trivial), ⟨by rw [Nat.sub_self]; exact avI_0 h1r, Nat.le_refl _⟩, rfl⟩
   (.cons rfl (.cons rfl (.nil))) .nil (.cons rfl (.nil)) [0, 3] rfl ?_
  rintro ⟨n_2, pout, cout, xsout, out⟩ hpre
  have hpre_ : (-9223372036854775808 ≤ n_2 ∧ n_2 ≤ 9223372036854775807) ∧ (∀ z_ ∈ out, GoT.ok (n + 1) z_) ∧ (avI n_2 (out.length - b.length) ∧ b.length ≤ out.length) ∧ (spec_AppendVarint_L1 n_ (b : List UInt8) = spec_AppendVarint_L1 n_2 out) := hpre
  clear hpre
  obtain ⟨v1, v2, v3, v4⟩ := hpre_
  have hz0 := avI_len v3.1
  have hz1 := avI_rng v3.1
  have hz2 : b.length ≤ bd n := (okl hokb).1
  have hz3 := v3.2
  refine R0 ?_
  refine WX.cases 14 rfl (fun h2 => ?_) (fun h2 => ?_)
  ·skip
   have h2d := B.dt h2
   refine R0 ?_
   refine WX.see rfl rfl rfl (fun _ hΓ => looks_bits rfl rfl rfl rfl) ?_
   refine WX.see rfl rfl rfl (fun _ hΓ => looks_bits rfl rfl rfl rfl) ?_
   refine WX.see rfl rfl rfl (fun _ hΓ => looks_toU8 ttOk rfl rfl rfl rfl rfl rfl) ?_
   refine WX.bld ttOk rfl rfl rfl rfl rfl rfl rfl ?_
   intro p3
   refine WX.turn [] 6 rfl (fun h hs => ol_one (α := UInt8) (a := (toU8 (bitO .or (bitO .and n_2 127) 128))) (x := ()) hs) (gs := [MF.ol [.int .u8 ((toU8 (bitO .or (bitO .and n_2 127) 128)).toNat : Nat)] ([(toU8 (bitO .or (bitO .and n_2 127) 128))] : List UInt8)]) rfl ?_
   refine WX.know (fun G hΓ => (hΓ.get 6 rfl : OwL _ _ _).rd.one) ?_
   intro ho1
   refine WX.appR1 6 20 ((out ++ [(toU8 (bitO .or (bitO .and n_2 127) 128))]) : List UInt8).length ttOk rfl rfl rfl rfl rfl rfl rfl rfl rfl rfl rfl rfl rfl ho1 (by simp) (by simp; omega) (by simp; omega) (fun _ _ => rfl) ?_
   intro p4 c2
   refine WX.turn [3, 6] 7 rfl (fun h hs => ol_app hs) (gs := [MF.ol (xsout ++ [.int .u8 ((toU8 (bitO .or (bitO .and n_2 127) 128)).toNat : Nat)]) ((out ++ [(toU8 (bitO .or (bitO .and n_2 127) 128))]) : List UInt8)]) rfl ?_
   refine R0 ?_
   refine WX.see rfl rfl rfl (fun _ hΓ => looks_shr rfl rfl rfl (by decide)) ?_
   refine R0 ?_
   refine WX.turn [7] 3 rfl (fun _ h => h) rfl ?_
   have hs7 := sh7 n_2
   exact WX.iter (Int.fdiv n_2 (2 ^ (min (Int.toNat (7 : Int)) 64)), p4, c2, (xsout ++ [.int .u8 ((toU8 (bitO .or (bitO .and n_2 127) 128)).toNat : Nat)]), ((out ++ [(toU8 (bitO .or (bitO .and n_2 127) 128))]) : List UInt8)) ⟨(by first | assumption | omega), (fun _ _ => trivial), ⟨by rw [sh7]; exact avI_next v3.1 (by omega) (by simp; omega), by simp; omega⟩, (by rw [v4]; rw [spec_AppendVarint_L1]; simp only [h2, h2d, ct, cf, ↓reduceIte, Bool.false_eq_true])⟩ (by dsimp only; rw [sh7]; omega) (.cons rfl (.cons rfl (.nil))) .nil (.cons rfl (.nil)) [0, 3] rfl
  ·skip
   have h2d := B.df h2
   refine R0 ?_
   have hX1 : spec_AppendVarint_L1 n_ (b : List UInt8) = (n_2, ((out) : List UInt8)) := by rw [v4]; rw [spec_AppendVarint_L1]; simp only [h2, h2d, ct, cf, ↓reduceIte, Bool.false_eq_true]
   refine WX.see rfl rfl rfl (fun _ hΓ => looks_toU8 ttOk rfl rfl rfl rfl rfl rfl) ?_
   refine WX.bld ttOk rfl rfl rfl rfl rfl rfl rfl ?_
   intro p5
   refine WX.turn [] 8 rfl (fun h hs => ol_one (α := UInt8) (a := (toU8 n_2)) (x := ()) hs) (gs := [MF.ol [.int .u8 ((toU8 n_2).toNat : Nat)] ([(toU8 n_2)] : List UInt8)]) rfl ?_
   refine WX.know (fun G hΓ => (hΓ.get 8 rfl : OwL _ _ _).rd.one) ?_
   intro ho2
   refine WX.appR1 6 27 ((out ++ [(toU8 n_2)]) : List UInt8).length ttOk rfl rfl rfl rfl rfl rfl rfl rfl rfl rfl rfl rfl rfl ho2 (by simp) (by simp; omega) (by simp; omega) (fun _ _ => rfl) ?_
   intro p6 c3
   refine WX.turn [3, 8] 9 rfl (fun h hs => ol_app hs) (gs := [MF.ol (xsout ++ [.int .u8 ((toU8 n_2).toNat : Nat)]) ((out ++ [(toU8 n_2)]) : List UInt8)]) rfl ?_
   refine R0 ?_
   refine WX.seal 6 9 10 rfl rfl rfl rfl rfl ?_
   have hP2 : spec_AppendVarint b n_ = (out ++ [(toU8 n_2)]) := by simp only [spec_AppendVarint, h1, hX1, ct, cf]
   refine R1 ?_
   intro w1 G bs hI hΓ
   rw [hP2]
   exact Post.of [11] (p6, c3) hI hΓ rfl rfl rfl (okl_mk (by simp; omega) (fun _ _ => trivial) : GoT.ok (n + 1) ((out ++ [(toU8 n_2)]) : List UInt8))
theorem f86 (w : World) (n : Nat) (hn : n + 2 ≤ 9) (b : (List UInt8)) (pb : Option Addr) (cb : Nat) (N0 : RdSl (hp w) pb cb b) (s : (List UInt8)) (ps : Option Addr) (cs : Nat) (N1 : RdSl (hp w) ps cs s) (hokb : GoT.ok n b) (hoks : GoT.ok n s) :
  Does Try.prog 86 #[.slice pb ((b).length) cb, .slice ps ((s).length) cs] w emp (Post w emp (fun x : GoT.X ((List UInt8)) => (GoT.sh ((impl_AppendBytes b s) : (List UInt8)) x).headD undef) (fun x => GoT.oa ((impl_AppendBytes b s) : (List UInt8)) x) (GoT.ok (n + 2) ((impl_AppendBytes b s) : (List UInt8)))) := by
 have hbP := bd_pos n
 have hbS0 : bd (n + 1) = 4 * bd (n) := bd_succ (n := n) (by omega)
 have hbS1 : bd (n + 2) = 4 * bd (n + 1) := bd_succ (n := n + 1) (by omega)
 have hbB := bd_big (n := (n + 2)) (by omega)
 have hbM := bd_mono (show n ≤ n + 2 by omega)
 refine WX.enter (tt := tt) (Γ := [(0, MF.rs .stb pb cb b), (1, MF.rs .stb ps cs s)]) Try.func86 rfl (by kernel_rfl) rfl (allS_cons rfl N0 (allS_cons rfl N1 allS_nil)) ?_
 refine R0 ?_
 have r1 : (s).length ≤ bd n := (okl hoks).1
 refine WX.callF 2 (fun _ _ h => GoT.ow_rd h) (fun _ f hf => GoT.fak f hf) rfl rfl rfl rfl rfl (fun _ => rfl) rfl (fun w G bs hI hΓ => f55 w n (by omega) b pb cb (hΓ.get 0 rfl) (((s).length : Nat) : Int) hokb (show I64 (((s).length : Nat) : Int) from (by unfold I64; omega))) (fun _ => rfl) (fun _ => rfl) ?_
 rintro ⟨p1, c1⟩ hq1
 have q1 := len_implAV b (((s).length : Nat) : Int)
 refine R0 ?_
 refine WX.opn (kk := 1) 501 3 4 rfl rfl rfl ?_
 intro xs1 hx1
 have r2 : (b).length ≤ bd n := (okl hokb).1
 have r3 : (impl_AppendVarint b (((s).length : Nat) : Int)).length ≤ bd (n + 1) := (okl hq1).1
 refine WX.appG1 501 1 5 (((impl_AppendVarint b (((s).length : Nat) : Int)) ++ s) : List UInt8).length ttOk rfl rfl rfl rfl rfl rfl rfl rfl rfl rfl rfl rfl rfl (by simp) (by simp; omega) (by simp; omega) (fun _ _ _ => rfl) ?_
 intro ys1 p2 c2
 refine WX.know (fun G hΓ => (hΓ.get 5 rfl : RdL _ _ _).flat) ?_
 intro hf1
 refine WX.turn [4] 6 rfl (fun h hs => ol_flat hs hf1) (gs := [MF.ol (xs1 ++ ys1) (((impl_AppendVarint b (((s).length : Nat) : Int)) ++ s) : List UInt8)]) rfl ?_
 refine R0 ?_
 refine WX.seal 501 6 7 rfl rfl rfl rfl rfl ?_
 have hP1 : impl_AppendBytes b s = ((impl_AppendVarint b (((s).length : Nat) : Int)) ++ s) := by simp only [impl_AppendBytes, ct, cf]
 refine R1 ?_
 intro w1 G bs hI hΓ
 rw [hP1]
 exact Post.of [8] (p2, c2) hI hΓ rfl rfl rfl (okl_mk (by simp; omega) (fun _ _ => trivial) : GoT.ok (n + 2) (((impl_AppendVarint b (((s).length : Nat) : Int)) ++ s) : List UInt8))
theorem f87 (w : World) (n : Nat) (hn : n + 2 ≤ 9) (b : (List UInt8)) (pb : Option Addr) (cb : Nat) (N0 : RdSl (hp w) pb cb b) (s : (List UInt8)) (ps : Option Addr) (cs : Nat) (N1 : RdSl (hp w) ps cs s) (hokb : GoT.ok n b) (hoks : GoT.ok n s) :
  Does Try.prog 87 #[.slice pb ((b).length) cb, .slice ps ((s).length) cs] w emp (Post w emp (fun x : GoT.X ((List UInt8)) => (GoT.sh ((spec_AppendBytes b s) : (List UInt8)) x).headD undef) (fun x => GoT.oa ((spec_AppendBytes b s) : (List UInt8)) x) (GoT.ok (n + 2) ((spec_AppendBytes b s) : (List UInt8)))) := by
 have hbP := bd_pos n
 have hbS0 : bd (n + 1) = 4 * bd (n) := bd_succ (n := n) (by omega)
 have hbS1 : bd (n + 2) = 4 * bd (n + 1) := bd_succ (n := n + 1) (by omega)
 have hbB := bd_big (n := (n + 2)) (by omega)
 have hbM := bd_mono (show n ≤ n + 2 by omega)
 refine WX.enter (tt := tt) (Γ := [(0, MF.rs .stb pb cb b), (1, MF.rs .stb ps cs s)]) Try.func87 rfl (by kernel_rfl) rfl (allS_cons rfl N0 (allS_cons rfl N1 allS_nil)) ?_
 refine R0 ?_
 have r1 : (s).length ≤ bd n := (okl hoks).1
 refine WX.callF 2 (fun _ _ h => GoT.ow_rd h) (fun _ f hf => GoT.fak f hf) rfl rfl rfl rfl rfl (fun _ => rfl) rfl (fun w G bs hI hΓ => f57 w n (by omega) b pb cb (hΓ.get 0 rfl) (((s).length : Nat) : Int) hokb (show I64 (((s).length : Nat) : Int) from (by unfold I64; omega))) (fun _ => rfl) (fun _ => rfl) ?_
 rintro ⟨p1, c1⟩ hq1
 have q1 := len_specAV b (((s).length : Nat) : Int)
 refine R0 ?_
 refine WX.opn (kk := 1) 501 3 4 rfl rfl rfl ?_
 intro xs1 hx1
 have r2 : (b).length ≤ bd n := (okl hokb).1
 have r3 : (spec_AppendVarint b (((s).length : Nat) : Int)).length ≤ bd (n + 1) := (okl hq1).1
 refine WX.appG1 501 1 5 (((spec_AppendVarint b (((s).length : Nat) : Int)) ++ s) : List UInt8).length ttOk rfl rfl rfl rfl rfl rfl rfl rfl rfl rfl rfl rfl rfl (by simp) (by simp; omega) (by simp; omega) (fun _ _ _ => rfl) ?_
 intro ys1 p2 c2
 refine WX.know (fun G hΓ => (hΓ.get 5 rfl : RdL _ _ _).flat) ?_
 intro hf1
 refine WX.turn [4] 6 rfl (fun h hs => ol_flat hs hf1) (gs := [MF.ol (xs1 ++ ys1) (((spec_AppendVarint b (((s).length : Nat) : Int)) ++ s) : List UInt8)]) rfl ?_
 refine R0 ?_
 refine WX.seal 501 6 7 rfl rfl rfl rfl rfl ?_
 have hP1 : spec_AppendBytes b s = ((spec_AppendVarint b (((s).length : Nat) : Int)) ++ s) := by simp only [spec_AppendBytes, ct, cf]
 refine R1 ?_
 intro w1 G bs hI hΓ
 rw [hP1]
 exact Post.of [8] (p2, c2) hI hΓ rfl rfl rfl (okl_mk (by simp; omega) (fun _ _ => trivial) : GoT.ok (n + 2) (((spec_AppendVarint b (((s).length : Nat) : Int)) ++ s) : List UInt8))
theorem f56 (w : World) (n : Nat) (hn : n + 3 ≤ 9) (b : (List UInt8)) (pb : Option Addr) (cb : Nat) (N0 : RdSl (hp w) pb cb b) (n_ : Name) (K1 : Option Addr) (M1 : Nat) (N1 : RdSl (hp w) K1 M1 n_.parts) (hokb : GoT.ok n b) (hokn_ : GoT.ok n n_) :
  Does Try.prog 56 #[.slice pb ((b).length) cb, .agg #[.slice K1 ((n_.parts).length) M1]] w emp (Post w emp (fun x : GoT.X ((List UInt8)) => (GoT.sh ((impl_AppendName b n_) : (List UInt8)) x).headD undef) (fun x => GoT.oa ((impl_AppendName b n_) : (List UInt8)) x) (GoT.ok (n + 1) ((impl_AppendName b n_) : (List UInt8)))) := by
 have hbP := bd_pos n
 have hbS0 : bd (n + 1) = 4 * bd (n) := bd_succ (n := n) (by omega)
 have hbS1 : bd (n + 2) = 4 * bd (n + 1) := bd_succ (n := n + 1) (by omega)
 have hbS2 : bd (n + 3) = 4 * bd (n + 2) := bd_succ (n := n + 2) (by omega)
 have hbB := bd_big (n := (n + 3)) (by omega)
 have hbM := bd_mono (show n ≤ n + 3 by omega)
 refine WX.enter (tt := tt) (Γ := [(0, MF.rs .stb pb cb b), (1, MF.rs .stb K1 M1 n_.parts)]) Try.func56 rfl (by kernel_rfl) rfl (allS_cons rfl N0 (allS_cons rfl N1 allS_nil)) ?_
 refine R0 ?_
 refine WX.callV rfl rfl rfl rfl rfl (fun _ => rfl) rfl (fun w G bs hI hΓ => f70 w n (by omega) n_ K1 M1 (hΓ.get 1 rfl) hokn_) ?_
 intro hq1
 refine R0 ?_
 refine WX.cases 10 rfl (fun h1 => ?_) (fun h1 => ?_)
 ·skip
  have h1d := (B.nt h1)
  refine R0 ?_
  refine WX.callF 2 (fun _ _ h => GoT.ow_rd h) (fun _ f hf => GoT.fak f hf) rfl rfl rfl rfl rfl (fun _ => rfl) rfl (fun w G bs hI hΓ => f85 w n (by omega) b pb cb (hΓ.get 0 rfl) hokb) (fun _ => rfl) (fun _ => rfl) ?_
  rintro ⟨p1, c1⟩ hq2
  refine R0 ?_
  have hP1 : impl_AppendName b n_ = b := by simp only [impl_AppendName, h1, ct, cf]
  refine R1 ?_
  intro w1 G bs hI hΓ
  rw [hP1]
  exact Post.of [3] (p1, c1) hI hΓ rfl rfl rfl (GoT.okm (α := List UInt8) (by omega) hq2)
 ·skip
  have h1d := (B.nf h1)
  refine R0 ?_
  have r1 : (n_.parts).length ≤ bd n := (okl (ok_Name hokn_)).1
  refine WX.callF 4 (fun _ _ h => GoT.ow_rd h) (fun _ f hf => GoT.fak f hf) rfl rfl rfl rfl rfl (fun _ => rfl) rfl (fun w G bs hI hΓ => f55 w n (by omega) b pb cb (hΓ.get 0 rfl) (((n_.parts).length : Nat) : Int) hokb (show I64 (((n_.parts).length : Nat) : Int) from (by unfold I64; omega))) (fun _ => rfl) (fun _ => rfl) ?_
  rintro ⟨p2, c2⟩ hq3
  have q1 := len_implAV b (((n_.parts).length : Nat) : Int)
  refine R0 ?_
  have hv0 := vnB_impl h1d
  have hv1 := hv0.1
  have hv2 : b.length ≤ bd n := (okl hokb).1
  refine WX.loop (ι := (Option Addr) × Nat × (List UInt8) × Nat) ⟨fun | (pout, cout, out, i) => (i ≤ (n_.parts).length) ∧ (out.length ≤ bd (n + 1) ∧ ∀ z_ ∈ out, GoT.ok (n + 1) z_) ∧ (out.length ≤ b.length + 6 + 14 * i) ∧ (impl_AppendName_L1 n_.parts ((impl_AppendVarint b (((n_.parts).length : Nat) : Int)) : List UInt8) = impl_AppendName_L1 ((n_.parts).drop i) out), fun | (pout, cout, out, i) => (n_.parts).length - i, fun | (pout, cout, out, i) => [(5, .v (.slice pout ((out).length) cout)), (21, .v (.int .i64 (((i : Nat) : Int)))), (20, .v (.int .i64 ((((n_.parts).length : Nat) : Int)))), (19, .v (.slice K1 ((n_.parts).length) M1))], fun | (pout, cout, out, i) => [], fun | (pout, cout, out, i) => [], fun | (pout, cout, out, i) => [(0, MF.rs .stb pb cb b), (1, MF.rs .stb K1 M1 n_.parts), (5, MF.os pout cout out)]⟩ (p2, c2, ((impl_AppendVarint b (((n_.parts).length : Nat) : Int)) : List UInt8), 0) ⟨(Nat.zero_le _), hq3, (by omega), rfl⟩
   (.cons rfl (.cons rfl (.cons rfl (.cons rfl (.nil))))) .nil .nil [0, 1, 5] rfl ?_
  rintro ⟨pout, cout, out, i⟩ hpre
  have hpre_ : (i ≤ (n_.parts).length) ∧ (out.length ≤ bd (n + 1) ∧ ∀ z_ ∈ out, GoT.ok (n + 1) z_) ∧ (out.length ≤ b.length + 6 + 14 * i) ∧ (impl_AppendName_L1 n_.parts ((impl_AppendVarint b (((n_.parts).length : Nat) : Int)) : List UInt8) = impl_AppendName_L1 ((n_.parts).drop i) out) := hpre
  clear hpre
  obtain ⟨v1, v2, v3, v4⟩ := hpre_
  have v2L := v2.1
  refine R0 ?_
  refine WX.cases 22 rfl (fun h2 => ?_) (fun h2 => ?_)
  ·skip
   have h2d := B.dt h2
   have e1i : i < (n_.parts).length := (by omega)
   obtain ⟨e1, e1h⟩ : ∃ e1, (n_.parts)[i]? = some e1 := ⟨_, List.getElem?_eq_getElem e1i⟩
   have ok1 : GoT.ok n e1 := (okl (ok_Name hokn_)).2 _ (List.mem_of_getElem? e1h)
   refine R0 ?_
   refine WX.idx 1 i ttOk rfl rfl rfl rfl rfl rfl rfl rfl rfl rfl e1i ?_
   rintro ad1 rfl
   refine WX.ldE 1 6 e1 ttOk rfl rfl rfl rfl rfl rfl rfl rfl e1h (fun _ => rfl) (fun _ => rfl) ?_
   rintro ⟨⟩
   refine R0 ?_
   have r2 : (e1).size ≤ bd n := ok1
   refine WX.toB 6 ttOk rfl rfl rfl rfl rfl rfl rfl rfl rfl rfl rfl (by omega) ?_
   intro p3 c3
   have r3 : ((e1).data.toList).length = (e1).size := rfl
   refine WX.der 7 (MF.rs .der pout cout out) rfl (fun _ hΓ => (hΓ.get 5 rfl : OwSl _ _ _ _).rd) ?_
   refine WX.callF 8 (fun _ _ h => GoT.ow_rd h) (fun _ f hf => GoT.fak f hf) rfl rfl rfl rfl rfl (fun _ => rfl) rfl (fun w G bs hI hΓ => f86 w (n + 1) (by omega) out pout cout (hΓ.get 7 rfl) ((e1).data.toList) (some p3) c3 (hΓ.get 6 rfl) (okl_of v2) (okl_mk (by omega) (fun _ _ => trivial) : GoT.ok (n + 1) ((e1).data.toList : List UInt8))) (fun _ => rfl) (fun _ => rfl) ?_
   rintro ⟨p4, c4⟩ hq4
   have q2 := len_implAB out ((e1).data.toList)
   refine R0 ?_
   refine WX.see rfl rfl rfl (fun _ hΓ => looks_arith rfl rfl rfl rfl (by unfold I64; first | omega | (simp only [List.length_take] at *; omega))) ?_
   refine R0 ?_
   refine WX.turn [9] 5 rfl (fun _ h => h) rfl ?_
   have r4 : (impl_AppendBytes out ((e1).data.toList)).length ≤ bd (n + 3) := (okl hq4).1
   exact WX.iter (p4, c4, (impl_AppendBytes out ((e1).data.toList)), i + 1) ⟨(by omega), (okl_mk (by omega) (fun _ _ => trivial) : GoT.ok (n + 1) ((impl_AppendBytes out ((e1).data.toList)) : List UInt8)), (by have z_ := hv0.2 _ (List.mem_of_getElem? e1h); have z2_ : ((e1).data.toList).length = (e1).size := rfl; omega), (by rw [v4, drop_get e1h]; simp only [impl_AppendName_L1, ct, cf])⟩ (by first | (dsimp only; omega) | omega) (.cons rfl (.cons rfl (.cons rfl (.cons rfl (.nil))))) .nil .nil [0, 1, 5] rfl
  ·skip
   have h2d := B.df h2
   refine R0 ?_
   have hX1 : impl_AppendName_L1 n_.parts ((impl_AppendVarint b (((n_.parts).length : Nat) : Int)) : List UInt8) = ((out) : List UInt8) := by rw [v4, List.drop_eq_nil_of_le (show (n_.parts).length ≤ i by omega)]; simp only [impl_AppendName_L1, ct, cf]
   have hP2 : impl_AppendName b n_ = out := by simp only [impl_AppendName, h1, hX1, ct, cf]
   refine R1 ?_
   intro w1 G bs hI hΓ
   rw [hP2]
   exact Post.of [5] (pout, cout) hI hΓ rfl rfl rfl (okl_of v2)
theorem f58 (w : World) (n : Nat) (hn : n + 3 ≤ 9) (b : (List UInt8)) (pb : Option Addr) (cb : Nat) (N0 : RdSl (hp w) pb cb b) (n_ : Name) (K1 : Option Addr) (M1 : Nat) (N1 : RdSl (hp w) K1 M1 n_.parts) (hokb : GoT.ok n b) (hokn_ : GoT.ok n n_) :
  Does Try.prog 58 #[.slice pb ((b).length) cb, .agg #[.slice K1 ((n_.parts).length) M1]] w emp (Post w emp (fun x : GoT.X ((List UInt8)) => (GoT.sh ((spec_AppendName b n_) : (List UInt8)) x).headD undef) (fun x => GoT.oa ((spec_AppendName b n_) : (List UInt8)) x) (GoT.ok (n + 1) ((spec_AppendName b n_) : (List UInt8)))) := by
 have hbP := bd_pos n
 have hbS0 : bd (n + 1) = 4 * bd (n) := bd_succ (n := n) (by omega)
 have hbS1 : bd (n + 2) = 4 * bd (n + 1) := bd_succ (n := n + 1) (by omega)
 have hbS2 : bd (n + 3) = 4 * bd (n + 2) := bd_succ (n := n + 2) (by omega)
 have hbB := bd_big (n := (n + 3)) (by omega)
 have hbM := bd_mono (show n ≤ n + 3 by omega)
 refine WX.enter (tt := tt) (Γ := [(0, MF.rs .stb pb cb b), (1, MF.rs .stb K1 M1 n_.parts)]) Try.func58 rfl (by kernel_rfl) rfl (allS_cons rfl N0 (allS_cons rfl N1 allS_nil)) ?_
 refine R0 ?_
 refine WX.bld ttOk rfl rfl rfl rfl rfl rfl rfl ?_
 intro p1
 refine R0 ?_
 refine WX.free 2 (MF.ol [] ([] : List UInt8)) rfl ?_
 have r1 : (b).length ≤ bd n := (okl hokb).1
 refine WX.appG1 7 0 3 (b : List UInt8).length ttOk rfl rfl rfl rfl rfl rfl rfl rfl rfl rfl rfl rfl rfl (by simp) (by omega) (by omega) (fun _ _ _ => rfl) ?_
 intro ys1 p2 c1
 refine WX.know (fun G hΓ => (hΓ.get 3 rfl : RdL _ _ _).flat) ?_
 intro hf1
 refine WX.turn [2] 4 rfl (fun h hs => ol_flat hs hf1) (gs := [MF.ol ([] ++ ys1) (b : List UInt8)]) rfl ?_
 refine R0 ?_
 refine WX.callV rfl rfl rfl rfl rfl (fun _ => rfl) rfl (fun w G bs hI hΓ => f72 w n (by omega) n_ K1 M1 (hΓ.get 1 rfl) hokn_) ?_
 intro hq1
 refine R0 ?_
 refine WX.cases 12 rfl (fun h1 => ?_) (fun h1 => ?_)
 ·skip
  have h1d := (B.nt h1)
  refine R0 ?_
  refine WX.seal 7 4 5 rfl rfl rfl rfl rfl ?_
  have hP1 : spec_AppendName b n_ = b := by simp only [spec_AppendName, h1, ct, cf]
  refine R1 ?_
  intro w1 G bs hI hΓ
  rw [hP1]
  exact Post.of [6] (p2, c1) hI hΓ rfl rfl rfl (okl_mk (by omega) (fun _ _ => trivial) : GoT.ok (n + 1) (b : List UInt8))
 ·skip
  have h1d := (B.nf h1)
  refine R0 ?_
  refine WX.seal 7 4 7 rfl rfl rfl rfl rfl ?_
  have r2 : (n_.parts).length ≤ bd n := (okl (ok_Name hokn_)).1
  refine WX.callF 9 (fun _ _ h => GoT.ow_rd h) (fun _ f hf => GoT.fak f hf) rfl rfl rfl rfl rfl (fun _ => rfl) rfl (fun w G bs hI hΓ => f57 w n (by omega) b p2 c1 (hΓ.get 7 rfl) (((n_.parts).length : Nat) : Int) (okl_mk (by omega) (fun _ _ => trivial) : GoT.ok n (b : List UInt8)) (show I64 (((n_.parts).length : Nat) : Int) from (by unfold I64; omega))) (fun _ => rfl) (fun _ => rfl) ?_
  rintro ⟨p3, c2⟩ hq2
  have q1 := len_specAV b (((n_.parts).length : Nat) : Int)
  refine R0 ?_
  have hv0 := vnB_spec h1d
  have hv1 := hv0.1
  have hv2 : b.length ≤ bd n := (okl hokb).1
  refine WX.loop (ι := (Option Addr) × Nat × (List UInt8) × Nat) ⟨fun | (pout, cout, out, i) => (i ≤ (n_.parts).length) ∧ (out.length ≤ bd (n + 1) ∧ ∀ z_ ∈ out, GoT.ok (n + 1) z_) ∧ (out.length ≤ b.length + 6 + 14 * i) ∧ (spec_AppendName_L1 n_.parts ((spec_AppendVarint b (((n_.parts).length : Nat) : Int)) : List UInt8) = spec_AppendName_L1 ((n_.parts).drop i) out), fun | (pout, cout, out, i) => (n_.parts).length - i, fun | (pout, cout, out, i) => [(5, .v (.slice pout ((out).length) cout)), (6, .v (.int .i64 (((i : Nat) : Int)))), (3, .p 3 0)], fun | (pout, cout, out, i) => [(3, ⟨41, [.slice K1 ((n_.parts).length) M1]⟩)], fun | (pout, cout, out, i) => [], fun | (pout, cout, out, i) => [(0, MF.rs .stb pb cb b), (1, MF.rs .stb K1 M1 n_.parts), (10, MF.os pout cout out)]⟩ (p3, c2, ((spec_AppendVarint b (((n_.parts).length : Nat) : Int)) : List UInt8), 0) ⟨(Nat.zero_le _), hq2, (by omega), rfl⟩
   (.cons rfl (.cons rfl (.cons rfl (.nil)))) (.cons rfl (.nil)) .nil [0, 1, 10] rfl ?_
  rintro ⟨pout, cout, out, i⟩ hpre
  have hpre_ : (i ≤ (n_.parts).length) ∧ (out.length ≤ bd (n + 1) ∧ ∀ z_ ∈ out, GoT.ok (n + 1) z_) ∧ (out.length ≤ b.length + 6 + 14 * i) ∧ (spec_AppendName_L1 n_.parts ((spec_AppendVarint b (((n_.parts).length : Nat) : Int)) : List UInt8) = spec_AppendName_L1 ((n_.parts).drop i) out) := hpre
  clear hpre
  obtain ⟨v1, v2, v3, v4⟩ := hpre_
  have v2L := v2.1
  refine R0 ?_
  refine WX.cases 23 rfl (fun h2 => ?_) (fun h2 => ?_)
  ·skip
   have h2d := B.dt h2
   have e1i : i < (n_.parts).length := (by omega)
   obtain ⟨e1, e1h⟩ : ∃ e1, (n_.parts)[i]? = some e1 := ⟨_, List.getElem?_eq_getElem e1i⟩
   have ok1 : GoT.ok n e1 := (okl (ok_Name hokn_)).2 _ (List.mem_of_getElem? e1h)
   refine R0 ?_
   refine WX.idx 1 i ttOk rfl rfl rfl rfl rfl rfl rfl rfl rfl rfl e1i ?_
   rintro ad1 rfl
   refine WX.ldE 1 11 e1 ttOk rfl rfl rfl rfl rfl rfl rfl rfl e1h (fun _ => rfl) (fun _ => rfl) ?_
   rintro ⟨⟩
   have r3 : (e1).size ≤ bd n := ok1
   refine WX.toB 11 ttOk rfl rfl rfl rfl rfl rfl rfl rfl rfl rfl rfl (by omega) ?_
   intro p4 c3
   have r4 : ((e1).data.toList).length = (e1).size := rfl
   refine WX.der 12 (MF.rs .der pout cout out) rfl (fun _ hΓ => (hΓ.get 10 rfl : OwSl _ _ _ _).rd) ?_
   refine WX.callF 13 (fun _ _ h => GoT.ow_rd h) (fun _ f hf => GoT.fak f hf) rfl rfl rfl rfl rfl (fun _ => rfl) rfl (fun w G bs hI hΓ => f87 w (n + 1) (by omega) out pout cout (hΓ.get 12 rfl) ((e1).data.toList) (some p4) c3 (hΓ.get 11 rfl) (okl_of v2) (okl_mk (by omega) (fun _ _ => trivial) : GoT.ok (n + 1) ((e1).data.toList : List UInt8))) (fun _ => rfl) (fun _ => rfl) ?_
   rintro ⟨p5, c4⟩ hq3
   have q2 := len_specAB out ((e1).data.toList)
   refine R0 ?_
   refine WX.see rfl rfl rfl (fun _ hΓ => looks_arith rfl rfl rfl rfl (by unfold I64; first | omega | (simp only [List.length_take] at *; omega))) ?_
   refine R0 ?_
   refine WX.turn [14] 10 rfl (fun _ h => h) rfl ?_
   have r5 : (spec_AppendBytes out ((e1).data.toList)).length ≤ bd (n + 3) := (okl hq3).1
   exact WX.iter (p5, c4, (spec_AppendBytes out ((e1).data.toList)), i + 1) ⟨(by omega), (okl_mk (by omega) (fun _ _ => trivial) : GoT.ok (n + 1) ((spec_AppendBytes out ((e1).data.toList)) : List UInt8)), (by have z_ := hv0.2 _ (List.mem_of_getElem? e1h); have z2_ : ((e1).data.toList).length = (e1).size := rfl; omega), (by rw [v4, drop_get e1h]; simp only [spec_AppendName_L1, ct, cf])⟩ (by first | (dsimp only; omega) | omega) (.cons rfl (.cons rfl (.cons rfl (.nil)))) (.cons rfl (.nil)) .nil [0, 1, 10] rfl
  ·skip
   have h2d := B.df h2
   refine R0 ?_
   have hX1 : spec_AppendName_L1 n_.parts ((spec_AppendVarint b (((n_.parts).length : Nat) : Int)) : List UInt8) = ((out) : List UInt8) := by rw [v4, List.drop_eq_nil_of_le (show (n_.parts).length ≤ i by omega)]; simp only [spec_AppendName_L1, ct, cf]
   have hP2 : spec_AppendName b n_ = out := by simp only [spec_AppendName, h1, hX1, ct, cf]
   refine R1 ?_
   intro w1 G bs hI hΓ
   rw [hP2]
   exact Post.of [10] (pout, cout) hI hΓ rfl rfl rfl (okl_of v2)
theorem f40 (w : World) (n : Nat) (hn : n + 0 ≤ 9) (b : (List UInt8)) (pb : Option Addr) (cb : Nat) (N0 : RdSl (hp w) pb cb b) (at_ : Int) (hokb : GoT.ok n b) (hokat_ : GoT.ok n at_) :
  Does Try.prog 40 #[.slice pb ((b).length) cb, .int .i64 (at_)] w emp (fun (rv : Value) (_ : World) => rv = .tuple #[.int .i64 ((impl_ReadVarint b at_).1), .int .i64 ((impl_ReadVarint b at_).2.1), .bool ((impl_ReadVarint b at_).2.2)] ∧ GoT.ok n ((impl_ReadVarint b at_).1 : Int) ∧ GoT.ok n ((impl_ReadVarint b at_).2.1 : Int)) := by
 have hbP := bd_pos n
 have hbB := bd_big (n := n) (by omega)
 refine WX.enter (tt := tt) (Γ := [(0, MF.rs .stb pb cb b)]) Try.func40 rfl (by kernel_rfl) rfl (allS_cons rfl N0 allS_nil) ?_
 refine R0 ?_
 refine WX.cases 11 rfl (fun h1 => ?_) (fun h1 => ?_)
 ·skip
  have h1d := B.dt h1
  refine R0 ?_
  have hP1 : impl_ReadVarint b at_ = (0, 0, false) := by simp only [impl_ReadVarint, h1, ct, cf]
  refine R1 ?_
  intro w1 G bs hI hΓ
  rw [hP1]
  exact ⟨rfl, ⟨(show I64 0 from (by unfold I64; omega)), (show I64 0 from (by unfold I64; omega))⟩⟩
 ·skip
  have h1d := B.df h1
  refine R0 ?_
  refine WX.loop (ι := Int × Int × Nat) ⟨fun | (at_2, n_, i) => (i ≤ 6) ∧ (-9223372036854775808 ≤ at_2 ∧ at_2 ≤ 9223372036854775807) ∧ (-9223372036854775808 ≤ n_ ∧ n_ ≤ 9223372036854775807) ∧ (0 ≤ at_2) ∧ (impl_ReadVarint_L1 b 6 0 at_ 0 = impl_ReadVarint_L1 b (6 - i) i at_2 n_), fun | (at_2, n_, i) => 6 - i, fun | (at_2, n_, i) => [(1, .v (.int .i64 (at_2))), (7, .v (.int .i64 (n_))), (8, .v (.int .i64 (((i : Nat) : Int)))), (0, .v (.slice pb ((b).length) cb))], fun | (at_2, n_, i) => [], fun | (at_2, n_, i) => [], fun | (at_2, n_, i) => [(0, MF.rs .stb pb cb b)]⟩ (at_, 0, 0) ⟨(Nat.zero_le _), hokat_, (by first | assumption | omega), (by omega), rfl⟩
   (.cons rfl (.cons rfl (.cons rfl (.cons rfl (.nil))))) .nil .nil [0] rfl ?_
  rintro ⟨at_2, n_, i⟩ hpre
  have hpre_ : (i ≤ 6) ∧ (-9223372036854775808 ≤ at_2 ∧ at_2 ≤ 9223372036854775807) ∧ (-9223372036854775808 ≤ n_ ∧ n_ ≤ 9223372036854775807) ∧ (0 ≤ at_2) ∧ (impl_ReadVarint_L1 b 6 0 at_ 0 = impl_ReadVarint_L1 b (6 - i) i at_2 n_) := hpre
  clear hpre
  obtain ⟨v1, v2, v3, v4, v5⟩ := hpre_
  have hb9 : b.length ≤ bd n := (okl hokb).1
  refine R0 ?_
  refine WX.cases 14 rfl (fun h2 => ?_) (fun h2 => ?_)
  ·skip
   have h2d := B.dt h2
   refine R0 ?_
   refine WX.cases 19 rfl (fun h3 => ?_) (fun h3 => ?_)
   ·skip
    have h3d := B.dt h3
    refine R0 ?_
    refine WX.slot 23 (y := .v (.int .i64 (((at_2).toNat : Nat) : Int))) rfl (fun _ => congrArg (Value.int .i64) (show at_2 = (((at_2).toNat : Nat) : Int) from by omega)) ?_
    have e1i : (at_2).toNat < (b).length := (by first | assumption | omega)
    obtain ⟨e1, e1h⟩ : ∃ e1, (b)[(at_2).toNat]? = some e1 := ⟨_, List.getElem?_eq_getElem e1i⟩
    refine WX.idx 0 ((at_2).toNat) ttOk rfl rfl rfl rfl rfl rfl rfl rfl rfl rfl e1i ?_
    rintro ad1 rfl
    refine WX.ldE 0 1 e1 ttOk rfl rfl rfl rfl rfl rfl rfl rfl e1h (fun _ => rfl) (fun _ => rfl) ?_
    rintro ⟨⟩
    refine WX.see rfl rfl rfl (fun _ hΓ => looks_ofU8 ttOk rfl rfl rfl rfl rfl rfl) ?_
    refine R0 ?_
    refine WX.see rfl rfl rfl (fun _ hΓ => looks_arith rfl rfl rfl rfl (by unfold I64; first | omega | (simp only [List.length_take] at *; omega))) ?_
    refine R0 ?_
    refine WX.see rfl rfl rfl (fun _ hΓ => looks_bits rfl rfl rfl rfl) ?_
    refine R0 ?_
    refine WX.see rfl rfl rfl (fun _ hΓ => looks_arith rfl rfl rfl rfl (by unfold I64; first | omega | (simp only [List.length_take] at *; omega))) ?_
    refine WX.see rfl rfl rfl (fun _ hΓ => looks_shl rfl rfl rfl (by omega)) ?_
    refine WX.see rfl rfl rfl (fun _ hΓ => looks_bits rfl rfl rfl rfl) ?_
    refine R0 ?_
    refine WX.cases 37 rfl (fun h4 => ?_) (fun h4 => ?_)
    ·skip
     have h4d := B.dt h4
     refine R0 ?_
     refine WX.cases 40 rfl (fun h5 => ?_) (fun h5 => ?_)
     ·skip
      have h5d := B.et h5
      refine R0 ?_
      refine WX.cases 44 rfl (fun h6 => ?_) (fun h6 => ?_)
      ·skip
       have h6d := B.dt h6
       refine R0 ?_
       have hP2 : impl_ReadVarint_L1 b 6 0 at_ 0 = (Ctl.ret (0, 0, false)) := by rw [v5, show 6 - i = (6 - (i + 1)) + 1 by omega]; simp only [impl_ReadVarint_L1, h3, e1h, h4, h5, h6, ct, cf]
       have hP3 : impl_ReadVarint b at_ = (0, 0, false) := by simp only [impl_ReadVarint, h1, hP2, ct, cf]
       refine R1 ?_
       intro w1 G bs hI hΓ
       rw [hP3]
       exact ⟨rfl, ⟨(show I64 0 from (by unfold I64; omega)), (show I64 0 from (by unfold I64; omega))⟩⟩
      ·skip
       have h6d := B.df h6
       refine R0 ?_
       refine WX.cases 47 rfl (fun h7 => ?_) (fun h7 => ?_)
       ·skip
        have h7d := B.dt h7
        refine R0 ?_
        have hP4 : impl_ReadVarint_L1 b 6 0 at_ 0 = (Ctl.ret (0, 0, false)) := by rw [v5, show 6 - i = (6 - (i + 1)) + 1 by omega]; simp only [impl_ReadVarint_L1, h3, e1h, h4, h5, h6, h7, ct, cf]
        have hP5 : impl_ReadVarint b at_ = (0, 0, false) := by simp only [impl_ReadVarint, h1, hP4, ct, cf]
        refine R1 ?_
        intro w1 G bs hI hΓ
        rw [hP5]
        exact ⟨rfl, ⟨(show I64 0 from (by unfold I64; omega)), (show I64 0 from (by unfold I64; omega))⟩⟩
       ·skip
        have h7d := B.df h7
        refine R0 ?_
        have hP6 : impl_ReadVarint_L1 b 6 0 at_ 0 = (Ctl.ret (bitO .or n_ (IntKind.i64.wrap ((bitO .and ((e1).toNat : Int) 127) * 2 ^ (min (Int.toNat (7 * ((i : Nat) : Int))) 64))), at_2 + 1, true)) := by rw [v5, show 6 - i = (6 - (i + 1)) + 1 by omega]; simp only [impl_ReadVarint_L1, h3, e1h, h4, h5, h6, h7, ct, cf]
        have hP7 : impl_ReadVarint b at_ = (bitO .or n_ (IntKind.i64.wrap ((bitO .and ((e1).toNat : Int) 127) * 2 ^ (min (Int.toNat (7 * ((i : Nat) : Int))) 64))), at_2 + 1, true) := by simp only [impl_ReadVarint, h1, hP6, ct, cf]
        refine R1 ?_
        intro w1 G bs hI hΓ
        rw [hP7]
        exact ⟨rfl, ⟨(show I64 (bitO .or n_ (IntKind.i64.wrap ((bitO .and ((e1).toNat : Int) 127) * 2 ^ (min (Int.toNat (7 * ((i : Nat) : Int))) 64)))) from bitO_I64 _ _ _), (show I64 (at_2 + 1) from (by unfold I64; omega))⟩⟩
     ·skip
      have h5d := B.ef h5
      refine R0 ?_
      refine WX.cases 47 rfl (fun h8 => ?_) (fun h8 => ?_)
      ·skip
       have h8d := B.dt h8
       refine R0 ?_
       have hP8 : impl_ReadVarint_L1 b 6 0 at_ 0 = (Ctl.ret (0, 0, false)) := by rw [v5, show 6 - i = (6 - (i + 1)) + 1 by omega]; simp only [impl_ReadVarint_L1, h3, e1h, h4, h5, h8, ct, cf]
       have hP9 : impl_ReadVarint b at_ = (0, 0, false) := by simp only [impl_ReadVarint, h1, hP8, ct, cf]
       refine R1 ?_
       intro w1 G bs hI hΓ
       rw [hP9]
       exact ⟨rfl, ⟨(show I64 0 from (by unfold I64; omega)), (show I64 0 from (by unfold I64; omega))⟩⟩
      ·skip
       have h8d := B.df h8
       refine R0 ?_
       have hP10 : impl_ReadVarint_L1 b 6 0 at_ 0 = (Ctl.ret (bitO .or n_ (IntKind.i64.wrap ((bitO .and ((e1).toNat : Int) 127) * 2 ^ (min (Int.toNat (7 * ((i : Nat) : Int))) 64))), at_2 + 1, true)) := by rw [v5, show 6 - i = (6 - (i + 1)) + 1 by omega]; simp only [impl_ReadVarint_L1, h3, e1h, h4, h5, h8, ct, cf]
       have hP11 : impl_ReadVarint b at_ = (bitO .or n_ (IntKind.i64.wrap ((bitO .and ((e1).toNat : Int) 127) * 2 ^ (min (Int.toNat (7 * ((i : Nat) : Int))) 64))), at_2 + 1, true) := by simp only [impl_ReadVarint, h1, hP10, ct, cf]
       refine R1 ?_
       intro w1 G bs hI hΓ
       rw [hP11]
       exact ⟨rfl, ⟨(show I64 (bitO .or n_ (IntKind.i64.wrap ((bitO .and ((e1).toNat : Int) 127) * 2 ^ (min (Int.toNat (7 * ((i : Nat) : Int))) 64)))) from bitO_I64 _ _ _), (show I64 (at_2 + 1) from (by unfold I64; omega))⟩⟩
    ·skip
     have h4d := B.df h4
     refine R0 ?_
     refine WX.see rfl rfl rfl (fun _ hΓ => looks_arith rfl rfl rfl rfl (by unfold I64; first | omega | (simp only [List.length_take] at *; omega))) ?_
     refine R0 ?_
     exact WX.iter (at_2 + 1, bitO .or n_ (IntKind.i64.wrap ((bitO .and ((e1).toNat : Int) 127) * 2 ^ (min (Int.toNat (7 * ((i : Nat) : Int))) 64))), i + 1) ⟨(by omega), (by first | assumption | omega), (bitO_I64 .or n_ (IntKind.i64.wrap ((bitO .and ((e1).toNat : Int) 127) * 2 ^ (min (Int.toNat (7 * ((i : Nat) : Int))) 64)))), (by omega), (by rw [v5, show 6 - i = (6 - (i + 1)) + 1 by omega]; simp only [impl_ReadVarint_L1, h3, e1h, h4, ct, cf])⟩ (by first | (dsimp only; omega) | omega) (.cons rfl (.cons rfl (.cons rfl (.cons rfl (.nil))))) .nil .nil [0] rfl
   ·skip
    have h3d := B.df h3
    refine R0 ?_
    have hX1 : impl_ReadVarint_L1 b 6 0 at_ 0 = (Ctl.nxt (at_2, n_)) := by rw [v5, show 6 - i = (6 - (i + 1)) + 1 by omega]; simp only [impl_ReadVarint_L1, h3, ct, cf]
    have hP12 : impl_ReadVarint b at_ = (0, 0, false) := by simp only [impl_ReadVarint, h1, hX1, ct, cf]
    refine R1 ?_
    intro w1 G bs hI hΓ
    rw [hP12]
    exact ⟨rfl, ⟨(show I64 0 from (by unfold I64; omega)), (show I64 0 from (by unfold I64; omega))⟩⟩
  ·skip
   have h2d := B.df h2
   refine R0 ?_
   have hX2 : impl_ReadVarint_L1 b 6 0 at_ 0 = (Ctl.nxt (at_2, n_)) := by rw [v5, show 6 - i = 0 by omega]; simp only [impl_ReadVarint_L1, ct, cf]
   have hP13 : impl_ReadVarint b at_ = (0, 0, false) := by simp only [impl_ReadVarint, h1, hX2, ct, cf]
   refine R1 ?_
   intro w1 G bs hI hΓ
   rw [hP13]
   exact ⟨rfl, ⟨(show I64 0 from (by unfold I64; omega)), (show I64 0 from (by unfold I64; omega))⟩⟩
theorem f42 (w : World) (n : Nat) (hn : n + 0 ≤ 9) (b : (List UInt8)) (pb : Option Addr) (cb : Nat) (N0 : RdSl (hp w) pb cb b) (at_ : Int) (hokb : GoT.ok n b) (hokat_ : GoT.ok n at_) :
  Does Try.prog 42 #[.slice pb ((b).length) cb, .int .i64 (at_)] w emp (fun (rv : Value) (_ : World) => rv = .tuple #[.int .i64 ((spec_ReadVarint b at_).1), .int .i64 ((spec_ReadVarint b at_).2.1), .bool ((spec_ReadVarint b at_).2.2)] ∧ GoT.ok n ((spec_ReadVarint b at_).1 : Int) ∧ GoT.ok n ((spec_ReadVarint b at_).2.1 : Int)) := by
 have hbP := bd_pos n
 have hbB := bd_big (n := n) (by omega)
 refine WX.enter (tt := tt) (Γ := [(0, MF.rs .stb pb cb b)]) Try.func42 rfl (by kernel_rfl) rfl (allS_cons rfl N0 allS_nil) ?_
 refine R0 ?_
 refine WX.loop (ι := Int × Nat) ⟨fun | (n_, i) => (i ≤ 6) ∧ (-9223372036854775808 ≤ n_ ∧ n_ ≤ 9223372036854775807) ∧ (spec_ReadVarint_L1 b at_ 6 0 0 = spec_ReadVarint_L1 b at_ (6 - i) i n_), fun | (n_, i) => 6 - i, fun | (n_, i) => [(7, .v (.int .i64 (n_))), (8, .v (.int .i64 (((i : Nat) : Int)))), (0, .v (.slice pb ((b).length) cb)), (1, .v (.int .i64 (at_)))], fun | (n_, i) => [], fun | (n_, i) => [], fun | (n_, i) => [(0, MF.rs .stb pb cb b)]⟩ (0, 0) ⟨(Nat.zero_le _), (by first | assumption | omega), rfl⟩
  (.cons rfl (.cons rfl (.cons rfl (.cons rfl (.nil))))) .nil .nil [0] rfl ?_
 rintro ⟨n_, i⟩ hpre
 have hpre_ : (i ≤ 6) ∧ (-9223372036854775808 ≤ n_ ∧ n_ ≤ 9223372036854775807) ∧ (spec_ReadVarint_L1 b at_ 6 0 0 = spec_ReadVarint_L1 b at_ (6 - i) i n_) := hpre
 clear hpre
 obtain ⟨v1, v2, v3⟩ := hpre_
 have hb9 : b.length ≤ bd n := (okl hokb).1
 refine R0 ?_
 refine WX.cases 11 rfl (fun h1 => ?_) (fun h1 => ?_)
 ·skip
  have h1d := B.dt h1
  refine R0 ?_
  refine WX.cases 16 rfl (fun h2 => ?_) (fun h2 => ?_)
  ·skip
   have h2d := B.dt h2
   refine R0 ?_
   have hP1 : spec_ReadVarint_L1 b at_ 6 0 0 = (Ctl.ret (0, 0, false)) := by rw [v3, show 6 - i = (6 - (i + 1)) + 1 by omega]; simp only [spec_ReadVarint_L1, h2, ct, cf]
   have hP2 : spec_ReadVarint b at_ = (0, 0, false) := by simp only [spec_ReadVarint, hP1, ct, cf]
   refine R1 ?_
   intro w1 G bs hI hΓ
   rw [hP2]
   exact ⟨rfl, ⟨(show I64 0 from (by unfold I64; omega)), (show I64 0 from (by unfold I64; omega))⟩⟩
  ·skip
   have h2d := B.df h2
   refine R0 ?_
   have r1 : (b).length ≤ bd n := (okl hokb).1
   refine WX.see rfl rfl rfl (fun _ hΓ => looks_arith rfl rfl rfl rfl (by unfold I64; first | omega | (simp only [List.length_take] at *; omega))) ?_
   refine R0 ?_
   refine WX.cases 23 rfl (fun h3 => ?_) (fun h3 => ?_)
   ·skip
    have h3d := B.dt h3
    refine R0 ?_
    have hP3 : spec_ReadVarint_L1 b at_ 6 0 0 = (Ctl.ret (0, 0, false)) := by rw [v3, show 6 - i = (6 - (i + 1)) + 1 by omega]; simp only [spec_ReadVarint_L1, h2, h3, ct, cf]
    have hP4 : spec_ReadVarint b at_ = (0, 0, false) := by simp only [spec_ReadVarint, hP3, ct, cf]
    refine R1 ?_
    intro w1 G bs hI hΓ
    rw [hP4]
    exact ⟨rfl, ⟨(show I64 0 from (by unfold I64; omega)), (show I64 0 from (by unfold I64; omega))⟩⟩
   ·skip
    have h3d := B.df h3
    refine R0 ?_
    have r2 : -9223372036854775808 ≤ at_ ∧ at_ ≤ 9223372036854775807 := hokat_
    refine WX.see rfl rfl rfl (fun _ hΓ => looks_arith rfl rfl rfl rfl (by unfold I64; first | omega | (simp only [List.length_take] at *; omega))) ?_
    refine WX.slot 27 (y := .v (.int .i64 (((at_ + ((i : Nat) : Int)).toNat : Nat) : Int))) rfl (fun _ => congrArg (Value.int .i64) (show at_ + ((i : Nat) : Int) = (((at_ + ((i : Nat) : Int)).toNat : Nat) : Int) from by omega)) ?_
    have e1i : (at_ + ((i : Nat) : Int)).toNat < (b).length := (by first | assumption | omega)
    obtain ⟨e1, e1h⟩ : ∃ e1, (b)[(at_ + ((i : Nat) : Int)).toNat]? = some e1 := ⟨_, List.getElem?_eq_getElem e1i⟩
    refine WX.idx 0 ((at_ + ((i : Nat) : Int)).toNat) ttOk rfl rfl rfl rfl rfl rfl rfl rfl rfl rfl e1i ?_
    rintro ad1 rfl
    refine WX.ldE 0 1 e1 ttOk rfl rfl rfl rfl rfl rfl rfl rfl e1h (fun _ => rfl) (fun _ => rfl) ?_
    rintro ⟨⟩
    refine WX.see rfl rfl rfl (fun _ hΓ => looks_ofU8 ttOk rfl rfl rfl rfl rfl rfl) ?_
    refine R0 ?_
    refine WX.see rfl rfl rfl (fun _ hΓ => looks_bits rfl rfl rfl rfl) ?_
    refine R0 ?_
    refine WX.see rfl rfl rfl (fun _ hΓ => looks_arith rfl rfl rfl rfl (by unfold I64; first | omega | (simp only [List.length_take] at *; omega))) ?_
    refine WX.see rfl rfl rfl (fun _ hΓ => looks_shl rfl rfl rfl (by omega)) ?_
    refine WX.see rfl rfl rfl (fun _ hΓ => looks_bits rfl rfl rfl rfl) ?_
    refine R0 ?_
    refine WX.cases 39 rfl (fun h4 => ?_) (fun h4 => ?_)
    ·skip
     have h4d := B.dt h4
     refine R0 ?_
     refine WX.cases 42 rfl (fun h5 => ?_) (fun h5 => ?_)
     ·skip
      have h5d := B.et h5
      refine R0 ?_
      refine WX.cases 46 rfl (fun h6 => ?_) (fun h6 => ?_)
      ·skip
       have h6d := B.dt h6
       refine R0 ?_
       have hP5 : spec_ReadVarint_L1 b at_ 6 0 0 = (Ctl.ret (0, 0, false)) := by rw [v3, show 6 - i = (6 - (i + 1)) + 1 by omega]; simp only [spec_ReadVarint_L1, h2, h3, e1h, h4, h5, h6, ct, cf]
       have hP6 : spec_ReadVarint b at_ = (0, 0, false) := by simp only [spec_ReadVarint, hP5, ct, cf]
       refine R1 ?_
       intro w1 G bs hI hΓ
       rw [hP6]
       exact ⟨rfl, ⟨(show I64 0 from (by unfold I64; omega)), (show I64 0 from (by unfold I64; omega))⟩⟩
      ·skip
       have h6d := B.df h6
       refine R0 ?_
       refine WX.cases 49 rfl (fun h7 => ?_) (fun h7 => ?_)
       ·skip
        have h7d := B.dt h7
        refine R0 ?_
        have hP7 : spec_ReadVarint_L1 b at_ 6 0 0 = (Ctl.ret (0, 0, false)) := by rw [v3, show 6 - i = (6 - (i + 1)) + 1 by omega]; simp only [spec_ReadVarint_L1, h2, h3, e1h, h4, h5, h6, h7, ct, cf]
        have hP8 : spec_ReadVarint b at_ = (0, 0, false) := by simp only [spec_ReadVarint, hP7, ct, cf]
        refine R1 ?_
        intro w1 G bs hI hΓ
        rw [hP8]
        exact ⟨rfl, ⟨(show I64 0 from (by unfold I64; omega)), (show I64 0 from (by unfold I64; omega))⟩⟩
       ·skip
        have h7d := B.df h7
        refine R0 ?_
        refine WX.see rfl rfl rfl (fun _ hΓ => looks_arith rfl rfl rfl rfl (by unfold I64; first | omega | (simp only [List.length_take] at *; omega))) ?_
        refine WX.see rfl rfl rfl (fun _ hΓ => looks_arith rfl rfl rfl rfl (by unfold I64; first | omega | (simp only [List.length_take] at *; omega))) ?_
        refine R0 ?_
        have hP9 : spec_ReadVarint_L1 b at_ 6 0 0 = (Ctl.ret (bitO .or n_ (IntKind.i64.wrap ((bitO .and ((e1).toNat : Int) 127) * 2 ^ (min (Int.toNat (7 * ((i : Nat) : Int))) 64))), (at_ + ((i : Nat) : Int)) + 1, true)) := by rw [v3, show 6 - i = (6 - (i + 1)) + 1 by omega]; simp only [spec_ReadVarint_L1, h2, h3, e1h, h4, h5, h6, h7, ct, cf]
        have hP10 : spec_ReadVarint b at_ = (bitO .or n_ (IntKind.i64.wrap ((bitO .and ((e1).toNat : Int) 127) * 2 ^ (min (Int.toNat (7 * ((i : Nat) : Int))) 64))), (at_ + ((i : Nat) : Int)) + 1, true) := by simp only [spec_ReadVarint, hP9, ct, cf]
        refine R1 ?_
        intro w1 G bs hI hΓ
        rw [hP10]
        exact ⟨rfl, ⟨(show I64 (bitO .or n_ (IntKind.i64.wrap ((bitO .and ((e1).toNat : Int) 127) * 2 ^ (min (Int.toNat (7 * ((i : Nat) : Int))) 64)))) from bitO_I64 _ _ _), (show I64 ((at_ + ((i : Nat) : Int)) + 1) from (by unfold I64; omega))⟩⟩
     ·skip
      have h5d := B.ef h5
      refine R0 ?_
      refine WX.cases 49 rfl (fun h8 => ?_) (fun h8 => ?_)
      ·skip
       have h8d := B.dt h8
       refine R0 ?_
       have hP11 : spec_ReadVarint_L1 b at_ 6 0 0 = (Ctl.ret (0, 0, false)) := by rw [v3, show 6 - i = (6 - (i + 1)) + 1 by omega]; simp only [spec_ReadVarint_L1, h2, h3, e1h, h4, h5, h8, ct, cf]
       have hP12 : spec_ReadVarint b at_ = (0, 0, false) := by simp only [spec_ReadVarint, hP11, ct, cf]
       refine R1 ?_
       intro w1 G bs hI hΓ
       rw [hP12]
       exact ⟨rfl, ⟨(show I64 0 from (by unfold I64; omega)), (show I64 0 from (by unfold I64; omega))⟩⟩
      ·skip
       have h8d := B.df h8
       refine R0 ?_
       refine WX.see rfl rfl rfl (fun _ hΓ => looks_arith rfl rfl rfl rfl (by unfold I64; first | omega | (simp only [List.length_take] at *; omega))) ?_
       refine WX.see rfl rfl rfl (fun _ hΓ => looks_arith rfl rfl rfl rfl (by unfold I64; first | omega | (simp only [List.length_take] at *; omega))) ?_
       refine R0 ?_
       have hP13 : spec_ReadVarint_L1 b at_ 6 0 0 = (Ctl.ret (bitO .or n_ (IntKind.i64.wrap ((bitO .and ((e1).toNat : Int) 127) * 2 ^ (min (Int.toNat (7 * ((i : Nat) : Int))) 64))), (at_ + ((i : Nat) : Int)) + 1, true)) := by rw [v3, show 6 - i = (6 - (i + 1)) + 1 by omega]; simp only [spec_ReadVarint_L1, h2, h3, e1h, h4, h5, h8, ct, cf]
       have hP14 : spec_ReadVarint b at_ = (bitO .or n_ (IntKind.i64.wrap ((bitO .and ((e1).toNat : Int) 127) * 2 ^ (min (Int.toNat (7 * ((i : Nat) : Int))) 64))), (at_ + ((i : Nat) : Int)) + 1, true) := by simp only [spec_ReadVarint, hP13, ct, cf]
       refine R1 ?_
       intro w1 G bs hI hΓ
       rw [hP14]
       exact ⟨rfl, ⟨(show I64 (bitO .or n_ (IntKind.i64.wrap ((bitO .and ((e1).toNat : Int) 127) * 2 ^ (min (Int.toNat (7 * ((i : Nat) : Int))) 64)))) from bitO_I64 _ _ _), (show I64 ((at_ + ((i : Nat) : Int)) + 1) from (by unfold I64; omega))⟩⟩
    ·skip
     have h4d := B.df h4
     refine R0 ?_
     refine WX.see rfl rfl rfl (fun _ hΓ => looks_arith rfl rfl rfl rfl (by unfold I64; first | omega | (simp only [List.length_take] at *; omega))) ?_
     refine R0 ?_
     exact WX.iter (bitO .or n_ (IntKind.i64.wrap ((bitO .and ((e1).toNat : Int) 127) * 2 ^ (min (Int.toNat (7 * ((i : Nat) : Int))) 64))), i + 1) ⟨(by omega), (bitO_I64 .or n_ (IntKind.i64.wrap ((bitO .and ((e1).toNat : Int) 127) * 2 ^ (min (Int.toNat (7 * ((i : Nat) : Int))) 64)))), (by rw [v3, show 6 - i = (6 - (i + 1)) + 1 by omega]; simp only [spec_ReadVarint_L1, h2, h3, e1h, h4, ct, cf])⟩ (by first | (dsimp only; omega) | omega) (.cons rfl (.cons rfl (.cons rfl (.cons rfl (.nil))))) .nil .nil [0] rfl
 ·skip
  have h1d := B.df h1
  refine R0 ?_
  have hX1 : spec_ReadVarint_L1 b at_ 6 0 0 = (Ctl.nxt n_) := by rw [v3, show 6 - i = 0 by omega]; simp only [spec_ReadVarint_L1, ct, cf]
  have hP15 : spec_ReadVarint b at_ = (0, 0, false) := by simp only [spec_ReadVarint, hX1, ct, cf]
  refine R1 ?_
  intro w1 G bs hI hΓ
  rw [hP15]
  exact ⟨rfl, ⟨(show I64 0 from (by unfold I64; omega)), (show I64 0 from (by unfold I64; omega))⟩⟩
theorem f69 (w : World) (n : Nat) (hn : n + 0 ≤ 9) (b : (List UInt8)) (pb : Option Addr) (cb : Nat) (N0 : RdSl (hp w) pb cb b) (at_ : Int) (most : Int) (hokb : GoT.ok n b) (hokat_ : GoT.ok n at_) (hokmost : GoT.ok n most) :
  Does Try.prog 69 #[.slice pb ((b).length) cb, .int .i64 (at_), .int .i64 (most)] w emp (Post w emp (fun x : GoT.X ((List UInt8)) => .tuple #[(GoT.sh ((impl_ReadBytes b at_ most).1 : (List UInt8)) x).headD undef, .int .i64 ((impl_ReadBytes b at_ most).2.1), .bool ((impl_ReadBytes b at_ most).2.2)]) (fun x => GoT.oa ((impl_ReadBytes b at_ most).1 : (List UInt8)) x) (GoT.ok n ((impl_ReadBytes b at_ most).1 : (List UInt8)) ∧ GoT.ok n ((impl_ReadBytes b at_ most).2.1 : Int))) := by
 have hbP := bd_pos n
 have hbB := bd_big (n := n) (by omega)
 refine WX.enter (tt := tt) (Γ := [(0, MF.rs .stb pb cb b)]) Try.func69 rfl (by kernel_rfl) rfl (allS_cons rfl N0 allS_nil) ?_
 refine R0 ?_
 refine WX.callV rfl rfl rfl rfl rfl (fun _ => rfl) rfl (fun w G bs hI hΓ => f40 w n (by omega) b pb cb (hΓ.get 0 rfl) at_ hokb hokat_) ?_
 intro hq1
 have qv1 := rv_impl b at_
 refine R0 ?_
 refine WX.cases 21 rfl (fun h1 => ?_) (fun h1 => ?_)
 ·skip
  have h1d := (B.nt h1)
  refine R0 ?_
  refine WX.free 1 (MF.os none 0 ([] : List UInt8)) (owSl_nil _ _) ?_
  have hP1 : impl_ReadBytes b at_ most = (([] : List UInt8), 0, false) := by simp only [impl_ReadBytes, h1, ct, cf]
  refine R1 ?_
  intro w1 G bs hI hΓ
  rw [hP1]
  exact Post.of [1] (none, 0) hI hΓ rfl rfl rfl (⟨(ok_nil (α := UInt8)), (show I64 0 from (by unfold I64; omega))⟩)
 ·skip
  have h1d := (B.nf h1)
  have hzh1 := qv1 h1d
  refine R0 ?_
  refine WX.cases 26 rfl (fun h2 => ?_) (fun h2 => ?_)
  ·skip
   have h2d := B.dt h2
   refine R0 ?_
   refine WX.free 2 (MF.os none 0 ([] : List UInt8)) (owSl_nil _ _) ?_
   have hP2 : impl_ReadBytes b at_ most = (([] : List UInt8), 0, false) := by simp only [impl_ReadBytes, h1, h2, ct, cf]
   refine R1 ?_
   intro w1 G bs hI hΓ
   rw [hP2]
   exact Post.of [2] (none, 0) hI hΓ rfl rfl rfl (⟨(ok_nil (α := UInt8)), (show I64 0 from (by unfold I64; omega))⟩)
  ·skip
   have h2d := B.df h2
   refine R0 ?_
   have r1 : (b).length ≤ bd n := (okl hokb).1
   have r2 : -9223372036854775808 ≤ at_ ∧ at_ ≤ 9223372036854775807 := hokat_
   have r3 : -9223372036854775808 ≤ ((impl_ReadVarint b at_).2.1) ∧ ((impl_ReadVarint b at_).2.1) ≤ 9223372036854775807 := hq1.2
   refine WX.see rfl rfl rfl (fun _ hΓ => looks_arith rfl rfl rfl rfl (by have z_ := qv1 (by assumption); unfold I64; omega)) ?_
   refine R0 ?_
   refine WX.cases 33 rfl (fun h3 => ?_) (fun h3 => ?_)
   ·skip
    have h3d := B.dt h3
    refine R0 ?_
    refine WX.free 3 (MF.os none 0 ([] : List UInt8)) (owSl_nil _ _) ?_
    have hP3 : impl_ReadBytes b at_ most = (([] : List UInt8), 0, false) := by simp only [impl_ReadBytes, h1, h2, h3, ct, cf]
    refine R1 ?_
    intro w1 G bs hI hΓ
    rw [hP3]
    exact Post.of [3] (none, 0) hI hΓ rfl rfl rfl (⟨(ok_nil (α := UInt8)), (show I64 0 from (by unfold I64; omega))⟩)
   ·skip
    have h3d := B.df h3
    refine R0 ?_
    have r4 : -9223372036854775808 ≤ ((impl_ReadVarint b at_).1) ∧ ((impl_ReadVarint b at_).1) ≤ 9223372036854775807 := hq1.1
    refine WX.see rfl rfl rfl (fun _ hΓ => looks_arith rfl rfl rfl rfl (by have z_ := qv1 (by assumption); unfold I64; omega)) ?_
    refine WX.see rfl rfl rfl (fun _ hΓ => looks_slB (Int.toNat ((impl_ReadVarint b at_).2.1)) (Int.toNat (((impl_ReadVarint b at_).2.1) + ((impl_ReadVarint b at_).1))) ttOk rfl rfl rfl rfl rfl (show (impl_ReadVarint b at_).2.1 = (((Int.toNat ((impl_ReadVarint b at_).2.1)) : Nat) : Int) from (by have z_ := qv1 (by assumption); omega)) (show ((impl_ReadVarint b at_).2.1) + ((impl_ReadVarint b at_).1) = (((Int.toNat (((impl_ReadVarint b at_).2.1) + ((impl_ReadVarint b at_).1))) : Nat) : Int) from (by have z_ := qv1 (by assumption); omega)) (show (Int.toNat ((impl_ReadVarint b at_).2.1)) ≤ (Int.toNat (((impl_ReadVarint b at_).2.1) + ((impl_ReadVarint b at_).1))) from (by have z_ := qv1 (by assumption); omega)) (Nat.le_trans (show (Int.toNat (((impl_ReadVarint b at_).2.1) + ((impl_ReadVarint b at_).1))) ≤ (b).length from (by have z_ := qv1 (by assumption); omega)) (hΓ.get 0 rfl : RdSl _ _ _ _).1)) ?_
    refine WX.slot 39 (y := .v (.slice (offP pb cb (Int.toNat ((impl_ReadVarint b at_).2.1)) 1) (((List.take ((Int.toNat (((impl_ReadVarint b at_).2.1) + ((impl_ReadVarint b at_).1))) - (Int.toNat ((impl_ReadVarint b at_).2.1))) (List.drop (Int.toNat ((impl_ReadVarint b at_).2.1)) b))).length) (cb - (Int.toNat ((impl_ReadVarint b at_).2.1))))) rfl (fun _ => by rw [show ((List.take ((Int.toNat (((impl_ReadVarint b at_).2.1) + ((impl_ReadVarint b at_).1))) - (Int.toNat ((impl_ReadVarint b at_).2.1))) (List.drop (Int.toNat ((impl_ReadVarint b at_).2.1)) b))).length = (Int.toNat (((impl_ReadVarint b at_).2.1) + ((impl_ReadVarint b at_).1))) - (Int.toNat ((impl_ReadVarint b at_).2.1)) from (by simp only [List.length_take, List.length_drop]; have z_ := (show (Int.toNat ((impl_ReadVarint b at_).2.1)) ≤ (Int.toNat (((impl_ReadVarint b at_).2.1) + ((impl_ReadVarint b at_).1))) from (by have z_ := qv1 (by assumption); omega)); have z2_ := (show (Int.toNat (((impl_ReadVarint b at_).2.1) + ((impl_ReadVarint b at_).1))) ≤ (b).length from (by have z_ := qv1 (by assumption); omega)); omega)]) ?_
    refine WX.der 4 (MF.rs .der (offP pb cb (Int.toNat ((impl_ReadVarint b at_).2.1)) 1) (cb - (Int.toNat ((impl_ReadVarint b at_).2.1))) (List.take ((Int.toNat (((impl_ReadVarint b at_).2.1) + ((impl_ReadVarint b at_).1))) - (Int.toNat ((impl_ReadVarint b at_).2.1))) (List.drop (Int.toNat ((impl_ReadVarint b at_).2.1)) b))) rfl (fun _ hΓ => RdSl.pre (RdSl.suf (hΓ.get 0 rfl : RdSl _ _ _ _) (Int.toNat ((impl_ReadVarint b at_).2.1))) ((Int.toNat (((impl_ReadVarint b at_).2.1) + ((impl_ReadVarint b at_).1))) - (Int.toNat ((impl_ReadVarint b at_).2.1)))) ?_
    refine WX.callF 5 (fun _ _ h => GoT.ow_rd h) (fun _ f hf => GoT.fak f hf) rfl rfl rfl rfl rfl (fun _ => rfl) rfl (fun w G bs hI hΓ => f85 w n (by omega) (List.take ((Int.toNat (((impl_ReadVarint b at_).2.1) + ((impl_ReadVarint b at_).1))) - (Int.toNat ((impl_ReadVarint b at_).2.1))) (List.drop (Int.toNat ((impl_ReadVarint b at_).2.1)) b)) (offP pb cb (Int.toNat ((impl_ReadVarint b at_).2.1)) 1) (cb - (Int.toNat ((impl_ReadVarint b at_).2.1))) (hΓ.get 4 rfl) (okl_mk (by first | assumption | omega | (simp; omega)) (fun _ _ => trivial) : GoT.ok n ((List.take ((Int.toNat (((impl_ReadVarint b at_).2.1) + ((impl_ReadVarint b at_).1))) - (Int.toNat ((impl_ReadVarint b at_).2.1))) (List.drop (Int.toNat ((impl_ReadVarint b at_).2.1)) b)) : List UInt8))) (fun _ => rfl) (fun _ => rfl) ?_
    rintro ⟨p1, c1⟩ hq2
    refine R0 ?_
    refine WX.see rfl rfl rfl (fun _ hΓ => looks_arith rfl rfl rfl rfl (by have z_ := qv1 (by assumption); unfold I64; omega)) ?_
    refine R0 ?_
    have hP4 : impl_ReadBytes b at_ most = (List.take ((Int.toNat (((impl_ReadVarint b at_).2.1) + ((impl_ReadVarint b at_).1))) - (Int.toNat ((impl_ReadVarint b at_).2.1))) (List.drop (Int.toNat ((impl_ReadVarint b at_).2.1)) b), ((impl_ReadVarint b at_).2.1) + ((impl_ReadVarint b at_).1), true) := by simp only [impl_ReadBytes, h1, h2, h3, ct, cf]
    refine R1 ?_
    intro w1 G bs hI hΓ
    rw [hP4]
    exact Post.of [6] (p1, c1) hI hΓ rfl rfl rfl (⟨hq2, (show I64 (((impl_ReadVarint b at_).2.1) + ((impl_ReadVarint b at_).1)) from (by unfold I64; omega))⟩)
theorem f71 (w : World) (n : Nat) (hn : n + 0 ≤ 9) (b : (List UInt8)) (pb : Option Addr) (cb : Nat) (N0 : RdSl (hp w) pb cb b) (at_ : Int) (most : Int) (hokb : GoT.ok n b) (hokat_ : GoT.ok n at_) (hokmost : GoT.ok n most) :
  Does Try.prog 71 #[.slice pb ((b).length) cb, .int .i64 (at_), .int .i64 (most)] w emp (Post w emp (fun x : GoT.X ((List UInt8)) => .tuple #[(GoT.sh ((spec_ReadBytes b at_ most).1 : (List UInt8)) x).headD undef, .int .i64 ((spec_ReadBytes b at_ most).2.1), .bool ((spec_ReadBytes b at_ most).2.2)]) (fun x => GoT.oa ((spec_ReadBytes b at_ most).1 : (List UInt8)) x) (GoT.ok n ((spec_ReadBytes b at_ most).1 : (List UInt8)) ∧ GoT.ok n ((spec_ReadBytes b at_ most).2.1 : Int))) := by
 have hbP := bd_pos n
 have hbB := bd_big (n := n) (by omega)
 refine WX.enter (tt := tt) (Γ := [(0, MF.rs .stb pb cb b)]) Try.func71 rfl (by kernel_rfl) rfl (allS_cons rfl N0 allS_nil) ?_
 refine R0 ?_
 refine WX.callV rfl rfl rfl rfl rfl (fun _ => rfl) rfl (fun w G bs hI hΓ => f42 w n (by omega) b pb cb (hΓ.get 0 rfl) at_ hokb hokat_) ?_
 intro hq1
 have qv1 := rv_spec b at_
 refine R0 ?_
 refine WX.cases 21 rfl (fun h1 => ?_) (fun h1 => ?_)
 ·skip
  have h1d := (B.nt h1)
  refine R0 ?_
  refine WX.bld ttOk rfl rfl rfl rfl rfl rfl rfl ?_
  intro p1
  refine R0 ?_
  refine WX.free 1 (MF.ol [] ([] : List UInt8)) rfl ?_
  refine WX.seal 34 1 2 rfl rfl rfl rfl rfl ?_
  have hP1 : spec_ReadBytes b at_ most = (([]), 0, false) := by simp only [spec_ReadBytes, h1, ct, cf]
  refine R1 ?_
  intro w1 G bs hI hΓ
  rw [hP1]
  exact Post.of [3] (p1, 0) hI hΓ rfl rfl rfl (⟨(okl_mk (Nat.zero_le _) (fun _ _ => trivial) : GoT.ok n ([] : List UInt8)), (show I64 0 from (by unfold I64; omega))⟩)
 ·skip
  have h1d := (B.nf h1)
  have hzh1 := qv1 h1d
  refine R0 ?_
  refine WX.cases 26 rfl (fun h2 => ?_) (fun h2 => ?_)
  ·skip
   have h2d := B.dt h2
   refine R0 ?_
   refine WX.bld ttOk rfl rfl rfl rfl rfl rfl rfl ?_
   intro p2
   refine R0 ?_
   refine WX.free 4 (MF.ol [] ([] : List UInt8)) rfl ?_
   refine WX.seal 34 4 5 rfl rfl rfl rfl rfl ?_
   have hP2 : spec_ReadBytes b at_ most = (([]), 0, false) := by simp only [spec_ReadBytes, h1, h2, ct, cf]
   refine R1 ?_
   intro w1 G bs hI hΓ
   rw [hP2]
   exact Post.of [6] (p2, 0) hI hΓ rfl rfl rfl (⟨(okl_mk (Nat.zero_le _) (fun _ _ => trivial) : GoT.ok n ([] : List UInt8)), (show I64 0 from (by unfold I64; omega))⟩)
  ·skip
   have h2d := B.df h2
   refine R0 ?_
   have r1 : (b).length ≤ bd n := (okl hokb).1
   have r2 : -9223372036854775808 ≤ at_ ∧ at_ ≤ 9223372036854775807 := hokat_
   have r3 : -9223372036854775808 ≤ ((spec_ReadVarint b at_).2.1) ∧ ((spec_ReadVarint b at_).2.1) ≤ 9223372036854775807 := hq1.2
   refine WX.see rfl rfl rfl (fun _ hΓ => looks_arith rfl rfl rfl rfl (by have z_ := qv1 (by assumption); unfold I64; omega)) ?_
   refine R0 ?_
   refine WX.cases 33 rfl (fun h3 => ?_) (fun h3 => ?_)
   ·skip
    have h3d := B.dt h3
    refine R0 ?_
    refine WX.bld ttOk rfl rfl rfl rfl rfl rfl rfl ?_
    intro p3
    refine R0 ?_
    refine WX.free 7 (MF.ol [] ([] : List UInt8)) rfl ?_
    refine WX.seal 34 7 8 rfl rfl rfl rfl rfl ?_
    have hP3 : spec_ReadBytes b at_ most = (([]), 0, false) := by simp only [spec_ReadBytes, h1, h2, h3, ct, cf]
    refine R1 ?_
    intro w1 G bs hI hΓ
    rw [hP3]
    exact Post.of [9] (p3, 0) hI hΓ rfl rfl rfl (⟨(okl_mk (Nat.zero_le _) (fun _ _ => trivial) : GoT.ok n ([] : List UInt8)), (show I64 0 from (by unfold I64; omega))⟩)
   ·skip
    have h3d := B.df h3
    refine R0 ?_
    refine WX.bld ttOk rfl rfl rfl rfl rfl rfl rfl ?_
    intro p4
    refine R0 ?_
    have r4 : -9223372036854775808 ≤ ((spec_ReadVarint b at_).1) ∧ ((spec_ReadVarint b at_).1) ≤ 9223372036854775807 := hq1.1
    refine WX.see rfl rfl rfl (fun _ hΓ => looks_arith rfl rfl rfl rfl (by have z_ := qv1 (by assumption); unfold I64; omega)) ?_
    refine WX.see rfl rfl rfl (fun _ hΓ => looks_slB (Int.toNat ((spec_ReadVarint b at_).2.1)) (Int.toNat (((spec_ReadVarint b at_).2.1) + ((spec_ReadVarint b at_).1))) ttOk rfl rfl rfl rfl rfl (show (spec_ReadVarint b at_).2.1 = (((Int.toNat ((spec_ReadVarint b at_).2.1)) : Nat) : Int) from (by have z_ := qv1 (by assumption); omega)) (show ((spec_ReadVarint b at_).2.1) + ((spec_ReadVarint b at_).1) = (((Int.toNat (((spec_ReadVarint b at_).2.1) + ((spec_ReadVarint b at_).1))) : Nat) : Int) from (by have z_ := qv1 (by assumption); omega)) (show (Int.toNat ((spec_ReadVarint b at_).2.1)) ≤ (Int.toNat (((spec_ReadVarint b at_).2.1) + ((spec_ReadVarint b at_).1))) from (by have z_ := qv1 (by assumption); omega)) (Nat.le_trans (show (Int.toNat (((spec_ReadVarint b at_).2.1) + ((spec_ReadVarint b at_).1))) ≤ (b).length from (by have z_ := qv1 (by assumption); omega)) (hΓ.get 0 rfl : RdSl _ _ _ _).1)) ?_
    refine WX.slot 41 (y := .v (.slice (offP pb cb (Int.toNat ((spec_ReadVarint b at_).2.1)) 1) (((List.take ((Int.toNat (((spec_ReadVarint b at_).2.1) + ((spec_ReadVarint b at_).1))) - (Int.toNat ((spec_ReadVarint b at_).2.1))) (List.drop (Int.toNat ((spec_ReadVarint b at_).2.1)) b))).length) (cb - (Int.toNat ((spec_ReadVarint b at_).2.1))))) rfl (fun _ => by rw [show ((List.take ((Int.toNat (((spec_ReadVarint b at_).2.1) + ((spec_ReadVarint b at_).1))) - (Int.toNat ((spec_ReadVarint b at_).2.1))) (List.drop (Int.toNat ((spec_ReadVarint b at_).2.1)) b))).length = (Int.toNat (((spec_ReadVarint b at_).2.1) + ((spec_ReadVarint b at_).1))) - (Int.toNat ((spec_ReadVarint b at_).2.1)) from (by simp only [List.length_take, List.length_drop]; have z_ := (show (Int.toNat ((spec_ReadVarint b at_).2.1)) ≤ (Int.toNat (((spec_ReadVarint b at_).2.1) + ((spec_ReadVarint b at_).1))) from (by have z_ := qv1 (by assumption); omega)); have z2_ := (show (Int.toNat (((spec_ReadVarint b at_).2.1) + ((spec_ReadVarint b at_).1))) ≤ (b).length from (by have z_ := qv1 (by assumption); omega)); omega)]) ?_
    refine WX.der 10 (MF.rs .der (offP pb cb (Int.toNat ((spec_ReadVarint b at_).2.1)) 1) (cb - (Int.toNat ((spec_ReadVarint b at_).2.1))) (List.take ((Int.toNat (((spec_ReadVarint b at_).2.1) + ((spec_ReadVarint b at_).1))) - (Int.toNat ((spec_ReadVarint b at_).2.1))) (List.drop (Int.toNat ((spec_ReadVarint b at_).2.1)) b))) rfl (fun _ hΓ => RdSl.pre (RdSl.suf (hΓ.get 0 rfl : RdSl _ _ _ _) (Int.toNat ((spec_ReadVarint b at_).2.1))) ((Int.toNat (((spec_ReadVarint b at_).2.1) + ((spec_ReadVarint b at_).1))) - (Int.toNat ((spec_ReadVarint b at_).2.1)))) ?_
    refine WX.free 11 (MF.ol [] ([] : List UInt8)) rfl ?_
    refine WX.appG1 35 10 12 ((List.take ((Int.toNat (((spec_ReadVarint b at_).2.1) + ((spec_ReadVarint b at_).1))) - (Int.toNat ((spec_ReadVarint b at_).2.1))) (List.drop (Int.toNat ((spec_ReadVarint b at_).2.1)) b)) : List UInt8).length ttOk rfl rfl rfl rfl rfl rfl rfl rfl rfl rfl rfl rfl rfl (by simp) (by first | assumption | omega | (simp; omega)) (by first | assumption | omega | (simp; omega)) (fun _ _ _ => rfl) ?_
    intro ys1 p5 c1
    refine WX.know (fun G hΓ => (hΓ.get 12 rfl : RdL _ _ _).flat) ?_
    intro hf1
    refine WX.turn [11] 13 rfl (fun h hs => ol_flat hs hf1) (gs := [MF.ol ([] ++ ys1) ((List.take ((Int.toNat (((spec_ReadVarint b at_).2.1) + ((spec_ReadVarint b at_).1))) - (Int.toNat ((spec_ReadVarint b at_).2.1))) (List.drop (Int.toNat ((spec_ReadVarint b at_).2.1)) b)) : List UInt8)]) rfl ?_
    refine R0 ?_
    refine WX.see rfl rfl rfl (fun _ hΓ => looks_arith rfl rfl rfl rfl (by have z_ := qv1 (by assumption); unfold I64; omega)) ?_
    refine R0 ?_
    refine WX.seal 35 13 14 rfl rfl rfl rfl rfl ?_
    have hP4 : spec_ReadBytes b at_ most = (List.take ((Int.toNat (((spec_ReadVarint b at_).2.1) + ((spec_ReadVarint b at_).1))) - (Int.toNat ((spec_ReadVarint b at_).2.1))) (List.drop (Int.toNat ((spec_ReadVarint b at_).2.1)) b), ((spec_ReadVarint b at_).2.1) + ((spec_ReadVarint b at_).1), true) := by simp only [spec_ReadBytes, h1, h2, h3, ct, cf]
    refine R1 ?_
    intro w1 G bs hI hΓ
    rw [hP4]
    exact Post.of [15] (p5, c1) hI hΓ rfl rfl rfl (⟨(okl_mk (by first | assumption | omega | (simp; omega)) (fun _ _ => trivial) : GoT.ok n ((List.take ((Int.toNat (((spec_ReadVarint b at_).2.1) + ((spec_ReadVarint b at_).1))) - (Int.toNat ((spec_ReadVarint b at_).2.1))) (List.drop (Int.toNat ((spec_ReadVarint b at_).2.1)) b)) : List UInt8)), (show I64 (((spec_ReadVarint b at_).2.1) + ((spec_ReadVarint b at_).1)) from (by unfold I64; omega))⟩)
theorem f41 (w : World) (n : Nat) (hn : n + 0 ≤ 9) (b : (List UInt8)) (pb : Option Addr) (cb : Nat) (N0 : RdSl (hp w) pb cb b) (at_ : Int) (hokb : GoT.ok n b) (hokat_ : GoT.ok n at_) :
  Does Try.prog 41 #[.slice pb ((b).length) cb, .int .i64 (at_)] w emp (Post w emp (fun x : GoT.X (Name) => .tuple #[.agg ⟨GoT.sh ((impl_ReadName b at_).1 : Name) x⟩, .int .i64 ((impl_ReadName b at_).2.1), .bool ((impl_ReadName b at_).2.2)]) (fun x => GoT.oa ((impl_ReadName b at_).1 : Name) x) (GoT.ok n ((impl_ReadName b at_).1 : Name) ∧ GoT.ok n ((impl_ReadName b at_).2.1 : Int))) := by
 have hbP := bd_pos n
 have hbB := bd_big (n := n) (by omega)
 refine WX.enter (tt := tt) (Γ := [(0, MF.rs .stb pb cb b)]) Try.func41 rfl (by kernel_rfl) rfl (allS_cons rfl N0 allS_nil) ?_
 refine R0 ?_
 refine WX.callV rfl rfl rfl rfl rfl (fun _ => rfl) rfl (fun w G bs hI hΓ => f40 w n (by omega) b pb cb (hΓ.get 0 rfl) at_ hokb hokat_) ?_
 intro hq1
 have qv1 := rv_impl b at_
 refine R0 ?_
 refine WX.cases 23 rfl (fun h1 => ?_) (fun h1 => ?_)
 ·skip
  have h1d := (B.nt h1)
  refine R0 ?_
  refine WX.free 1 (MF.os none 0 ([] : List Str)) (owSl_nil _ _) ?_
  have hP1 : impl_ReadName b at_ = (Name.mk ([]), 0, false) := by simp only [impl_ReadName, h1, ct, cf]
  refine R1 ?_
  intro w1 G bs hI hΓ
  rw [hP1]
  exact Post.of [1] (none, 0) hI hΓ rfl rfl rfl (⟨(ok_nil (α := Str)), (show I64 0 from (by unfold I64; omega))⟩)
 ·skip
  have h1d := (B.nf h1)
  refine R0 ?_
  refine WX.cases 26 rfl (fun h2 => ?_) (fun h2 => ?_)
  ·skip
   have h2d := B.dt h2
   refine R0 ?_
   refine WX.free 2 (MF.os none 0 ([] : List Str)) (owSl_nil _ _) ?_
   have hP2 : impl_ReadName b at_ = (Name.mk ([]), 0, false) := by simp only [impl_ReadName, h1, h2, ct, cf]
   refine R1 ?_
   intro w1 G bs hI hΓ
   rw [hP2]
   exact Post.of [2] (none, 0) hI hΓ rfl rfl rfl (⟨(ok_nil (α := Str)), (show I64 0 from (by unfold I64; omega))⟩)
  ·skip
   have h2d := B.df h2
   refine R0 ?_
   refine WX.row0 501 1 none rfl ?_
   refine WX.free 3 (MF.ol [] ([] : List Str)) rfl ?_
   have r1 : (b).length ≤ bd n := (okl hokb).1
   have r2 : -9223372036854775808 ≤ at_ ∧ at_ ≤ 9223372036854775807 := hokat_
   have r3 : -9223372036854775808 ≤ ((impl_ReadVarint b at_).1) ∧ ((impl_ReadVarint b at_).1) ≤ 9223372036854775807 := hq1.1
   refine WX.loop (ι := Int × Nat × (Option Addr) × Nat × (List Value) × (List Str)) ⟨fun | (next, i, pn_, cn_, xsn_, n_) => (i ≤ ((impl_ReadVarint b at_).1).toNat) ∧ (-9223372036854775808 ≤ next ∧ next ≤ 9223372036854775807) ∧ (∀ z_ ∈ n_, GoT.ok n z_) ∧ (n_.length ≤ i) ∧ (impl_ReadName_L1 b (((impl_ReadVarint b at_).1).toNat) ((impl_ReadVarint b at_).2.1) ([] : List Str) = impl_ReadName_L1 b (((impl_ReadVarint b at_).1).toNat - i) next n_), fun | (next, i, pn_, cn_, xsn_, n_) => ((impl_ReadVarint b at_).1).toNat - i, fun | (next, i, pn_, cn_, xsn_, n_) => [(8, .v (.int .i64 (next))), (30, .v (.int .i64 (((i : Nat) : Int)))), (29, .v (.int .i64 ((impl_ReadVarint b at_).1))), (10, .p 10 0), (4, .p 4 0), (0, .v (.slice pb ((b).length) cb))], fun | (next, i, pn_, cn_, xsn_, n_) => [(10, ⟨41, [.slice pn_ ((n_).length) cn_]⟩), (4, ⟨41, [.slice none (0) 0]⟩)], fun | (next, i, pn_, cn_, xsn_, n_) => [(501, ⟨1, pn_, (n_).length, cn_, xsn_⟩)], fun | (next, i, pn_, cn_, xsn_, n_) => [(0, MF.rs .stb pb cb b), (3, MF.ol xsn_ (n_ : List Str))]⟩ ((impl_ReadVarint b at_).2.1, 0, none, 0, [], ([] : List Str)) ⟨(Nat.zero_le _), hq1.2, (fun a ha => by cases ha), (by simp), rfl⟩
    (.cons rfl (.cons rfl (.cons rfl (.cons rfl (.cons rfl (.cons rfl (.nil))))))) (.cons rfl (.cons rfl (.nil))) (.cons rfl (.nil)) [0, 3] rfl ?_
   rintro ⟨next, i, pn_, cn_, xsn_, n_⟩ hpre
   have hpre_ : (i ≤ ((impl_ReadVarint b at_).1).toNat) ∧ (-9223372036854775808 ≤ next ∧ next ≤ 9223372036854775807) ∧ (∀ z_ ∈ n_, GoT.ok n z_) ∧ (n_.length ≤ i) ∧ (impl_ReadName_L1 b (((impl_ReadVarint b at_).1).toNat) ((impl_ReadVarint b at_).2.1) ([] : List Str) = impl_ReadName_L1 b (((impl_ReadVarint b at_).1).toNat - i) next n_) := hpre
   clear hpre
   obtain ⟨v1, v2, v3, v4, v5⟩ := hpre_
   refine R0 ?_
   refine WX.cases 31 rfl (fun h3 => ?_) (fun h3 => ?_)
   ·skip
    have h3d := B.dt h3
    refine R0 ?_
    refine WX.callF 4 (fun _ _ h => GoT.ow_rd h) (fun _ f hf => GoT.fak f hf) rfl rfl rfl rfl rfl (fun _ => rfl) rfl (fun w G bs hI hΓ => f69 w n (by omega) b pb cb (hΓ.get 0 rfl) next 8 hokb v2 (show I64 8 from (by unfold I64; omega))) (fun _ => rfl) (fun _ => rfl) ?_
    rintro ⟨p1, c1⟩ hq2
    refine R0 ?_
    refine WX.cases 40 rfl (fun h4 => ?_) (fun h4 => ?_)
    ·skip
     have h4d := (B.nt h4)
     refine R0 ?_
     refine WX.free 6 (MF.os none 0 ([] : List Str)) (owSl_nil _ _) ?_
     have hP3 : impl_ReadName_L1 b (((impl_ReadVarint b at_).1).toNat) ((impl_ReadVarint b at_).2.1) ([] : List Str) = (Ctl.ret (Name.mk ([]), 0, false)) := by rw [v5, show ((impl_ReadVarint b at_).1).toNat - i = (((impl_ReadVarint b at_).1).toNat - (i + 1)) + 1 by omega]; simp only [impl_ReadName_L1, h4, ct, cf]
     have hP4 : impl_ReadName b at_ = (Name.mk ([]), 0, false) := by simp only [impl_ReadName, h1, h2, hP3, ct, cf]
     refine R1 ?_
     intro w1 G bs hI hΓ
     rw [hP4]
     exact Post.of [6] (none, 0) hI hΓ rfl rfl rfl (⟨(ok_nil (α := Str)), (show I64 0 from (by unfold I64; omega))⟩)
    ·skip
     have h4d := (B.nf h4)
     refine R0 ?_
     refine WX.see rfl rfl rfl (fun _ hΓ => looks_toStr ttOk (hΓ.get 4 rfl) rfl rfl rfl rfl rfl rfl rfl rfl rfl) ?_
     refine WX.bld ttOk rfl rfl rfl rfl rfl rfl rfl ?_
     intro p2
     have r4 : (bstr ((impl_ReadBytes b next 8).1)).size = (((impl_ReadBytes b next 8).1)).length := bstr_size _
     have r5 : ((impl_ReadBytes b next 8).1).length ≤ bd n := (okl hq2.1).1
     refine WX.turn [] 7 rfl (fun h hs => ol_one (α := Str) (a := (bstr ((impl_ReadBytes b next 8).1))) (x := ()) hs) (gs := [MF.ol [.string (bstr ((impl_ReadBytes b next 8).1))] ([(bstr ((impl_ReadBytes b next 8).1))] : List Str)]) rfl ?_
     refine WX.know (fun G hΓ => (hΓ.get 7 rfl : OwL _ _ _).rd.one) ?_
     intro ho1
     refine WX.appR1 501 46 ((n_ ++ [(bstr ((impl_ReadBytes b next 8).1))]) : List Str).length ttOk rfl rfl rfl rfl rfl rfl rfl rfl rfl rfl rfl rfl rfl ho1 (by simp) (by simp; omega) (by simp; omega) (fun _ _ => rfl) ?_
     intro p3 c2
     refine WX.turn [3, 7] 8 rfl (fun h hs => ol_app hs) (gs := [MF.ol (xsn_ ++ [.string (bstr ((impl_ReadBytes b next 8).1))]) ((n_ ++ [(bstr ((impl_ReadBytes b next 8).1))]) : List Str)]) rfl ?_
     refine R0 ?_
     refine WX.see rfl rfl rfl (fun _ hΓ => looks_arith rfl rfl rfl rfl (by unfold I64; first | omega | (simp only [List.length_take] at *; omega))) ?_
     refine R0 ?_
     refine WX.turn [8] 3 rfl (fun _ h => h) rfl ?_
     exact WX.iter ((impl_ReadBytes b next 8).2.1, i + 1, p3, c2, (xsn_ ++ [.string (bstr ((impl_ReadBytes b next 8).1))]), ((n_ ++ [(bstr ((impl_ReadBytes b next 8).1))]) : List Str)) ⟨(by omega), hq2.2, (all_app v3 (all_cons (α := Str) (show ((bstr ((impl_ReadBytes b next 8).1))).size ≤ bd n from (by first | omega | (simp; omega))) (fun a ha => by cases ha))), (by first | assumption | omega | (simp; omega)), (by rw [v5, show ((impl_ReadVarint b at_).1).toNat - i = (((impl_ReadVarint b at_).1).toNat - (i + 1)) + 1 by omega]; simp only [impl_ReadName_L1, h4, ct, cf])⟩ (by first | (dsimp only; omega) | omega) (.cons rfl (.cons rfl (.cons rfl (.cons rfl (.cons rfl (.cons rfl (.nil))))))) (.cons rfl (.cons rfl (.nil))) (.cons rfl (.nil)) [0, 3] rfl
   ·skip
    have h3d := B.df h3
    refine R0 ?_
    have hX1 : impl_ReadName_L1 b (((impl_ReadVarint b at_).1).toNat) ((impl_ReadVarint b at_).2.1) ([] : List Str) = (Ctl.nxt (next, ((n_) : List Str))) := by rw [v5, show ((impl_ReadVarint b at_).1).toNat - i = 0 by omega]; simp only [impl_ReadName_L1, ct, cf]
    refine WX.seal 501 3 9 rfl rfl rfl rfl rfl ?_
    refine WX.callV rfl rfl rfl rfl rfl (fun _ => rfl) rfl (fun w G bs hI hΓ => f70 w n (by omega) (Name.mk n_) pn_ cn_ (hΓ.get 9 rfl) (okl_mk (by omega) v3 : GoT.ok n (n_ : List Str))) ?_
    intro hq3
    refine R0 ?_
    refine WX.cases 53 rfl (fun h5 => ?_) (fun h5 => ?_)
    ·skip
     have h5d := (B.nt h5)
     refine R0 ?_
     refine WX.free 11 (MF.os none 0 ([] : List Str)) (owSl_nil _ _) ?_
     have hP5 : impl_ReadName b at_ = (Name.mk ([]), 0, false) := by simp only [impl_ReadName, h1, h2, hX1, h5, ct, cf]
     refine R1 ?_
     intro w1 G bs hI hΓ
     rw [hP5]
     exact Post.of [11] (none, 0) hI hΓ rfl rfl rfl (⟨(ok_nil (α := Str)), (show I64 0 from (by unfold I64; omega))⟩)
    ·skip
     have h5d := (B.nf h5)
     refine R0 ?_
     have hP6 : impl_ReadName b at_ = (Name.mk n_, next, true) := by simp only [impl_ReadName, h1, h2, hX1, h5, ct, cf]
     refine R1 ?_
     intro w1 G bs hI hΓ
     rw [hP6]
     exact Post.of [10] (pn_, cn_) hI hΓ rfl rfl rfl (⟨(okl_mk (by omega) v3 : GoT.ok n (n_ : List Str)), v2⟩)
theorem f43 (w : World) (n : Nat) (hn : n + 0 ≤ 9) (b : (List UInt8)) (pb : Option Addr) (cb : Nat) (N0 : RdSl (hp w) pb cb b) (at_ : Int) (hokb : GoT.ok n b) (hokat_ : GoT.ok n at_) :
  Does Try.prog 43 #[.slice pb ((b).length) cb, .int .i64 (at_)] w emp (Post w emp (fun x : GoT.X (Name) => .tuple #[.agg ⟨GoT.sh ((spec_ReadName b at_).1 : Name) x⟩, .int .i64 ((spec_ReadName b at_).2.1), .bool ((spec_ReadName b at_).2.2)]) (fun x => GoT.oa ((spec_ReadName b at_).1 : Name) x) (GoT.ok n ((spec_ReadName b at_).1 : Name) ∧ GoT.ok n ((spec_ReadName b at_).2.1 : Int))) := by
 have hbP := bd_pos n
 have hbB := bd_big (n := n) (by omega)
 refine WX.enter (tt := tt) (Γ := [(0, MF.rs .stb pb cb b)]) Try.func43 rfl (by kernel_rfl) rfl (allS_cons rfl N0 allS_nil) ?_
 refine R0 ?_
 refine WX.callV rfl rfl rfl rfl rfl (fun _ => rfl) rfl (fun w G bs hI hΓ => f42 w n (by omega) b pb cb (hΓ.get 0 rfl) at_ hokb hokat_) ?_
 intro hq1
 have qv1 := rv_spec b at_
 refine R0 ?_
 refine WX.cases 24 rfl (fun h1 => ?_) (fun h1 => ?_)
 ·skip
  have h1d := (B.nt h1)
  refine R0 ?_
  refine WX.free 1 (MF.os none 0 ([] : List Str)) (owSl_nil _ _) ?_
  have hP1 : spec_ReadName b at_ = (Name.mk ([]), 0, false) := by simp only [spec_ReadName, h1, ct, cf]
  refine R1 ?_
  intro w1 G bs hI hΓ
  rw [hP1]
  exact Post.of [1] (none, 0) hI hΓ rfl rfl rfl (⟨(ok_nil (α := Str)), (show I64 0 from (by unfold I64; omega))⟩)
 ·skip
  have h1d := (B.nf h1)
  refine R0 ?_
  refine WX.cases 27 rfl (fun h2 => ?_) (fun h2 => ?_)
  ·skip
   have h2d := B.dt h2
   refine R0 ?_
   refine WX.free 2 (MF.os none 0 ([] : List Str)) (owSl_nil _ _) ?_
   have hP2 : spec_ReadName b at_ = (Name.mk ([]), 0, false) := by simp only [spec_ReadName, h1, h2, ct, cf]
   refine R1 ?_
   intro w1 G bs hI hΓ
   rw [hP2]
   exact Post.of [2] (none, 0) hI hΓ rfl rfl rfl (⟨(ok_nil (α := Str)), (show I64 0 from (by unfold I64; omega))⟩)
  ·skip
   have h2d := B.df h2
   refine R0 ?_
   refine WX.row0 501 1 none rfl ?_
   refine WX.free 3 (MF.ol [] ([] : List Str)) rfl ?_
   have r1 : (b).length ≤ bd n := (okl hokb).1
   have r2 : -9223372036854775808 ≤ at_ ∧ at_ ≤ 9223372036854775807 := hokat_
   have r3 : -9223372036854775808 ≤ ((spec_ReadVarint b at_).1) ∧ ((spec_ReadVarint b at_).1) ≤ 9223372036854775807 := hq1.1
   refine WX.loop (ι := Int × Nat × (Option Addr) × Nat × (List Value) × (List Str)) ⟨fun | (next, i, pn_, cn_, xsn_, n_) => (i ≤ ((spec_ReadVarint b at_).1).toNat) ∧ (-9223372036854775808 ≤ next ∧ next ≤ 9223372036854775807) ∧ (∀ z_ ∈ n_, GoT.ok n z_) ∧ (n_.length ≤ i) ∧ (spec_ReadName_L1 b (((spec_ReadVarint b at_).1).toNat) ((spec_ReadVarint b at_).2.1) ([] : List Str) = spec_ReadName_L1 b (((spec_ReadVarint b at_).1).toNat - i) next n_), fun | (next, i, pn_, cn_, xsn_, n_) => ((spec_ReadVarint b at_).1).toNat - i, fun | (next, i, pn_, cn_, xsn_, n_) => [(8, .v (.int .i64 (next))), (11, .v (.int .i64 (((i : Nat) : Int)))), (10, .p 10 0), (7, .v (.int .i64 ((spec_ReadVarint b at_).1))), (4, .p 4 0), (0, .v (.slice pb ((b).length) cb))], fun | (next, i, pn_, cn_, xsn_, n_) => [(10, ⟨41, [.slice pn_ ((n_).length) cn_]⟩), (4, ⟨41, [.slice none (0) 0]⟩)], fun | (next, i, pn_, cn_, xsn_, n_) => [(501, ⟨1, pn_, (n_).length, cn_, xsn_⟩)], fun | (next, i, pn_, cn_, xsn_, n_) => [(0, MF.rs .stb pb cb b), (3, MF.ol xsn_ (n_ : List Str))]⟩ ((spec_ReadVarint b at_).2.1, 0, none, 0, [], ([] : List Str)) ⟨(Nat.zero_le _), hq1.2, (fun a ha => by cases ha), (by simp), rfl⟩
    (.cons rfl (.cons rfl (.cons rfl (.cons rfl (.cons rfl (.cons rfl (.nil))))))) (.cons rfl (.cons rfl (.nil))) (.cons rfl (.nil)) [0, 3] rfl ?_
   rintro ⟨next, i, pn_, cn_, xsn_, n_⟩ hpre
   have hpre_ : (i ≤ ((spec_ReadVarint b at_).1).toNat) ∧ (-9223372036854775808 ≤ next ∧ next ≤ 9223372036854775807) ∧ (∀ z_ ∈ n_, GoT.ok n z_) ∧ (n_.length ≤ i) ∧ (spec_ReadName_L1 b (((spec_ReadVarint b at_).1).toNat) ((spec_ReadVarint b at_).2.1) ([] : List Str) = spec_ReadName_L1 b (((spec_ReadVarint b at_).1).toNat - i) next n_) := hpre
   clear hpre
   obtain ⟨v1, v2, v3, v4, v5⟩ := hpre_
   refine R0 ?_
   refine WX.cases 32 rfl (fun h3 => ?_) (fun h3 => ?_)
   ·skip
    have h3d := B.dt h3
    refine R0 ?_
    refine WX.callF 4 (fun _ _ h => GoT.ow_rd h) (fun _ f hf => GoT.fak f hf) rfl rfl rfl rfl rfl (fun _ => rfl) rfl (fun w G bs hI hΓ => f71 w n (by omega) b pb cb (hΓ.get 0 rfl) next 8 hokb v2 (show I64 8 from (by unfold I64; omega))) (fun _ => rfl) (fun _ => rfl) ?_
    rintro ⟨p1, c1⟩ hq2
    refine R0 ?_
    refine WX.cases 43 rfl (fun h4 => ?_) (fun h4 => ?_)
    ·skip
     have h4d := (B.nt h4)
     refine R0 ?_
     refine WX.free 6 (MF.os none 0 ([] : List Str)) (owSl_nil _ _) ?_
     have hP3 : spec_ReadName_L1 b (((spec_ReadVarint b at_).1).toNat) ((spec_ReadVarint b at_).2.1) ([] : List Str) = (Ctl.ret (Name.mk ([]), 0, false)) := by rw [v5, show ((spec_ReadVarint b at_).1).toNat - i = (((spec_ReadVarint b at_).1).toNat - (i + 1)) + 1 by omega]; simp only [spec_ReadName_L1, h4, ct, cf]
     have hP4 : spec_ReadName b at_ = (Name.mk ([]), 0, false) := by simp only [spec_ReadName, h1, h2, hP3, ct, cf]
     refine R1 ?_
     intro w1 G bs hI hΓ
     rw [hP4]
     exact Post.of [6] (none, 0) hI hΓ rfl rfl rfl (⟨(ok_nil (α := Str)), (show I64 0 from (by unfold I64; omega))⟩)
    ·skip
     have h4d := (B.nf h4)
     refine R0 ?_
     refine WX.see rfl rfl rfl (fun _ hΓ => looks_toStr ttOk (hΓ.get 4 rfl) rfl rfl rfl rfl rfl rfl rfl rfl rfl) ?_
     refine WX.bld ttOk rfl rfl rfl rfl rfl rfl rfl ?_
     intro p2
     have r4 : (bstr ((spec_ReadBytes b next 8).1)).size = (((spec_ReadBytes b next 8).1)).length := bstr_size _
     have r5 : ((spec_ReadBytes b next 8).1).length ≤ bd n := (okl hq2.1).1
     refine WX.turn [] 7 rfl (fun h hs => ol_one (α := Str) (a := (bstr ((spec_ReadBytes b next 8).1))) (x := ()) hs) (gs := [MF.ol [.string (bstr ((spec_ReadBytes b next 8).1))] ([(bstr ((spec_ReadBytes b next 8).1))] : List Str)]) rfl ?_
     refine WX.know (fun G hΓ => (hΓ.get 7 rfl : OwL _ _ _).rd.one) ?_
     intro ho1
     refine WX.appR1 501 49 ((n_ ++ [(bstr ((spec_ReadBytes b next 8).1))]) : List Str).length ttOk rfl rfl rfl rfl rfl rfl rfl rfl rfl rfl rfl rfl rfl ho1 (by simp) (by simp; omega) (by simp; omega) (fun _ _ => rfl) ?_
     intro p3 c2
     refine WX.turn [3, 7] 8 rfl (fun h hs => ol_app hs) (gs := [MF.ol (xsn_ ++ [.string (bstr ((spec_ReadBytes b next 8).1))]) ((n_ ++ [(bstr ((spec_ReadBytes b next 8).1))]) : List Str)]) rfl ?_
     refine R0 ?_
     refine WX.see rfl rfl rfl (fun _ hΓ => looks_arith rfl rfl rfl rfl (by unfold I64; first | omega | (simp only [List.length_take] at *; omega))) ?_
     refine R0 ?_
     refine WX.turn [8] 3 rfl (fun _ h => h) rfl ?_
     exact WX.iter ((spec_ReadBytes b next 8).2.1, i + 1, p3, c2, (xsn_ ++ [.string (bstr ((spec_ReadBytes b next 8).1))]), ((n_ ++ [(bstr ((spec_ReadBytes b next 8).1))]) : List Str)) ⟨(by omega), hq2.2, (all_app v3 (all_cons (α := Str) (show ((bstr ((spec_ReadBytes b next 8).1))).size ≤ bd n from (by first | omega | (simp; omega))) (fun a ha => by cases ha))), (by first | assumption | omega | (simp; omega)), (by rw [v5, show ((spec_ReadVarint b at_).1).toNat - i = (((spec_ReadVarint b at_).1).toNat - (i + 1)) + 1 by omega]; simp only [spec_ReadName_L1, h4, ct, cf])⟩ (by first | (dsimp only; omega) | omega) (.cons rfl (.cons rfl (.cons rfl (.cons rfl (.cons rfl (.cons rfl (.nil))))))) (.cons rfl (.cons rfl (.nil))) (.cons rfl (.nil)) [0, 3] rfl
   ·skip
    have h3d := B.df h3
    refine R0 ?_
    have hX1 : spec_ReadName_L1 b (((spec_ReadVarint b at_).1).toNat) ((spec_ReadVarint b at_).2.1) ([] : List Str) = (Ctl.nxt (next, ((n_) : List Str))) := by rw [v5, show ((spec_ReadVarint b at_).1).toNat - i = 0 by omega]; simp only [spec_ReadName_L1, ct, cf]
    refine WX.seal 501 3 9 rfl rfl rfl rfl rfl ?_
    refine WX.callV rfl rfl rfl rfl rfl (fun _ => rfl) rfl (fun w G bs hI hΓ => f72 w n (by omega) (Name.mk n_) pn_ cn_ (hΓ.get 9 rfl) (okl_mk (by omega) v3 : GoT.ok n (n_ : List Str))) ?_
    intro hq3
    refine R0 ?_
    refine WX.cases 55 rfl (fun h5 => ?_) (fun h5 => ?_)
    ·skip
     have h5d := (B.nt h5)
     refine R0 ?_
     refine WX.free 11 (MF.os none 0 ([] : List Str)) (owSl_nil _ _) ?_
     have hP5 : spec_ReadName b at_ = (Name.mk ([]), 0, false) := by simp only [spec_ReadName, h1, h2, hX1, h5, ct, cf]
     refine R1 ?_
     intro w1 G bs hI hΓ
     rw [hP5]
     exact Post.of [11] (none, 0) hI hΓ rfl rfl rfl (⟨(ok_nil (α := Str)), (show I64 0 from (by unfold I64; omega))⟩)
    ·skip
     have h5d := (B.nf h5)
     refine R0 ?_
     have hP6 : spec_ReadName b at_ = (Name.mk n_, next, true) := by simp only [spec_ReadName, h1, h2, hX1, h5, ct, cf]
     refine R1 ?_
     intro w1 G bs hI hΓ
     rw [hP6]
     exact Post.of [10] (pn_, cn_) hI hΓ rfl rfl rfl (⟨(okl_mk (by omega) v3 : GoT.ok n (n_ : List Str)), v2⟩)
end Go.Proofs.Ytdimfabadjfkiaa

namespace Go.Stp
set_option linter.unusedVariables false
set_option linter.unusedSimpArgs false
def impl_EncodeVector_L1 : List TableEntry → (List UInt8) → (List UInt8)
  | [], out => ((out) : List UInt8)
  | e1 :: rest_, out =>
    impl_EncodeVector_L1 rest_ (((impl_AppendVarint (impl_AppendName out e1.name) e1.value)) : List UInt8)
def impl_EncodeVector (v : StateVector) : (List UInt8) :=
  bif (!(impl_ValidVector v)) then
    ([] : List UInt8)
  else
    match impl_EncodeVector_L1 v.entries ((impl_AppendVarint ([] : List UInt8) (((v.entries).length : Nat) : Int)) : List UInt8) with
      | out =>
        out
def spec_EncodeVector_L1 : List TableEntry → (List UInt8) → (List UInt8)
  | [], b => ((b) : List UInt8)
  | e1 :: rest_, b =>
    spec_EncodeVector_L1 rest_ (((spec_AppendVarint (spec_AppendName b e1.name) e1.value)) : List UInt8)
def spec_EncodeVector (v : StateVector) : (List UInt8) :=
  bif (!(spec_ValidVector v)) then
    ([])
  else
    match spec_EncodeVector_L1 v.entries ((spec_AppendVarint ([]) (((v.entries).length : Nat) : Int)) : List UInt8) with
      | b =>
        b
def impl_DecodeVector_L1 (b : (List UInt8)) : Nat → Int → (List TableEntry) → Ctl (StateVector × Bool) (Int × (List TableEntry))
  | 0, at_, v => (Ctl.nxt (at_, ((v) : List TableEntry)))
  | m_ + 1, at_, v =>
    bif (!((impl_ReadName b at_).2.2)) then
      (Ctl.ret ((StateVector.mk ([])), false))
    else
      bif (!((impl_ReadVarint b ((impl_ReadName b at_).2.1)).2.2)) then
        (Ctl.ret ((StateVector.mk ([])), false))
      else
        impl_DecodeVector_L1 b m_ ((impl_ReadVarint b ((impl_ReadName b at_).2.1)).2.1) (((v ++ [(TableEntry.mk ((impl_ReadName b at_).1) ((impl_ReadVarint b ((impl_ReadName b at_).2.1)).1))])) : List TableEntry)
def impl_DecodeVector (b : (List UInt8)) : StateVector × Bool :=
  bif (!((impl_ReadVarint b 0).2.2)) then
    ((StateVector.mk ([])), false)
  else
    bif decide ((impl_ReadVarint b 0).1 > 20) then
      ((StateVector.mk ([])), false)
    else
      match impl_DecodeVector_L1 b (((impl_ReadVarint b 0).1).toNat) ((impl_ReadVarint b 0).2.1) ([] : List TableEntry) with
        | .ret r_ => r_
        | .nxt (at_, v) =>
          bif (at_ != (((b).length : Nat) : Int)) then
            ((StateVector.mk ([])), false)
          else
            bif (!(impl_ValidVector (StateVector.mk v))) then
              ((StateVector.mk ([])), false)
            else
              ((StateVector.mk v), true)
def spec_DecodeVector_L1 (b : (List UInt8)) : Nat → Int → (List TableEntry) → Ctl (StateVector × Bool) (Int × (List TableEntry))
  | 0, at_, v => (Ctl.nxt (at_, ((v) : List TableEntry)))
  | m_ + 1, at_, v =>
    bif (!((spec_ReadName b at_).2.2)) then
      (Ctl.ret ((StateVector.mk ([])), false))
    else
      bif (!((spec_ReadVarint b ((spec_ReadName b at_).2.1)).2.2)) then
        (Ctl.ret ((StateVector.mk ([])), false))
      else
        spec_DecodeVector_L1 b m_ ((spec_ReadVarint b ((spec_ReadName b at_).2.1)).2.1) (((v ++ [(TableEntry.mk ((spec_ReadName b at_).1) ((spec_ReadVarint b ((spec_ReadName b at_).2.1)).1))])) : List TableEntry)
def spec_DecodeVector (b : (List UInt8)) : StateVector × Bool :=
  bif (!((spec_ReadVarint b 0).2.2)) then
    ((StateVector.mk ([])), false)
  else
    bif decide ((spec_ReadVarint b 0).1 > 20) then
      ((StateVector.mk ([])), false)
    else
      match spec_DecodeVector_L1 b (((spec_ReadVarint b 0).1).toNat) ((spec_ReadVarint b 0).2.1) ([] : List TableEntry) with
        | .ret r_ => r_
        | .nxt (at_, v) =>
          bif (at_ != (((b).length : Nat) : Int)) then
            ((StateVector.mk ([])), false)
          else
            bif (!(spec_ValidVector (StateVector.mk v))) then
              ((StateVector.mk ([])), false)
            else
              ((StateVector.mk v), true)
end Go.Stp

namespace Go.Proofs.Ytdimfabadjfkiaa
open Go.Stp
set_option linter.unusedVariables false
set_option linter.unusedSimpArgs false
theorem f26 (w : World) (n : Nat) (hn : n + 7 ≤ 9) (v : StateVector) (pv : Option Addr) (cv : Nat) (N0 : RdSl (hp w) pv cv v.entries) (hokv : GoT.ok n v) :
  Does Try.prog 26 #[.agg #[.slice pv ((v.entries).length) cv]] w emp (Post w emp (fun x : GoT.X ((List UInt8)) => (GoT.sh ((impl_EncodeVector v) : (List UInt8)) x).headD undef) (fun x => GoT.oa ((impl_EncodeVector v) : (List UInt8)) x) (GoT.ok (n + 4) ((impl_EncodeVector v) : (List UInt8)))) := by
 have hbP := bd_pos n
 have hbS0 : bd (n + 1) = 4 * bd (n) := bd_succ (n := n) (by omega)
 have hbS1 : bd (n + 2) = 4 * bd (n + 1) := bd_succ (n := n + 1) (by omega)
 have hbS2 : bd (n + 3) = 4 * bd (n + 2) := bd_succ (n := n + 2) (by omega)
 have hbS3 : bd (n + 4) = 4 * bd (n + 3) := bd_succ (n := n + 3) (by omega)
 have hbS4 : bd (n + 5) = 4 * bd (n + 4) := bd_succ (n := n + 4) (by omega)
 have hbS5 : bd (n + 6) = 4 * bd (n + 5) := bd_succ (n := n + 5) (by omega)
 have hbS6 : bd (n + 7) = 4 * bd (n + 6) := bd_succ (n := n + 6) (by omega)
 have hbB := bd_big (n := (n + 7)) (by omega)
 have hbM := bd_mono (show n ≤ n + 7 by omega)
 refine WX.enter (tt := tt) (Γ := [(0, MF.rs .stb pv cv v.entries)]) Try.func26 rfl (by kernel_rfl) rfl (allS_cons rfl N0 allS_nil) ?_
 refine R0 ?_
 refine WX.callV rfl rfl rfl rfl rfl (fun _ => rfl) rfl (fun w G bs hI hΓ => f32 w n (by omega) v pv cv (hΓ.get 0 rfl) hokv) ?_
 intro hq1
 refine R0 ?_
 refine WX.cases 8 rfl (fun h1 => ?_) (fun h1 => ?_)
 ·skip
  have h1d := (B.nt h1)
  refine R0 ?_
  refine WX.free 1 (MF.os none 0 ([] : List UInt8)) (owSl_nil _ _) ?_
  have hP1 : impl_EncodeVector v = ([] : List UInt8) := by simp only [impl_EncodeVector, h1, ct, cf]
  refine R1 ?_
  intro w1 G bs hI hΓ
  rw [hP1]
  exact Post.of [1] (none, 0) hI hΓ rfl rfl rfl (ok_nil (α := UInt8))
 ·skip
  have h1d := (B.nf h1)
  refine R0 ?_
  have r1 : (v.entries).length ≤ bd n := (okl (ok_StateVector hokv)).1
  refine WX.callF 2 (fun _ _ h => GoT.ow_rd h) (fun _ f hf => GoT.fak f hf) rfl rfl rfl rfl rfl (fun _ => rfl) rfl (fun w G bs hI hΓ => f55 w n (by omega) ([] : List UInt8) none 0 (rdSl_nil _ _ _) (((v.entries).length : Nat) : Int) (ok_nil (α := UInt8)) (show I64 (((v.entries).length : Nat) : Int) from (by unfold I64; omega))) (fun _ => rfl) (fun _ => rfl) ?_
  rintro ⟨p1, c1⟩ hq2
  have q1 := len_implAV ([] : List UInt8) (((v.entries).length : Nat) : Int)
  refine R0 ?_
  have hv2 : v.entries.length ≤ bd n := (okl (ok_StateVector hokv)).1
  refine WX.loop (ι := (Option Addr) × Nat × (List UInt8) × Nat) ⟨fun | (pout, cout, out, i) => (i ≤ (v.entries).length) ∧ (out.length ≤ bd (n + 4) ∧ ∀ z_ ∈ out, GoT.ok (n + 4) z_) ∧ (out.length ≤ 6 + 96 * i) ∧ (impl_EncodeVector_L1 v.entries ((impl_AppendVarint ([] : List UInt8) (((v.entries).length : Nat) : Int)) : List UInt8) = impl_EncodeVector_L1 ((v.entries).drop i) out), fun | (pout, cout, out, i) => (v.entries).length - i, fun | (pout, cout, out, i) => [(3, .v (.slice pout ((out).length) cout)), (16, .v (.int .i64 (((i : Nat) : Int)))), (15, .v (.int .i64 ((((v.entries).length : Nat) : Int)))), (14, .v (.slice pv ((v.entries).length) cv))], fun | (pout, cout, out, i) => [], fun | (pout, cout, out, i) => [], fun | (pout, cout, out, i) => [(0, MF.rs .stb pv cv v.entries), (3, MF.os pout cout out)]⟩ (p1, c1, ((impl_AppendVarint ([] : List UInt8) (((v.entries).length : Nat) : Int)) : List UInt8), 0) ⟨(Nat.zero_le _), (GoT.okm (α := List UInt8) (by omega) hq2), (by first | omega | (simp only [List.length_nil] at *; omega)), rfl⟩
   (.cons rfl (.cons rfl (.cons rfl (.cons rfl (.nil))))) .nil .nil [0, 3] rfl ?_
  rintro ⟨pout, cout, out, i⟩ hpre
  have hpre_ : (i ≤ (v.entries).length) ∧ (out.length ≤ bd (n + 4) ∧ ∀ z_ ∈ out, GoT.ok (n + 4) z_) ∧ (out.length ≤ 6 + 96 * i) ∧ (impl_EncodeVector_L1 v.entries ((impl_AppendVarint ([] : List UInt8) (((v.entries).length : Nat) : Int)) : List UInt8) = impl_EncodeVector_L1 ((v.entries).drop i) out) := hpre
  clear hpre
  obtain ⟨v1, v2, v3, v4⟩ := hpre_
  have v2L := v2.1
  refine R0 ?_
  refine WX.cases 17 rfl (fun h2 => ?_) (fun h2 => ?_)
  ·skip
   have h2d := B.dt h2
   have e1i : i < (v.entries).length := (by omega)
   obtain ⟨e1, e1h⟩ : ∃ e1, (v.entries)[i]? = some e1 := ⟨_, List.getElem?_eq_getElem e1i⟩
   have ok1 : GoT.ok n e1 := (okl (ok_StateVector hokv)).2 _ (List.mem_of_getElem? e1h)
   refine R0 ?_
   refine WX.idx 0 i ttOk rfl rfl rfl rfl rfl rfl rfl rfl rfl rfl e1i ?_
   rintro ad1 rfl
   refine WX.ldE 0 4 e1 ttOk rfl rfl rfl rfl rfl rfl rfl rfl e1h (fun _ => rfl) (fun _ => rfl) ?_
   rintro ⟨⟨p2, c2⟩, ⟨⟩⟩
   refine R0 ?_
   refine WX.der 5 (MF.rs .der pout cout out) rfl (fun _ hΓ => (hΓ.get 3 rfl : OwSl _ _ _ _).rd) ?_
   refine WX.draw [] mixed ?_
   intro bs G0 hΓ0
   refine DX.takes (fuel := 3) ttOk [(0, true), (1, true), (2, false), (4, true), (5, false)] (by kernel_rfl) rfl ?_
   refine DX.callF 3 6 (fun _ _ h => GoT.ow_rd h) (fun _ f hf => GoT.fak f hf) rfl (by kernel_rfl) rfl rfl rfl rfl rfl rfl (fun _ => rfl) rfl (fun w G bs hI hΓ => f56 w (n + 4) (by omega) out pout cout (hΓ.get 5 rfl) e1.name p2 c2 (hΓ.get 4 rfl) (okl_of v2) (GoT.okm (α := List Str) (by omega) (ok_Name (ok_TableEntry ok1).1))) (fun _ => rfl) (fun _ => rfl) ?_
   rintro ⟨p3, c3⟩ hq3
   have q2 := len_implAN out e1.name
   have r2 : (impl_AppendName out e1.name).length ≤ bd (n + 5) := (okl hq3).1
   refine DX.callF 6 8 (fun _ _ h => GoT.ow_rd h) (fun _ f hf => GoT.fak f hf) rfl (by kernel_rfl) rfl rfl rfl rfl rfl rfl (fun _ => rfl) rfl (fun w G bs hI hΓ => f55 w (n + 4) (by omega) (impl_AppendName out e1.name) p3 c3 (hΓ.get 6 rfl) e1.value (okl_mk (by omega) (fun _ _ => trivial) : GoT.ok (n + 4) ((impl_AppendName out e1.name) : List UInt8)) ((ok_TableEntry ok1).2)) (fun _ => rfl) (fun _ => rfl) ?_
   rintro ⟨p4, c4⟩ hq4
   have q3 := len_implAV (impl_AppendName out e1.name) e1.value
   refine DX.takes (fuel := 0) ttOk [(7, true)] (by kernel_rfl) rfl ?_
   refine DX.tail2 [] rfl rfl (by kernel_rfl) ?_
   refine R0 ?_
   refine WX.see rfl rfl rfl (fun _ hΓ => looks_arith rfl rfl rfl rfl (by unfold I64; first | omega | (simp only [List.length_take] at *; omega))) ?_
   refine R0 ?_
   refine WX.turn [9] 3 rfl (fun _ h => h) rfl ?_
   have r3 : -9223372036854775808 ≤ e1.value ∧ e1.value ≤ 9223372036854775807 := (ok_TableEntry ok1).2
   have r4 : (impl_AppendVarint (impl_AppendName out e1.name) e1.value).length ≤ bd (n + 5) := (okl hq4).1
   exact WX.iter (p4, c4, (impl_AppendVarint (impl_AppendName out e1.name) e1.value), i + 1) ⟨(by omega), (okl_mk (by omega) (fun _ _ => trivial) : GoT.ok (n + 4) ((impl_AppendVarint (impl_AppendName out e1.name) e1.value) : List UInt8)), (by omega), (by rw [v4, drop_get e1h]; simp only [impl_EncodeVector_L1, ct, cf])⟩ (by first | (dsimp only; omega) | omega) (.cons rfl (.cons rfl (.cons rfl (.cons rfl (.nil))))) .nil .nil [0, 3] rfl
  ·skip
   have h2d := B.df h2
   refine R0 ?_
   have hX1 : impl_EncodeVector_L1 v.entries ((impl_AppendVarint ([] : List UInt8) (((v.entries).length : Nat) : Int)) : List UInt8) = ((out) : List UInt8) := by rw [v4, List.drop_eq_nil_of_le (show (v.entries).length ≤ i by omega)]; simp only [impl_EncodeVector_L1, ct, cf]
   have hP2 : impl_EncodeVector v = out := by simp only [impl_EncodeVector, h1, hX1, ct, cf]
   refine R1 ?_
   intro w1 G bs hI hΓ
   rw [hP2]
   exact Post.of [3] (pout, cout) hI hΓ rfl rfl rfl (okl_of v2)
theorem f27 (w : World) (n : Nat) (hn : n + 7 ≤ 9) (v : StateVector) (pv : Option Addr) (cv : Nat) (N0 : RdSl (hp w) pv cv v.entries) (hokv : GoT.ok n v) :
  Does Try.prog 27 #[.agg #[.slice pv ((v.entries).length) cv]] w emp (Post w emp (fun x : GoT.X ((List UInt8)) => (GoT.sh ((spec_EncodeVector v) : (List UInt8)) x).headD undef) (fun x => GoT.oa ((spec_EncodeVector v) : (List UInt8)) x) (GoT.ok (n + 4) ((spec_EncodeVector v) : (List UInt8)))) := by
 have hbP := bd_pos n
 have hbS0 : bd (n + 1) = 4 * bd (n) := bd_succ (n := n) (by omega)
 have hbS1 : bd (n + 2) = 4 * bd (n + 1) := bd_succ (n := n + 1) (by omega)
 have hbS2 : bd (n + 3) = 4 * bd (n + 2) := bd_succ (n := n + 2) (by omega)
 have hbS3 : bd (n + 4) = 4 * bd (n + 3) := bd_succ (n := n + 3) (by omega)
 have hbS4 : bd (n + 5) = 4 * bd (n + 4) := bd_succ (n := n + 4) (by omega)
 have hbS5 : bd (n + 6) = 4 * bd (n + 5) := bd_succ (n := n + 5) (by omega)
 have hbS6 : bd (n + 7) = 4 * bd (n + 6) := bd_succ (n := n + 6) (by omega)
 have hbB := bd_big (n := (n + 7)) (by omega)
 have hbM := bd_mono (show n ≤ n + 7 by omega)
 refine WX.enter (tt := tt) (Γ := [(0, MF.rs .stb pv cv v.entries)]) Try.func27 rfl (by kernel_rfl) rfl (allS_cons rfl N0 allS_nil) ?_
 refine R0 ?_
 refine WX.callV rfl rfl rfl rfl rfl (fun _ => rfl) rfl (fun w G bs hI hΓ => f33 w n (by omega) v pv cv (hΓ.get 0 rfl) hokv) ?_
 intro hq1
 refine R0 ?_
 refine WX.cases 7 rfl (fun h1 => ?_) (fun h1 => ?_)
 ·skip
  have h1d := (B.nt h1)
  refine R0 ?_
  refine WX.bld ttOk rfl rfl rfl rfl rfl rfl rfl ?_
  intro p1
  refine R0 ?_
  refine WX.free 1 (MF.ol [] ([] : List UInt8)) rfl ?_
  refine WX.seal 8 1 2 rfl rfl rfl rfl rfl ?_
  have hP1 : spec_EncodeVector v = ([]) := by simp only [spec_EncodeVector, h1, ct, cf]
  refine R1 ?_
  intro w1 G bs hI hΓ
  rw [hP1]
  exact Post.of [3] (p1, 0) hI hΓ rfl rfl rfl (okl_mk (Nat.zero_le _) (fun _ _ => trivial) : GoT.ok (n + 4) ([] : List UInt8))
 ·skip
  have h1d := (B.nf h1)
  refine R0 ?_
  refine WX.bld ttOk rfl rfl rfl rfl rfl rfl rfl ?_
  intro p2
  refine R0 ?_
  refine WX.free 4 (MF.ol [] ([] : List UInt8)) rfl ?_
  refine WX.seal 9 4 5 rfl rfl rfl rfl rfl ?_
  have r1 : (v.entries).length ≤ bd n := (okl (ok_StateVector hokv)).1
  refine WX.callF 7 (fun _ _ h => GoT.ow_rd h) (fun _ f hf => GoT.fak f hf) rfl rfl rfl rfl rfl (fun _ => rfl) rfl (fun w G bs hI hΓ => f57 w n (by omega) ([]) p2 0 (hΓ.get 5 rfl) (((v.entries).length : Nat) : Int) (okl_mk (Nat.zero_le _) (fun _ _ => trivial) : GoT.ok n ([] : List UInt8)) (show I64 (((v.entries).length : Nat) : Int) from (by unfold I64; omega))) (fun _ => rfl) (fun _ => rfl) ?_
  rintro ⟨p3, c1⟩ hq2
  have q1 := len_specAV ([]) (((v.entries).length : Nat) : Int)
  refine R0 ?_
  have hv2 : v.entries.length ≤ bd n := (okl (ok_StateVector hokv)).1
  refine WX.loop (ι := (Option Addr) × Nat × (List UInt8) × Nat) ⟨fun | (pb, cb, b, i) => (i ≤ (v.entries).length) ∧ (b.length ≤ bd (n + 4) ∧ ∀ z_ ∈ b, GoT.ok (n + 4) z_) ∧ (b.length ≤ 6 + 96 * i) ∧ (spec_EncodeVector_L1 v.entries ((spec_AppendVarint ([]) (((v.entries).length : Nat) : Int)) : List UInt8) = spec_EncodeVector_L1 ((v.entries).drop i) b), fun | (pb, cb, b, i) => (v.entries).length - i, fun | (pb, cb, b, i) => [(3, .v (.slice pb ((b).length) cb)), (4, .v (.int .i64 (((i : Nat) : Int)))), (1, .p 1 0)], fun | (pb, cb, b, i) => [(1, ⟨30, [.slice pv ((v.entries).length) cv]⟩)], fun | (pb, cb, b, i) => [], fun | (pb, cb, b, i) => [(0, MF.rs .stb pv cv v.entries), (8, MF.os pb cb b)]⟩ (p3, c1, ((spec_AppendVarint ([]) (((v.entries).length : Nat) : Int)) : List UInt8), 0) ⟨(Nat.zero_le _), (GoT.okm (α := List UInt8) (by omega) hq2), (by first | omega | (simp only [List.length_nil] at *; omega)), rfl⟩
   (.cons rfl (.cons rfl (.cons rfl (.nil)))) (.cons rfl (.nil)) .nil [0, 8] rfl ?_
  rintro ⟨pb, cb, b, i⟩ hpre
  have hpre_ : (i ≤ (v.entries).length) ∧ (b.length ≤ bd (n + 4) ∧ ∀ z_ ∈ b, GoT.ok (n + 4) z_) ∧ (b.length ≤ 6 + 96 * i) ∧ (spec_EncodeVector_L1 v.entries ((spec_AppendVarint ([]) (((v.entries).length : Nat) : Int)) : List UInt8) = spec_EncodeVector_L1 ((v.entries).drop i) b) := hpre
  clear hpre
  obtain ⟨v1, v2, v3, v4⟩ := hpre_
  have v2L := v2.1
  refine R0 ?_
  refine WX.cases 18 rfl (fun h2 => ?_) (fun h2 => ?_)
  ·skip
   have h2d := B.dt h2
   have e1i : i < (v.entries).length := (by omega)
   obtain ⟨e1, e1h⟩ : ∃ e1, (v.entries)[i]? = some e1 := ⟨_, List.getElem?_eq_getElem e1i⟩
   have ok1 : GoT.ok n e1 := (okl (ok_StateVector hokv)).2 _ (List.mem_of_getElem? e1h)
   refine R0 ?_
   refine WX.der 9 (MF.rs .der pb cb b) rfl (fun _ hΓ => (hΓ.get 8 rfl : OwSl _ _ _ _).rd) ?_
   refine WX.draw [] mixed ?_
   intro bs G0 hΓ0
   refine DX.takes (fuel := 12) ttOk [(0, true), (1, true), (2, false), (3, true)] (by kernel_rfl) rfl ?_
   refine DX.idx 4 0 i ttOk hΓ0 (by kernel_rfl) rfl rfl rfl rfl rfl rfl rfl rfl rfl rfl rfl e1i ?_
   rintro ad1 rfl
   refine DX.takes (fuel := 10) ttOk [(5, true)] (by kernel_rfl) rfl ?_
   refine DX.ldE 6 0 10 e1 ttOk hΓ0 (by kernel_rfl) rfl rfl rfl rfl rfl rfl rfl rfl e1h (fun _ => rfl) (fun _ => rfl) ?_
   rintro ⟨⟨p4, c2⟩, ⟨⟩⟩
   refine DX.takes (fuel := 6) ttOk [(8, true), (9, false), (10, true)] (by kernel_rfl) rfl ?_
   refine DX.idx 11 0 i ttOk hΓ0 (by kernel_rfl) rfl rfl rfl rfl rfl rfl rfl rfl rfl rfl rfl e1i ?_
   rintro ad2 ⟨⟩
   refine DX.takes (fuel := 4) ttOk [(12, true)] (by kernel_rfl) rfl ?_
   refine DX.ldE 13 0 11 e1 ttOk hΓ0 (by kernel_rfl) rfl rfl rfl rfl rfl rfl rfl rfl e1h (fun _ => rfl) (fun _ => rfl) ?_
   rintro ⟨⟨p5, c3⟩, ⟨⟩⟩
   refine DX.callF 7 12 (fun _ _ h => GoT.ow_rd h) (fun _ f hf => GoT.fak f hf) rfl (by kernel_rfl) rfl rfl rfl rfl rfl rfl (fun _ => rfl) rfl (fun w G bs hI hΓ => f58 w (n + 4) (by omega) b pb cb (hΓ.get 9 rfl) e1.name p4 c2 (hΓ.get 10 rfl) (okl_of v2) (GoT.okm (α := List Str) (by omega) (ok_Name (ok_TableEntry ok1).1))) (fun _ => rfl) (fun _ => rfl) ?_
   rintro ⟨p6, c4⟩ hq3
   have q2 := len_specAN b e1.name
   have r2 : (spec_AppendName b e1.name).length ≤ bd (n + 5) := (okl hq3).1
   refine DX.callF 14 14 (fun _ _ h => GoT.ow_rd h) (fun _ f hf => GoT.fak f hf) rfl (by kernel_rfl) rfl rfl rfl rfl rfl rfl (fun _ => rfl) rfl (fun w G bs hI hΓ => f57 w (n + 4) (by omega) (spec_AppendName b e1.name) p6 c4 (hΓ.get 12 rfl) e1.value (okl_mk (by omega) (fun _ _ => trivial) : GoT.ok (n + 4) ((spec_AppendName b e1.name) : List UInt8)) ((ok_TableEntry ok1).2)) (fun _ => rfl) (fun _ => rfl) ?_
   rintro ⟨p7, c5⟩ hq4
   have q3 := len_specAV (spec_AppendName b e1.name) e1.value
   refine DX.takes (fuel := 0) ttOk [(15, true)] (by kernel_rfl) rfl ?_
   refine DX.tail2 [] rfl rfl (by kernel_rfl) ?_
   refine R0 ?_
   refine WX.see rfl rfl rfl (fun _ hΓ => looks_arith rfl rfl rfl rfl (by unfold I64; first | omega | (simp only [List.length_take] at *; omega))) ?_
   refine R0 ?_
   refine WX.turn [15] 8 rfl (fun _ h => h) rfl ?_
   have r3 : -9223372036854775808 ≤ e1.value ∧ e1.value ≤ 9223372036854775807 := (ok_TableEntry ok1).2
   have r4 : (spec_AppendVarint (spec_AppendName b e1.name) e1.value).length ≤ bd (n + 5) := (okl hq4).1
   exact WX.iter (p7, c5, (spec_AppendVarint (spec_AppendName b e1.name) e1.value), i + 1) ⟨(by omega), (okl_mk (by omega) (fun _ _ => trivial) : GoT.ok (n + 4) ((spec_AppendVarint (spec_AppendName b e1.name) e1.value) : List UInt8)), (by omega), (by rw [v4, drop_get e1h]; simp only [spec_EncodeVector_L1, ct, cf])⟩ (by first | (dsimp only; omega) | omega) (.cons rfl (.cons rfl (.cons rfl (.nil)))) (.cons rfl (.nil)) .nil [0, 8] rfl
  ·skip
   have h2d := B.df h2
   refine R0 ?_
   have hX1 : spec_EncodeVector_L1 v.entries ((spec_AppendVarint ([]) (((v.entries).length : Nat) : Int)) : List UInt8) = ((b) : List UInt8) := by rw [v4, List.drop_eq_nil_of_le (show (v.entries).length ≤ i by omega)]; simp only [spec_EncodeVector_L1, ct, cf]
   have hP2 : spec_EncodeVector v = b := by simp only [spec_EncodeVector, h1, hX1, ct, cf]
   refine R1 ?_
   intro w1 G bs hI hΓ
   rw [hP2]
   exact Post.of [8] (pb, cb) hI hΓ rfl rfl rfl (okl_of v2)
theorem f15 (w : World) (n : Nat) (hn : n + 0 ≤ 9) (b : (List UInt8)) (pb : Option Addr) (cb : Nat) (N0 : RdSl (hp w) pb cb b) (hokb : GoT.ok n b) :
  Does Try.prog 15 #[.slice pb ((b).length) cb] w emp (Post w emp (fun x : GoT.X (StateVector) => .tuple #[.agg ⟨GoT.sh ((impl_DecodeVector b).1 : StateVector) x⟩, .bool ((impl_DecodeVector b).2)]) (fun x => GoT.oa ((impl_DecodeVector b).1 : StateVector) x) (GoT.ok n ((impl_DecodeVector b).1 : StateVector))) := by
 have hbP := bd_pos n
 have hbB := bd_big (n := n) (by omega)
 refine WX.enter (tt := tt) (Γ := [(0, MF.rs .stb pb cb b)]) Try.func15 rfl (by kernel_rfl) rfl (allS_cons rfl N0 allS_nil) ?_
 refine R0 ?_
 refine WX.callV rfl rfl rfl rfl rfl (fun _ => rfl) rfl (fun w G bs hI hΓ => f40 w n (by omega) b pb cb (hΓ.get 0 rfl) 0 hokb (show I64 0 from (by unfold I64; omega))) ?_
 intro hq1
 have qv1 := rv_impl b 0
 refine R0 ?_
 refine WX.cases 22 rfl (fun h1 => ?_) (fun h1 => ?_)
 ·skip
  have h1d := (B.nt h1)
  refine R0 ?_
  refine WX.free 1 (MF.os none 0 ([] : List TableEntry)) (owSl_nil _ _) ?_
  have hP1 : impl_DecodeVector b = (StateVector.mk ([]), false) := by simp only [impl_DecodeVector, h1, ct, cf]
  refine R1 ?_
  intro w1 G bs hI hΓ
  rw [hP1]
  exact Post.of [1] (none, 0) hI hΓ rfl rfl rfl (ok_nil (α := TableEntry))
 ·skip
  have h1d := (B.nf h1)
  refine R0 ?_
  refine WX.cases 25 rfl (fun h2 => ?_) (fun h2 => ?_)
  ·skip
   have h2d := B.dt h2
   refine R0 ?_
   refine WX.free 2 (MF.os none 0 ([] : List TableEntry)) (owSl_nil _ _) ?_
   have hP2 : impl_DecodeVector b = (StateVector.mk ([]), false) := by simp only [impl_DecodeVector, h1, h2, ct, cf]
   refine R1 ?_
   intro w1 G bs hI hΓ
   rw [hP2]
   exact Post.of [2] (none, 0) hI hΓ rfl rfl rfl (ok_nil (α := TableEntry))
  ·skip
   have h2d := B.df h2
   refine R0 ?_
   refine WX.row0 501 2 none rfl ?_
   refine WX.free 3 (MF.ol [] ([] : List TableEntry)) rfl ?_
   have r1 : (b).length ≤ bd n := (okl hokb).1
   have r2 : -9223372036854775808 ≤ ((impl_ReadVarint b 0).1) ∧ ((impl_ReadVarint b 0).1) ≤ 9223372036854775807 := hq1.1
   refine WX.loop (ι := Int × Nat × (Option Addr) × Nat × (List Value) × (List TableEntry)) ⟨fun | (at_, i, pv, cv, xsv, v) => (i ≤ ((impl_ReadVarint b 0).1).toNat) ∧ (-9223372036854775808 ≤ at_ ∧ at_ ≤ 9223372036854775807) ∧ (∀ z_ ∈ v, GoT.ok n z_) ∧ (v.length ≤ i) ∧ (impl_DecodeVector_L1 b (((impl_ReadVarint b 0).1).toNat) ((impl_ReadVarint b 0).2.1) ([] : List TableEntry) = impl_DecodeVector_L1 b (((impl_ReadVarint b 0).1).toNat - i) at_ v), fun | (at_, i, pv, cv, xsv, v) => ((impl_ReadVarint b 0).1).toNat - i, fun | (at_, i, pv, cv, xsv, v) => [(5, .v (.int .i64 (at_))), (29, .v (.int .i64 (((i : Nat) : Int)))), (28, .v (.int .i64 ((impl_ReadVarint b 0).1))), (7, .p 7 0), (2, .p 2 0), (0, .v (.slice pb ((b).length) cb))], fun | (at_, i, pv, cv, xsv, v) => [(7, ⟨30, [.slice pv ((v).length) cv]⟩), (2, ⟨30, [.slice none (0) 0]⟩)], fun | (at_, i, pv, cv, xsv, v) => [(501, ⟨2, pv, (v).length, cv, xsv⟩)], fun | (at_, i, pv, cv, xsv, v) => [(0, MF.rs .stb pb cb b), (3, MF.ol xsv (v : List TableEntry))]⟩ ((impl_ReadVarint b 0).2.1, 0, none, 0, [], ([] : List TableEntry)) ⟨(Nat.zero_le _), hq1.2, (fun a ha => by cases ha), (by simp), rfl⟩
    (.cons rfl (.cons rfl (.cons rfl (.cons rfl (.cons rfl (.cons rfl (.nil))))))) (.cons rfl (.cons rfl (.nil))) (.cons rfl (.nil)) [0, 3] rfl ?_
   rintro ⟨at_, i, pv, cv, xsv, v⟩ hpre
   have hpre_ : (i ≤ ((impl_ReadVarint b 0).1).toNat) ∧ (-9223372036854775808 ≤ at_ ∧ at_ ≤ 9223372036854775807) ∧ (∀ z_ ∈ v, GoT.ok n z_) ∧ (v.length ≤ i) ∧ (impl_DecodeVector_L1 b (((impl_ReadVarint b 0).1).toNat) ((impl_ReadVarint b 0).2.1) ([] : List TableEntry) = impl_DecodeVector_L1 b (((impl_ReadVarint b 0).1).toNat - i) at_ v) := hpre
   clear hpre
   obtain ⟨v1, v2, v3, v4, v5⟩ := hpre_
   refine R0 ?_
   refine WX.cases 30 rfl (fun h3 => ?_) (fun h3 => ?_)
   ·skip
    have h3d := B.dt h3
    refine R0 ?_
    refine WX.callF 4 (fun _ _ h => GoT.ow_rd h) (fun _ f hf => GoT.fak f hf) rfl rfl rfl rfl rfl (fun _ => rfl) rfl (fun w G bs hI hΓ => f41 w n (by omega) b pb cb (hΓ.get 0 rfl) at_ hokb v2) (fun _ => rfl) (fun _ => rfl) ?_
    rintro ⟨p1, c1⟩ hq2
    refine R0 ?_
    refine WX.callV rfl rfl rfl rfl rfl (fun _ => rfl) rfl (fun w G bs hI hΓ => f40 w n (by omega) b pb cb (hΓ.get 0 rfl) ((impl_ReadName b at_).2.1) hokb hq2.2) ?_
    intro hq3
    have qv2 := rv_impl b ((impl_ReadName b at_).2.1)
    refine R0 ?_
    refine WX.cases 47 rfl (fun h4 => ?_) (fun h4 => ?_)
    ·skip
     have h4d := (B.nt h4)
     refine R0 ?_
     refine WX.free 6 (MF.os none 0 ([] : List TableEntry)) (owSl_nil _ _) ?_
     have hP3 : impl_DecodeVector_L1 b (((impl_ReadVarint b 0).1).toNat) ((impl_ReadVarint b 0).2.1) ([] : List TableEntry) = (Ctl.ret (StateVector.mk ([]), false)) := by rw [v5, show ((impl_ReadVarint b 0).1).toNat - i = (((impl_ReadVarint b 0).1).toNat - (i + 1)) + 1 by omega]; simp only [impl_DecodeVector_L1, h4, ct, cf]
     have hP4 : impl_DecodeVector b = (StateVector.mk ([]), false) := by simp only [impl_DecodeVector, h1, h2, hP3, ct, cf]
     refine R1 ?_
     intro w1 G bs hI hΓ
     rw [hP4]
     exact Post.of [6] (none, 0) hI hΓ rfl rfl rfl (ok_nil (α := TableEntry))
    ·skip
     have h4d := (B.nf h4)
     refine R0 ?_
     refine WX.cases 50 rfl (fun h5 => ?_) (fun h5 => ?_)
     ·skip
      have h5d := (B.nt h5)
      refine R0 ?_
      refine WX.free 7 (MF.os none 0 ([] : List TableEntry)) (owSl_nil _ _) ?_
      have hP5 : impl_DecodeVector_L1 b (((impl_ReadVarint b 0).1).toNat) ((impl_ReadVarint b 0).2.1) ([] : List TableEntry) = (Ctl.ret (StateVector.mk ([]), false)) := by rw [v5, show ((impl_ReadVarint b 0).1).toNat - i = (((impl_ReadVarint b 0).1).toNat - (i + 1)) + 1 by omega]; simp only [impl_DecodeVector_L1, h4, h5, ct, cf]
      have hP6 : impl_DecodeVector b = (StateVector.mk ([]), false) := by simp only [impl_DecodeVector, h1, h2, hP5, ct, cf]
      refine R1 ?_
      intro w1 G bs hI hΓ
      rw [hP6]
      exact Post.of [7] (none, 0) hI hΓ rfl rfl rfl (ok_nil (α := TableEntry))
     ·skip
      have h5d := (B.nf h5)
      refine R0 ?_
      refine WX.bld ttOk rfl rfl rfl rfl rfl rfl rfl ?_
      intro p2
      refine WX.turn [5] 8 rfl (fun h hs => ol_one (α := TableEntry) (a := (TableEntry.mk ((impl_ReadName b at_).1) ((impl_ReadVarint b ((impl_ReadName b at_).2.1)).1))) (x := ((p1, c1), ())) hs) (gs := [MF.ol [.slice p1 (((impl_ReadName b at_).1.parts).length) c1, .int .i64 ((impl_ReadVarint b ((impl_ReadName b at_).2.1)).1)] ([(TableEntry.mk ((impl_ReadName b at_).1) ((impl_ReadVarint b ((impl_ReadName b at_).2.1)).1))] : List TableEntry)]) rfl ?_
      have r3 : -9223372036854775808 ≤ ((impl_ReadName b at_).2.1) ∧ ((impl_ReadName b at_).2.1) ≤ 9223372036854775807 := hq2.2
      have r4 : -9223372036854775808 ≤ ((impl_ReadVarint b ((impl_ReadName b at_).2.1)).1) ∧ ((impl_ReadVarint b ((impl_ReadName b at_).2.1)).1) ≤ 9223372036854775807 := hq3.1
      refine WX.know (fun G hΓ => (hΓ.get 8 rfl : OwL _ _ _).rd.one) ?_
      intro ho1
      refine WX.appR1 501 57 ((v ++ [(TableEntry.mk ((impl_ReadName b at_).1) ((impl_ReadVarint b ((impl_ReadName b at_).2.1)).1))]) : List TableEntry).length ttOk rfl rfl rfl rfl rfl rfl rfl rfl rfl rfl rfl rfl rfl ho1 (by simp) (by simp; omega) (by simp; omega) (fun _ _ => rfl) ?_
      intro p3 c2
      refine WX.turn [3, 8] 9 rfl (fun h hs => ol_app hs) (gs := [MF.ol (xsv ++ [.slice p1 (((impl_ReadName b at_).1.parts).length) c1, .int .i64 ((impl_ReadVarint b ((impl_ReadName b at_).2.1)).1)]) ((v ++ [(TableEntry.mk ((impl_ReadName b at_).1) ((impl_ReadVarint b ((impl_ReadName b at_).2.1)).1))]) : List TableEntry)]) rfl ?_
      refine R0 ?_
      refine WX.see rfl rfl rfl (fun _ hΓ => looks_arith rfl rfl rfl rfl (by unfold I64; first | omega | (simp only [List.length_take] at *; omega))) ?_
      refine R0 ?_
      refine WX.turn [9] 3 rfl (fun _ h => h) rfl ?_
      exact WX.iter ((impl_ReadVarint b ((impl_ReadName b at_).2.1)).2.1, i + 1, p3, c2, (xsv ++ [.slice p1 (((impl_ReadName b at_).1.parts).length) c1, .int .i64 ((impl_ReadVarint b ((impl_ReadName b at_).2.1)).1)]), ((v ++ [(TableEntry.mk ((impl_ReadName b at_).1) ((impl_ReadVarint b ((impl_ReadName b at_).2.1)).1))]) : List TableEntry)) ⟨(by omega), hq3.2, (all_app v3 (all_cons (α := TableEntry) (And.intro hq2.1 hq3.1) (fun a ha => by cases ha))), (by first | assumption | omega | (simp; omega)), (by rw [v5, show ((impl_ReadVarint b 0).1).toNat - i = (((impl_ReadVarint b 0).1).toNat - (i + 1)) + 1 by omega]; simp only [impl_DecodeVector_L1, h4, h5, ct, cf])⟩ (by first | (dsimp only; omega) | omega) (.cons rfl (.cons rfl (.cons rfl (.cons rfl (.cons rfl (.cons rfl (.nil))))))) (.cons rfl (.cons rfl (.nil))) (.cons rfl (.nil)) [0, 3] rfl
   ·skip
    have h3d := B.df h3
    refine R0 ?_
    have hX1 : impl_DecodeVector_L1 b (((impl_ReadVarint b 0).1).toNat) ((impl_ReadVarint b 0).2.1) ([] : List TableEntry) = (Ctl.nxt (at_, ((v) : List TableEntry))) := by rw [v5, show ((impl_ReadVarint b 0).1).toNat - i = 0 by omega]; simp only [impl_DecodeVector_L1, ct, cf]
    refine WX.cases 66 rfl (fun h6 => ?_) (fun h6 => ?_)
    ·skip
     have h6d := B.nt' h6
     refine R0 ?_
     refine WX.free 10 (MF.os none 0 ([] : List TableEntry)) (owSl_nil _ _) ?_
     have hP7 : impl_DecodeVector b = (StateVector.mk ([]), false) := by simp only [impl_DecodeVector, h1, h2, hX1, h6, ct, cf]
     refine R1 ?_
     intro w1 G bs hI hΓ
     rw [hP7]
     exact Post.of [10] (none, 0) hI hΓ rfl rfl rfl (ok_nil (α := TableEntry))
    ·skip
     have h6d := B.nf' h6
     refine R0 ?_
     refine WX.seal 501 3 11 rfl rfl rfl rfl rfl ?_
     refine WX.callV rfl rfl rfl rfl rfl (fun _ => rfl) rfl (fun w G bs hI hΓ => f32 w n (by omega) (StateVector.mk v) pv cv (hΓ.get 11 rfl) (okl_mk (by omega) v3 : GoT.ok n (v : List TableEntry))) ?_
     intro hq4
     refine R0 ?_
     refine WX.cases 70 rfl (fun h7 => ?_) (fun h7 => ?_)
     ·skip
      have h7d := (B.nt h7)
      refine R0 ?_
      refine WX.free 13 (MF.os none 0 ([] : List TableEntry)) (owSl_nil _ _) ?_
      have hP8 : impl_DecodeVector b = (StateVector.mk ([]), false) := by simp only [impl_DecodeVector, h1, h2, hX1, h6, h7, ct, cf]
      refine R1 ?_
      intro w1 G bs hI hΓ
      rw [hP8]
      exact Post.of [13] (none, 0) hI hΓ rfl rfl rfl (ok_nil (α := TableEntry))
     ·skip
      have h7d := (B.nf h7)
      refine R0 ?_
      have hP9 : impl_DecodeVector b = (StateVector.mk v, true) := by simp only [impl_DecodeVector, h1, h2, hX1, h6, h7, ct, cf]
      refine R1 ?_
      intro w1 G bs hI hΓ
      rw [hP9]
      exact Post.of [12] (pv, cv) hI hΓ rfl rfl rfl (okl_mk (by omega) v3 : GoT.ok n (v : List TableEntry))
theorem f16 (w : World) (n : Nat) (hn : n + 0 ≤ 9) (b : (List UInt8)) (pb : Option Addr) (cb : Nat) (N0 : RdSl (hp w) pb cb b) (hokb : GoT.ok n b) :
  Does Try.prog 16 #[.slice pb ((b).length) cb] w emp (Post w emp (fun x : GoT.X (StateVector) => .tuple #[.agg ⟨GoT.sh ((spec_DecodeVector b).1 : StateVector) x⟩, .bool ((spec_DecodeVector b).2)]) (fun x => GoT.oa ((spec_DecodeVector b).1 : StateVector) x) (GoT.ok n ((spec_DecodeVector b).1 : StateVector))) := by
 have hbP := bd_pos n
 have hbB := bd_big (n := n) (by omega)
 refine WX.enter (tt := tt) (Γ := [(0, MF.rs .stb pb cb b)]) Try.func16 rfl (by kernel_rfl) rfl (allS_cons rfl N0 allS_nil) ?_
 refine R0 ?_
 refine WX.callV rfl rfl rfl rfl rfl (fun _ => rfl) rfl (fun w G bs hI hΓ => f42 w n (by omega) b pb cb (hΓ.get 0 rfl) 0 hokb (show I64 0 from (by unfold I64; omega))) ?_
 intro hq1
 have qv1 := rv_spec b 0
 refine R0 ?_
 refine WX.cases 23 rfl (fun h1 => ?_) (fun h1 => ?_)
 ·skip
  have h1d := (B.nt h1)
  refine R0 ?_
  refine WX.free 1 (MF.os none 0 ([] : List TableEntry)) (owSl_nil _ _) ?_
  have hP1 : spec_DecodeVector b = (StateVector.mk ([]), false) := by simp only [spec_DecodeVector, h1, ct, cf]
  refine R1 ?_
  intro w1 G bs hI hΓ
  rw [hP1]
  exact Post.of [1] (none, 0) hI hΓ rfl rfl rfl (ok_nil (α := TableEntry))
 ·skip
  have h1d := (B.nf h1)
  refine R0 ?_
  refine WX.cases 26 rfl (fun h2 => ?_) (fun h2 => ?_)
  ·skip
   have h2d := B.dt h2
   refine R0 ?_
   refine WX.free 2 (MF.os none 0 ([] : List TableEntry)) (owSl_nil _ _) ?_
   have hP2 : spec_DecodeVector b = (StateVector.mk ([]), false) := by simp only [spec_DecodeVector, h1, h2, ct, cf]
   refine R1 ?_
   intro w1 G bs hI hΓ
   rw [hP2]
   exact Post.of [2] (none, 0) hI hΓ rfl rfl rfl (ok_nil (α := TableEntry))
  ·skip
   have h2d := B.df h2
   refine R0 ?_
   refine WX.row0 501 2 none rfl ?_
   refine WX.free 3 (MF.ol [] ([] : List TableEntry)) rfl ?_
   have r1 : (b).length ≤ bd n := (okl hokb).1
   have r2 : -9223372036854775808 ≤ ((spec_ReadVarint b 0).1) ∧ ((spec_ReadVarint b 0).1) ≤ 9223372036854775807 := hq1.1
   refine WX.loop (ι := Int × Nat × (Option Addr) × Nat × (List Value) × (List TableEntry)) ⟨fun | (at_, i, pv, cv, xsv, v) => (i ≤ ((spec_ReadVarint b 0).1).toNat) ∧ (-9223372036854775808 ≤ at_ ∧ at_ ≤ 9223372036854775807) ∧ (∀ z_ ∈ v, GoT.ok n z_) ∧ (v.length ≤ i) ∧ (spec_DecodeVector_L1 b (((spec_ReadVarint b 0).1).toNat) ((spec_ReadVarint b 0).2.1) ([] : List TableEntry) = spec_DecodeVector_L1 b (((spec_ReadVarint b 0).1).toNat - i) at_ v), fun | (at_, i, pv, cv, xsv, v) => ((spec_ReadVarint b 0).1).toNat - i, fun | (at_, i, pv, cv, xsv, v) => [(5, .v (.int .i64 (at_))), (8, .v (.int .i64 (((i : Nat) : Int)))), (7, .p 7 0), (4, .v (.int .i64 ((spec_ReadVarint b 0).1))), (2, .p 2 0), (0, .v (.slice pb ((b).length) cb))], fun | (at_, i, pv, cv, xsv, v) => [(7, ⟨30, [.slice pv ((v).length) cv]⟩), (2, ⟨30, [.slice none (0) 0]⟩)], fun | (at_, i, pv, cv, xsv, v) => [(501, ⟨2, pv, (v).length, cv, xsv⟩)], fun | (at_, i, pv, cv, xsv, v) => [(0, MF.rs .stb pb cb b), (3, MF.ol xsv (v : List TableEntry))]⟩ ((spec_ReadVarint b 0).2.1, 0, none, 0, [], ([] : List TableEntry)) ⟨(Nat.zero_le _), hq1.2, (fun a ha => by cases ha), (by simp), rfl⟩
    (.cons rfl (.cons rfl (.cons rfl (.cons rfl (.cons rfl (.cons rfl (.nil))))))) (.cons rfl (.cons rfl (.nil))) (.cons rfl (.nil)) [0, 3] rfl ?_
   rintro ⟨at_, i, pv, cv, xsv, v⟩ hpre
   have hpre_ : (i ≤ ((spec_ReadVarint b 0).1).toNat) ∧ (-9223372036854775808 ≤ at_ ∧ at_ ≤ 9223372036854775807) ∧ (∀ z_ ∈ v, GoT.ok n z_) ∧ (v.length ≤ i) ∧ (spec_DecodeVector_L1 b (((spec_ReadVarint b 0).1).toNat) ((spec_ReadVarint b 0).2.1) ([] : List TableEntry) = spec_DecodeVector_L1 b (((spec_ReadVarint b 0).1).toNat - i) at_ v) := hpre
   clear hpre
   obtain ⟨v1, v2, v3, v4, v5⟩ := hpre_
   refine R0 ?_
   refine WX.cases 31 rfl (fun h3 => ?_) (fun h3 => ?_)
   ·skip
    have h3d := B.dt h3
    refine R0 ?_
    refine WX.callF 4 (fun _ _ h => GoT.ow_rd h) (fun _ f hf => GoT.fak f hf) rfl rfl rfl rfl rfl (fun _ => rfl) rfl (fun w G bs hI hΓ => f43 w n (by omega) b pb cb (hΓ.get 0 rfl) at_ hokb v2) (fun _ => rfl) (fun _ => rfl) ?_
    rintro ⟨p1, c1⟩ hq2
    refine R0 ?_
    refine WX.callV rfl rfl rfl rfl rfl (fun _ => rfl) rfl (fun w G bs hI hΓ => f42 w n (by omega) b pb cb (hΓ.get 0 rfl) ((spec_ReadName b at_).2.1) hokb hq2.2) ?_
    intro hq3
    have qv2 := rv_spec b ((spec_ReadName b at_).2.1)
    refine R0 ?_
    refine WX.cases 50 rfl (fun h4 => ?_) (fun h4 => ?_)
    ·skip
     have h4d := (B.nt h4)
     refine R0 ?_
     refine WX.free 6 (MF.os none 0 ([] : List TableEntry)) (owSl_nil _ _) ?_
     have hP3 : spec_DecodeVector_L1 b (((spec_ReadVarint b 0).1).toNat) ((spec_ReadVarint b 0).2.1) ([] : List TableEntry) = (Ctl.ret (StateVector.mk ([]), false)) := by rw [v5, show ((spec_ReadVarint b 0).1).toNat - i = (((spec_ReadVarint b 0).1).toNat - (i + 1)) + 1 by omega]; simp only [spec_DecodeVector_L1, h4, ct, cf]
     have hP4 : spec_DecodeVector b = (StateVector.mk ([]), false) := by simp only [spec_DecodeVector, h1, h2, hP3, ct, cf]
     refine R1 ?_
     intro w1 G bs hI hΓ
     rw [hP4]
     exact Post.of [6] (none, 0) hI hΓ rfl rfl rfl (ok_nil (α := TableEntry))
    ·skip
     have h4d := (B.nf h4)
     refine R0 ?_
     refine WX.cases 53 rfl (fun h5 => ?_) (fun h5 => ?_)
     ·skip
      have h5d := (B.nt h5)
      refine R0 ?_
      refine WX.free 7 (MF.os none 0 ([] : List TableEntry)) (owSl_nil _ _) ?_
      have hP5 : spec_DecodeVector_L1 b (((spec_ReadVarint b 0).1).toNat) ((spec_ReadVarint b 0).2.1) ([] : List TableEntry) = (Ctl.ret (StateVector.mk ([]), false)) := by rw [v5, show ((spec_ReadVarint b 0).1).toNat - i = (((spec_ReadVarint b 0).1).toNat - (i + 1)) + 1 by omega]; simp only [spec_DecodeVector_L1, h4, h5, ct, cf]
      have hP6 : spec_DecodeVector b = (StateVector.mk ([]), false) := by simp only [spec_DecodeVector, h1, h2, hP5, ct, cf]
      refine R1 ?_
      intro w1 G bs hI hΓ
      rw [hP6]
      exact Post.of [7] (none, 0) hI hΓ rfl rfl rfl (ok_nil (α := TableEntry))
     ·skip
      have h5d := (B.nf h5)
      refine R0 ?_
      refine WX.bld ttOk rfl rfl rfl rfl rfl rfl rfl ?_
      intro p2
      refine WX.turn [5] 8 rfl (fun h hs => ol_one (α := TableEntry) (a := (TableEntry.mk ((spec_ReadName b at_).1) ((spec_ReadVarint b ((spec_ReadName b at_).2.1)).1))) (x := ((p1, c1), ())) hs) (gs := [MF.ol [.slice p1 (((spec_ReadName b at_).1.parts).length) c1, .int .i64 ((spec_ReadVarint b ((spec_ReadName b at_).2.1)).1)] ([(TableEntry.mk ((spec_ReadName b at_).1) ((spec_ReadVarint b ((spec_ReadName b at_).2.1)).1))] : List TableEntry)]) rfl ?_
      have r3 : -9223372036854775808 ≤ ((spec_ReadName b at_).2.1) ∧ ((spec_ReadName b at_).2.1) ≤ 9223372036854775807 := hq2.2
      have r4 : -9223372036854775808 ≤ ((spec_ReadVarint b ((spec_ReadName b at_).2.1)).1) ∧ ((spec_ReadVarint b ((spec_ReadName b at_).2.1)).1) ≤ 9223372036854775807 := hq3.1
      refine WX.know (fun G hΓ => (hΓ.get 8 rfl : OwL _ _ _).rd.one) ?_
      intro ho1
      refine WX.appR1 501 60 ((v ++ [(TableEntry.mk ((spec_ReadName b at_).1) ((spec_ReadVarint b ((spec_ReadName b at_).2.1)).1))]) : List TableEntry).length ttOk rfl rfl rfl rfl rfl rfl rfl rfl rfl rfl rfl rfl rfl ho1 (by simp) (by simp; omega) (by simp; omega) (fun _ _ => rfl) ?_
      intro p3 c2
      refine WX.turn [3, 8] 9 rfl (fun h hs => ol_app hs) (gs := [MF.ol (xsv ++ [.slice p1 (((spec_ReadName b at_).1.parts).length) c1, .int .i64 ((spec_ReadVarint b ((spec_ReadName b at_).2.1)).1)]) ((v ++ [(TableEntry.mk ((spec_ReadName b at_).1) ((spec_ReadVarint b ((spec_ReadName b at_).2.1)).1))]) : List TableEntry)]) rfl ?_
      refine R0 ?_
      refine WX.see rfl rfl rfl (fun _ hΓ => looks_arith rfl rfl rfl rfl (by unfold I64; first | omega | (simp only [List.length_take] at *; omega))) ?_
      refine R0 ?_
      refine WX.turn [9] 3 rfl (fun _ h => h) rfl ?_
      exact WX.iter ((spec_ReadVarint b ((spec_ReadName b at_).2.1)).2.1, i + 1, p3, c2, (xsv ++ [.slice p1 (((spec_ReadName b at_).1.parts).length) c1, .int .i64 ((spec_ReadVarint b ((spec_ReadName b at_).2.1)).1)]), ((v ++ [(TableEntry.mk ((spec_ReadName b at_).1) ((spec_ReadVarint b ((spec_ReadName b at_).2.1)).1))]) : List TableEntry)) ⟨(by omega), hq3.2, (all_app v3 (all_cons (α := TableEntry) (And.intro hq2.1 hq3.1) (fun a ha => by cases ha))), (by first | assumption | omega | (simp; omega)), (by rw [v5, show ((spec_ReadVarint b 0).1).toNat - i = (((spec_ReadVarint b 0).1).toNat - (i + 1)) + 1 by omega]; simp only [spec_DecodeVector_L1, h4, h5, ct, cf])⟩ (by first | (dsimp only; omega) | omega) (.cons rfl (.cons rfl (.cons rfl (.cons rfl (.cons rfl (.cons rfl (.nil))))))) (.cons rfl (.cons rfl (.nil))) (.cons rfl (.nil)) [0, 3] rfl
   ·skip
    have h3d := B.df h3
    refine R0 ?_
    have hX1 : spec_DecodeVector_L1 b (((spec_ReadVarint b 0).1).toNat) ((spec_ReadVarint b 0).2.1) ([] : List TableEntry) = (Ctl.nxt (at_, ((v) : List TableEntry))) := by rw [v5, show ((spec_ReadVarint b 0).1).toNat - i = 0 by omega]; simp only [spec_DecodeVector_L1, ct, cf]
    refine WX.cases 68 rfl (fun h6 => ?_) (fun h6 => ?_)
    ·skip
     have h6d := B.nt' h6
     refine R0 ?_
     refine WX.free 10 (MF.os none 0 ([] : List TableEntry)) (owSl_nil _ _) ?_
     have hP7 : spec_DecodeVector b = (StateVector.mk ([]), false) := by simp only [spec_DecodeVector, h1, h2, hX1, h6, ct, cf]
     refine R1 ?_
     intro w1 G bs hI hΓ
     rw [hP7]
     exact Post.of [10] (none, 0) hI hΓ rfl rfl rfl (ok_nil (α := TableEntry))
    ·skip
     have h6d := B.nf' h6
     refine R0 ?_
     refine WX.seal 501 3 11 rfl rfl rfl rfl rfl ?_
     refine WX.callV rfl rfl rfl rfl rfl (fun _ => rfl) rfl (fun w G bs hI hΓ => f33 w n (by omega) (StateVector.mk v) pv cv (hΓ.get 11 rfl) (okl_mk (by omega) v3 : GoT.ok n (v : List TableEntry))) ?_
     intro hq4
     refine R0 ?_
     refine WX.cases 72 rfl (fun h7 => ?_) (fun h7 => ?_)
     ·skip
      have h7d := (B.nt h7)
      refine R0 ?_
      refine WX.free 13 (MF.os none 0 ([] : List TableEntry)) (owSl_nil _ _) ?_
      have hP8 : spec_DecodeVector b = (StateVector.mk ([]), false) := by simp only [spec_DecodeVector, h1, h2, hX1, h6, h7, ct, cf]
      refine R1 ?_
      intro w1 G bs hI hΓ
      rw [hP8]
      exact Post.of [13] (none, 0) hI hΓ rfl rfl rfl (ok_nil (α := TableEntry))
     ·skip
      have h7d := (B.nf h7)
      refine R0 ?_
      have hP9 : spec_DecodeVector b = (StateVector.mk v, true) := by simp only [spec_DecodeVector, h1, h2, hX1, h6, h7, ct, cf]
      refine R1 ?_
      intro w1 G bs hI hΓ
      rw [hP9]
      exact Post.of [12] (pv, cv) hI hΓ rfl rfl rfl (okl_mk (by omega) v3 : GoT.ok n (v : List TableEntry))
end Go.Proofs.Ytdimfabadjfkiaa

namespace Go.Stp
set_option linter.unusedVariables false
set_option linter.unusedSimpArgs false
def slices_Insert_TableEntry (s : List TableEntry) (i : Int) (v : List TableEntry) : List TableEntry := s.take i.toNat ++ v ++ s.drop i.toNat
end Go.Stp

namespace Go.Proofs.Ytdimfabadjfkiaa
open Go.Stp
set_option linter.unusedVariables false
set_option linter.unusedSimpArgs false
theorem ok_slices_Insert_TableEntry {n : Nat} {s v : List TableEntry} (hn : n + 1 ≤ 9) (i : Int) (h : GoT.ok n s) (hv : GoT.ok n v) : GoT.ok (n + 1) (slices_Insert_TableEntry s i v) := by
  have hbS0 := bd_succ (n := n) (by omega)
  have h1 := (okl h).1
  have h2 := (okl hv).1
  refine okl_mk (by unfold slices_Insert_TableEntry; simp only [List.length_append, List.length_take, List.length_drop]; omega) (fun a ha => GoT.okm (Nat.le_succ n) ?_)
  unfold slices_Insert_TableEntry at ha
  rcases List.mem_append.1 ha with ha | ha
  · rcases List.mem_append.1 ha with ha | ha
    · exact (okl h).2 a (List.mem_of_mem_take ha)
    · exact (okl hv).2 a ha
  · exact (okl h).2 a (List.mem_of_mem_drop ha)
theorem len_slices_Insert_TableEntry (s : List TableEntry) (i : Int) (v : List TableEntry) : (slices_Insert_TableEntry s i v).length = s.length + v.length := by
  unfold slices_Insert_TableEntry; simp only [List.length_append, List.length_take, List.length_drop]; omega
theorem f81 (w : World) (n : Nat) (hn : n + 1 ≤ 9) (s : List TableEntry) (ps : Option Addr) (cs : Nat) (i : Int) (v : List TableEntry) (pv : Option Addr) (cv : Nat) (H : GH) (hH : Le H (hp w)) (hown : Sep H (GoT.oa s (ps, cs) ++ GoT.oa v (pv, cv))) (hq0 : 0 ≤ i ∧ i ≤ (s.length : Int)) (hq1 : 0 < v.length) (hoks : GoT.ok n s) (hoki : GoT.ok n i) (hokv : GoT.ok n v) :
    Does Try.prog 81 #[.slice ps ((s).length) cs, .int .i64 i, .slice pv ((v).length) cv] w H (Post w H (fun x : GoT.X (List TableEntry) => (GoT.sh ((slices_Insert_TableEntry s i v) : List TableEntry) x).headD undef) (fun x => GoT.oa ((slices_Insert_TableEntry s i v) : List TableEntry) x) (GoT.ok (n + 1) ((slices_Insert_TableEntry s i v) : List TableEntry))) := by
  obtain ⟨m, rfl⟩ : ∃ m : Nat, i = (m : Int) := ⟨i.toNat, by omega⟩
  have hms : m ≤ s.length := by omega
  have hok := ok_slices_Insert_TableEntry hn (m : Int) hoks hokv
  have hlD := (len_slices_Insert_TableEntry s (m : Int) v).symm
  have hbP := bd_pos n
  have hbS0 := bd_succ (n := n) (by omega)
  have hbB := bd_big (n := n + 1) (by omega)
  have r1 : (s).length ≤ bd n := (okl hoks).1
  have r2 : (v).length ≤ bd n := (okl hokv).1
  refine WX.enterM (tt := tt) (Γ := []) 0 Try.func81 rfl (by kernel_rfl) rfl allS_nil hH hown (fun f hf => (List.mem_append.1 hf).elim (fun hf => GoT.oak f hf) (fun hf => GoT.oak f hf)) rfl ?_
  refine R0 ?_
  refine WX.see rfl rfl rfl (fun _ hΓ => looks_slL m ttOk rfl rfl rfl rfl rfl hms) ?_
  refine R0 ?_
  refine WX.cases 16 rfl (fun h1 => ?_) (fun h1 => ?_)
  · have := B.et h1; omega
  refine R0 ?_
  refine WX.cases 22 rfl (fun h2 => ?_) (fun h2 => ?_)
  · have h2d := B.et h2
    have hm : m = s.length := by omega
    have hP : slices_Insert_TableEntry s (m : Int) v = s ++ v := by unfold slices_Insert_TableEntry; simp [hm]
    refine R0 ?_
    refine WX.opn (kk := 2) 501 0 2 rfl rfl rfl ?_
    intro xs hx
    refine WX.opn (kk := 2) 502 1 3 rfl rfl rfl ?_
    intro ys hy
    refine WX.know (fun G hΓ => (hΓ.get 3 rfl : OwL _ _ _).rd.one) ?_
    intro hone
    refine WX.appR1 501 502 (s.length + v.length) ttOk rfl rfl rfl rfl rfl rfl rfl rfl rfl rfl rfl rfl rfl hone rfl (by omega) (by omega) (fun _ _ => rfl) ?_
    intro p1 c1
    refine WX.turn [2, 3] 4 rfl (fun h hs => ol_app hs) (gs := [MF.ol (xs ++ ys) (s ++ v)]) rfl ?_
    refine WX.seal 501 4 5 rfl rfl (show s.length + v.length = (s ++ v).length by simp) rfl rfl ?_
    refine R0 ?_
    refine WX.slot 6 (y := .v (.slice p1 (s ++ v).length c1)) rfl (fun _ => by rw [List.length_append]) ?_
    refine R1 ?_
    intro w1 G bs hI hΓ
    rw [hP] at hok ⊢
    exact Post.of [6] (p1, c1) hI hΓ rfl rfl rfl hok
  · have h2d := B.ef h2
    have hm : m < s.length := by omega
    refine R0 ?_
    refine WX.see rfl rfl rfl (fun _ hΓ => looks_arith rfl rfl rfl rfl (by unfold I64; omega)) ?_
    refine R0 ?_
    refine WX.see rfl rfl rfl (fun _ hΓ => looks_cap ttOk rfl rfl rfl rfl) ?_
    refine R0 ?_
    refine WX.opn (kk := 2) 501 0 2 rfl rfl rfl ?_
    intro xs hx
    refine WX.opn (kk := 2) 502 1 3 rfl rfl rfl ?_
    intro ys hy
    refine WX.know (fun G hΓ => (hΓ.get 2 rfl : OwL _ _ _).rd.one) ?_
    intro honx
    refine WX.know (fun G hΓ => (hΓ.get 3 rfl : OwL _ _ _).rd.one) ?_
    intro hone
    refine WX.cap 501 rfl ?_
    intro hcap
    have hcap' : s.length ≤ cs := hcap
    refine WX.cases 31 rfl (fun h3 => ?_) (fun h3 => ?_)
    · have h3d := B.dt h3
      refine R0 ?_
      refine WX.see rfl rfl rfl (fun _ hΓ => looks_slH m ttOk rfl rfl rfl rfl rfl (by omega)) ?_
      refine R0 ?_
      refine WX.see rfl rfl rfl (fun _ hΓ => looks_arith rfl rfl rfl rfl (by unfold I64; omega)) ?_
      refine R0 ?_
      refine WX.see rfl rfl rfl (fun _ hΓ => looks_arith rfl rfl rfl rfl (by unfold I64; omega)) ?_
      refine WX.appZ 501 m (s.length + v.length - m) ttOk rfl rfl rfl rfl rfl rfl rfl rfl rfl (by omega) rfl rfl hms (by omega) (show cs < m + (s.length + v.length - m) by omega) (by omega) (by omega) rfl ?_
      intro pq cq
      refine R0 ?_
      refine WX.see rfl rfl rfl (fun _ hΓ => looks_slL m ttOk rfl rfl rfl rfl rfl (by omega)) ?_
      refine R0 ?_
      refine WX.cpy 40 m v.length ys ttOk rfl rfl rfl rfl rfl rfl rfl rfl rfl (show min v.length (m + (s.length + v.length - m) - m) = v.length by omega) (show m + v.length ≤ m + (s.length + v.length - m) by omega) hy hone (fun w G bs hI => src_cells0 (σ := 502) hI rfl) rfl ?_
      refine R0 ?_
      · refine WX.draw [8] mixed ?_
        intro bs G0 hΓ0
        refine DX.takes (fuel := 6) ttOk [(0, true), (1, true), (2, true)] (by kernel_rfl) rfl ?_
        refine DX.seeP 3 (by kernel_rfl) rfl rfl rfl rfl (looksP_arith rfl rfl rfl rfl (by unfold I64; omega)) ?_
        refine DX.seeP 4 (by kernel_rfl) rfl rfl rfl rfl (looksP_slL (m + v.length) ttOk rfl rfl rfl rfl (by omega) (by omega)) ?_
        refine DX.takes (fuel := 2) ttOk [(5, true), (6, true)] (by kernel_rfl) rfl ?_
        refine DX.seeP 7 (by kernel_rfl) rfl rfl rfl rfl (looksP_slL m ttOk rfl rfl rfl rfl rfl (by omega)) ?_
        refine DX.tail2 [8] rfl rfl (by kernel_rfl) ?_
        refine WX.cpy 40 (m + v.length) (s.length - m) ((xs.drop (m * 2)).take ((s.length - m) * 2)) ttOk rfl rfl rfl rfl rfl rfl rfl rfl rfl (show min (s.length - m) (m + (s.length + v.length - m) - (m + v.length)) = s.length - m by omega) (show m + v.length + (s.length - m) ≤ m + (s.length + v.length - m) by omega) (by rw [List.length_take, List.length_drop, hx, Nat.sub_mul]; omega) (fun u hu => honx u (List.mem_of_mem_drop (List.mem_of_mem_take hu))) (fun w G bs hI => src_cells (σ := 501) hI rfl m (s.length - m) (show m + (s.length - m) ≤ s.length by omega)) rfl ?_
        have hX := ins_new (zs := zrep (s.length + v.length - m) ([.slice none (0) 0, .int .i64 (0)] : List Value)) (v := v.length) hx hy (zrep_len ([.slice none (0) 0, .int .i64 (0)] : List Value) (s.length + v.length - m)) hms
        replace hlD : m + (s.length + v.length - m) = (slices_Insert_TableEntry s (m : Int) v).length := by omega
        refine R0 ?_
        refine WX.turn [2, 3] 4 rfl (fun h hs => by rw [show (((xs.take (m * 2) ++ zrep (s.length + v.length - m) ([.slice none (0) 0, .int .i64 (0)] : List Value)).take (m * 2) ++ ys ++ (xs.take (m * 2) ++ zrep (s.length + v.length - m) ([.slice none (0) 0, .int .i64 (0)] : List Value)).drop (m * 2 + ys.length)).take ((m + v.length) * 2) ++ ((xs.drop (m * 2)).take ((s.length - m) * 2)) ++ ((xs.take (m * 2) ++ zrep (s.length + v.length - m) ([.slice none (0) 0, .int .i64 (0)] : List Value)).take (m * 2) ++ ys ++ (xs.take (m * 2) ++ zrep (s.length + v.length - m) ([.slice none (0) 0, .int .i64 (0)] : List Value)).drop (m * 2 + ys.length)).drop ((m + v.length) * 2 + ((xs.drop (m * 2)).take ((s.length - m) * 2)).length)) = xs.take (m * 2) ++ ys ++ xs.drop (m * 2) from hX]; exact ol_insert m (by omega) hs) (gs := [MF.ol (((xs.take (m * 2) ++ zrep (s.length + v.length - m) ([.slice none (0) 0, .int .i64 (0)] : List Value)).take (m * 2) ++ ys ++ (xs.take (m * 2) ++ zrep (s.length + v.length - m) ([.slice none (0) 0, .int .i64 (0)] : List Value)).drop (m * 2 + ys.length)).take ((m + v.length) * 2) ++ ((xs.drop (m * 2)).take ((s.length - m) * 2)) ++ ((xs.take (m * 2) ++ zrep (s.length + v.length - m) ([.slice none (0) 0, .int .i64 (0)] : List Value)).take (m * 2) ++ ys ++ (xs.take (m * 2) ++ zrep (s.length + v.length - m) ([.slice none (0) 0, .int .i64 (0)] : List Value)).drop (m * 2 + ys.length)).drop ((m + v.length) * 2 + ((xs.drop (m * 2)).take ((s.length - m) * 2)).length)) (slices_Insert_TableEntry s (m : Int) v)]) rfl ?_
        refine WX.seal 40 4 5 rfl rfl (show _ = (slices_Insert_TableEntry s (m : Int) v).length from hlD) rfl rfl ?_
        refine WX.slot 6 (y := .v (.slice pq (slices_Insert_TableEntry s (m : Int) v).length cq)) rfl (fun _ => by rw [show (slices_Insert_TableEntry s (m : Int) v).length = _ from hlD.symm]) ?_
        refine R1 ?_
        intro w1 G bs hI hΓ
        exact Post.of [6] (pq, cq) hI hΓ rfl rfl rfl hok
    · have h3d := B.df h3
      refine R0 ?_
      refine WX.see rfl rfl rfl (fun _ hΓ => looks_arith rfl rfl rfl rfl (by unfold I64; omega)) ?_
      refine R0 ?_
      refine WX.see rfl rfl rfl (fun _ hΓ => looks_slH (s.length + v.length) ttOk rfl rfl rfl rfl rfl (by omega)) ?_
      refine WX.widen 501 (s.length + v.length) rfl (show s.length ≤ s.length + v.length by omega) (show s.length + v.length ≤ cs by omega) (fun _ => rfl) ?_
      intro jk hjk
      refine R0 ?_
      refine WX.see rfl rfl rfl (fun _ hΓ => looks_arith rfl rfl rfl rfl (by unfold I64; omega)) ?_
      refine R0 ?_
      refine WX.see rfl rfl rfl (fun _ hΓ => looks_slL (m + v.length) ttOk rfl rfl rfl rfl rfl (by omega)) ?_
      refine WX.ovl (T := 28) (tR := 4) 502 501 (m + v.length) ttOk rfl rfl rfl rfl rfl (fun _ => rfl) Try.func97 (by kernel_rfl) (by kernel_rfl) (by kernel_rfl) (by kernel_rfl) rfl rfl rfl rfl rfl rfl rfl (show 0 < v.length from hq1) (show m + v.length < s.length + v.length by omega) ?_
      refine R0 ?_
      · refine WX.draw [8] mixed ?_
        intro bs G0 hΓ0
        refine DX.takes (fuel := 6) ttOk [(0, true), (1, true), (2, true)] (by kernel_rfl) rfl ?_
        refine DX.seeP 3 (by kernel_rfl) rfl rfl rfl rfl (looksP_arith rfl rfl rfl rfl (by unfold I64; omega)) ?_
        refine DX.seeP 4 (by kernel_rfl) rfl rfl rfl rfl (looksP_slL (m + v.length) ttOk rfl rfl rfl rfl (by omega) (by omega)) ?_
        refine DX.takes (fuel := 2) ttOk [(5, true), (6, true)] (by kernel_rfl) rfl ?_
        refine DX.seeP 7 (by kernel_rfl) rfl rfl rfl rfl (looksP_slL m ttOk rfl rfl rfl rfl rfl (by omega)) ?_
        refine DX.tail2 [8] rfl rfl (by kernel_rfl) ?_
        refine WX.cpy 501 (m + v.length) (s.length - m) (((xs ++ jk).drop (m * 2)).take ((s.length - m) * 2)) ttOk rfl rfl rfl rfl rfl rfl rfl rfl rfl (show min (s.length + v.length - m) (s.length + v.length - (m + v.length)) = s.length - m by omega) (show m + v.length + (s.length - m) ≤ s.length + v.length by omega) (by rw [List.length_take, List.length_drop, List.length_append, hx, hjk, Nat.sub_mul]; omega) (fun u hu => ?_) (fun w G bs hI => src_cells (σ := 501) hI rfl m (s.length - m) (show m + (s.length - m) ≤ s.length + v.length by omega)) rfl ?_
        · refine honx u ?_
          have h6 : (((xs ++ jk).drop (m * 2)).take ((s.length - m) * 2)) = ((xs.drop (m * 2)).take ((s.length - m) * 2)) := by rw [List.drop_append_of_le_length (by rw [hx]; exact Nat.mul_le_mul_right _ hms), List.take_append_of_le_length (by rw [List.length_drop, hx, Nat.sub_mul]; exact Nat.le_refl _)]
          rw [h6] at hu
          exact List.mem_of_mem_drop (List.mem_of_mem_take hu)
        refine R0 ?_
        refine WX.see rfl rfl rfl (fun _ hΓ => looks_slL m ttOk rfl rfl rfl rfl rfl (by omega)) ?_
        refine R0 ?_
        refine WX.cpy 501 m v.length ys ttOk rfl rfl rfl rfl rfl rfl rfl rfl rfl (show min v.length (s.length + v.length - m) = v.length by omega) (show m + v.length ≤ s.length + v.length by omega) hy hone (fun w G bs hI => src_cells0 (σ := 502) hI rfl) rfl ?_
        have hX := ins_old (n := s.length) (v := v.length) hx hy hjk hms
        refine R0 ?_
        refine WX.turn [2, 3] 4 rfl (fun h hs => by rw [show (((xs ++ jk).take ((m + v.length) * 2) ++ (((xs ++ jk).drop (m * 2)).take ((s.length - m) * 2)) ++ (xs ++ jk).drop ((m + v.length) * 2 + (((xs ++ jk).drop (m * 2)).take ((s.length - m) * 2)).length)).take (m * 2) ++ ys ++ ((xs ++ jk).take ((m + v.length) * 2) ++ (((xs ++ jk).drop (m * 2)).take ((s.length - m) * 2)) ++ (xs ++ jk).drop ((m + v.length) * 2 + (((xs ++ jk).drop (m * 2)).take ((s.length - m) * 2)).length)).drop (m * 2 + ys.length)) = xs.take (m * 2) ++ ys ++ xs.drop (m * 2) from hX]; exact ol_insert m (by omega) hs) (gs := [MF.ol (((xs ++ jk).take ((m + v.length) * 2) ++ (((xs ++ jk).drop (m * 2)).take ((s.length - m) * 2)) ++ (xs ++ jk).drop ((m + v.length) * 2 + (((xs ++ jk).drop (m * 2)).take ((s.length - m) * 2)).length)).take (m * 2) ++ ys ++ ((xs ++ jk).take ((m + v.length) * 2) ++ (((xs ++ jk).drop (m * 2)).take ((s.length - m) * 2)) ++ (xs ++ jk).drop ((m + v.length) * 2 + (((xs ++ jk).drop (m * 2)).take ((s.length - m) * 2)).length)).drop (m * 2 + ys.length)) (slices_Insert_TableEntry s (m : Int) v)]) rfl ?_
        refine WX.seal 501 4 5 rfl rfl (show _ = (slices_Insert_TableEntry s (m : Int) v).length from hlD) rfl rfl ?_
        refine WX.slot 6 (y := .v (.slice ps (slices_Insert_TableEntry s (m : Int) v).length cs)) rfl (fun _ => by rw [show (slices_Insert_TableEntry s (m : Int) v).length = _ from hlD.symm]) ?_
        refine R1 ?_
        intro w1 G bs hI hΓ
        exact Post.of [6] (ps, cs) hI hΓ rfl rfl rfl hok
end Go.Proofs.Ytdimfabadjfkiaa

namespace Go.Stp
set_option linter.unusedVariables false
set_option linter.unusedSimpArgs false
def impl_copyTable_c1 (e_ : TableEntry) : Bool :=
  true
def impl_keepTable_L1 (keepq : TableEntry → Bool) : List TableEntry → (List TableEntry) → (List TableEntry)
  | [], out => ((out) : List TableEntry)
  | e1 :: rest_, out =>
    bif keepq e1 then
      impl_keepTable_L1 keepq rest_ (((out ++ [(TableEntry.mk (impl_copyName e1.name) e1.value)])) : List TableEntry)
    else
      impl_keepTable_L1 keepq rest_ ((out) : List TableEntry)
def impl_keepTable (l : (List TableEntry)) (keepq : TableEntry → Bool) : (List TableEntry) :=
  match impl_keepTable_L1 keepq l ([] : List TableEntry) with
    | out =>
      out
def impl_copyTable (l : (List TableEntry)) : (List TableEntry) :=
  (impl_keepTable l (fun e0_ => (impl_copyTable_c1 e0_)))
theorem kTL : ∀ (l o : List TableEntry), impl_keepTable_L1 (fun e0_ => impl_copyTable_c1 e0_) l o = o ++ l
  | [], o => by simp [impl_keepTable_L1]
  | x :: l, o => by
    simp only [impl_keepTable_L1]
    rw [show impl_copyTable_c1 x = true from rfl, cond_true, kTL l]
    simp [impl_copyName]
theorem cT_impl (l : List TableEntry) : impl_copyTable l = l := by simp [impl_copyTable, impl_keepTable, kTL]
theorem len_copyTable (l : List TableEntry) : (impl_copyTable l).length = l.length := by rw [cT_impl]
def spec_l6Copy_L1 : List TableEntry → (List TableEntry) → (List TableEntry)
  | [], out => ((out) : List TableEntry)
  | e1 :: rest_, out =>
    spec_l6Copy_L1 rest_ (((out ++ [(TableEntry.mk (spec_l4Copy e1.name) e1.value)])) : List TableEntry)
def spec_l6Copy (l : (List TableEntry)) : (List TableEntry) :=
  match spec_l6Copy_L1 l ([] : List TableEntry) with
    | out =>
      out
theorem l6L : ∀ (l o : List TableEntry), spec_l6Copy_L1 l o = o ++ l
  | [], o => by simp [spec_l6Copy_L1]
  | x :: l, o => by
    simp only [spec_l6Copy_L1]
    rw [l6L l]
    simp [spec_l4Copy]
theorem cT_spec (l : List TableEntry) : spec_l6Copy l = l := by simp [spec_l6Copy, l6L]
theorem len_l6Copy (l : List TableEntry) : (spec_l6Copy l).length = l.length := by rw [cT_spec]
def impl_PutEntry_c1 (n_ : Name) (e_ : TableEntry) : Bool :=
  (decide ((impl_CompareNames e_.name n_) > 0))
def impl_PutEntry (l : (List TableEntry)) (n_ : Name) (v : Int) : (List TableEntry) × Bool :=
  bif decide ((impl_indexOfName l n_) ≥ 0) then
    match ((impl_copyTable l))[((impl_indexOfName l n_)).toNat]? with
      | none => default
      | some e1 =>
        bif (!(impl_ValidTable ((impl_copyTable l).set (((impl_indexOfName l n_)).toNat) (TableEntry.mk e1.name v)))) then
          ((impl_copyTable l), false)
        else
          (((impl_copyTable l).set (((impl_indexOfName l n_)).toNat) (TableEntry.mk e1.name v)), true)
  else
    bif decide ((slices_IndexFunc_TableEntry l (fun e0_ => (impl_PutEntry_c1 n_ e0_))) < 0) then
      bif (!(impl_ValidTable (slices_Insert_TableEntry (impl_copyTable l) (((l).length : Nat) : Int) ([(TableEntry.mk (impl_copyName n_) v)])))) then
        ((impl_copyTable l), false)
      else
        ((slices_Insert_TableEntry (impl_copyTable l) (((l).length : Nat) : Int) ([(TableEntry.mk (impl_copyName n_) v)])), true)
    else
      bif (!(impl_ValidTable (slices_Insert_TableEntry (impl_copyTable l) (slices_IndexFunc_TableEntry l (fun e0_ => (impl_PutEntry_c1 n_ e0_))) ([(TableEntry.mk (impl_copyName n_) v)])))) then
        ((impl_copyTable l), false)
      else
        ((slices_Insert_TableEntry (impl_copyTable l) (slices_IndexFunc_TableEntry l (fun e0_ => (impl_PutEntry_c1 n_ e0_))) ([(TableEntry.mk (impl_copyName n_) v)])), true)
def spec_PutEntry_L1 (l : (List TableEntry)) (n_ : Name) (i : Nat) : Nat :=
  if ((i : Nat) : Int) < ((((spec_l6Copy l)).length : Nat) : Int) then
    match ((spec_l6Copy l))[i]? with
      | none => default
      | some e2 =>
        if (spec_CompareNames e2.name n_) < 0 then
          spec_PutEntry_L1 l n_ (i + 1)
        else
          i
  else
    i
termination_by (spec_l6Copy l).length - i
decreasing_by all_goals (simp_wf; omega)
def spec_PutEntry (l : (List TableEntry)) (n_ : Name) (v : Int) : (List TableEntry) × Bool :=
  bif decide ((spec_l6Find l n_) ≥ 0) then
    match ((spec_l6Copy l))[((spec_l6Find l n_)).toNat]? with
      | none => default
      | some e1 =>
        bif (!(spec_ValidTable ((spec_l6Copy l).set (((spec_l6Find l n_)).toNat) (TableEntry.mk e1.name v)))) then
          ((spec_l6Copy l), false)
        else
          (((spec_l6Copy l).set (((spec_l6Find l n_)).toNat) (TableEntry.mk e1.name v)), true)
  else
    match spec_PutEntry_L1 l n_ 0 with
      | i =>
        bif (!(spec_ValidTable (((List.take i (spec_l6Copy l)) ++ [(TableEntry.mk (spec_l4Copy n_) v)]) ++ (List.drop i (spec_l6Copy l))))) then
          ((spec_l6Copy l), false)
        else
          ((((List.take i (spec_l6Copy l)) ++ [(TableEntry.mk (spec_l4Copy n_) v)]) ++ (List.drop i (spec_l6Copy l))), true)
inductive PutShape (l : List TableEntry) (n_ : Name) (v : Int) : List TableEntry → Prop
  | same : PutShape l n_ v l
  | nil : PutShape l n_ v []
  | set (i : Nat) (e : TableEntry) (h : l[i]? = some e) : PutShape l n_ v (l.set i ⟨e.name, v⟩)
  | ins (i : Nat) : PutShape l n_ v (l.take i ++ [⟨n_, v⟩] ++ l.drop i)
theorem PutShape.len {l r : List TableEntry} {n_ : Name} {v : Int} (h : PutShape l n_ v r) : r.length ≤ l.length + 1 := by
  cases h with
  | same => exact Nat.le_succ _
  | nil => exact Nat.zero_le _
  | set i e h => rw [List.length_set]; exact Nat.le_succ _
  | ins i => simp only [List.length_append, List.length_take, List.length_drop, List.length_cons, List.length_nil]; omega
theorem PutShape.els {l r : List TableEntry} {n_ : Name} {v : Int} {k : Nat} (h : PutShape l n_ v r) (hl : ∀ a ∈ l, GoT.ok k a) (hn : GoT.ok k n_) (hv : GoT.ok k v) : ∀ a ∈ r, GoT.ok k a := by
  intro a ha
  cases h with
  | same => exact hl a ha
  | nil => cases ha
  | set i e h =>
    rcases List.mem_or_eq_of_mem_set ha with ha | rfl
    · exact hl a ha
    · exact ⟨(ok_TableEntry (hl e (List.mem_of_getElem? h))).1, hv⟩
  | ins i =>
    rcases List.mem_append.1 ha with ha | ha
    · rcases List.mem_append.1 ha with ha | ha
      · exact hl a (List.mem_of_mem_take ha)
      · obtain rfl := List.mem_singleton.1 ha
        exact ⟨hn, hv⟩
    · exact hl a (List.mem_of_mem_drop ha)
theorem put_bif {P : List TableEntry → Prop} {c : Bool} {a b : List TableEntry × Bool} (h1 : P a.1) (h2 : P b.1) : P (bif c then a else b).1 := by
  cases c
  · exact h2
  · exact h1
theorem put_impl (l : List TableEntry) (n_ : Name) (v : Int) : PutShape l n_ v (impl_PutEntry l n_ v).1 := by
  unfold impl_PutEntry
  rw [cT_impl]
  refine put_bif ?_ (put_bif (put_bif .same ?_) (put_bif .same ?_))
  · cases h : l[(impl_indexOfName l n_).toNat]? with
    | none => exact .nil
    | some e1 => exact put_bif .same (.set _ e1 h)
  · exact .ins _
  · exact .ins _
theorem put_spec (l : List TableEntry) (n_ : Name) (v : Int) : PutShape l n_ v (spec_PutEntry l n_ v).1 := by
  unfold spec_PutEntry
  rw [cT_spec]
  refine put_bif ?_ (put_bif .same ?_)
  · cases h : l[(spec_l6Find l n_).toNat]? with
    | none => exact .nil
    | some e1 => exact put_bif .same (.set _ e1 h)
  · exact .ins _
end Go.Stp

