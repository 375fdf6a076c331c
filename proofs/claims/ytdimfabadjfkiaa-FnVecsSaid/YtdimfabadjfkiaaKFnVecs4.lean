/-
  What the proof of one law needs: rules of the program logic, functions as Lean functions, contracts. No condition but what each says. Written by a program (pack.py) out of my own texts.
-/
import Derived.Test.YtdimfabadjfkiaaKFnVecs3
namespace Go.Proofs.Ytdimfabadjfkiaa
open Go.Stp
set_option linter.unusedVariables false
set_option linter.unusedSimpArgs false
theorem f68 (w : World) (n : Nat) (hn : n + 0 ≤ 9) (H : GH) (hH : Le H (hp w)) (bc_ : Nat) (c_b : (List UInt8)) (K0 : Option Addr) (M0 : Nat) (N0 : RdSl (cut (hp w) H) K0 M0 c_b) (c_i : Int) (c_h : Int) (list : (List Int)) (K1 : Option Addr) (M1 : Nat) (N1 : RdSl (cut (hp w) H) K1 M1 list) (hown : Sep H [MF.bx bc_ 80 [.slice K0 ((c_b).length) M0, .int .i64 (c_i), .int .i64 (c_h)]]) (hokc_b : GoT.ok n c_b) (hokc_i : NN c_i) (hokc_h : GoT.ok n c_h) (hq0 : 0 < list.length) (hoklist : GoT.ok n list) (o0_ : Int) (o1_ : Int) (o2_ : Int) (hres : spec_l1Int c_b c_i c_h list = (o0_, o1_, o2_)) :
  Does Try.prog 68 #[.pointer (some ⟨bc_, 0, none⟩), .slice K1 ((list).length) M1] w H (Post w H (fun _ : Unit => .int .i64 (o0_)) (fun _ => [MF.bx bc_ 80 [.slice K0 ((c_b).length) M0, .int .i64 (o1_), .int .i64 (o2_)]]) (GoT.ok n (o0_ : Int) ∧ NN (o1_) ∧ I64 (o2_))) := by
 have hbP := bd_pos n
 have hbB := bd_big (n := n) (by omega)
 have hc_bz : (c_b).length ≤ bd n := (okl hokc_b).1
 refine WX.enterP (tt := tt) (Γ := [(0, MF.rs .stb K0 M0 c_b), (1, MF.rs .stb K1 M1 list)]) 2 Try.func68 rfl (by kernel_rfl) rfl (allS_cons rfl N0 (allS_cons rfl N1 allS_nil)) hH hown (fun f hf => by cases hf) rfl ?_
 refine R0 ?_
 have r1 : (list).length ≤ bd n := (okl hoklist).1
 obtain ⟨⟨u1, u2, u3⟩, hu1⟩ : ∃ r_, spec_l1Below c_b c_i c_h (((list).length : Nat) : Int) = r_ := ⟨_, rfl⟩
 refine WX.callP (ds := fun _ => [])  999 3 rfl (fun _ _ _ => All.nil) (fun _ f hf => by cases hf) rfl rfl rfl rfl rfl (fun _ => rfl) rfl (fun w G bs H hI hH hs hΓ => f35 w n (by omega) H hH (bs 999) c_b K0 M0 (hΓ.get 0 rfl) c_i c_h (((list).length : Nat) : Int) hs hokc_b hokc_i hokc_h (show I64 (((list).length : Nat) : Int) from (by unfold I64; omega)) u1 u2 u3 hu1) (fun _ => rfl) (fun _ => rfl) ?_
 rintro ⟨⟩ hq1
 have q1 := l1Below_rng c_b c_i c_h (((list).length : Nat) : Int)
 rw [hu1] at q1
 try dsimp only at q1
 have r2 : -9223372036854775808 ≤ u1 ∧ u1 ≤ 9223372036854775807 := hq1.1
 refine WX.slot 9 (y := .v (.int .i64 (((u1).toNat : Nat) : Int))) rfl (fun _ => congrArg (Value.int .i64) (show u1 = (((u1).toNat : Nat) : Int) from by omega)) ?_
 have e1i : (u1).toNat < (list).length := (by omega)
 obtain ⟨e1, e1h⟩ : ∃ e1, (list)[(u1).toNat]? = some e1 := ⟨_, List.getElem?_eq_getElem e1i⟩
 have ok1 : GoT.ok n e1 := (okl hoklist).2 _ (List.mem_of_getElem? e1h)
 refine WX.idx 1 ((u1).toNat) ttOk rfl rfl rfl rfl rfl rfl rfl rfl rfl rfl e1i ?_
 rintro ad1 rfl
 refine WX.ldE 1 4 e1 ttOk rfl rfl rfl rfl rfl rfl rfl rfl e1h (fun _ => rfl) (fun _ => rfl) ?_
 rintro ⟨⟩
 refine R0 ?_
 have hP1 : spec_l1Int c_b c_i c_h list = (e1, u2, u3) := by simp only [spec_l1Int, hu1, e1h, ct, cf]
 have hz1 := hP1.symm.trans hres
 obtain ⟨hz1, hz2⟩ := Prod.mk.inj hz1
 obtain ⟨hz2, hz3⟩ := Prod.mk.inj hz2
 subst hz1
 subst hz2
 subst hz3
 refine R1 ?_
 intro w1 G bs hI hΓ
 exact Post.ofL 999 [] () hI hΓ rfl rfl rfl (by rw [hI.pin _ rfl]; first | done | rfl) (⟨ok1, ⟨hq1.2.1, hq1.2.2⟩⟩)
theorem f45 (w : World) (n : Nat) (hn : n + 0 ≤ 9) (H : GH) (hH : Le H (hp w)) (bc_ : Nat) (c_b : (List UInt8)) (K0 : Option Addr) (M0 : Nat) (N0 : RdSl (cut (hp w) H) K0 M0 c_b) (c_i : Int) (c_h : Int) (list : (List Str)) (K1 : Option Addr) (M1 : Nat) (N1 : RdSl (cut (hp w) H) K1 M1 list) (hown : Sep H [MF.bx bc_ 80 [.slice K0 ((c_b).length) M0, .int .i64 (c_i), .int .i64 (c_h)]]) (hokc_b : GoT.ok n c_b) (hokc_i : NN c_i) (hokc_h : GoT.ok n c_h) (hq0 : 0 < list.length) (hoklist : GoT.ok n list) (o0_ : Str) (o1_ : Int) (o2_ : Int) (hres : spec_l1Str c_b c_i c_h list = (o0_, o1_, o2_)) :
  Does Try.prog 45 #[.pointer (some ⟨bc_, 0, none⟩), .slice K1 ((list).length) M1] w H (Post w H (fun _ : Unit => .string o0_) (fun _ => [MF.bx bc_ 80 [.slice K0 ((c_b).length) M0, .int .i64 (o1_), .int .i64 (o2_)]]) (GoT.ok n (o0_ : Str) ∧ NN (o1_) ∧ I64 (o2_))) := by
 have hbP := bd_pos n
 have hbB := bd_big (n := n) (by omega)
 have hc_bz : (c_b).length ≤ bd n := (okl hokc_b).1
 refine WX.enterP (tt := tt) (Γ := [(0, MF.rs .stb K0 M0 c_b), (1, MF.rs .stb K1 M1 list)]) 2 Try.func45 rfl (by kernel_rfl) rfl (allS_cons rfl N0 (allS_cons rfl N1 allS_nil)) hH hown (fun f hf => by cases hf) rfl ?_
 refine R0 ?_
 have r1 : (list).length ≤ bd n := (okl hoklist).1
 obtain ⟨⟨u1, u2, u3⟩, hu1⟩ : ∃ r_, spec_l1Below c_b c_i c_h (((list).length : Nat) : Int) = r_ := ⟨_, rfl⟩
 refine WX.callP (ds := fun _ => [])  999 3 rfl (fun _ _ _ => All.nil) (fun _ f hf => by cases hf) rfl rfl rfl rfl rfl (fun _ => rfl) rfl (fun w G bs H hI hH hs hΓ => f35 w n (by omega) H hH (bs 999) c_b K0 M0 (hΓ.get 0 rfl) c_i c_h (((list).length : Nat) : Int) hs hokc_b hokc_i hokc_h (show I64 (((list).length : Nat) : Int) from (by unfold I64; omega)) u1 u2 u3 hu1) (fun _ => rfl) (fun _ => rfl) ?_
 rintro ⟨⟩ hq1
 have q1 := l1Below_rng c_b c_i c_h (((list).length : Nat) : Int)
 rw [hu1] at q1
 try dsimp only at q1
 have r2 : -9223372036854775808 ≤ u1 ∧ u1 ≤ 9223372036854775807 := hq1.1
 refine WX.slot 9 (y := .v (.int .i64 (((u1).toNat : Nat) : Int))) rfl (fun _ => congrArg (Value.int .i64) (show u1 = (((u1).toNat : Nat) : Int) from by omega)) ?_
 have e1i : (u1).toNat < (list).length := (by omega)
 obtain ⟨e1, e1h⟩ : ∃ e1, (list)[(u1).toNat]? = some e1 := ⟨_, List.getElem?_eq_getElem e1i⟩
 have ok1 : GoT.ok n e1 := (okl hoklist).2 _ (List.mem_of_getElem? e1h)
 refine WX.idx 1 ((u1).toNat) ttOk rfl rfl rfl rfl rfl rfl rfl rfl rfl rfl e1i ?_
 rintro ad1 rfl
 refine WX.ldE 1 4 e1 ttOk rfl rfl rfl rfl rfl rfl rfl rfl e1h (fun _ => rfl) (fun _ => rfl) ?_
 rintro ⟨⟩
 refine R0 ?_
 have hP1 : spec_l1Str c_b c_i c_h list = (e1, u2, u3) := by simp only [spec_l1Str, hu1, e1h, ct, cf]
 have hz1 := hP1.symm.trans hres
 obtain ⟨hz1, hz2⟩ := Prod.mk.inj hz1
 obtain ⟨hz2, hz3⟩ := Prod.mk.inj hz2
 subst hz1
 subst hz2
 subst hz3
 refine R1 ?_
 intro w1 G bs hI hΓ
 exact Post.ofL 999 [] () hI hΓ rfl rfl rfl (by rw [hI.pin _ rfl]; first | done | rfl) (⟨ok1, ⟨hq1.2.1, hq1.2.2⟩⟩)
theorem f93 (w : World) (n : Nat) (hn : n + 1 ≤ 9) (s : Str) (by_ : UInt8) (hoks : GoT.ok n s) :
  Does Try.prog 93 #[.string s, .int .u8 ((by_).toNat : Nat)] w emp (Post w emp (fun x : GoT.X ((List Str)) => (GoT.sh ((spec_l4Split s by_) : (List Str)) x).headD undef) (fun x => GoT.oa ((spec_l4Split s by_) : (List Str)) x) (GoT.ok (n + 1) ((spec_l4Split s by_) : (List Str)))) := by
 have hbP := bd_pos n
 have hbS0 : bd (n + 1) = 4 * bd (n) := bd_succ (n := n) (by omega)
 have hbB := bd_big (n := (n + 1)) (by omega)
 have hbM := bd_mono (show n ≤ n + 1 by omega)
 refine WX.enter (tt := tt) (Γ := []) Try.func93 rfl (by kernel_rfl) rfl allS_nil ?_
 refine R0 ?_
 refine WX.bld ttOk rfl rfl rfl rfl rfl rfl rfl ?_
 intro p1
 refine R0 ?_
 refine WX.free 0 (MF.ol [] ([] : List Str)) rfl ?_
 have hs0 : s.size ≤ bd n := hoks
 refine WX.loop (ι := (Option Addr) × Nat × (List Value) × (List Str) × Int × Nat) ⟨fun | (pout, cout, xsout, out, from_, i) => (∀ z_ ∈ out, GoT.ok n z_) ∧ (-9223372036854775808 ≤ from_ ∧ from_ ≤ 9223372036854775807) ∧ (0 ≤ from_ ∧ from_ ≤ ((i : Nat) : Int)) ∧ (i ≤ (s).size + 1) ∧ (out.length ≤ i) ∧ (spec_l4Split_L1 s by_ 0 ([] : List Str) 0 = spec_l4Split_L1 s by_ i out from_), fun | (pout, cout, xsout, out, from_, i) => (s).size + 1 - i, fun | (pout, cout, xsout, out, from_, i) => [(5, .v (.slice pout ((out).length) cout)), (6, .v (.int .i64 (from_))), (7, .v (.int .i64 (((i : Nat) : Int)))), (0, .v (.string s)), (1, .v (.int .u8 ((by_).toNat : Nat)))], fun | (pout, cout, xsout, out, from_, i) => [], fun | (pout, cout, xsout, out, from_, i) => [(8, ⟨1, pout, (out).length, cout, xsout⟩)], fun | (pout, cout, xsout, out, from_, i) => [(0, MF.ol xsout (out : List Str))]⟩ (p1, 0, [], ([] : List Str), 0, 0) ⟨(fun a ha => by cases ha), (by first | assumption | omega), (by omega), (by omega), (by simp), rfl⟩
  (.cons rfl (.cons rfl (.cons rfl (.cons rfl (.cons rfl (.nil)))))) .nil (.cons rfl (.nil)) [0] rfl ?_
 rintro ⟨pout, cout, xsout, out, from_, i⟩ hpre
 have hpre_ : (∀ z_ ∈ out, GoT.ok n z_) ∧ (-9223372036854775808 ≤ from_ ∧ from_ ≤ 9223372036854775807) ∧ (0 ≤ from_ ∧ from_ ≤ ((i : Nat) : Int)) ∧ (i ≤ (s).size + 1) ∧ (out.length ≤ i) ∧ (spec_l4Split_L1 s by_ 0 ([] : List Str) 0 = spec_l4Split_L1 s by_ i out from_) := hpre
 clear hpre
 obtain ⟨v1, v2, v3, v4, v5, v6⟩ := hpre_
 refine R0 ?_
 refine WX.cases 12 rfl (fun h1 => ?_) (fun h1 => ?_)
 ·skip
  have h1d := B.dt h1
  refine R0 ?_
  refine WX.cases 19 rfl (fun h2 => ?_) (fun h2 => ?_)
  ·skip
   have h2d := B.et h2
   refine R0 ?_
   have r1 : (s).size ≤ bd n := hoks
   refine WX.see rfl rfl rfl (fun _ hΓ => looks_strB (Int.toNat from_) i ttOk rfl rfl rfl rfl rfl rfl (show from_ = (((Int.toNat from_) : Nat) : Int) from (by omega)) (show ((i : Nat) : Int) = ((i : Nat) : Int) from rfl) (show (Int.toNat from_) ≤ i from (by omega)) (show i ≤ (s).size from (by omega))) ?_
   have r2 : (((s).extract (Int.toNat from_) i)).size = i - (Int.toNat from_) := by rw [ByteArray.size_extract]; have z_ := (show i ≤ (s).size from (by omega)); omega
   refine WX.bld ttOk rfl rfl rfl rfl rfl rfl rfl ?_
   intro p2
   refine WX.turn [] 1 rfl (fun h hs => ol_one (α := Str) (a := ((s).extract (Int.toNat from_) i)) (x := ()) hs) (gs := [MF.ol [.string ((s).extract (Int.toNat from_) i)] ([((s).extract (Int.toNat from_) i)] : List Str)]) rfl ?_
   refine WX.know (fun G hΓ => (hΓ.get 1 rfl : OwL _ _ _).rd.one) ?_
   intro ho1
   refine WX.appR1 8 31 ((out ++ [((s).extract (Int.toNat from_) i)]) : List Str).length ttOk rfl rfl rfl rfl rfl rfl rfl rfl rfl rfl rfl rfl rfl ho1 (by simp) (by simp; omega) (by simp; omega) (fun _ _ => rfl) ?_
   intro p3 c1
   refine WX.turn [0, 1] 2 rfl (fun h hs => ol_app hs) (gs := [MF.ol (xsout ++ [.string ((s).extract (Int.toNat from_) i)]) ((out ++ [((s).extract (Int.toNat from_) i)]) : List Str)]) rfl ?_
   refine R0 ?_
   refine WX.see rfl rfl rfl (fun _ hΓ => looks_arith rfl rfl rfl rfl (by unfold I64; first | omega | (simp only [List.length_take] at *; omega))) ?_
   refine R0 ?_
   refine WX.see rfl rfl rfl (fun _ hΓ => looks_arith rfl rfl rfl rfl (by unfold I64; first | omega | (simp only [List.length_take] at *; omega))) ?_
   refine R0 ?_
   refine WX.turn [2] 0 rfl (fun _ h => h) rfl ?_
   exact WX.iter (p3, c1, (xsout ++ [.string ((s).extract (Int.toNat from_) i)]), ((out ++ [((s).extract (Int.toNat from_) i)]) : List Str), ((i : Nat) : Int) + 1, i + 1) ⟨(all_app v1 (all_cons (α := Str) (show (((s).extract (Int.toNat from_) i)).size ≤ bd n from (by first | omega | (simp; omega))) (fun a ha => by cases ha))), (by first | assumption | omega), (by omega), (by omega), (by first | assumption | omega | (simp; omega)), (by rw [v6]; rw [spec_l4Split_L1]; simp only [h1, h1d, h2, ct, cf, ↓reduceIte, Bool.false_eq_true])⟩ (by first | (dsimp only; omega) | omega) (.cons rfl (.cons rfl (.cons rfl (.cons rfl (.cons rfl (.nil)))))) .nil (.cons rfl (.nil)) [0] rfl
  ·skip
   have h2d := B.ef h2
   refine R0 ?_
   have e1i : i < ((s).data.toList).length := (by rw [show ((s).data.toList).length = (s).size from by simp]; omega)
   obtain ⟨e1, e1h⟩ : ∃ e1, ((s).data.toList)[i]? = some e1 := ⟨_, List.getElem?_eq_getElem e1i⟩
   refine WX.see rfl rfl rfl (fun _ hΓ => looks_strIdx ttOk rfl rfl rfl rfl rfl e1h) ?_
   refine R0 ?_
   refine WX.cases 25 rfl (fun h3 => ?_) (fun h3 => ?_)
   ·skip
    have h3d := B.et h3
    refine R0 ?_
    have r3 : (s).size ≤ bd n := hoks
    refine WX.see rfl rfl rfl (fun _ hΓ => looks_strB (Int.toNat from_) i ttOk rfl rfl rfl rfl rfl rfl (show from_ = (((Int.toNat from_) : Nat) : Int) from (by omega)) (show ((i : Nat) : Int) = ((i : Nat) : Int) from rfl) (show (Int.toNat from_) ≤ i from (by omega)) (show i ≤ (s).size from (by omega))) ?_
    have r4 : (((s).extract (Int.toNat from_) i)).size = i - (Int.toNat from_) := by rw [ByteArray.size_extract]; have z_ := (show i ≤ (s).size from (by omega)); omega
    refine WX.bld ttOk rfl rfl rfl rfl rfl rfl rfl ?_
    intro p4
    refine WX.turn [] 3 rfl (fun h hs => ol_one (α := Str) (a := ((s).extract (Int.toNat from_) i)) (x := ()) hs) (gs := [MF.ol [.string ((s).extract (Int.toNat from_) i)] ([((s).extract (Int.toNat from_) i)] : List Str)]) rfl ?_
    refine WX.know (fun G hΓ => (hΓ.get 3 rfl : OwL _ _ _).rd.one) ?_
    intro ho2
    refine WX.appR1 8 31 ((out ++ [((s).extract (Int.toNat from_) i)]) : List Str).length ttOk rfl rfl rfl rfl rfl rfl rfl rfl rfl rfl rfl rfl rfl ho2 (by simp) (by simp; omega) (by simp; omega) (fun _ _ => rfl) ?_
    intro p5 c2
    refine WX.turn [0, 3] 4 rfl (fun h hs => ol_app hs) (gs := [MF.ol (xsout ++ [.string ((s).extract (Int.toNat from_) i)]) ((out ++ [((s).extract (Int.toNat from_) i)]) : List Str)]) rfl ?_
    refine R0 ?_
    refine WX.see rfl rfl rfl (fun _ hΓ => looks_arith rfl rfl rfl rfl (by unfold I64; first | omega | (simp only [List.length_take] at *; omega))) ?_
    refine R0 ?_
    refine WX.see rfl rfl rfl (fun _ hΓ => looks_arith rfl rfl rfl rfl (by unfold I64; first | omega | (simp only [List.length_take] at *; omega))) ?_
    refine R0 ?_
    refine WX.turn [4] 0 rfl (fun _ h => h) rfl ?_
    exact WX.iter (p5, c2, (xsout ++ [.string ((s).extract (Int.toNat from_) i)]), ((out ++ [((s).extract (Int.toNat from_) i)]) : List Str), ((i : Nat) : Int) + 1, i + 1) ⟨(all_app v1 (all_cons (α := Str) (show (((s).extract (Int.toNat from_) i)).size ≤ bd n from (by first | omega | (simp; omega))) (fun a ha => by cases ha))), (by first | assumption | omega), (by omega), (by omega), (by first | assumption | omega | (simp; omega)), (by rw [v6]; rw [spec_l4Split_L1]; simp only [h1, h1d, h2, e1h, h3, ct, cf, ↓reduceIte, Bool.false_eq_true])⟩ (by first | (dsimp only; omega) | omega) (.cons rfl (.cons rfl (.cons rfl (.cons rfl (.cons rfl (.nil)))))) .nil (.cons rfl (.nil)) [0] rfl
   ·skip
    have h3d := B.ef h3
    refine R0 ?_
    refine WX.see rfl rfl rfl (fun _ hΓ => looks_arith rfl rfl rfl rfl (by unfold I64; first | omega | (simp only [List.length_take] at *; omega))) ?_
    refine R0 ?_
    exact WX.iter (pout, cout, xsout, (out : List Str), from_, i + 1) ⟨v1, v2, (by omega), (by omega), (by first | assumption | omega | (simp; omega)), (by rw [v6]; rw [spec_l4Split_L1]; simp only [h1, h1d, h2, e1h, h3, ct, cf, ↓reduceIte, Bool.false_eq_true])⟩ (by first | (dsimp only; omega) | omega) (.cons rfl (.cons rfl (.cons rfl (.cons rfl (.cons rfl (.nil)))))) .nil (.cons rfl (.nil)) [0] rfl
 ·skip
  have h1d := B.df h1
  refine R0 ?_
  have hX1 : spec_l4Split_L1 s by_ 0 ([] : List Str) 0 = (i, ((out) : List Str), from_) := by rw [v6]; rw [spec_l4Split_L1]; simp only [h1, h1d, ct, cf, ↓reduceIte, Bool.false_eq_true]
  refine WX.seal 8 0 5 rfl rfl rfl rfl rfl ?_
  have hP1 : spec_l4Split s by_ = out := by simp only [spec_l4Split, hX1, ct, cf]
  refine R1 ?_
  intro w1 G bs hI hΓ
  rw [hP1]
  exact Post.of [6] (pout, cout) hI hΓ rfl rfl rfl (okl_mk (by omega) (fun a ha => GoT.okm (by omega) (v1 a ha)) : GoT.ok (n + 1) (out : List Str))
theorem f73 (w : World) (n : Nat) (hn : n + 1 ≤ 9) (s : Str) (hoks : GoT.ok n s) :
  Does Try.prog 73 #[.string s] w emp (Post w emp (fun x : GoT.X (Name) => .tuple #[.agg ⟨GoT.sh ((spec_ParseName s).1 : Name) x⟩, .bool ((spec_ParseName s).2)]) (fun x => GoT.oa ((spec_ParseName s).1 : Name) x) (GoT.ok (n + 1) ((spec_ParseName s).1 : Name))) := by
 have hbP := bd_pos n
 have hbS0 : bd (n + 1) = 4 * bd (n) := bd_succ (n := n) (by omega)
 have hbB := bd_big (n := (n + 1)) (by omega)
 have hbM := bd_mono (show n ≤ n + 1 by omega)
 refine WX.enter (tt := tt) (Γ := []) Try.func73 rfl (by kernel_rfl) rfl allS_nil ?_
 refine R0 ?_
 refine WX.cases 7 rfl (fun h1 => ?_) (fun h1 => ?_)
 ·skip
  have h1d := B.et h1
  refine R0 ?_
  refine WX.free 0 (MF.os none 0 ([] : List Str)) (owSl_nil _ _) ?_
  have hP1 : spec_ParseName s = (Name.mk ([]), true) := by simp only [spec_ParseName, h1, ct, cf]
  refine R1 ?_
  intro w1 G bs hI hΓ
  rw [hP1]
  exact Post.of [0] (none, 0) hI hΓ rfl rfl rfl (ok_nil (α := Str))
 ·skip
  have h1d := B.ef h1
  refine R0 ?_
  refine WX.callF 1 (fun _ _ h => GoT.ow_rd h) (fun _ f hf => GoT.fak f hf) rfl rfl rfl rfl rfl (fun _ => rfl) rfl (fun w G bs hI hΓ => f93 w n (by omega) s (47 : UInt8) hoks) (fun _ => rfl) (fun _ => rfl) ?_
  rintro ⟨p1, c1⟩ hq1
  have q1 := len_l4Split s (47 : UInt8)
  refine R0 ?_
  have r1 : (s).size ≤ bd n := hoks
  have r2 : (spec_l4Split s (47 : UInt8)).length ≤ bd (n + 1) := (okl hq1).1
  refine WX.see rfl rfl rfl (fun _ hΓ => looks_slL 1 ttOk rfl rfl rfl rfl (by simp) (show 1 ≤ ((spec_l4Split s (47 : UInt8))).length from (by omega))) ?_
  refine WX.slot 12 (y := .v (.slice (offP p1 c1 1 1) (((List.drop 1 (spec_l4Split s (47 : UInt8)))).length) (c1 - 1))) rfl (fun _ => by rw [show ((List.drop 1 (spec_l4Split s (47 : UInt8)))).length = (((spec_l4Split s (47 : UInt8))).length) - 1 from (by simp only [List.length_drop])]) ?_
  refine WX.der 3 (MF.rs .der (offP p1 c1 1 1) (c1 - 1) (List.drop 1 (spec_l4Split s (47 : UInt8)))) rfl (fun _ hΓ => RdSl.suf (hΓ.get 1 rfl : RdSl _ _ _ _) 1) ?_
  refine R0 ?_
  refine WX.cases 17 rfl (fun h2 => ?_) (fun h2 => ?_)
  ·skip
   have h2d := B.dt h2
   refine R0 ?_
   refine WX.free 4 (MF.os none 0 ([] : List Str)) (owSl_nil _ _) ?_
   have hP2 : spec_ParseName s = (Name.mk ([]), false) := by simp only [spec_ParseName, h1, h2, ct, cf]
   refine R1 ?_
   intro w1 G bs hI hΓ
   rw [hP2]
   exact Post.of [4] (none, 0) hI hΓ rfl rfl rfl (ok_nil (α := Str))
  ·skip
   have h2d := B.df h2
   refine R0 ?_
   have e1i : 0 < ((spec_l4Split s (47 : UInt8))).length := (by first | assumption | omega)
   obtain ⟨e1, e1h⟩ : ∃ e1, ((spec_l4Split s (47 : UInt8)))[0]? = some e1 := ⟨_, List.getElem?_eq_getElem e1i⟩
   have ok1 : GoT.ok (n + 1) e1 := (okl hq1).2 _ (List.mem_of_getElem? e1h)
   refine WX.idx 1 0 ttOk rfl rfl rfl rfl rfl rfl rfl rfl rfl rfl e1i ?_
   rintro ad1 rfl
   refine WX.ldE 1 5 e1 ttOk rfl rfl rfl rfl rfl rfl rfl rfl e1h (fun _ => rfl) (fun _ => rfl) ?_
   rintro ⟨⟩
   refine R0 ?_
   refine WX.cases 23 rfl (fun h3 => ?_) (fun h3 => ?_)
   ·skip
    have h3d := B.ef (B.nt h3)
    refine R0 ?_
    refine WX.free 5 (MF.os none 0 ([] : List Str)) (owSl_nil _ _) ?_
    have hP3 : spec_ParseName s = (Name.mk ([]), false) := by simp only [spec_ParseName, h1, h2, e1h, h3, ct, cf]
    refine R1 ?_
    intro w1 G bs hI hΓ
    rw [hP3]
    exact Post.of [5] (none, 0) hI hΓ rfl rfl rfl (ok_nil (α := Str))
   ·skip
    have h3d := B.et (B.nf h3)
    refine R0 ?_
    refine WX.callV rfl rfl rfl rfl rfl (fun _ => rfl) rfl (fun w G bs hI hΓ => f72 w (n + 1) (by omega) (Name.mk (List.drop 1 (spec_l4Split s (47 : UInt8)))) (offP (some ad1) c1 1 1) (c1 - 1) (hΓ.get 3 rfl) (okl_mk (by first | assumption | omega | (simp; omega)) (fun a ha => (okl hq1).2 a (List.mem_of_mem_drop ha)) : GoT.ok (n + 1) ((List.drop 1 (spec_l4Split s (47 : UInt8))) : List Str))) ?_
    intro hq2
    refine R0 ?_
    refine WX.cases 27 rfl (fun h4 => ?_) (fun h4 => ?_)
    ·skip
     have h4d := (B.nt h4)
     refine R0 ?_
     refine WX.free 6 (MF.os none 0 ([] : List Str)) (owSl_nil _ _) ?_
     have hP4 : spec_ParseName s = (Name.mk ([]), false) := by simp only [spec_ParseName, h1, h2, e1h, h3, h4, ct, cf]
     refine R1 ?_
     intro w1 G bs hI hΓ
     rw [hP4]
     exact Post.of [6] (none, 0) hI hΓ rfl rfl rfl (ok_nil (α := Str))
    ·skip
     have h4d := (B.nf h4)
     refine R0 ?_
     refine WX.turn [2] 7 rfl (fun h hs => os_suf 1 (show 1 ≤ ((spec_l4Split s (47 : UInt8))).length from (by omega)) hs) (gs := [MF.os (offP (some ad1) c1 1 1) (c1 - 1) ((List.drop 1 (spec_l4Split s (47 : UInt8))) : List Str)]) rfl ?_
     have hP5 : spec_ParseName s = (Name.mk (List.drop 1 (spec_l4Split s (47 : UInt8))), true) := by simp only [spec_ParseName, h1, h2, e1h, h3, h4, ct, cf]
     refine R1 ?_
     intro w1 G bs hI hΓ
     rw [hP5]
     exact Post.of [7] ((offP (some ad1) c1 1 1), (c1 - 1)) hI hΓ rfl rfl rfl (okl_mk (by first | assumption | omega | (simp; omega)) (fun a ha => (okl hq1).2 a (List.mem_of_mem_drop ha)) : GoT.ok (n + 1) ((List.drop 1 (spec_l4Split s (47 : UInt8))) : List Str))
theorem f44 (w : World) (n : Nat) (hn : n + 1 ≤ 9) (s : Str) (hoks : GoT.ok n s) :
  Does Try.prog 44 #[.string s] w emp (Post w emp (fun x : GoT.X (Name) => .agg ⟨GoT.sh ((spec_l4Of s) : Name) x⟩) (fun x => GoT.oa ((spec_l4Of s) : Name) x) (GoT.ok (n + 1) ((spec_l4Of s) : Name))) := by
 have hbP := bd_pos n
 have hbS0 : bd (n + 1) = 4 * bd (n) := bd_succ (n := n) (by omega)
 have hbB := bd_big (n := (n + 1)) (by omega)
 have hbM := bd_mono (show n ≤ n + 1 by omega)
 refine WX.enter (tt := tt) (Γ := []) Try.func44 rfl (by kernel_rfl) rfl allS_nil ?_
 refine R0 ?_
 refine WX.callF 0 (fun _ _ h => GoT.ow_rd h) (fun _ f hf => GoT.fak f hf) rfl rfl rfl rfl rfl (fun _ => rfl) rfl (fun w G bs hI hΓ => f73 w n (by omega) s hoks) (fun _ => rfl) (fun _ => rfl) ?_
 rintro ⟨p1, c1⟩ hq1
 refine R0 ?_
 have hP1 : spec_l4Of s = ((spec_ParseName s).1) := by simp only [spec_l4Of, ct, cf]
 refine R1 ?_
 intro w1 G bs hI hΓ
 rw [hP1]
 exact Post.of [1] (p1, c1) hI hΓ rfl rfl rfl hq1
theorem f101 (w : World) (n : Nat) (hn : n + 1 ≤ 9) (n_ : Name) (K0 : Option Addr) (M0 : Nat) (N0 : RdSl (hp w) K0 M0 n_.parts) (s : Str) (hokn_ : GoT.ok n n_) (hoks : GoT.ok n s) :
  Does Try.prog 101 #[.agg #[.slice K0 ((n_.parts).length) M0], .string s] w emp (Post w emp (fun x : GoT.X (Name) => .tuple #[.agg ⟨GoT.sh ((spec_AppendPart n_ s).1 : Name) x⟩, .bool ((spec_AppendPart n_ s).2)]) (fun x => GoT.oa ((spec_AppendPart n_ s).1 : Name) x) (GoT.ok (n + 1) ((spec_AppendPart n_ s).1 : Name))) := by
 have hbP := bd_pos n
 have hbS0 : bd (n + 1) = 4 * bd (n) := bd_succ (n := n) (by omega)
 have hbB := bd_big (n := (n + 1)) (by omega)
 have hbM := bd_mono (show n ≤ n + 1 by omega)
 refine WX.enter (tt := tt) (Γ := [(0, MF.rs .stb K0 M0 n_.parts)]) Try.func101 rfl (by kernel_rfl) rfl (allS_cons rfl N0 allS_nil) ?_
 refine R0 ?_
 refine WX.bld ttOk rfl rfl rfl rfl rfl rfl rfl ?_
 intro p1
 refine R0 ?_
 refine WX.free 1 (MF.ol [] ([] : List Str)) rfl ?_
 have r1 : (n_.parts).length ≤ bd n := (okl (ok_Name hokn_)).1
 refine WX.appG1 7 0 2 (n_.parts : List Str).length ttOk rfl rfl rfl rfl rfl rfl rfl rfl rfl rfl rfl rfl rfl (by simp) (by omega) (by omega) (fun _ _ _ => rfl) ?_
 intro ys1 p2 c1
 refine WX.know (fun G hΓ => (hΓ.get 2 rfl : RdL _ _ _).flat) ?_
 intro hf1
 refine WX.turn [1] 3 rfl (fun h hs => ol_flat hs hf1) (gs := [MF.ol ([] ++ ys1) (n_.parts : List Str)]) rfl ?_
 refine R0 ?_
 refine WX.bld ttOk rfl rfl rfl rfl rfl rfl rfl ?_
 intro p3
 refine WX.turn [] 4 rfl (fun h hs => ol_one (α := Str) (a := s) (x := ()) hs) (gs := [MF.ol [.string s] ([s] : List Str)]) rfl ?_
 have r2 : (s).size ≤ bd n := hoks
 refine WX.know (fun G hΓ => (hΓ.get 4 rfl : OwL _ _ _).rd.one) ?_
 intro ho1
 refine WX.appR1 7 12 ((n_.parts ++ [s]) : List Str).length ttOk rfl rfl rfl rfl rfl rfl rfl rfl rfl rfl rfl rfl rfl ho1 (by simp) (by simp; omega) (by simp; omega) (fun _ _ => rfl) ?_
 intro p4 c2
 refine WX.turn [3, 4] 5 rfl (fun h hs => ol_app hs) (gs := [MF.ol (([] ++ ys1) ++ [.string s]) ((n_.parts ++ [s]) : List Str)]) rfl ?_
 refine R0 ?_
 refine WX.seal 7 5 6 rfl rfl rfl rfl rfl ?_
 refine WX.callV rfl rfl rfl rfl rfl (fun _ => rfl) rfl (fun w G bs hI hΓ => f72 w (n + 1) (by omega) (Name.mk (n_.parts ++ [s])) p4 c2 (hΓ.get 6 rfl) (okl_mk (by simp; omega) (fun a ha => GoT.okm (show n ≤ (n + 1) by omega) ((all_app (okl (ok_Name hokn_)).2 (all_cons (α := Str) hoks (fun a ha => by cases ha))) a ha)) : GoT.ok (n + 1) ((n_.parts ++ [s]) : List Str))) ?_
 intro hq1
 refine R0 ?_
 refine WX.cases 17 rfl (fun h1 => ?_) (fun h1 => ?_)
 ·skip
  have h1d := (B.nt h1)
  refine R0 ?_
  refine WX.callF 8 (fun _ _ h => GoT.ow_rd h) (fun _ f hf => GoT.fak f hf) rfl rfl rfl rfl rfl (fun _ => rfl) rfl (fun w G bs hI hΓ => f54 w n (by omega) n_ K0 M0 (hΓ.get 0 rfl) hokn_) (fun _ => rfl) (fun _ => rfl) ?_
  rintro ⟨p5, c3⟩ hq2
  refine R0 ?_
  have hP1 : spec_AppendPart n_ s = (spec_l4Copy n_, false) := by simp only [spec_AppendPart, h1, ct, cf]
  refine R1 ?_
  intro w1 G bs hI hΓ
  rw [hP1]
  exact Post.of [9] (p5, c3) hI hΓ rfl rfl rfl (GoT.okm (α := List Str) (by omega) (ok_Name hq2))
 ·skip
  have h1d := (B.nf h1)
  refine R0 ?_
  have hP2 : spec_AppendPart n_ s = (Name.mk (n_.parts ++ [s]), true) := by simp only [spec_AppendPart, h1, ct, cf]
  refine R1 ?_
  intro w1 G bs hI hΓ
  rw [hP2]
  exact Post.of [7] (p4, c2) hI hΓ rfl rfl rfl (okl_mk (by simp; omega) (fun a ha => GoT.okm (show n ≤ (n + 1) by omega) ((all_app (okl (ok_Name hokn_)).2 (all_cons (α := Str) hoks (fun a ha => by cases ha))) a ha)) : GoT.ok (n + 1) ((n_.parts ++ [s]) : List Str))
theorem f88 (w : World) (n : Nat) (hn : n + 1 ≤ 9) (H : GH) (hH : Le H (hp w)) (bc_ : Nat) (c_b : (List UInt8)) (K0 : Option Addr) (M0 : Nat) (N0 : RdSl (cut (hp w) H) K0 M0 c_b) (c_i : Int) (c_h : Int) (hown : Sep H [MF.bx bc_ 80 [.slice K0 ((c_b).length) M0, .int .i64 (c_i), .int .i64 (c_h)]]) (hokc_b : GoT.ok n c_b) (hokc_i : NN c_i) (hokc_h : GoT.ok n c_h) (o0_ : Name) (o1_ : Int) (o2_ : Int) (hres : spec_l4Name c_b c_i c_h = (o0_, o1_, o2_)) :
  Does Try.prog 88 #[.pointer (some ⟨bc_, 0, none⟩)] w H (Post w H (fun x : GoT.X (Name) => .agg ⟨GoT.sh (o0_ : Name) x⟩) (fun x => MF.bx bc_ 80 [.slice K0 ((c_b).length) M0, .int .i64 (o1_), .int .i64 (o2_)] :: GoT.oa (o0_ : Name) x) (GoT.ok n (o0_ : Name) ∧ NN (o1_) ∧ I64 (o2_))) := by
 have hbP := bd_pos n
 have hbS0 : bd (n + 1) = 4 * bd (n) := bd_succ (n := n) (by omega)
 have hbB := bd_big (n := (n + 1)) (by omega)
 have hbM := bd_mono (show n ≤ n + 1 by omega)
 have hc_bz : (c_b).length ≤ bd n := (okl hokc_b).1
 refine WX.enterP (tt := tt) (Γ := [(0, MF.rs .stb K0 M0 c_b)]) 1 Try.func88 rfl (by kernel_rfl) rfl (allS_cons rfl N0 allS_nil) hH hown (fun f hf => by cases hf) rfl ?_
 refine R0 ?_
 obtain ⟨⟨u1, u2, u3⟩, hu1⟩ : ∃ r_, spec_l1Below c_b c_i c_h 4 = r_ := ⟨_, rfl⟩
 refine WX.callP (ds := fun _ => [])  999 2 rfl (fun _ _ _ => All.nil) (fun _ f hf => by cases hf) rfl rfl rfl rfl rfl (fun _ => rfl) rfl (fun w G bs H hI hH hs hΓ => f35 w n (by omega) H hH (bs 999) c_b K0 M0 (hΓ.get 0 rfl) c_i c_h 4 hs hokc_b hokc_i hokc_h (show I64 4 from (by unfold I64; omega)) u1 u2 u3 hu1) (fun _ => rfl) (fun _ => rfl) ?_
 rintro ⟨⟩ hq1
 have q1 := l1Below_rng c_b c_i c_h 4
 rw [hu1] at q1
 try dsimp only at q1
 refine R0 ?_
 refine WX.free 4 (MF.os none 0 ([] : List Str)) (owSl_nil _ _) ?_
 refine WX.der 3 (MF.rs .der none 0 ([] : List Str)) rfl (fun _ hΓ => (hΓ.get 4 rfl : OwSl _ _ _ _).rd) ?_
 refine WX.loop (ι := Int × (Option Addr) × Nat × (List Str) × Int × Int) ⟨fun | (i, pn_, cn_, n_, u999_i, u999_h) => (-9223372036854775808 ≤ i ∧ i ≤ 9223372036854775807) ∧ (n_.length ≤ bd n ∧ ∀ z_ ∈ n_, GoT.ok n z_) ∧ (NN u999_i) ∧ (-9223372036854775808 ≤ u999_h ∧ u999_h ≤ 9223372036854775807) ∧ (n_.length + i.toNat ≤ 3) ∧ (spec_l4Name_L1 c_b u1 (([] : List Str) : List Str) u2 u3 = spec_l4Name_L1 c_b i n_ u999_i u999_h), fun | (i, pn_, cn_, n_, u999_i, u999_h) => i.toNat, fun | (i, pn_, cn_, n_, u999_i, u999_h) => [(4, .v (.int .i64 (i))), (3, .p 3 0), (2, .p 2 0), (0, .p 999 0)], fun | (i, pn_, cn_, n_, u999_i, u999_h) => [(3, ⟨41, [.slice pn_ ((n_).length) cn_]⟩), (2, ⟨41, [.slice none (0) 0]⟩), (999, ⟨80, [.slice K0 ((c_b).length) M0, .int .i64 (u999_i), .int .i64 (u999_h)]⟩)], fun | (i, pn_, cn_, n_, u999_i, u999_h) => [], fun | (i, pn_, cn_, n_, u999_i, u999_h) => [(0, MF.rs .stb K0 M0 c_b), (4, MF.os pn_ cn_ n_)]⟩ (u1, none, 0, (([] : List Str) : List Str), u2, u3) ⟨hq1.1, (okl_mk (Nat.zero_le _) (fun a ha => by cases ha) : GoT.ok n (([] : List Str) : List Str)), hq1.2.1, hq1.2.2, (by simp; omega), rfl⟩
  (.cons rfl (.cons rfl (.cons rfl (.cons rfl (.nil))))) (.cons rfl (.cons rfl (.cons rfl (.nil)))) .nil [0, 4] rfl ?_
 rintro ⟨i, pn_, cn_, n_, u999_i, u999_h⟩ hpre
 have hpre_ : (-9223372036854775808 ≤ i ∧ i ≤ 9223372036854775807) ∧ (n_.length ≤ bd n ∧ ∀ z_ ∈ n_, GoT.ok n z_) ∧ (NN u999_i) ∧ (-9223372036854775808 ≤ u999_h ∧ u999_h ≤ 9223372036854775807) ∧ (n_.length + i.toNat ≤ 3) ∧ (spec_l4Name_L1 c_b u1 (([] : List Str) : List Str) u2 u3 = spec_l4Name_L1 c_b i n_ u999_i u999_h) := hpre
 clear hpre
 obtain ⟨v1, v2, v3, v4, v5, v6⟩ := hpre_
 have v2L := v2.1
 refine R0 ?_
 refine WX.cases 9 rfl (fun h1 => ?_) (fun h1 => ?_)
 ·skip
  have h1d := B.dt h1
  refine R0 ?_
  refine WX.der 5 (MF.rs .der pn_ cn_ n_) rfl (fun _ hΓ => (hΓ.get 4 rfl : OwSl _ _ _ _).rd) ?_
  refine WX.draw [0, 3, 4, 5, 6, 7, 8] mixed ?_
  intro bs G0 hΓ0
  refine DX.takes (fuel := 8) ttOk [(1, true)] (by kernel_rfl) rfl ?_
  refine DX.toTX ?_
  intro S_
  refine TX.all2 0 2 (by kernel_rfl) ?_ ?_
  ·skip
   refine TS.op 0 rfl (by kernel_rfl) ?_
   refine R0 ?_
   refine WX.back0 ?_
   refine TX.all1 2 (by kernel_rfl) ?_
   refine TS.op 2 rfl (by kernel_rfl) ?_
   refine WX.bld ttOk rfl rfl rfl rfl rfl rfl rfl ?_
   intro p1
   refine R0 ?_
   refine WX.back0 ?_
   refine TX.all1 3 (by kernel_rfl) ?_
   refine TS.op 3 rfl (by kernel_rfl) ?_
   refine WX.turn [] 6 rfl (fun h hs => one_sep (⟨(), _, emp, _, rfl, emp_le _, Le.refl _, emp_dj _, trivial, ⟨(), _, emp, _, rfl, emp_le _, Le.refl _, emp_dj _, trivial, ⟨(), _, emp, _, rfl, emp_le _, Le.refl _, emp_dj _, trivial, ⟨(), _, emp, _, rfl, emp_le _, Le.refl _, emp_dj _, trivial, ⟨(), _, emp, _, rfl, emp_le _, Le.refl _, emp_dj _, trivial, ⟨(), _, emp, _, rfl, emp_le _, Le.refl _, emp_dj _, trivial, rfl⟩⟩⟩⟩⟩⟩ : OwL _ _ ([(⟨#[97]⟩ : Str), (⟨#[98]⟩ : Str), (⟨#[110, 101, 119, 115]⟩ : Str), (⟨#[120, 45, 49]⟩ : Str), (⟨#[49]⟩ : Str), (⟨#[107, 101, 121]⟩ : Str)] : List Str))) (gs := [MF.ol [.string (⟨#[97]⟩ : Str), .string (⟨#[98]⟩ : Str), .string (⟨#[110, 101, 119, 115]⟩ : Str), .string (⟨#[120, 45, 49]⟩ : Str), .string (⟨#[49]⟩ : Str), .string (⟨#[107, 101, 121]⟩ : Str)] ([(⟨#[97]⟩ : Str), (⟨#[98]⟩ : Str), (⟨#[110, 101, 119, 115]⟩ : Str), (⟨#[120, 45, 49]⟩ : Str), (⟨#[49]⟩ : Str), (⟨#[107, 101, 121]⟩ : Str)] : List Str)]) rfl ?_
   refine WX.seal 15 6 7 rfl rfl rfl rfl rfl ?_
   have r1 : (⟨#[97]⟩ : Str).size = 1 := rfl
   have r2 : (⟨#[98]⟩ : Str).size = 1 := rfl
   have r3 : (⟨#[110, 101, 119, 115]⟩ : Str).size = 4 := rfl
   have r4 : (⟨#[120, 45, 49]⟩ : Str).size = 3 := rfl
   have r5 : (⟨#[49]⟩ : Str).size = 1 := rfl
   have r6 : (⟨#[107, 101, 121]⟩ : Str).size = 3 := rfl
   obtain ⟨⟨u4, u5, u6⟩, hu2⟩ : ∃ r_, spec_l1Str c_b u999_i u999_h ([(⟨#[97]⟩ : Str), (⟨#[98]⟩ : Str), (⟨#[110, 101, 119, 115]⟩ : Str), (⟨#[120, 45, 49]⟩ : Str), (⟨#[49]⟩ : Str), (⟨#[107, 101, 121]⟩ : Str)]) = r_ := ⟨_, rfl⟩
   refine WX.callP (ds := fun _ => [])  999 9 rfl (fun _ _ _ => All.nil) (fun _ f hf => by cases hf) rfl rfl rfl rfl rfl (fun _ => rfl) rfl (fun w G bs H hI hH hs hΓ => f45 w n (by omega) H hH (bs 999) c_b K0 M0 (hΓ.get 0 rfl) u999_i u999_h ([(⟨#[97]⟩ : Str), (⟨#[98]⟩ : Str), (⟨#[110, 101, 119, 115]⟩ : Str), (⟨#[120, 45, 49]⟩ : Str), (⟨#[49]⟩ : Str), (⟨#[107, 101, 121]⟩ : Str)]) p1 6 (hΓ.get 7 rfl) hs hokc_b v3 v4 (by first | assumption | omega | (simp; done) | (simp; omega)) (okl_mk (by simp; omega) (all_cons (α := Str) (Nat.le_trans (by decide) (bd_pos _)) (all_cons (α := Str) (Nat.le_trans (by decide) (bd_pos _)) (all_cons (α := Str) (Nat.le_trans (by decide) (bd_pos _)) (all_cons (α := Str) (Nat.le_trans (by decide) (bd_pos _)) (all_cons (α := Str) (Nat.le_trans (by decide) (bd_pos _)) (all_cons (α := Str) (Nat.le_trans (by decide) (bd_pos _)) (fun a ha => by cases ha))))))) : GoT.ok n ([(⟨#[97]⟩ : Str), (⟨#[98]⟩ : Str), (⟨#[110, 101, 119, 115]⟩ : Str), (⟨#[120, 45, 49]⟩ : Str), (⟨#[49]⟩ : Str), (⟨#[107, 101, 121]⟩ : Str)] : List Str)) u4 u5 u6 hu2) (fun _ => rfl) (fun _ => rfl) ?_
   rintro ⟨⟩ hq2
   refine R0 ?_
   refine WX.back0 ?_
   refine TX.all1 4 (by kernel_rfl) ?_
   refine TS.der 10 (MF.rs .der pn_ cn_ n_) rfl (fun _ hΓ => (hΓ.get 4 rfl : OwSl _ _ _ _).rd) ?_
   refine TS.callF 4 11 (fun _ _ h => GoT.ow_rd h) (fun _ f hf => GoT.fak f hf) rfl rfl rfl rfl rfl rfl (fun _ => rfl) rfl (fun w G bs hI hΓ => f101 w n (by omega) (Name.mk n_) pn_ cn_ (hΓ.get 10 rfl) u4 (okl_of v2) hq2.1) (fun _ => rfl) (fun _ => rfl) ?_
   rintro ⟨p2, c1⟩ hq3
   have q2 := aP_len (Name.mk n_) u4
   try dsimp only at q2
   have hfx1 := aP_els (k := n) (Name.mk n_) u4 v2.2 hq2.1
   refine TX.all1 5 (by kernel_rfl) ?_
   refine TS.op 5 rfl (by kernel_rfl) ?_
   refine R0 ?_
   refine WX.back0 ?_
   refine TX.all2 6 7 (by kernel_rfl) ?_ ?_
   ·skip
    refine TS.op 6 rfl (by kernel_rfl) ?_
    refine R0 ?_
    refine WX.back0 ?_
    refine TX.all2 7 8 (by kernel_rfl) ?_ ?_
    ·skip
     refine TS.op 7 rfl (by kernel_rfl) ?_
     refine R0 ?_
     refine WX.back0 ?_
     refine TX.tail [8] rfl rfl (by kernel_rfl) ?_
     refine R0 ?_
     refine WX.see rfl rfl rfl (fun _ hΓ => looks_arith rfl rfl rfl rfl (by unfold I64; first | omega | (simp only [List.length_take] at *; omega))) ?_
     refine R0 ?_
     refine WX.turn [12] 4 rfl (fun _ h => h) rfl ?_
     have r7 : (u4).size ≤ bd n := hq2.1
     have r8 : ((spec_AppendPart (Name.mk n_) u4).1.parts).length ≤ bd (n + 1) := (okl (ok_Name hq3)).1
     exact WX.iter (i - 1, p2, c1, (spec_AppendPart (Name.mk n_) u4).1.parts, u5, u6) ⟨(by first | assumption | omega), (okl_mk (by omega) hfx1 : GoT.ok n ((spec_AppendPart (Name.mk n_) u4).1.parts : List Str)), hq2.2.1, hq2.2.2, (by omega), (by rw [v6]; rw [spec_l4Name_L1]; simp only [h1, h1d, hu2, ct, cf, ↓reduceIte, Bool.false_eq_true])⟩ (by first | (dsimp only; omega) | omega) (.cons rfl (.cons rfl (.cons rfl (.cons rfl (.nil))))) (.cons rfl (.cons rfl (.cons rfl (.nil)))) .nil [0, 4] rfl
    ·skip
     refine TS.op 8 rfl (by kernel_rfl) ?_
     refine R0 ?_
     refine WX.back0 ?_
     refine TX.tail [7] rfl rfl (by kernel_rfl) ?_
     refine R0 ?_
     refine WX.see rfl rfl rfl (fun _ hΓ => looks_arith rfl rfl rfl rfl (by unfold I64; first | omega | (simp only [List.length_take] at *; omega))) ?_
     refine R0 ?_
     refine WX.turn [12] 4 rfl (fun _ h => h) rfl ?_
     have r9 : (u4).size ≤ bd n := hq2.1
     have r10 : ((spec_AppendPart (Name.mk n_) u4).1.parts).length ≤ bd (n + 1) := (okl (ok_Name hq3)).1
     exact WX.iter (i - 1, p2, c1, (spec_AppendPart (Name.mk n_) u4).1.parts, u5, u6) ⟨(by first | assumption | omega), (okl_mk (by omega) hfx1 : GoT.ok n ((spec_AppendPart (Name.mk n_) u4).1.parts : List Str)), hq2.2.1, hq2.2.2, (by omega), (by rw [v6]; rw [spec_l4Name_L1]; simp only [h1, h1d, hu2, ct, cf, ↓reduceIte, Bool.false_eq_true])⟩ (by first | (dsimp only; omega) | omega) (.cons rfl (.cons rfl (.cons rfl (.cons rfl (.nil))))) (.cons rfl (.cons rfl (.cons rfl (.nil)))) .nil [0, 4] rfl
   ·skip
    refine TS.op 7 rfl (by kernel_rfl) ?_
    refine R0 ?_
    refine WX.back0 ?_
    refine TX.tail [6, 8] rfl rfl (by kernel_rfl) ?_
    refine R0 ?_
    refine WX.see rfl rfl rfl (fun _ hΓ => looks_arith rfl rfl rfl rfl (by unfold I64; first | omega | (simp only [List.length_take] at *; omega))) ?_
    refine R0 ?_
    refine WX.turn [12] 4 rfl (fun _ h => h) rfl ?_
    have r11 : (u4).size ≤ bd n := hq2.1
    have r12 : ((spec_AppendPart (Name.mk n_) u4).1.parts).length ≤ bd (n + 1) := (okl (ok_Name hq3)).1
    exact WX.iter (i - 1, p2, c1, (spec_AppendPart (Name.mk n_) u4).1.parts, u5, u6) ⟨(by first | assumption | omega), (okl_mk (by omega) hfx1 : GoT.ok n ((spec_AppendPart (Name.mk n_) u4).1.parts : List Str)), hq2.2.1, hq2.2.2, (by omega), (by rw [v6]; rw [spec_l4Name_L1]; simp only [h1, h1d, hu2, ct, cf, ↓reduceIte, Bool.false_eq_true])⟩ (by first | (dsimp only; omega) | omega) (.cons rfl (.cons rfl (.cons rfl (.cons rfl (.nil))))) (.cons rfl (.cons rfl (.cons rfl (.nil)))) .nil [0, 4] rfl
  ·skip
   refine TS.op 2 rfl (by kernel_rfl) ?_
   refine WX.bld ttOk rfl rfl rfl rfl rfl rfl rfl ?_
   intro p3
   refine R0 ?_
   refine WX.back0 ?_
   refine TX.all2 0 3 (by kernel_rfl) ?_ ?_
   ·skip
    refine TS.op 0 rfl (by kernel_rfl) ?_
    refine R0 ?_
    refine WX.back0 ?_
    refine TX.all1 3 (by kernel_rfl) ?_
    refine TS.op 3 rfl (by kernel_rfl) ?_
    refine WX.turn [] 13 rfl (fun h hs => one_sep (⟨(), _, emp, _, rfl, emp_le _, Le.refl _, emp_dj _, trivial, ⟨(), _, emp, _, rfl, emp_le _, Le.refl _, emp_dj _, trivial, ⟨(), _, emp, _, rfl, emp_le _, Le.refl _, emp_dj _, trivial, ⟨(), _, emp, _, rfl, emp_le _, Le.refl _, emp_dj _, trivial, ⟨(), _, emp, _, rfl, emp_le _, Le.refl _, emp_dj _, trivial, ⟨(), _, emp, _, rfl, emp_le _, Le.refl _, emp_dj _, trivial, rfl⟩⟩⟩⟩⟩⟩ : OwL _ _ ([(⟨#[97]⟩ : Str), (⟨#[98]⟩ : Str), (⟨#[110, 101, 119, 115]⟩ : Str), (⟨#[120, 45, 49]⟩ : Str), (⟨#[49]⟩ : Str), (⟨#[107, 101, 121]⟩ : Str)] : List Str))) (gs := [MF.ol [.string (⟨#[97]⟩ : Str), .string (⟨#[98]⟩ : Str), .string (⟨#[110, 101, 119, 115]⟩ : Str), .string (⟨#[120, 45, 49]⟩ : Str), .string (⟨#[49]⟩ : Str), .string (⟨#[107, 101, 121]⟩ : Str)] ([(⟨#[97]⟩ : Str), (⟨#[98]⟩ : Str), (⟨#[110, 101, 119, 115]⟩ : Str), (⟨#[120, 45, 49]⟩ : Str), (⟨#[49]⟩ : Str), (⟨#[107, 101, 121]⟩ : Str)] : List Str)]) rfl ?_
    refine WX.seal 15 13 14 rfl rfl rfl rfl rfl ?_
    have r13 : (⟨#[97]⟩ : Str).size = 1 := rfl
    have r14 : (⟨#[98]⟩ : Str).size = 1 := rfl
    have r15 : (⟨#[110, 101, 119, 115]⟩ : Str).size = 4 := rfl
    have r16 : (⟨#[120, 45, 49]⟩ : Str).size = 3 := rfl
    have r17 : (⟨#[49]⟩ : Str).size = 1 := rfl
    have r18 : (⟨#[107, 101, 121]⟩ : Str).size = 3 := rfl
    obtain ⟨⟨u7, u8, u9⟩, hu3⟩ : ∃ r_, spec_l1Str c_b u999_i u999_h ([(⟨#[97]⟩ : Str), (⟨#[98]⟩ : Str), (⟨#[110, 101, 119, 115]⟩ : Str), (⟨#[120, 45, 49]⟩ : Str), (⟨#[49]⟩ : Str), (⟨#[107, 101, 121]⟩ : Str)]) = r_ := ⟨_, rfl⟩
    refine WX.callP (ds := fun _ => [])  999 16 rfl (fun _ _ _ => All.nil) (fun _ f hf => by cases hf) rfl rfl rfl rfl rfl (fun _ => rfl) rfl (fun w G bs H hI hH hs hΓ => f45 w n (by omega) H hH (bs 999) c_b K0 M0 (hΓ.get 0 rfl) u999_i u999_h ([(⟨#[97]⟩ : Str), (⟨#[98]⟩ : Str), (⟨#[110, 101, 119, 115]⟩ : Str), (⟨#[120, 45, 49]⟩ : Str), (⟨#[49]⟩ : Str), (⟨#[107, 101, 121]⟩ : Str)]) p3 6 (hΓ.get 14 rfl) hs hokc_b v3 v4 (by first | assumption | omega | (simp; done) | (simp; omega)) (okl_mk (by simp; omega) (all_cons (α := Str) (Nat.le_trans (by decide) (bd_pos _)) (all_cons (α := Str) (Nat.le_trans (by decide) (bd_pos _)) (all_cons (α := Str) (Nat.le_trans (by decide) (bd_pos _)) (all_cons (α := Str) (Nat.le_trans (by decide) (bd_pos _)) (all_cons (α := Str) (Nat.le_trans (by decide) (bd_pos _)) (all_cons (α := Str) (Nat.le_trans (by decide) (bd_pos _)) (fun a ha => by cases ha))))))) : GoT.ok n ([(⟨#[97]⟩ : Str), (⟨#[98]⟩ : Str), (⟨#[110, 101, 119, 115]⟩ : Str), (⟨#[120, 45, 49]⟩ : Str), (⟨#[49]⟩ : Str), (⟨#[107, 101, 121]⟩ : Str)] : List Str)) u7 u8 u9 hu3) (fun _ => rfl) (fun _ => rfl) ?_
    rintro ⟨⟩ hq4
    refine R0 ?_
    refine WX.back0 ?_
    refine TX.all1 4 (by kernel_rfl) ?_
    refine TS.der 17 (MF.rs .der pn_ cn_ n_) rfl (fun _ hΓ => (hΓ.get 4 rfl : OwSl _ _ _ _).rd) ?_
    refine TS.callF 4 18 (fun _ _ h => GoT.ow_rd h) (fun _ f hf => GoT.fak f hf) rfl rfl rfl rfl rfl rfl (fun _ => rfl) rfl (fun w G bs hI hΓ => f101 w n (by omega) (Name.mk n_) pn_ cn_ (hΓ.get 17 rfl) u7 (okl_of v2) hq4.1) (fun _ => rfl) (fun _ => rfl) ?_
    rintro ⟨p4, c2⟩ hq5
    have q3 := aP_len (Name.mk n_) u7
    try dsimp only at q3
    have hfx2 := aP_els (k := n) (Name.mk n_) u7 v2.2 hq4.1
    refine TX.all1 5 (by kernel_rfl) ?_
    refine TS.op 5 rfl (by kernel_rfl) ?_
    refine R0 ?_
    refine WX.back0 ?_
    refine TX.all2 6 7 (by kernel_rfl) ?_ ?_
    ·skip
     refine TS.op 6 rfl (by kernel_rfl) ?_
     refine R0 ?_
     refine WX.back0 ?_
     refine TX.all2 7 8 (by kernel_rfl) ?_ ?_
     ·skip
      refine TS.op 7 rfl (by kernel_rfl) ?_
      refine R0 ?_
      refine WX.back0 ?_
      refine TX.tail [8] rfl rfl (by kernel_rfl) ?_
      refine R0 ?_
      refine WX.see rfl rfl rfl (fun _ hΓ => looks_arith rfl rfl rfl rfl (by unfold I64; first | omega | (simp only [List.length_take] at *; omega))) ?_
      refine R0 ?_
      refine WX.turn [19] 4 rfl (fun _ h => h) rfl ?_
      have r19 : (u7).size ≤ bd n := hq4.1
      have r20 : ((spec_AppendPart (Name.mk n_) u7).1.parts).length ≤ bd (n + 1) := (okl (ok_Name hq5)).1
      exact WX.iter (i - 1, p4, c2, (spec_AppendPart (Name.mk n_) u7).1.parts, u8, u9) ⟨(by first | assumption | omega), (okl_mk (by omega) hfx2 : GoT.ok n ((spec_AppendPart (Name.mk n_) u7).1.parts : List Str)), hq4.2.1, hq4.2.2, (by omega), (by rw [v6]; rw [spec_l4Name_L1]; simp only [h1, h1d, hu3, ct, cf, ↓reduceIte, Bool.false_eq_true])⟩ (by first | (dsimp only; omega) | omega) (.cons rfl (.cons rfl (.cons rfl (.cons rfl (.nil))))) (.cons rfl (.cons rfl (.cons rfl (.nil)))) .nil [0, 4] rfl
     ·skip
      refine TS.op 8 rfl (by kernel_rfl) ?_
      refine R0 ?_
      refine WX.back0 ?_
      refine TX.tail [7] rfl rfl (by kernel_rfl) ?_
      refine R0 ?_
      refine WX.see rfl rfl rfl (fun _ hΓ => looks_arith rfl rfl rfl rfl (by unfold I64; first | omega | (simp only [List.length_take] at *; omega))) ?_
      refine R0 ?_
      refine WX.turn [19] 4 rfl (fun _ h => h) rfl ?_
      have r21 : (u7).size ≤ bd n := hq4.1
      have r22 : ((spec_AppendPart (Name.mk n_) u7).1.parts).length ≤ bd (n + 1) := (okl (ok_Name hq5)).1
      exact WX.iter (i - 1, p4, c2, (spec_AppendPart (Name.mk n_) u7).1.parts, u8, u9) ⟨(by first | assumption | omega), (okl_mk (by omega) hfx2 : GoT.ok n ((spec_AppendPart (Name.mk n_) u7).1.parts : List Str)), hq4.2.1, hq4.2.2, (by omega), (by rw [v6]; rw [spec_l4Name_L1]; simp only [h1, h1d, hu3, ct, cf, ↓reduceIte, Bool.false_eq_true])⟩ (by first | (dsimp only; omega) | omega) (.cons rfl (.cons rfl (.cons rfl (.cons rfl (.nil))))) (.cons rfl (.cons rfl (.cons rfl (.nil)))) .nil [0, 4] rfl
    ·skip
     refine TS.op 7 rfl (by kernel_rfl) ?_
     refine R0 ?_
     refine WX.back0 ?_
     refine TX.tail [6, 8] rfl rfl (by kernel_rfl) ?_
     refine R0 ?_
     refine WX.see rfl rfl rfl (fun _ hΓ => looks_arith rfl rfl rfl rfl (by unfold I64; first | omega | (simp only [List.length_take] at *; omega))) ?_
     refine R0 ?_
     refine WX.turn [19] 4 rfl (fun _ h => h) rfl ?_
     have r23 : (u7).size ≤ bd n := hq4.1
     have r24 : ((spec_AppendPart (Name.mk n_) u7).1.parts).length ≤ bd (n + 1) := (okl (ok_Name hq5)).1
     exact WX.iter (i - 1, p4, c2, (spec_AppendPart (Name.mk n_) u7).1.parts, u8, u9) ⟨(by first | assumption | omega), (okl_mk (by omega) hfx2 : GoT.ok n ((spec_AppendPart (Name.mk n_) u7).1.parts : List Str)), hq4.2.1, hq4.2.2, (by omega), (by rw [v6]; rw [spec_l4Name_L1]; simp only [h1, h1d, hu3, ct, cf, ↓reduceIte, Bool.false_eq_true])⟩ (by first | (dsimp only; omega) | omega) (.cons rfl (.cons rfl (.cons rfl (.cons rfl (.nil))))) (.cons rfl (.cons rfl (.cons rfl (.nil)))) .nil [0, 4] rfl
   ·skip
    refine TS.op 3 rfl (by kernel_rfl) ?_
    refine WX.turn [] 20 rfl (fun h hs => one_sep (⟨(), _, emp, _, rfl, emp_le _, Le.refl _, emp_dj _, trivial, ⟨(), _, emp, _, rfl, emp_le _, Le.refl _, emp_dj _, trivial, ⟨(), _, emp, _, rfl, emp_le _, Le.refl _, emp_dj _, trivial, ⟨(), _, emp, _, rfl, emp_le _, Le.refl _, emp_dj _, trivial, ⟨(), _, emp, _, rfl, emp_le _, Le.refl _, emp_dj _, trivial, ⟨(), _, emp, _, rfl, emp_le _, Le.refl _, emp_dj _, trivial, rfl⟩⟩⟩⟩⟩⟩ : OwL _ _ ([(⟨#[97]⟩ : Str), (⟨#[98]⟩ : Str), (⟨#[110, 101, 119, 115]⟩ : Str), (⟨#[120, 45, 49]⟩ : Str), (⟨#[49]⟩ : Str), (⟨#[107, 101, 121]⟩ : Str)] : List Str))) (gs := [MF.ol [.string (⟨#[97]⟩ : Str), .string (⟨#[98]⟩ : Str), .string (⟨#[110, 101, 119, 115]⟩ : Str), .string (⟨#[120, 45, 49]⟩ : Str), .string (⟨#[49]⟩ : Str), .string (⟨#[107, 101, 121]⟩ : Str)] ([(⟨#[97]⟩ : Str), (⟨#[98]⟩ : Str), (⟨#[110, 101, 119, 115]⟩ : Str), (⟨#[120, 45, 49]⟩ : Str), (⟨#[49]⟩ : Str), (⟨#[107, 101, 121]⟩ : Str)] : List Str)]) rfl ?_
    refine WX.seal 15 20 21 rfl rfl rfl rfl rfl ?_
    have r25 : (⟨#[97]⟩ : Str).size = 1 := rfl
    have r26 : (⟨#[98]⟩ : Str).size = 1 := rfl
    have r27 : (⟨#[110, 101, 119, 115]⟩ : Str).size = 4 := rfl
    have r28 : (⟨#[120, 45, 49]⟩ : Str).size = 3 := rfl
    have r29 : (⟨#[49]⟩ : Str).size = 1 := rfl
    have r30 : (⟨#[107, 101, 121]⟩ : Str).size = 3 := rfl
    obtain ⟨⟨u10, u11, u12⟩, hu4⟩ : ∃ r_, spec_l1Str c_b u999_i u999_h ([(⟨#[97]⟩ : Str), (⟨#[98]⟩ : Str), (⟨#[110, 101, 119, 115]⟩ : Str), (⟨#[120, 45, 49]⟩ : Str), (⟨#[49]⟩ : Str), (⟨#[107, 101, 121]⟩ : Str)]) = r_ := ⟨_, rfl⟩
    refine WX.callP (ds := fun _ => [])  999 23 rfl (fun _ _ _ => All.nil) (fun _ f hf => by cases hf) rfl rfl rfl rfl rfl (fun _ => rfl) rfl (fun w G bs H hI hH hs hΓ => f45 w n (by omega) H hH (bs 999) c_b K0 M0 (hΓ.get 0 rfl) u999_i u999_h ([(⟨#[97]⟩ : Str), (⟨#[98]⟩ : Str), (⟨#[110, 101, 119, 115]⟩ : Str), (⟨#[120, 45, 49]⟩ : Str), (⟨#[49]⟩ : Str), (⟨#[107, 101, 121]⟩ : Str)]) p3 6 (hΓ.get 21 rfl) hs hokc_b v3 v4 (by first | assumption | omega | (simp; done) | (simp; omega)) (okl_mk (by simp; omega) (all_cons (α := Str) (Nat.le_trans (by decide) (bd_pos _)) (all_cons (α := Str) (Nat.le_trans (by decide) (bd_pos _)) (all_cons (α := Str) (Nat.le_trans (by decide) (bd_pos _)) (all_cons (α := Str) (Nat.le_trans (by decide) (bd_pos _)) (all_cons (α := Str) (Nat.le_trans (by decide) (bd_pos _)) (all_cons (α := Str) (Nat.le_trans (by decide) (bd_pos _)) (fun a ha => by cases ha))))))) : GoT.ok n ([(⟨#[97]⟩ : Str), (⟨#[98]⟩ : Str), (⟨#[110, 101, 119, 115]⟩ : Str), (⟨#[120, 45, 49]⟩ : Str), (⟨#[49]⟩ : Str), (⟨#[107, 101, 121]⟩ : Str)] : List Str)) u10 u11 u12 hu4) (fun _ => rfl) (fun _ => rfl) ?_
    rintro ⟨⟩ hq6
    refine R0 ?_
    refine WX.back0 ?_
    refine TX.all1 0 (by kernel_rfl) ?_
    refine TS.op 0 rfl (by kernel_rfl) ?_
    refine R0 ?_
    refine WX.back0 ?_
    refine TX.all1 4 (by kernel_rfl) ?_
    refine TS.der 24 (MF.rs .der pn_ cn_ n_) rfl (fun _ hΓ => (hΓ.get 4 rfl : OwSl _ _ _ _).rd) ?_
    refine TS.callF 4 25 (fun _ _ h => GoT.ow_rd h) (fun _ f hf => GoT.fak f hf) rfl rfl rfl rfl rfl rfl (fun _ => rfl) rfl (fun w G bs hI hΓ => f101 w n (by omega) (Name.mk n_) pn_ cn_ (hΓ.get 24 rfl) u10 (okl_of v2) hq6.1) (fun _ => rfl) (fun _ => rfl) ?_
    rintro ⟨p5, c3⟩ hq7
    have q4 := aP_len (Name.mk n_) u10
    try dsimp only at q4
    have hfx3 := aP_els (k := n) (Name.mk n_) u10 v2.2 hq6.1
    refine TX.all1 5 (by kernel_rfl) ?_
    refine TS.op 5 rfl (by kernel_rfl) ?_
    refine R0 ?_
    refine WX.back0 ?_
    refine TX.all2 6 7 (by kernel_rfl) ?_ ?_
    ·skip
     refine TS.op 6 rfl (by kernel_rfl) ?_
     refine R0 ?_
     refine WX.back0 ?_
     refine TX.all2 7 8 (by kernel_rfl) ?_ ?_
     ·skip
      refine TS.op 7 rfl (by kernel_rfl) ?_
      refine R0 ?_
      refine WX.back0 ?_
      refine TX.tail [8] rfl rfl (by kernel_rfl) ?_
      refine R0 ?_
      refine WX.see rfl rfl rfl (fun _ hΓ => looks_arith rfl rfl rfl rfl (by unfold I64; first | omega | (simp only [List.length_take] at *; omega))) ?_
      refine R0 ?_
      refine WX.turn [26] 4 rfl (fun _ h => h) rfl ?_
      have r31 : (u10).size ≤ bd n := hq6.1
      have r32 : ((spec_AppendPart (Name.mk n_) u10).1.parts).length ≤ bd (n + 1) := (okl (ok_Name hq7)).1
      exact WX.iter (i - 1, p5, c3, (spec_AppendPart (Name.mk n_) u10).1.parts, u11, u12) ⟨(by first | assumption | omega), (okl_mk (by omega) hfx3 : GoT.ok n ((spec_AppendPart (Name.mk n_) u10).1.parts : List Str)), hq6.2.1, hq6.2.2, (by omega), (by rw [v6]; rw [spec_l4Name_L1]; simp only [h1, h1d, hu4, ct, cf, ↓reduceIte, Bool.false_eq_true])⟩ (by first | (dsimp only; omega) | omega) (.cons rfl (.cons rfl (.cons rfl (.cons rfl (.nil))))) (.cons rfl (.cons rfl (.cons rfl (.nil)))) .nil [0, 4] rfl
     ·skip
      refine TS.op 8 rfl (by kernel_rfl) ?_
      refine R0 ?_
      refine WX.back0 ?_
      refine TX.tail [7] rfl rfl (by kernel_rfl) ?_
      refine R0 ?_
      refine WX.see rfl rfl rfl (fun _ hΓ => looks_arith rfl rfl rfl rfl (by unfold I64; first | omega | (simp only [List.length_take] at *; omega))) ?_
      refine R0 ?_
      refine WX.turn [26] 4 rfl (fun _ h => h) rfl ?_
      have r33 : (u10).size ≤ bd n := hq6.1
      have r34 : ((spec_AppendPart (Name.mk n_) u10).1.parts).length ≤ bd (n + 1) := (okl (ok_Name hq7)).1
      exact WX.iter (i - 1, p5, c3, (spec_AppendPart (Name.mk n_) u10).1.parts, u11, u12) ⟨(by first | assumption | omega), (okl_mk (by omega) hfx3 : GoT.ok n ((spec_AppendPart (Name.mk n_) u10).1.parts : List Str)), hq6.2.1, hq6.2.2, (by omega), (by rw [v6]; rw [spec_l4Name_L1]; simp only [h1, h1d, hu4, ct, cf, ↓reduceIte, Bool.false_eq_true])⟩ (by first | (dsimp only; omega) | omega) (.cons rfl (.cons rfl (.cons rfl (.cons rfl (.nil))))) (.cons rfl (.cons rfl (.cons rfl (.nil)))) .nil [0, 4] rfl
    ·skip
     refine TS.op 7 rfl (by kernel_rfl) ?_
     refine R0 ?_
     refine WX.back0 ?_
     refine TX.tail [6, 8] rfl rfl (by kernel_rfl) ?_
     refine R0 ?_
     refine WX.see rfl rfl rfl (fun _ hΓ => looks_arith rfl rfl rfl rfl (by unfold I64; first | omega | (simp only [List.length_take] at *; omega))) ?_
     refine R0 ?_
     refine WX.turn [26] 4 rfl (fun _ h => h) rfl ?_
     have r35 : (u10).size ≤ bd n := hq6.1
     have r36 : ((spec_AppendPart (Name.mk n_) u10).1.parts).length ≤ bd (n + 1) := (okl (ok_Name hq7)).1
     exact WX.iter (i - 1, p5, c3, (spec_AppendPart (Name.mk n_) u10).1.parts, u11, u12) ⟨(by first | assumption | omega), (okl_mk (by omega) hfx3 : GoT.ok n ((spec_AppendPart (Name.mk n_) u10).1.parts : List Str)), hq6.2.1, hq6.2.2, (by omega), (by rw [v6]; rw [spec_l4Name_L1]; simp only [h1, h1d, hu4, ct, cf, ↓reduceIte, Bool.false_eq_true])⟩ (by first | (dsimp only; omega) | omega) (.cons rfl (.cons rfl (.cons rfl (.cons rfl (.nil))))) (.cons rfl (.cons rfl (.cons rfl (.nil)))) .nil [0, 4] rfl
 ·skip
  have h1d := B.df h1
  refine R0 ?_
  have hX1 : spec_l4Name_L1 c_b u1 (([] : List Str) : List Str) u2 u3 = (i, ((n_) : List Str), u999_i, u999_h) := by rw [v6]; rw [spec_l4Name_L1]; simp only [h1, h1d, ct, cf, ↓reduceIte, Bool.false_eq_true]
  have hP1 : spec_l4Name c_b c_i c_h = (Name.mk n_, u999_i, u999_h) := by simp only [spec_l4Name, hu1, hX1, ct, cf]
  have hz1 := hP1.symm.trans hres
  obtain ⟨hz1, hz2⟩ := Prod.mk.inj hz1
  obtain ⟨hz2, hz3⟩ := Prod.mk.inj hz2
  subst hz1
  subst hz2
  subst hz3
  refine R1 ?_
  intro w1 G bs hI hΓ
  exact Post.ofL 999 [4] (pn_, cn_) hI hΓ rfl rfl rfl (by rw [hI.pin _ rfl]; first | done | rfl) (⟨(okl_of v2), ⟨v3, v4⟩⟩)
theorem f67 (w : World) (n : Nat) (hn : n + 1 ≤ 9) (H : GH) (hH : Le H (hp w)) (bc_ : Nat) (c_b : (List UInt8)) (K0 : Option Addr) (M0 : Nat) (N0 : RdSl (cut (hp w) H) K0 M0 c_b) (c_i : Int) (c_h : Int) (hown : Sep H [MF.bx bc_ 80 [.slice K0 ((c_b).length) M0, .int .i64 (c_i), .int .i64 (c_h)]]) (hokc_b : GoT.ok n c_b) (hokc_i : NN c_i) (hokc_h : GoT.ok n c_h) (o0_ : Name) (o1_ : Int) (o2_ : Int) (hres : spec_l4Any c_b c_i c_h = (o0_, o1_, o2_)) :
  Does Try.prog 67 #[.pointer (some ⟨bc_, 0, none⟩)] w H (Post w H (fun x : GoT.X (Name) => .agg ⟨GoT.sh (o0_ : Name) x⟩) (fun x => MF.bx bc_ 80 [.slice K0 ((c_b).length) M0, .int .i64 (o1_), .int .i64 (o2_)] :: GoT.oa (o0_ : Name) x) (GoT.ok n (o0_ : Name) ∧ NN (o1_) ∧ I64 (o2_))) := by
 have hbP := bd_pos n
 have hbS0 : bd (n + 1) = 4 * bd (n) := bd_succ (n := n) (by omega)
 have hbB := bd_big (n := (n + 1)) (by omega)
 have hbM := bd_mono (show n ≤ n + 1 by omega)
 have hc_bz : (c_b).length ≤ bd n := (okl hokc_b).1
 refine WX.enterP (tt := tt) (Γ := [(0, MF.rs .stb K0 M0 c_b)]) 1 Try.func67 rfl (by kernel_rfl) rfl (allS_cons rfl N0 allS_nil) hH hown (fun f hf => by cases hf) rfl ?_
 refine R0 ?_
 obtain ⟨⟨u1, u2, u3⟩, hu1⟩ : ∃ r_, spec_l4Name c_b c_i c_h = r_ := ⟨_, rfl⟩
 refine WX.callP  999 2 rfl (fun _ _ h => GoT.ow_rd h) (fun _ f hf => GoT.fak f hf) rfl rfl rfl rfl rfl (fun _ => rfl) rfl (fun w G bs H hI hH hs hΓ => f88 w n (by omega) H hH (bs 999) c_b K0 M0 (hΓ.get 0 rfl) c_i c_h hs hokc_b hokc_i hokc_h u1 u2 u3 hu1) (fun _ => rfl) (fun _ => rfl) ?_
 rintro ⟨p1, c1⟩ hq1
 have q1 := l4Name_len c_b c_i c_h
 rw [hu1] at q1
 try dsimp only at q1
 refine R0 ?_
 obtain ⟨⟨u4, u5, u6⟩, hu2⟩ : ∃ r_, spec_l1Below c_b u2 u3 8 = r_ := ⟨_, rfl⟩
 refine WX.callP (ds := fun _ => [])  999 4 rfl (fun _ _ _ => All.nil) (fun _ f hf => by cases hf) rfl rfl rfl rfl rfl (fun _ => rfl) rfl (fun w G bs H hI hH hs hΓ => f35 w n (by omega) H hH (bs 999) c_b K0 M0 (hΓ.get 0 rfl) u2 u3 8 hs hokc_b hq1.2.1 hq1.2.2 (show I64 8 from (by unfold I64; omega)) u4 u5 u6 hu2) (fun _ => rfl) (fun _ => rfl) ?_
 rintro ⟨⟩ hq2
 have q2 := l1Below_rng c_b u2 u3 8
 rw [hu2] at q2
 try dsimp only at q2
 refine R0 ?_
 refine WX.cases 8 rfl (fun h1 => ?_) (fun h1 => ?_)
 ·skip
  have h1d := B.et h1
  refine R0 ?_
  refine WX.draw [1, 4, 6, 7, 8] mixed ?_
  intro bs G0 hΓ0
  refine DX.takes (fuel := 7) ttOk [(0, true), (2, true)] (by kernel_rfl) rfl ?_
  refine DX.toTX ?_
  intro S_
  refine TX.all2 1 3 (by kernel_rfl) ?_ ?_
  ·skip
   refine TS.op 1 rfl (by kernel_rfl) ?_
   refine R0 ?_
   refine WX.back0 ?_
   refine TX.tail [3, 4, 5, 6, 7, 8] rfl rfl (by kernel_rfl) ?_
   refine WX.bld ttOk rfl rfl rfl rfl rfl rfl rfl ?_
   intro p2
   refine WX.turn [] 5 rfl (fun h hs => one_sep (⟨(), _, emp, _, rfl, emp_le _, Le.refl _, emp_dj _, trivial, ⟨(), _, emp, _, rfl, emp_le _, Le.refl _, emp_dj _, trivial, ⟨(), _, emp, _, rfl, emp_le _, Le.refl _, emp_dj _, trivial, ⟨(), _, emp, _, rfl, emp_le _, Le.refl _, emp_dj _, trivial, ⟨(), _, emp, _, rfl, emp_le _, Le.refl _, emp_dj _, trivial, ⟨(), _, emp, _, rfl, emp_le _, Le.refl _, emp_dj _, trivial, rfl⟩⟩⟩⟩⟩⟩ : OwL _ _ ([(⟨#[]⟩ : Str), (⟨#[65]⟩ : Str), (⟨#[116, 111, 111, 108, 111, 110, 103, 120, 120]⟩ : Str), (⟨#[97, 47, 98]⟩ : Str), (⟨#[32]⟩ : Str), (⟨#[101, 105, 103, 104, 116, 56, 56, 56]⟩ : Str)] : List Str))) (gs := [MF.ol [.string (⟨#[]⟩ : Str), .string (⟨#[65]⟩ : Str), .string (⟨#[116, 111, 111, 108, 111, 110, 103, 120, 120]⟩ : Str), .string (⟨#[97, 47, 98]⟩ : Str), .string (⟨#[32]⟩ : Str), .string (⟨#[101, 105, 103, 104, 116, 56, 56, 56]⟩ : Str)] ([(⟨#[]⟩ : Str), (⟨#[65]⟩ : Str), (⟨#[116, 111, 111, 108, 111, 110, 103, 120, 120]⟩ : Str), (⟨#[97, 47, 98]⟩ : Str), (⟨#[32]⟩ : Str), (⟨#[101, 105, 103, 104, 116, 56, 56, 56]⟩ : Str)] : List Str)]) rfl ?_
   refine WX.seal 13 5 6 rfl rfl rfl rfl rfl ?_
   have r1 : (⟨#[]⟩ : Str).size = 0 := rfl
   have r2 : (⟨#[65]⟩ : Str).size = 1 := rfl
   have r3 : (⟨#[116, 111, 111, 108, 111, 110, 103, 120, 120]⟩ : Str).size = 9 := rfl
   have r4 : (⟨#[97, 47, 98]⟩ : Str).size = 3 := rfl
   have r5 : (⟨#[32]⟩ : Str).size = 1 := rfl
   have r6 : (⟨#[101, 105, 103, 104, 116, 56, 56, 56]⟩ : Str).size = 8 := rfl
   obtain ⟨⟨u7, u8, u9⟩, hu3⟩ : ∃ r_, spec_l1Str c_b u5 u6 ([(⟨#[]⟩ : Str), (⟨#[65]⟩ : Str), (⟨#[116, 111, 111, 108, 111, 110, 103, 120, 120]⟩ : Str), (⟨#[97, 47, 98]⟩ : Str), (⟨#[32]⟩ : Str), (⟨#[101, 105, 103, 104, 116, 56, 56, 56]⟩ : Str)]) = r_ := ⟨_, rfl⟩
   refine WX.callP (ds := fun _ => [])  999 8 rfl (fun _ _ _ => All.nil) (fun _ f hf => by cases hf) rfl rfl rfl rfl rfl (fun _ => rfl) rfl (fun w G bs H hI hH hs hΓ => f45 w n (by omega) H hH (bs 999) c_b K0 M0 (hΓ.get 0 rfl) u5 u6 ([(⟨#[]⟩ : Str), (⟨#[65]⟩ : Str), (⟨#[116, 111, 111, 108, 111, 110, 103, 120, 120]⟩ : Str), (⟨#[97, 47, 98]⟩ : Str), (⟨#[32]⟩ : Str), (⟨#[101, 105, 103, 104, 116, 56, 56, 56]⟩ : Str)]) p2 6 (hΓ.get 6 rfl) hs hokc_b hq2.2.1 hq2.2.2 (by first | assumption | omega | (simp; done) | (simp; omega)) (okl_mk (by simp; omega) (all_cons (α := Str) (Nat.le_trans (by decide) (bd_pos _)) (all_cons (α := Str) (Nat.le_trans (by decide) (bd_pos _)) (all_cons (α := Str) (Nat.le_trans (by decide) (bd_pos _)) (all_cons (α := Str) (Nat.le_trans (by decide) (bd_pos _)) (all_cons (α := Str) (Nat.le_trans (by decide) (bd_pos _)) (all_cons (α := Str) (Nat.le_trans (by decide) (bd_pos _)) (fun a ha => by cases ha))))))) : GoT.ok n ([(⟨#[]⟩ : Str), (⟨#[65]⟩ : Str), (⟨#[116, 111, 111, 108, 111, 110, 103, 120, 120]⟩ : Str), (⟨#[97, 47, 98]⟩ : Str), (⟨#[32]⟩ : Str), (⟨#[101, 105, 103, 104, 116, 56, 56, 56]⟩ : Str)] : List Str)) u7 u8 u9 hu3) (fun _ => rfl) (fun _ => rfl) ?_
   rintro ⟨⟩ hq3
   refine WX.bld ttOk rfl rfl rfl rfl rfl rfl rfl ?_
   intro p3
   refine WX.opn (kk := 1) 501 3 9 rfl rfl rfl ?_
   intro xs1 hx1
   refine WX.turn [] 10 rfl (fun h hs => ol_one (α := Str) (a := u7) (x := ()) hs) (gs := [MF.ol [.string u7] ([u7] : List Str)]) rfl ?_
   have r7 : (u1.parts).length ≤ bd n := (okl (ok_Name hq1.1)).1
   have r8 : (u7).size ≤ bd n := hq3.1
   refine WX.know (fun G hΓ => (hΓ.get 10 rfl : OwL _ _ _).rd.one) ?_
   intro ho1
   refine WX.appR1 501 15 ((u1.parts ++ [u7]) : List Str).length ttOk rfl rfl rfl rfl rfl rfl rfl rfl rfl rfl rfl rfl rfl ho1 (by simp) (by simp; omega) (by simp; omega) (fun _ _ => rfl) ?_
   intro p4 c2
   refine WX.turn [9, 10] 11 rfl (fun h hs => ol_app hs) (gs := [MF.ol (xs1 ++ [.string u7]) ((u1.parts ++ [u7]) : List Str)]) rfl ?_
   refine R0 ?_
   refine WX.seal 501 11 12 rfl rfl rfl rfl rfl ?_
   have hP1 : spec_l4Any c_b c_i c_h = (Name.mk (u1.parts ++ [u7]), u8, u9) := by simp only [spec_l4Any, hu1, hu2, h1, hu3, ct, cf]
   have hz1 := hP1.symm.trans hres
   obtain ⟨hz1, hz2⟩ := Prod.mk.inj hz1
   obtain ⟨hz2, hz3⟩ := Prod.mk.inj hz2
   subst hz1
   subst hz2
   subst hz3
   refine R1 ?_
   intro w1 G bs hI hΓ
   exact Post.ofL 999 [13] (p4, c2) hI hΓ rfl rfl rfl (by rw [hI.pin _ rfl]; first | done | rfl) (⟨(okl_mk (by simp; omega) (all_app (okl (ok_Name hq1.1)).2 (all_cons (α := Str) hq3.1 (fun a ha => by cases ha))) : GoT.ok n ((u1.parts ++ [u7]) : List Str)), ⟨hq3.2.1, hq3.2.2⟩⟩)
  ·skip
   refine TS.op 3 rfl (by kernel_rfl) ?_
   refine WX.bld ttOk rfl rfl rfl rfl rfl rfl rfl ?_
   intro p5
   refine R0 ?_
   refine WX.back0 ?_
   refine TX.all2 1 4 (by kernel_rfl) ?_ ?_
   ·skip
    refine TS.op 1 rfl (by kernel_rfl) ?_
    refine R0 ?_
    refine WX.back0 ?_
    refine TX.tail [4, 5, 6, 7, 8] rfl rfl (by kernel_rfl) ?_
    refine WX.turn [] 14 rfl (fun h hs => one_sep (⟨(), _, emp, _, rfl, emp_le _, Le.refl _, emp_dj _, trivial, ⟨(), _, emp, _, rfl, emp_le _, Le.refl _, emp_dj _, trivial, ⟨(), _, emp, _, rfl, emp_le _, Le.refl _, emp_dj _, trivial, ⟨(), _, emp, _, rfl, emp_le _, Le.refl _, emp_dj _, trivial, ⟨(), _, emp, _, rfl, emp_le _, Le.refl _, emp_dj _, trivial, ⟨(), _, emp, _, rfl, emp_le _, Le.refl _, emp_dj _, trivial, rfl⟩⟩⟩⟩⟩⟩ : OwL _ _ ([(⟨#[]⟩ : Str), (⟨#[65]⟩ : Str), (⟨#[116, 111, 111, 108, 111, 110, 103, 120, 120]⟩ : Str), (⟨#[97, 47, 98]⟩ : Str), (⟨#[32]⟩ : Str), (⟨#[101, 105, 103, 104, 116, 56, 56, 56]⟩ : Str)] : List Str))) (gs := [MF.ol [.string (⟨#[]⟩ : Str), .string (⟨#[65]⟩ : Str), .string (⟨#[116, 111, 111, 108, 111, 110, 103, 120, 120]⟩ : Str), .string (⟨#[97, 47, 98]⟩ : Str), .string (⟨#[32]⟩ : Str), .string (⟨#[101, 105, 103, 104, 116, 56, 56, 56]⟩ : Str)] ([(⟨#[]⟩ : Str), (⟨#[65]⟩ : Str), (⟨#[116, 111, 111, 108, 111, 110, 103, 120, 120]⟩ : Str), (⟨#[97, 47, 98]⟩ : Str), (⟨#[32]⟩ : Str), (⟨#[101, 105, 103, 104, 116, 56, 56, 56]⟩ : Str)] : List Str)]) rfl ?_
    refine WX.seal 13 14 15 rfl rfl rfl rfl rfl ?_
    have r9 : (⟨#[]⟩ : Str).size = 0 := rfl
    have r10 : (⟨#[65]⟩ : Str).size = 1 := rfl
    have r11 : (⟨#[116, 111, 111, 108, 111, 110, 103, 120, 120]⟩ : Str).size = 9 := rfl
    have r12 : (⟨#[97, 47, 98]⟩ : Str).size = 3 := rfl
    have r13 : (⟨#[32]⟩ : Str).size = 1 := rfl
    have r14 : (⟨#[101, 105, 103, 104, 116, 56, 56, 56]⟩ : Str).size = 8 := rfl
    obtain ⟨⟨u10, u11, u12⟩, hu4⟩ : ∃ r_, spec_l1Str c_b u5 u6 ([(⟨#[]⟩ : Str), (⟨#[65]⟩ : Str), (⟨#[116, 111, 111, 108, 111, 110, 103, 120, 120]⟩ : Str), (⟨#[97, 47, 98]⟩ : Str), (⟨#[32]⟩ : Str), (⟨#[101, 105, 103, 104, 116, 56, 56, 56]⟩ : Str)]) = r_ := ⟨_, rfl⟩
    refine WX.callP (ds := fun _ => [])  999 17 rfl (fun _ _ _ => All.nil) (fun _ f hf => by cases hf) rfl rfl rfl rfl rfl (fun _ => rfl) rfl (fun w G bs H hI hH hs hΓ => f45 w n (by omega) H hH (bs 999) c_b K0 M0 (hΓ.get 0 rfl) u5 u6 ([(⟨#[]⟩ : Str), (⟨#[65]⟩ : Str), (⟨#[116, 111, 111, 108, 111, 110, 103, 120, 120]⟩ : Str), (⟨#[97, 47, 98]⟩ : Str), (⟨#[32]⟩ : Str), (⟨#[101, 105, 103, 104, 116, 56, 56, 56]⟩ : Str)]) p5 6 (hΓ.get 15 rfl) hs hokc_b hq2.2.1 hq2.2.2 (by first | assumption | omega | (simp; done) | (simp; omega)) (okl_mk (by simp; omega) (all_cons (α := Str) (Nat.le_trans (by decide) (bd_pos _)) (all_cons (α := Str) (Nat.le_trans (by decide) (bd_pos _)) (all_cons (α := Str) (Nat.le_trans (by decide) (bd_pos _)) (all_cons (α := Str) (Nat.le_trans (by decide) (bd_pos _)) (all_cons (α := Str) (Nat.le_trans (by decide) (bd_pos _)) (all_cons (α := Str) (Nat.le_trans (by decide) (bd_pos _)) (fun a ha => by cases ha))))))) : GoT.ok n ([(⟨#[]⟩ : Str), (⟨#[65]⟩ : Str), (⟨#[116, 111, 111, 108, 111, 110, 103, 120, 120]⟩ : Str), (⟨#[97, 47, 98]⟩ : Str), (⟨#[32]⟩ : Str), (⟨#[101, 105, 103, 104, 116, 56, 56, 56]⟩ : Str)] : List Str)) u10 u11 u12 hu4) (fun _ => rfl) (fun _ => rfl) ?_
    rintro ⟨⟩ hq4
    refine WX.bld ttOk rfl rfl rfl rfl rfl rfl rfl ?_
    intro p6
    refine WX.opn (kk := 1) 502 3 18 rfl rfl rfl ?_
    intro xs2 hx2
    refine WX.turn [] 19 rfl (fun h hs => ol_one (α := Str) (a := u10) (x := ()) hs) (gs := [MF.ol [.string u10] ([u10] : List Str)]) rfl ?_
    have r15 : (u1.parts).length ≤ bd n := (okl (ok_Name hq1.1)).1
    have r16 : (u10).size ≤ bd n := hq4.1
    refine WX.know (fun G hΓ => (hΓ.get 19 rfl : OwL _ _ _).rd.one) ?_
    intro ho2
    refine WX.appR1 502 15 ((u1.parts ++ [u10]) : List Str).length ttOk rfl rfl rfl rfl rfl rfl rfl rfl rfl rfl rfl rfl rfl ho2 (by simp) (by simp; omega) (by simp; omega) (fun _ _ => rfl) ?_
    intro p7 c3
    refine WX.turn [18, 19] 20 rfl (fun h hs => ol_app hs) (gs := [MF.ol (xs2 ++ [.string u10]) ((u1.parts ++ [u10]) : List Str)]) rfl ?_
    refine R0 ?_
    refine WX.seal 502 20 21 rfl rfl rfl rfl rfl ?_
    have hP2 : spec_l4Any c_b c_i c_h = (Name.mk (u1.parts ++ [u10]), u11, u12) := by simp only [spec_l4Any, hu1, hu2, h1, hu4, ct, cf]
    have hz1 := hP2.symm.trans hres
    obtain ⟨hz1, hz2⟩ := Prod.mk.inj hz1
    obtain ⟨hz2, hz3⟩ := Prod.mk.inj hz2
    subst hz1
    subst hz2
    subst hz3
    refine R1 ?_
    intro w1 G bs hI hΓ
    exact Post.ofL 999 [22] (p7, c3) hI hΓ rfl rfl rfl (by rw [hI.pin _ rfl]; first | done | rfl) (⟨(okl_mk (by simp; omega) (all_app (okl (ok_Name hq1.1)).2 (all_cons (α := Str) hq4.1 (fun a ha => by cases ha))) : GoT.ok n ((u1.parts ++ [u10]) : List Str)), ⟨hq4.2.1, hq4.2.2⟩⟩)
   ·skip
    refine TS.op 4 rfl (by kernel_rfl) ?_
    refine WX.turn [] 23 rfl (fun h hs => one_sep (⟨(), _, emp, _, rfl, emp_le _, Le.refl _, emp_dj _, trivial, ⟨(), _, emp, _, rfl, emp_le _, Le.refl _, emp_dj _, trivial, ⟨(), _, emp, _, rfl, emp_le _, Le.refl _, emp_dj _, trivial, ⟨(), _, emp, _, rfl, emp_le _, Le.refl _, emp_dj _, trivial, ⟨(), _, emp, _, rfl, emp_le _, Le.refl _, emp_dj _, trivial, ⟨(), _, emp, _, rfl, emp_le _, Le.refl _, emp_dj _, trivial, rfl⟩⟩⟩⟩⟩⟩ : OwL _ _ ([(⟨#[]⟩ : Str), (⟨#[65]⟩ : Str), (⟨#[116, 111, 111, 108, 111, 110, 103, 120, 120]⟩ : Str), (⟨#[97, 47, 98]⟩ : Str), (⟨#[32]⟩ : Str), (⟨#[101, 105, 103, 104, 116, 56, 56, 56]⟩ : Str)] : List Str))) (gs := [MF.ol [.string (⟨#[]⟩ : Str), .string (⟨#[65]⟩ : Str), .string (⟨#[116, 111, 111, 108, 111, 110, 103, 120, 120]⟩ : Str), .string (⟨#[97, 47, 98]⟩ : Str), .string (⟨#[32]⟩ : Str), .string (⟨#[101, 105, 103, 104, 116, 56, 56, 56]⟩ : Str)] ([(⟨#[]⟩ : Str), (⟨#[65]⟩ : Str), (⟨#[116, 111, 111, 108, 111, 110, 103, 120, 120]⟩ : Str), (⟨#[97, 47, 98]⟩ : Str), (⟨#[32]⟩ : Str), (⟨#[101, 105, 103, 104, 116, 56, 56, 56]⟩ : Str)] : List Str)]) rfl ?_
    refine WX.seal 13 23 24 rfl rfl rfl rfl rfl ?_
    have r17 : (⟨#[]⟩ : Str).size = 0 := rfl
    have r18 : (⟨#[65]⟩ : Str).size = 1 := rfl
    have r19 : (⟨#[116, 111, 111, 108, 111, 110, 103, 120, 120]⟩ : Str).size = 9 := rfl
    have r20 : (⟨#[97, 47, 98]⟩ : Str).size = 3 := rfl
    have r21 : (⟨#[32]⟩ : Str).size = 1 := rfl
    have r22 : (⟨#[101, 105, 103, 104, 116, 56, 56, 56]⟩ : Str).size = 8 := rfl
    obtain ⟨⟨u13, u14, u15⟩, hu5⟩ : ∃ r_, spec_l1Str c_b u5 u6 ([(⟨#[]⟩ : Str), (⟨#[65]⟩ : Str), (⟨#[116, 111, 111, 108, 111, 110, 103, 120, 120]⟩ : Str), (⟨#[97, 47, 98]⟩ : Str), (⟨#[32]⟩ : Str), (⟨#[101, 105, 103, 104, 116, 56, 56, 56]⟩ : Str)]) = r_ := ⟨_, rfl⟩
    refine WX.callP (ds := fun _ => [])  999 26 rfl (fun _ _ _ => All.nil) (fun _ f hf => by cases hf) rfl rfl rfl rfl rfl (fun _ => rfl) rfl (fun w G bs H hI hH hs hΓ => f45 w n (by omega) H hH (bs 999) c_b K0 M0 (hΓ.get 0 rfl) u5 u6 ([(⟨#[]⟩ : Str), (⟨#[65]⟩ : Str), (⟨#[116, 111, 111, 108, 111, 110, 103, 120, 120]⟩ : Str), (⟨#[97, 47, 98]⟩ : Str), (⟨#[32]⟩ : Str), (⟨#[101, 105, 103, 104, 116, 56, 56, 56]⟩ : Str)]) p5 6 (hΓ.get 24 rfl) hs hokc_b hq2.2.1 hq2.2.2 (by first | assumption | omega | (simp; done) | (simp; omega)) (okl_mk (by simp; omega) (all_cons (α := Str) (Nat.le_trans (by decide) (bd_pos _)) (all_cons (α := Str) (Nat.le_trans (by decide) (bd_pos _)) (all_cons (α := Str) (Nat.le_trans (by decide) (bd_pos _)) (all_cons (α := Str) (Nat.le_trans (by decide) (bd_pos _)) (all_cons (α := Str) (Nat.le_trans (by decide) (bd_pos _)) (all_cons (α := Str) (Nat.le_trans (by decide) (bd_pos _)) (fun a ha => by cases ha))))))) : GoT.ok n ([(⟨#[]⟩ : Str), (⟨#[65]⟩ : Str), (⟨#[116, 111, 111, 108, 111, 110, 103, 120, 120]⟩ : Str), (⟨#[97, 47, 98]⟩ : Str), (⟨#[32]⟩ : Str), (⟨#[101, 105, 103, 104, 116, 56, 56, 56]⟩ : Str)] : List Str)) u13 u14 u15 hu5) (fun _ => rfl) (fun _ => rfl) ?_
    rintro ⟨⟩ hq5
    refine R0 ?_
    refine WX.back0 ?_
    refine TX.all2 1 5 (by kernel_rfl) ?_ ?_
    ·skip
     refine TS.op 1 rfl (by kernel_rfl) ?_
     refine R0 ?_
     refine WX.back0 ?_
     refine TX.tail [5, 6, 7, 8] rfl rfl (by kernel_rfl) ?_
     refine WX.bld ttOk rfl rfl rfl rfl rfl rfl rfl ?_
     intro p8
     refine WX.opn (kk := 1) 503 3 27 rfl rfl rfl ?_
     intro xs3 hx3
     refine WX.turn [] 28 rfl (fun h hs => ol_one (α := Str) (a := u13) (x := ()) hs) (gs := [MF.ol [.string u13] ([u13] : List Str)]) rfl ?_
     have r23 : (u1.parts).length ≤ bd n := (okl (ok_Name hq1.1)).1
     have r24 : (u13).size ≤ bd n := hq5.1
     refine WX.know (fun G hΓ => (hΓ.get 28 rfl : OwL _ _ _).rd.one) ?_
     intro ho3
     refine WX.appR1 503 15 ((u1.parts ++ [u13]) : List Str).length ttOk rfl rfl rfl rfl rfl rfl rfl rfl rfl rfl rfl rfl rfl ho3 (by simp) (by simp; omega) (by simp; omega) (fun _ _ => rfl) ?_
     intro p9 c4
     refine WX.turn [27, 28] 29 rfl (fun h hs => ol_app hs) (gs := [MF.ol (xs3 ++ [.string u13]) ((u1.parts ++ [u13]) : List Str)]) rfl ?_
     refine R0 ?_
     refine WX.seal 503 29 30 rfl rfl rfl rfl rfl ?_
     have hP3 : spec_l4Any c_b c_i c_h = (Name.mk (u1.parts ++ [u13]), u14, u15) := by simp only [spec_l4Any, hu1, hu2, h1, hu5, ct, cf]
     have hz1 := hP3.symm.trans hres
     obtain ⟨hz1, hz2⟩ := Prod.mk.inj hz1
     obtain ⟨hz2, hz3⟩ := Prod.mk.inj hz2
     subst hz1
     subst hz2
     subst hz3
     refine R1 ?_
     intro w1 G bs hI hΓ
     exact Post.ofL 999 [31] (p9, c4) hI hΓ rfl rfl rfl (by rw [hI.pin _ rfl]; first | done | rfl) (⟨(okl_mk (by simp; omega) (all_app (okl (ok_Name hq1.1)).2 (all_cons (α := Str) hq5.1 (fun a ha => by cases ha))) : GoT.ok n ((u1.parts ++ [u13]) : List Str)), ⟨hq5.2.1, hq5.2.2⟩⟩)
    ·skip
     refine TS.op 5 rfl (by kernel_rfl) ?_
     refine WX.bld ttOk rfl rfl rfl rfl rfl rfl rfl ?_
     intro p10
     refine R0 ?_
     refine WX.back0 ?_
     refine TX.tail [1, 6, 7, 8] rfl rfl (by kernel_rfl) ?_
     refine R0 ?_
     refine WX.opn (kk := 1) 504 3 32 rfl rfl rfl ?_
     intro xs4 hx4
     refine WX.turn [] 33 rfl (fun h hs => ol_one (α := Str) (a := u13) (x := ()) hs) (gs := [MF.ol [.string u13] ([u13] : List Str)]) rfl ?_
     have r25 : (u1.parts).length ≤ bd n := (okl (ok_Name hq1.1)).1
     have r26 : (u13).size ≤ bd n := hq5.1
     refine WX.know (fun G hΓ => (hΓ.get 33 rfl : OwL _ _ _).rd.one) ?_
     intro ho4
     refine WX.appR1 504 15 ((u1.parts ++ [u13]) : List Str).length ttOk rfl rfl rfl rfl rfl rfl rfl rfl rfl rfl rfl rfl rfl ho4 (by simp) (by simp; omega) (by simp; omega) (fun _ _ => rfl) ?_
     intro p11 c5
     refine WX.turn [32, 33] 34 rfl (fun h hs => ol_app hs) (gs := [MF.ol (xs4 ++ [.string u13]) ((u1.parts ++ [u13]) : List Str)]) rfl ?_
     refine R0 ?_
     refine WX.seal 504 34 35 rfl rfl rfl rfl rfl ?_
     have hP4 : spec_l4Any c_b c_i c_h = (Name.mk (u1.parts ++ [u13]), u14, u15) := by simp only [spec_l4Any, hu1, hu2, h1, hu5, ct, cf]
     have hz1 := hP4.symm.trans hres
     obtain ⟨hz1, hz2⟩ := Prod.mk.inj hz1
     obtain ⟨hz2, hz3⟩ := Prod.mk.inj hz2
     subst hz1
     subst hz2
     subst hz3
     refine R1 ?_
     intro w1 G bs hI hΓ
     exact Post.ofL 999 [36] (p11, c5) hI hΓ rfl rfl rfl (by rw [hI.pin _ rfl]; first | done | rfl) (⟨(okl_mk (by simp; omega) (all_app (okl (ok_Name hq1.1)).2 (all_cons (α := Str) hq5.1 (fun a ha => by cases ha))) : GoT.ok n ((u1.parts ++ [u13]) : List Str)), ⟨hq5.2.1, hq5.2.2⟩⟩)
 ·skip
  have h1d := B.ef h1
  refine R0 ?_
  refine WX.cases 18 rfl (fun h2 => ?_) (fun h2 => ?_)
  ·skip
   have h2d := B.et h2
   refine R0 ?_
   refine WX.loop (ι := (Option Addr) × Nat × (List Str) × Int × Int) ⟨fun | (pn_, cn_, n_, u999_i, u999_h) => (n_.length ≤ bd n ∧ ∀ z_ ∈ n_, GoT.ok n z_) ∧ (NN u999_i) ∧ (-9223372036854775808 ≤ u999_h ∧ u999_h ≤ 9223372036854775807) ∧ (n_.length ≤ 7) ∧ (spec_l4Any_L1 c_b (u1.parts : List Str) u5 u6 = spec_l4Any_L1 c_b n_ u999_i u999_h), fun | (pn_, cn_, n_, u999_i, u999_h) => 7 - n_.length, fun | (pn_, cn_, n_, u999_i, u999_h) => [(3, .p 3 0), (2, .p 2 0), (0, .p 999 0)], fun | (pn_, cn_, n_, u999_i, u999_h) => [(3, ⟨41, [.slice pn_ ((n_).length) cn_]⟩), (2, ⟨41, [.slice none (0) 0]⟩), (999, ⟨80, [.slice K0 ((c_b).length) M0, .int .i64 (u999_i), .int .i64 (u999_h)]⟩)], fun | (pn_, cn_, n_, u999_i, u999_h) => [], fun | (pn_, cn_, n_, u999_i, u999_h) => [(0, MF.rs .stb K0 M0 c_b), (3, MF.os pn_ cn_ n_)]⟩ (p1, c1, (u1.parts : List Str), u5, u6) ⟨(ok_Name hq1.1), hq2.2.1, hq2.2.2, (by omega), rfl⟩
    (.cons rfl (.cons rfl (.cons rfl (.nil)))) (.cons rfl (.cons rfl (.cons rfl (.nil)))) .nil [0, 3] rfl ?_
   rintro ⟨pn_, cn_, n_, u999_i, u999_h⟩ hpre
   have hpre_ : (n_.length ≤ bd n ∧ ∀ z_ ∈ n_, GoT.ok n z_) ∧ (NN u999_i) ∧ (-9223372036854775808 ≤ u999_h ∧ u999_h ≤ 9223372036854775807) ∧ (n_.length ≤ 7) ∧ (spec_l4Any_L1 c_b (u1.parts : List Str) u5 u6 = spec_l4Any_L1 c_b n_ u999_i u999_h) := hpre
   clear hpre
   obtain ⟨v1, v2, v3, v4, v5⟩ := hpre_
   have v1L := v1.1
   refine R0 ?_
   refine WX.der 37 (MF.rs .der pn_ cn_ n_) rfl (fun _ hΓ => (hΓ.get 3 rfl : OwSl _ _ _ _).rd) ?_
   refine WX.draw [1, 2, 4, 5, 6] mixed ?_
   intro bs G0 hΓ0
   refine DX.takes (fuel := 5) ttOk [(0, true), (3, true)] (by kernel_rfl) rfl ?_
   refine DX.toTX ?_
   intro S_
   refine TX.all2 1 4 (by kernel_rfl) ?_ ?_
   ·skip
    refine TS.op 1 rfl (by kernel_rfl) ?_
    refine R0 ?_
    refine WX.back0 ?_
    refine TX.all2 2 4 (by kernel_rfl) ?_ ?_
    ·skip
     refine TS.op 2 rfl (by kernel_rfl) ?_
     refine R0 ?_
     refine WX.back0 ?_
     refine TX.tail [4, 5, 6] rfl rfl (by kernel_rfl) ?_
     obtain ⟨⟨u16, u17, u18⟩, hu6⟩ : ∃ r_, spec_l1Below c_b u999_i u999_h 3 = r_ := ⟨_, rfl⟩
     refine WX.callP (ds := fun _ => [])  999 38 rfl (fun _ _ _ => All.nil) (fun _ f hf => by cases hf) rfl rfl rfl rfl rfl (fun _ => rfl) rfl (fun w G bs H hI hH hs hΓ => f35 w n (by omega) H hH (bs 999) c_b K0 M0 (hΓ.get 0 rfl) u999_i u999_h 3 hs hokc_b v2 v3 (show I64 3 from (by unfold I64; omega)) u16 u17 u18 hu6) (fun _ => rfl) (fun _ => rfl) ?_
     rintro ⟨⟩ hq6
     have q3 := l1Below_rng c_b u999_i u999_h 3
     rw [hu6] at q3
     try dsimp only at q3
     have r27 : -9223372036854775808 ≤ u16 ∧ u16 ≤ 9223372036854775807 := hq6.1
     refine WX.see rfl rfl rfl (fun _ hΓ => looks_arith rfl rfl rfl rfl (by unfold I64; first | omega | (simp only [List.length_take] at *; omega))) ?_
     refine R0 ?_
     refine WX.cases 26 rfl (fun h3 => ?_) (fun h3 => ?_)
     ·skip
      have h3d := B.dt h3
      refine R0 ?_
      refine WX.bld ttOk rfl rfl rfl rfl rfl rfl rfl ?_
      intro p12
      refine WX.opn (kk := 1) 505 3 39 rfl rfl rfl ?_
      intro xs5 hx5
      refine WX.turn [] 40 rfl (fun h hs => ol_one (α := Str) (a := (⟨#[109]⟩ : Str)) (x := ()) hs) (gs := [MF.ol [.string (⟨#[109]⟩ : Str)] ([(⟨#[109]⟩ : Str)] : List Str)]) rfl ?_
      have r28 : (⟨#[109]⟩ : Str).size = 1 := rfl
      refine WX.know (fun G hΓ => (hΓ.get 40 rfl : OwL _ _ _).rd.one) ?_
      intro ho5
      refine WX.appR1 505 29 ((n_ ++ [(⟨#[109]⟩ : Str)]) : List Str).length ttOk rfl rfl rfl rfl rfl rfl rfl rfl rfl rfl rfl rfl rfl ho5 (by simp) (by simp; omega) (by simp; omega) (fun _ _ => rfl) ?_
      intro p13 c6
      refine WX.turn [39, 40] 41 rfl (fun h hs => ol_app hs) (gs := [MF.ol (xs5 ++ [.string (⟨#[109]⟩ : Str)]) ((n_ ++ [(⟨#[109]⟩ : Str)]) : List Str)]) rfl ?_
      refine R0 ?_
      refine WX.seal 505 41 42 rfl rfl rfl rfl rfl ?_
      refine WX.turn [43] 3 rfl (fun _ h => h) rfl ?_
      exact WX.iter (p13, c6, (n_ ++ [(⟨#[109]⟩ : Str)]), u17, u18) ⟨(okl_mk (by simp; omega) (all_app v1.2 (all_cons (α := Str) (Nat.le_trans (by decide) (bd_pos _)) (fun a ha => by cases ha))) : GoT.ok n ((n_ ++ [(⟨#[109]⟩ : Str)]) : List Str)), hq6.2.1, hq6.2.2, (by first | assumption | omega | (simp; omega)), (by rw [v5]; rw [spec_l4Any_L1]; simp only [hu6, h3, h3d, ct, cf, ↓reduceIte, Bool.false_eq_true])⟩ (by dsimp only; simp only [List.length_append, List.length_cons, List.length_nil]; omega) (.cons rfl (.cons rfl (.cons rfl (.nil)))) (.cons rfl (.cons rfl (.cons rfl (.nil)))) .nil [0, 3] rfl
     ·skip
      have h3d := B.df h3
      refine R0 ?_
      have hX1 : spec_l4Any_L1 c_b (u1.parts : List Str) u5 u6 = (((n_) : List Str), u17, u18) := by rw [v5]; rw [spec_l4Any_L1]; simp only [hu6, h3, h3d, ct, cf, ↓reduceIte, Bool.false_eq_true]
      have hP5 : spec_l4Any c_b c_i c_h = (Name.mk n_, u17, u18) := by simp only [spec_l4Any, hu1, hu2, h1, h2, hX1, ct, cf]
      have hz1 := hP5.symm.trans hres
      obtain ⟨hz1, hz2⟩ := Prod.mk.inj hz1
      obtain ⟨hz2, hz3⟩ := Prod.mk.inj hz2
      subst hz1
      subst hz2
      subst hz3
      refine R1 ?_
      intro w1 G bs hI hΓ
      exact Post.ofL 999 [3] (pn_, cn_) hI hΓ rfl rfl rfl (by rw [hI.pin _ rfl]; first | done | rfl) (⟨(okl_of v1), ⟨hq6.2.1, hq6.2.2⟩⟩)
    ·skip
     refine TS.op 4 rfl (by kernel_rfl) ?_
     obtain ⟨⟨u19, u20, u21⟩, hu7⟩ : ∃ r_, spec_l1Below c_b u999_i u999_h 3 = r_ := ⟨_, rfl⟩
     refine WX.callP (ds := fun _ => [])  999 44 rfl (fun _ _ _ => All.nil) (fun _ f hf => by cases hf) rfl rfl rfl rfl rfl (fun _ => rfl) rfl (fun w G bs H hI hH hs hΓ => f35 w n (by omega) H hH (bs 999) c_b K0 M0 (hΓ.get 0 rfl) u999_i u999_h 3 hs hokc_b v2 v3 (show I64 3 from (by unfold I64; omega)) u19 u20 u21 hu7) (fun _ => rfl) (fun _ => rfl) ?_
     rintro ⟨⟩ hq7
     have q4 := l1Below_rng c_b u999_i u999_h 3
     rw [hu7] at q4
     try dsimp only at q4
     refine R0 ?_
     refine WX.back0 ?_
     refine TX.all2 2 5 (by kernel_rfl) ?_ ?_
     ·skip
      refine TS.op 2 rfl (by kernel_rfl) ?_
      refine R0 ?_
      refine WX.back0 ?_
      refine TX.tail [5, 6] rfl rfl (by kernel_rfl) ?_
      have r29 : -9223372036854775808 ≤ u19 ∧ u19 ≤ 9223372036854775807 := hq7.1
      refine WX.see rfl rfl rfl (fun _ hΓ => looks_arith rfl rfl rfl rfl (by unfold I64; first | omega | (simp only [List.length_take] at *; omega))) ?_
      refine R0 ?_
      refine WX.cases 26 rfl (fun h4 => ?_) (fun h4 => ?_)
      ·skip
       have h4d := B.dt h4
       refine R0 ?_
       refine WX.bld ttOk rfl rfl rfl rfl rfl rfl rfl ?_
       intro p14
       refine WX.opn (kk := 1) 506 3 45 rfl rfl rfl ?_
       intro xs6 hx6
       refine WX.turn [] 46 rfl (fun h hs => ol_one (α := Str) (a := (⟨#[109]⟩ : Str)) (x := ()) hs) (gs := [MF.ol [.string (⟨#[109]⟩ : Str)] ([(⟨#[109]⟩ : Str)] : List Str)]) rfl ?_
       have r30 : (⟨#[109]⟩ : Str).size = 1 := rfl
       refine WX.know (fun G hΓ => (hΓ.get 46 rfl : OwL _ _ _).rd.one) ?_
       intro ho6
       refine WX.appR1 506 29 ((n_ ++ [(⟨#[109]⟩ : Str)]) : List Str).length ttOk rfl rfl rfl rfl rfl rfl rfl rfl rfl rfl rfl rfl rfl ho6 (by simp) (by simp; omega) (by simp; omega) (fun _ _ => rfl) ?_
       intro p15 c7
       refine WX.turn [45, 46] 47 rfl (fun h hs => ol_app hs) (gs := [MF.ol (xs6 ++ [.string (⟨#[109]⟩ : Str)]) ((n_ ++ [(⟨#[109]⟩ : Str)]) : List Str)]) rfl ?_
       refine R0 ?_
       refine WX.seal 506 47 48 rfl rfl rfl rfl rfl ?_
       refine WX.turn [49] 3 rfl (fun _ h => h) rfl ?_
       exact WX.iter (p15, c7, (n_ ++ [(⟨#[109]⟩ : Str)]), u20, u21) ⟨(okl_mk (by simp; omega) (all_app v1.2 (all_cons (α := Str) (Nat.le_trans (by decide) (bd_pos _)) (fun a ha => by cases ha))) : GoT.ok n ((n_ ++ [(⟨#[109]⟩ : Str)]) : List Str)), hq7.2.1, hq7.2.2, (by first | assumption | omega | (simp; omega)), (by rw [v5]; rw [spec_l4Any_L1]; simp only [hu7, h4, h4d, ct, cf, ↓reduceIte, Bool.false_eq_true])⟩ (by dsimp only; simp only [List.length_append, List.length_cons, List.length_nil]; omega) (.cons rfl (.cons rfl (.cons rfl (.nil)))) (.cons rfl (.cons rfl (.cons rfl (.nil)))) .nil [0, 3] rfl
      ·skip
       have h4d := B.df h4
       refine R0 ?_
       have hX2 : spec_l4Any_L1 c_b (u1.parts : List Str) u5 u6 = (((n_) : List Str), u20, u21) := by rw [v5]; rw [spec_l4Any_L1]; simp only [hu7, h4, h4d, ct, cf, ↓reduceIte, Bool.false_eq_true]
       have hP6 : spec_l4Any c_b c_i c_h = (Name.mk n_, u20, u21) := by simp only [spec_l4Any, hu1, hu2, h1, h2, hX2, ct, cf]
       have hz1 := hP6.symm.trans hres
       obtain ⟨hz1, hz2⟩ := Prod.mk.inj hz1
       obtain ⟨hz2, hz3⟩ := Prod.mk.inj hz2
       subst hz1
       subst hz2
       subst hz3
       refine R1 ?_
       intro w1 G bs hI hΓ
       exact Post.ofL 999 [3] (pn_, cn_) hI hΓ rfl rfl rfl (by rw [hI.pin _ rfl]; first | done | rfl) (⟨(okl_of v1), ⟨hq7.2.1, hq7.2.2⟩⟩)
     ·skip
      refine TS.op 5 rfl (by kernel_rfl) ?_
      have r31 : -9223372036854775808 ≤ u19 ∧ u19 ≤ 9223372036854775807 := hq7.1
      refine WX.see rfl rfl rfl (fun _ hΓ => looks_arith rfl rfl rfl rfl (by unfold I64; first | omega | (simp only [List.length_take] at *; omega))) ?_
      refine R0 ?_
      refine WX.back0 ?_
      refine TX.tail [2, 6] rfl rfl (by kernel_rfl) ?_
      refine R0 ?_
      refine WX.cases 26 rfl (fun h5 => ?_) (fun h5 => ?_)
      ·skip
       have h5d := B.dt h5
       refine R0 ?_
       refine WX.bld ttOk rfl rfl rfl rfl rfl rfl rfl ?_
       intro p16
       refine WX.opn (kk := 1) 507 3 50 rfl rfl rfl ?_
       intro xs7 hx7
       refine WX.turn [] 51 rfl (fun h hs => ol_one (α := Str) (a := (⟨#[109]⟩ : Str)) (x := ()) hs) (gs := [MF.ol [.string (⟨#[109]⟩ : Str)] ([(⟨#[109]⟩ : Str)] : List Str)]) rfl ?_
       have r32 : (⟨#[109]⟩ : Str).size = 1 := rfl
       refine WX.know (fun G hΓ => (hΓ.get 51 rfl : OwL _ _ _).rd.one) ?_
       intro ho7
       refine WX.appR1 507 29 ((n_ ++ [(⟨#[109]⟩ : Str)]) : List Str).length ttOk rfl rfl rfl rfl rfl rfl rfl rfl rfl rfl rfl rfl rfl ho7 (by simp) (by simp; omega) (by simp; omega) (fun _ _ => rfl) ?_
       intro p17 c8
       refine WX.turn [50, 51] 52 rfl (fun h hs => ol_app hs) (gs := [MF.ol (xs7 ++ [.string (⟨#[109]⟩ : Str)]) ((n_ ++ [(⟨#[109]⟩ : Str)]) : List Str)]) rfl ?_
       refine R0 ?_
       refine WX.seal 507 52 53 rfl rfl rfl rfl rfl ?_
       refine WX.turn [54] 3 rfl (fun _ h => h) rfl ?_
       exact WX.iter (p17, c8, (n_ ++ [(⟨#[109]⟩ : Str)]), u20, u21) ⟨(okl_mk (by simp; omega) (all_app v1.2 (all_cons (α := Str) (Nat.le_trans (by decide) (bd_pos _)) (fun a ha => by cases ha))) : GoT.ok n ((n_ ++ [(⟨#[109]⟩ : Str)]) : List Str)), hq7.2.1, hq7.2.2, (by first | assumption | omega | (simp; omega)), (by rw [v5]; rw [spec_l4Any_L1]; simp only [hu7, h5, h5d, ct, cf, ↓reduceIte, Bool.false_eq_true])⟩ (by dsimp only; simp only [List.length_append, List.length_cons, List.length_nil]; omega) (.cons rfl (.cons rfl (.cons rfl (.nil)))) (.cons rfl (.cons rfl (.cons rfl (.nil)))) .nil [0, 3] rfl
      ·skip
       have h5d := B.df h5
       refine R0 ?_
       have hX3 : spec_l4Any_L1 c_b (u1.parts : List Str) u5 u6 = (((n_) : List Str), u20, u21) := by rw [v5]; rw [spec_l4Any_L1]; simp only [hu7, h5, h5d, ct, cf, ↓reduceIte, Bool.false_eq_true]
       have hP7 : spec_l4Any c_b c_i c_h = (Name.mk n_, u20, u21) := by simp only [spec_l4Any, hu1, hu2, h1, h2, hX3, ct, cf]
       have hz1 := hP7.symm.trans hres
       obtain ⟨hz1, hz2⟩ := Prod.mk.inj hz1
       obtain ⟨hz2, hz3⟩ := Prod.mk.inj hz2
       subst hz1
       subst hz2
       subst hz3
       refine R1 ?_
       intro w1 G bs hI hΓ
       exact Post.ofL 999 [3] (pn_, cn_) hI hΓ rfl rfl rfl (by rw [hI.pin _ rfl]; first | done | rfl) (⟨(okl_of v1), ⟨hq7.2.1, hq7.2.2⟩⟩)
   ·skip
    refine TS.op 4 rfl (by kernel_rfl) ?_
    obtain ⟨⟨u22, u23, u24⟩, hu8⟩ : ∃ r_, spec_l1Below c_b u999_i u999_h 3 = r_ := ⟨_, rfl⟩
    refine WX.callP (ds := fun _ => [])  999 55 rfl (fun _ _ _ => All.nil) (fun _ f hf => by cases hf) rfl rfl rfl rfl rfl (fun _ => rfl) rfl (fun w G bs H hI hH hs hΓ => f35 w n (by omega) H hH (bs 999) c_b K0 M0 (hΓ.get 0 rfl) u999_i u999_h 3 hs hokc_b v2 v3 (show I64 3 from (by unfold I64; omega)) u22 u23 u24 hu8) (fun _ => rfl) (fun _ => rfl) ?_
    rintro ⟨⟩ hq8
    have q5 := l1Below_rng c_b u999_i u999_h 3
    rw [hu8] at q5
    try dsimp only at q5
    refine R0 ?_
    refine WX.back0 ?_
    refine TX.all2 1 5 (by kernel_rfl) ?_ ?_
    ·skip
     refine TS.op 1 rfl (by kernel_rfl) ?_
     refine R0 ?_
     refine WX.back0 ?_
     refine TX.all2 2 5 (by kernel_rfl) ?_ ?_
     ·skip
      refine TS.op 2 rfl (by kernel_rfl) ?_
      refine R0 ?_
      refine WX.back0 ?_
      refine TX.tail [5, 6] rfl rfl (by kernel_rfl) ?_
      have r33 : -9223372036854775808 ≤ u22 ∧ u22 ≤ 9223372036854775807 := hq8.1
      refine WX.see rfl rfl rfl (fun _ hΓ => looks_arith rfl rfl rfl rfl (by unfold I64; first | omega | (simp only [List.length_take] at *; omega))) ?_
      refine R0 ?_
      refine WX.cases 26 rfl (fun h6 => ?_) (fun h6 => ?_)
      ·skip
       have h6d := B.dt h6
       refine R0 ?_
       refine WX.bld ttOk rfl rfl rfl rfl rfl rfl rfl ?_
       intro p18
       refine WX.opn (kk := 1) 508 3 56 rfl rfl rfl ?_
       intro xs8 hx8
       refine WX.turn [] 57 rfl (fun h hs => ol_one (α := Str) (a := (⟨#[109]⟩ : Str)) (x := ()) hs) (gs := [MF.ol [.string (⟨#[109]⟩ : Str)] ([(⟨#[109]⟩ : Str)] : List Str)]) rfl ?_
       have r34 : (⟨#[109]⟩ : Str).size = 1 := rfl
       refine WX.know (fun G hΓ => (hΓ.get 57 rfl : OwL _ _ _).rd.one) ?_
       intro ho8
       refine WX.appR1 508 29 ((n_ ++ [(⟨#[109]⟩ : Str)]) : List Str).length ttOk rfl rfl rfl rfl rfl rfl rfl rfl rfl rfl rfl rfl rfl ho8 (by simp) (by simp; omega) (by simp; omega) (fun _ _ => rfl) ?_
       intro p19 c9
       refine WX.turn [56, 57] 58 rfl (fun h hs => ol_app hs) (gs := [MF.ol (xs8 ++ [.string (⟨#[109]⟩ : Str)]) ((n_ ++ [(⟨#[109]⟩ : Str)]) : List Str)]) rfl ?_
       refine R0 ?_
       refine WX.seal 508 58 59 rfl rfl rfl rfl rfl ?_
       refine WX.turn [60] 3 rfl (fun _ h => h) rfl ?_
       exact WX.iter (p19, c9, (n_ ++ [(⟨#[109]⟩ : Str)]), u23, u24) ⟨(okl_mk (by simp; omega) (all_app v1.2 (all_cons (α := Str) (Nat.le_trans (by decide) (bd_pos _)) (fun a ha => by cases ha))) : GoT.ok n ((n_ ++ [(⟨#[109]⟩ : Str)]) : List Str)), hq8.2.1, hq8.2.2, (by first | assumption | omega | (simp; omega)), (by rw [v5]; rw [spec_l4Any_L1]; simp only [hu8, h6, h6d, ct, cf, ↓reduceIte, Bool.false_eq_true])⟩ (by dsimp only; simp only [List.length_append, List.length_cons, List.length_nil]; omega) (.cons rfl (.cons rfl (.cons rfl (.nil)))) (.cons rfl (.cons rfl (.cons rfl (.nil)))) .nil [0, 3] rfl
      ·skip
       have h6d := B.df h6
       refine R0 ?_
       have hX4 : spec_l4Any_L1 c_b (u1.parts : List Str) u5 u6 = (((n_) : List Str), u23, u24) := by rw [v5]; rw [spec_l4Any_L1]; simp only [hu8, h6, h6d, ct, cf, ↓reduceIte, Bool.false_eq_true]
       have hP8 : spec_l4Any c_b c_i c_h = (Name.mk n_, u23, u24) := by simp only [spec_l4Any, hu1, hu2, h1, h2, hX4, ct, cf]
       have hz1 := hP8.symm.trans hres
       obtain ⟨hz1, hz2⟩ := Prod.mk.inj hz1
       obtain ⟨hz2, hz3⟩ := Prod.mk.inj hz2
       subst hz1
       subst hz2
       subst hz3
       refine R1 ?_
       intro w1 G bs hI hΓ
       exact Post.ofL 999 [3] (pn_, cn_) hI hΓ rfl rfl rfl (by rw [hI.pin _ rfl]; first | done | rfl) (⟨(okl_of v1), ⟨hq8.2.1, hq8.2.2⟩⟩)
     ·skip
      refine TS.op 5 rfl (by kernel_rfl) ?_
      have r35 : -9223372036854775808 ≤ u22 ∧ u22 ≤ 9223372036854775807 := hq8.1
      refine WX.see rfl rfl rfl (fun _ hΓ => looks_arith rfl rfl rfl rfl (by unfold I64; first | omega | (simp only [List.length_take] at *; omega))) ?_
      refine R0 ?_
      refine WX.back0 ?_
      refine TX.tail [2, 6] rfl rfl (by kernel_rfl) ?_
      refine R0 ?_
      refine WX.cases 26 rfl (fun h7 => ?_) (fun h7 => ?_)
      ·skip
       have h7d := B.dt h7
       refine R0 ?_
       refine WX.bld ttOk rfl rfl rfl rfl rfl rfl rfl ?_
       intro p20
       refine WX.opn (kk := 1) 509 3 61 rfl rfl rfl ?_
       intro xs9 hx9
       refine WX.turn [] 62 rfl (fun h hs => ol_one (α := Str) (a := (⟨#[109]⟩ : Str)) (x := ()) hs) (gs := [MF.ol [.string (⟨#[109]⟩ : Str)] ([(⟨#[109]⟩ : Str)] : List Str)]) rfl ?_
       have r36 : (⟨#[109]⟩ : Str).size = 1 := rfl
       refine WX.know (fun G hΓ => (hΓ.get 62 rfl : OwL _ _ _).rd.one) ?_
       intro ho9
       refine WX.appR1 509 29 ((n_ ++ [(⟨#[109]⟩ : Str)]) : List Str).length ttOk rfl rfl rfl rfl rfl rfl rfl rfl rfl rfl rfl rfl rfl ho9 (by simp) (by simp; omega) (by simp; omega) (fun _ _ => rfl) ?_
       intro p21 c10
       refine WX.turn [61, 62] 63 rfl (fun h hs => ol_app hs) (gs := [MF.ol (xs9 ++ [.string (⟨#[109]⟩ : Str)]) ((n_ ++ [(⟨#[109]⟩ : Str)]) : List Str)]) rfl ?_
       refine R0 ?_
       refine WX.seal 509 63 64 rfl rfl rfl rfl rfl ?_
       refine WX.turn [65] 3 rfl (fun _ h => h) rfl ?_
       exact WX.iter (p21, c10, (n_ ++ [(⟨#[109]⟩ : Str)]), u23, u24) ⟨(okl_mk (by simp; omega) (all_app v1.2 (all_cons (α := Str) (Nat.le_trans (by decide) (bd_pos _)) (fun a ha => by cases ha))) : GoT.ok n ((n_ ++ [(⟨#[109]⟩ : Str)]) : List Str)), hq8.2.1, hq8.2.2, (by first | assumption | omega | (simp; omega)), (by rw [v5]; rw [spec_l4Any_L1]; simp only [hu8, h7, h7d, ct, cf, ↓reduceIte, Bool.false_eq_true])⟩ (by dsimp only; simp only [List.length_append, List.length_cons, List.length_nil]; omega) (.cons rfl (.cons rfl (.cons rfl (.nil)))) (.cons rfl (.cons rfl (.cons rfl (.nil)))) .nil [0, 3] rfl
      ·skip
       have h7d := B.df h7
       refine R0 ?_
       have hX5 : spec_l4Any_L1 c_b (u1.parts : List Str) u5 u6 = (((n_) : List Str), u23, u24) := by rw [v5]; rw [spec_l4Any_L1]; simp only [hu8, h7, h7d, ct, cf, ↓reduceIte, Bool.false_eq_true]
       have hP9 : spec_l4Any c_b c_i c_h = (Name.mk n_, u23, u24) := by simp only [spec_l4Any, hu1, hu2, h1, h2, hX5, ct, cf]
       have hz1 := hP9.symm.trans hres
       obtain ⟨hz1, hz2⟩ := Prod.mk.inj hz1
       obtain ⟨hz2, hz3⟩ := Prod.mk.inj hz2
       subst hz1
       subst hz2
       subst hz3
       refine R1 ?_
       intro w1 G bs hI hΓ
       exact Post.ofL 999 [3] (pn_, cn_) hI hΓ rfl rfl rfl (by rw [hI.pin _ rfl]; first | done | rfl) (⟨(okl_of v1), ⟨hq8.2.1, hq8.2.2⟩⟩)
    ·skip
     refine TS.op 5 rfl (by kernel_rfl) ?_
     have r37 : -9223372036854775808 ≤ u22 ∧ u22 ≤ 9223372036854775807 := hq8.1
     refine WX.see rfl rfl rfl (fun _ hΓ => looks_arith rfl rfl rfl rfl (by unfold I64; first | omega | (simp only [List.length_take] at *; omega))) ?_
     refine R0 ?_
     refine WX.back0 ?_
     refine TX.tail [1, 2, 6] rfl rfl (by kernel_rfl) ?_
     refine R0 ?_
     refine WX.cases 26 rfl (fun h8 => ?_) (fun h8 => ?_)
     ·skip
      have h8d := B.dt h8
      refine R0 ?_
      refine WX.bld ttOk rfl rfl rfl rfl rfl rfl rfl ?_
      intro p22
      refine WX.opn (kk := 1) 510 3 66 rfl rfl rfl ?_
      intro xs10 hx10
      refine WX.turn [] 67 rfl (fun h hs => ol_one (α := Str) (a := (⟨#[109]⟩ : Str)) (x := ()) hs) (gs := [MF.ol [.string (⟨#[109]⟩ : Str)] ([(⟨#[109]⟩ : Str)] : List Str)]) rfl ?_
      have r38 : (⟨#[109]⟩ : Str).size = 1 := rfl
      refine WX.know (fun G hΓ => (hΓ.get 67 rfl : OwL _ _ _).rd.one) ?_
      intro ho10
      refine WX.appR1 510 29 ((n_ ++ [(⟨#[109]⟩ : Str)]) : List Str).length ttOk rfl rfl rfl rfl rfl rfl rfl rfl rfl rfl rfl rfl rfl ho10 (by simp) (by simp; omega) (by simp; omega) (fun _ _ => rfl) ?_
      intro p23 c11
      refine WX.turn [66, 67] 68 rfl (fun h hs => ol_app hs) (gs := [MF.ol (xs10 ++ [.string (⟨#[109]⟩ : Str)]) ((n_ ++ [(⟨#[109]⟩ : Str)]) : List Str)]) rfl ?_
      refine R0 ?_
      refine WX.seal 510 68 69 rfl rfl rfl rfl rfl ?_
      refine WX.turn [70] 3 rfl (fun _ h => h) rfl ?_
      exact WX.iter (p23, c11, (n_ ++ [(⟨#[109]⟩ : Str)]), u23, u24) ⟨(okl_mk (by simp; omega) (all_app v1.2 (all_cons (α := Str) (Nat.le_trans (by decide) (bd_pos _)) (fun a ha => by cases ha))) : GoT.ok n ((n_ ++ [(⟨#[109]⟩ : Str)]) : List Str)), hq8.2.1, hq8.2.2, (by first | assumption | omega | (simp; omega)), (by rw [v5]; rw [spec_l4Any_L1]; simp only [hu8, h8, h8d, ct, cf, ↓reduceIte, Bool.false_eq_true])⟩ (by dsimp only; simp only [List.length_append, List.length_cons, List.length_nil]; omega) (.cons rfl (.cons rfl (.cons rfl (.nil)))) (.cons rfl (.cons rfl (.cons rfl (.nil)))) .nil [0, 3] rfl
     ·skip
      have h8d := B.df h8
      refine R0 ?_
      have hX6 : spec_l4Any_L1 c_b (u1.parts : List Str) u5 u6 = (((n_) : List Str), u23, u24) := by rw [v5]; rw [spec_l4Any_L1]; simp only [hu8, h8, h8d, ct, cf, ↓reduceIte, Bool.false_eq_true]
      have hP10 : spec_l4Any c_b c_i c_h = (Name.mk n_, u23, u24) := by simp only [spec_l4Any, hu1, hu2, h1, h2, hX6, ct, cf]
      have hz1 := hP10.symm.trans hres
      obtain ⟨hz1, hz2⟩ := Prod.mk.inj hz1
      obtain ⟨hz2, hz3⟩ := Prod.mk.inj hz2
      subst hz1
      subst hz2
      subst hz3
      refine R1 ?_
      intro w1 G bs hI hΓ
      exact Post.ofL 999 [3] (pn_, cn_) hI hΓ rfl rfl rfl (by rw [hI.pin _ rfl]; first | done | rfl) (⟨(okl_of v1), ⟨hq8.2.1, hq8.2.2⟩⟩)
  ·skip
   have h2d := B.ef h2
   refine R0 ?_
   have hP11 : spec_l4Any c_b c_i c_h = (u1, u5, u6) := by simp only [spec_l4Any, hu1, hu2, h1, h2, ct, cf]
   have hz1 := hP11.symm.trans hres
   obtain ⟨hz1, hz2⟩ := Prod.mk.inj hz1
   obtain ⟨hz2, hz3⟩ := Prod.mk.inj hz2
   subst hz1
   subst hz2
   subst hz3
   refine R1 ?_
   intro w1 G bs hI hΓ
   exact Post.ofL 999 [3] (p1, c1) hI hΓ rfl rfl rfl (by rw [hI.pin _ rfl]; first | done | rfl) (⟨hq1.1, ⟨hq2.2.1, hq2.2.2⟩⟩)
theorem f39 (w : World) (n : Nat) (hn : n + 1 ≤ 9) (H : GH) (hH : Le H (hp w)) (bc_ : Nat) (c_b : (List UInt8)) (K0 : Option Addr) (M0 : Nat) (N0 : RdSl (cut (hp w) H) K0 M0 c_b) (c_i : Int) (c_h : Int) (b : (List UInt8)) (pb : Option Addr) (cb : Nat) (N1 : RdSl (cut (hp w) H) pb cb b) (hown : Sep H [MF.bx bc_ 80 [.slice K0 ((c_b).length) M0, .int .i64 (c_i), .int .i64 (c_h)]]) (hokc_b : GoT.ok n c_b) (hokc_i : NN c_i) (hokc_h : GoT.ok n c_h) (hokb : GoT.ok n b) (o0_ : (List UInt8)) (o1_ : Int) (o2_ : Int) (hres : spec_l1Bent c_b c_i c_h b = (o0_, o1_, o2_)) :
  Does Try.prog 39 #[.pointer (some ⟨bc_, 0, none⟩), .slice pb ((b).length) cb] w H (Post w H (fun x : GoT.X ((List UInt8)) => (GoT.sh (o0_ : (List UInt8)) x).headD undef) (fun x => MF.bx bc_ 80 [.slice K0 ((c_b).length) M0, .int .i64 (o1_), .int .i64 (o2_)] :: GoT.oa (o0_ : (List UInt8)) x) (GoT.ok (n + 1) (o0_ : (List UInt8)) ∧ NN (o1_) ∧ I64 (o2_))) := by
 have hbP := bd_pos n
 have hbS0 : bd (n + 1) = 4 * bd (n) := bd_succ (n := n) (by omega)
 have hbB := bd_big (n := (n + 1)) (by omega)
 have hbM := bd_mono (show n ≤ n + 1 by omega)
 have hc_bz : (c_b).length ≤ bd n := (okl hokc_b).1
 refine WX.enterP (tt := tt) (Γ := [(0, MF.rs .stb K0 M0 c_b), (1, MF.rs .stb pb cb b)]) 2 Try.func39 rfl (by kernel_rfl) rfl (allS_cons rfl N0 (allS_cons rfl N1 allS_nil)) hH hown (fun f hf => by cases hf) rfl ?_
 refine R0 ?_
 refine WX.bld ttOk rfl rfl rfl rfl rfl rfl rfl ?_
 intro p1
 refine R0 ?_
 refine WX.free 3 (MF.ol [] ([] : List UInt8)) rfl ?_
 have r1 : (b).length ≤ bd n := (okl hokb).1
 refine WX.appG1 6 1 4 (b : List UInt8).length ttOk rfl rfl rfl rfl rfl rfl rfl rfl rfl rfl rfl rfl rfl (by simp) (by omega) (by omega) (fun _ _ _ => rfl) ?_
 intro ys1 p2 c1
 refine WX.know (fun G hΓ => (hΓ.get 4 rfl : RdL _ _ _).flat) ?_
 intro hf1
 refine WX.turn [3] 5 rfl (fun h hs => ol_flat hs hf1) (gs := [MF.ol ([] ++ ys1) (b : List UInt8)]) rfl ?_
 refine R0 ?_
 obtain ⟨⟨u1, u2, u3⟩, hu1⟩ : ∃ r_, spec_l1Below c_b c_i c_h 6 = r_ := ⟨_, rfl⟩
 refine WX.callP (ds := fun _ => [])  999 6 rfl (fun _ _ _ => All.nil) (fun _ f hf => by cases hf) rfl rfl rfl rfl rfl (fun _ => rfl) rfl (fun w G bs H hI hH hs hΓ => f35 w n (by omega) H hH (bs 999) c_b K0 M0 (hΓ.get 0 rfl) c_i c_h 6 hs hokc_b hokc_i hokc_h (show I64 6 from (by unfold I64; omega)) u1 u2 u3 hu1) (fun _ => rfl) (fun _ => rfl) ?_
 rintro ⟨⟩ hq1
 have q1 := l1Below_rng c_b c_i c_h 6
 rw [hu1] at q1
 try dsimp only at q1
 refine R0 ?_
 refine WX.cases 11 rfl (fun h1 => ?_) (fun h1 => ?_)
 ·skip
  have h1d := B.et h1
  refine R0 ?_
  refine WX.cases 15 rfl (fun h2 => ?_) (fun h2 => ?_)
  ·skip
   have h2d := B.dt h2
   refine R0 ?_
   obtain ⟨⟨u4, u5, u6⟩, hu2⟩ : ∃ r_, spec_l1Below c_b u2 u3 (((b).length : Nat) : Int) = r_ := ⟨_, rfl⟩
   refine WX.callP (ds := fun _ => [])  999 7 rfl (fun _ _ _ => All.nil) (fun _ f hf => by cases hf) rfl rfl rfl rfl rfl (fun _ => rfl) rfl (fun w G bs H hI hH hs hΓ => f35 w n (by omega) H hH (bs 999) c_b K0 M0 (hΓ.get 0 rfl) u2 u3 (((b).length : Nat) : Int) hs hokc_b hq1.2.1 hq1.2.2 (show I64 (((b).length : Nat) : Int) from (by unfold I64; omega)) u4 u5 u6 hu2) (fun _ => rfl) (fun _ => rfl) ?_
   rintro ⟨⟩ hq2
   have q2 := l1Below_rng c_b u2 u3 (((b).length : Nat) : Int)
   rw [hu2] at q2
   try dsimp only at q2
   refine R0 ?_
   obtain ⟨⟨u7, u8, u9⟩, hu3⟩ : ∃ r_, spec_l1Below c_b u5 u6 256 = r_ := ⟨_, rfl⟩
   refine WX.callP (ds := fun _ => [])  999 8 rfl (fun _ _ _ => All.nil) (fun _ f hf => by cases hf) rfl rfl rfl rfl rfl (fun _ => rfl) rfl (fun w G bs H hI hH hs hΓ => f35 w n (by omega) H hH (bs 999) c_b K0 M0 (hΓ.get 0 rfl) u5 u6 256 hs hokc_b hq2.2.1 hq2.2.2 (show I64 256 from (by unfold I64; omega)) u7 u8 u9 hu3) (fun _ => rfl) (fun _ => rfl) ?_
   rintro ⟨⟩ hq3
   have q3 := l1Below_rng c_b u5 u6 256
   rw [hu3] at q3
   try dsimp only at q3
   refine WX.see rfl rfl rfl (fun _ hΓ => looks_toU8 ttOk rfl rfl rfl rfl rfl rfl) ?_
   have r2 : -9223372036854775808 ≤ u4 ∧ u4 ≤ 9223372036854775807 := hq2.1
   refine WX.slot 20 (y := .v (.int .i64 (((u4).toNat : Nat) : Int))) rfl (fun _ => congrArg (Value.int .i64) (show u4 = (((u4).toNat : Nat) : Int) from by omega)) ?_
   have hr1 : (u4).toNat < (b).length := (by first | assumption | omega)
   refine WX.idxR 6 ((u4).toNat) ttOk rfl rfl rfl rfl rfl rfl rfl rfl rfl hr1 ?_
   rintro ad1 rfl
   have e1i : (u4).toNat < (b).length := (by first | assumption | omega)
   obtain ⟨e1, e1h⟩ : ∃ e1, (b)[(u4).toNat]? = some e1 := ⟨_, List.getElem?_eq_getElem e1i⟩
   refine WX.opnE (α := UInt8) (e := e1) 6 5 9 ((u4).toNat) rfl rfl rfl e1h (fun _ => rfl) (fun _ _ _ => rfl) (fun _ _ _ => rfl) ?_
   rintro A1 B1 ⟨⟩ hA1 hB1
   refine WX.stA 6 ttOk rfl rfl rfl rfl rfl rfl rfl rfl rfl rfl rfl rfl rfl rfl hA1 hr1 rfl rfl rfl rfl (by simp) rfl ?_
   refine R0 ?_
   refine WX.turn [9, 10] 11 rfl (fun h hs => cl_elem (α := UInt8) (e := (toU8 u7)) (x := ()) e1i hs) (gs := [MF.ol (A1 ++ [.int .u8 ((toU8 u7).toNat : Nat)] ++ B1) (b.set ((u4).toNat) (toU8 u7))]) rfl ?_
   refine WX.seal 6 11 12 rfl rfl (show (b).length = ((b.set ((u4).toNat) (toU8 u7))).length from by first | (simp; done) | (simp; omega)) rfl rfl ?_
   refine WX.slot 4 (y := .v (.slice (some ad1) ((b.set ((u4).toNat) (toU8 u7))).length c1)) rfl (fun _ => by show (Value.slice (some ad1) ((b).length) c1 : Value) = Value.slice (some ad1) ((b.set ((u4).toNat) (toU8 u7))).length c1; rw [(show (b).length = ((b.set ((u4).toNat) (toU8 u7))).length from by first | (simp; done) | (simp; omega))]) ?_
   refine WX.slot 43 (y := .v (.slice (some ad1) ((b.set ((u4).toNat) (toU8 u7))).length c1)) rfl (fun _ => by show (Value.slice (some ad1) ((b).length) c1 : Value) = Value.slice (some ad1) ((b.set ((u4).toNat) (toU8 u7))).length c1; rw [(show (b).length = ((b.set ((u4).toNat) (toU8 u7))).length from by first | (simp; done) | (simp; omega))]) ?_
   refine WX.slot 18 (y := .v (.slice (some ad1) ((b.set ((u4).toNat) (toU8 u7))).length c1)) rfl (fun _ => by show (Value.slice (some ad1) ((b).length) c1 : Value) = Value.slice (some ad1) ((b.set ((u4).toNat) (toU8 u7))).length c1; rw [(show (b).length = ((b.set ((u4).toNat) (toU8 u7))).length from by first | (simp; done) | (simp; omega))]) ?_
   refine WX.slot 16 (y := .v (.slice (some ad1) ((b.set ((u4).toNat) (toU8 u7))).length c1)) rfl (fun _ => by show (Value.slice (some ad1) ((b).length) c1 : Value) = Value.slice (some ad1) ((b.set ((u4).toNat) (toU8 u7))).length c1; rw [(show (b).length = ((b.set ((u4).toNat) (toU8 u7))).length from by first | (simp; done) | (simp; omega))]) ?_
   refine WX.slot 13 (y := .v (.slice (some ad1) ((b.set ((u4).toNat) (toU8 u7))).length c1)) rfl (fun _ => by show (Value.slice (some ad1) ((b).length) c1 : Value) = Value.slice (some ad1) ((b.set ((u4).toNat) (toU8 u7))).length c1; rw [(show (b).length = ((b.set ((u4).toNat) (toU8 u7))).length from by first | (simp; done) | (simp; omega))]) ?_
   refine WX.slot 5 (y := .v (.slice (some ad1) ((b.set ((u4).toNat) (toU8 u7))).length c1)) rfl (fun _ => by show (Value.slice (some ad1) ((b).length) c1 : Value) = Value.slice (some ad1) ((b.set ((u4).toNat) (toU8 u7))).length c1; rw [(show (b).length = ((b.set ((u4).toNat) (toU8 u7))).length from by first | (simp; done) | (simp; omega))]) ?_
   refine WX.slot 8 (y := .v (.slice (some ad1) ((b.set ((u4).toNat) (toU8 u7))).length c1)) rfl (fun _ => by show (Value.slice (some ad1) ((b).length) c1 : Value) = Value.slice (some ad1) ((b.set ((u4).toNat) (toU8 u7))).length c1; rw [(show (b).length = ((b.set ((u4).toNat) (toU8 u7))).length from by first | (simp; done) | (simp; omega))]) ?_
   have hP1 : spec_l1Bent c_b c_i c_h b = (b.set ((u4).toNat) (toU8 u7), u8, u9) := by simp only [spec_l1Bent, hu1, h1, h2, hu2, hu3, e1h, ct, cf]
   have r3 : -9223372036854775808 ≤ u7 ∧ u7 ≤ 9223372036854775807 := hq3.1
   have hz1 := hP1.symm.trans hres
   obtain ⟨hz1, hz2⟩ := Prod.mk.inj hz1
   obtain ⟨hz2, hz3⟩ := Prod.mk.inj hz2
   subst hz1
   subst hz2
   subst hz3
   refine R1 ?_
   intro w1 G bs hI hΓ
   exact Post.ofL 999 [13] ((some ad1), c1) hI hΓ rfl rfl rfl (by rw [hI.pin _ rfl]; first | done | rfl) (⟨(okl_mk (by simp; omega) (fun _ _ => trivial) : GoT.ok (n + 1) ((b.set ((u4).toNat) (toU8 u7)) : List UInt8)), ⟨hq3.2.1, hq3.2.2⟩⟩)
  ·skip
   have h2d := B.df h2
   refine R0 ?_
   refine WX.seal 6 5 14 rfl rfl rfl rfl rfl ?_
   have hP2 : spec_l1Bent c_b c_i c_h b = (b, u2, u3) := by simp only [spec_l1Bent, hu1, h1, h2, ct, cf]
   have hz1 := hP2.symm.trans hres
   obtain ⟨hz1, hz2⟩ := Prod.mk.inj hz1
   obtain ⟨hz2, hz3⟩ := Prod.mk.inj hz2
   subst hz1
   subst hz2
   subst hz3
   refine R1 ?_
   intro w1 G bs hI hΓ
   exact Post.ofL 999 [15] (p2, c1) hI hΓ rfl rfl rfl (by rw [hI.pin _ rfl]; first | done | rfl) (⟨(okl_mk (by omega) (fun _ _ => trivial) : GoT.ok (n + 1) (b : List UInt8)), ⟨hq1.2.1, hq1.2.2⟩⟩)
 ·skip
  have h1d := B.ef h1
  refine R0 ?_
  refine WX.cases 25 rfl (fun h3 => ?_) (fun h3 => ?_)
  ·skip
   have h3d := B.et h3
   refine R0 ?_
   refine WX.see rfl rfl rfl (fun _ hΓ => looks_arith rfl rfl rfl rfl (by unfold I64; first | omega | (simp only [List.length_take] at *; omega))) ?_
   obtain ⟨⟨u10, u11, u12⟩, hu4⟩ : ∃ r_, spec_l1Below c_b u2 u3 ((((b).length : Nat) : Int) + 1) = r_ := ⟨_, rfl⟩
   refine WX.callP (ds := fun _ => [])  999 16 rfl (fun _ _ _ => All.nil) (fun _ f hf => by cases hf) rfl rfl rfl rfl rfl (fun _ => rfl) rfl (fun w G bs H hI hH hs hΓ => f35 w n (by omega) H hH (bs 999) c_b K0 M0 (hΓ.get 0 rfl) u2 u3 ((((b).length : Nat) : Int) + 1) hs hokc_b hq1.2.1 hq1.2.2 (show I64 ((((b).length : Nat) : Int) + 1) from (by unfold I64; omega)) u10 u11 u12 hu4) (fun _ => rfl) (fun _ => rfl) ?_
   rintro ⟨⟩ hq4
   have q4 := l1Below_rng c_b u2 u3 ((((b).length : Nat) : Int) + 1)
   rw [hu4] at q4
   try dsimp only at q4
   refine WX.seal 6 5 17 rfl rfl rfl rfl rfl ?_
   have r4 : -9223372036854775808 ≤ u10 ∧ u10 ≤ 9223372036854775807 := hq4.1
   refine WX.see rfl rfl rfl (fun _ hΓ => looks_slH (Int.toNat u10) ttOk rfl rfl rfl rfl (show u10 = (((Int.toNat u10) : Nat) : Int) from (by omega)) (Nat.le_trans (show (Int.toNat u10) ≤ (b).length from (by omega)) (hΓ.get 17 rfl : RdSl _ _ _ _).1)) ?_
   refine WX.slot 33 (y := .v (.slice p2 (((List.take (Int.toNat u10) b)).length) c1)) rfl (fun _ => by rw [show ((List.take (Int.toNat u10) b)).length = (Int.toNat u10) from (by simp only [List.length_take]; have z_ := (show (Int.toNat u10) ≤ (b).length from (by omega)); omega)]) ?_
   refine WX.der 19 (MF.rs .der p2 c1 (List.take (Int.toNat u10) b)) rfl (fun _ hΓ => RdSl.pre (hΓ.get 17 rfl : RdSl _ _ _ _) (Int.toNat u10)) ?_
   refine R0 ?_
   refine WX.turn [18] 20 rfl (fun h hs => os_pre (Int.toNat u10) hs) (gs := [MF.os p2 c1 ((List.take (Int.toNat u10) b) : List UInt8)]) rfl ?_
   have hP3 : spec_l1Bent c_b c_i c_h b = (List.take (Int.toNat u10) b, u11, u12) := by simp only [spec_l1Bent, hu1, h1, h3, hu4, ct, cf]
   have hz1 := hP3.symm.trans hres
   obtain ⟨hz1, hz2⟩ := Prod.mk.inj hz1
   obtain ⟨hz2, hz3⟩ := Prod.mk.inj hz2
   subst hz1
   subst hz2
   subst hz3
   refine R1 ?_
   intro w1 G bs hI hΓ
   exact Post.ofL 999 [20] (p2, c1) hI hΓ rfl rfl rfl (by rw [hI.pin _ rfl]; first | done | rfl) (⟨(okl_mk (by first | assumption | omega | (simp; omega)) (fun _ _ => trivial) : GoT.ok (n + 1) ((List.take (Int.toNat u10) b) : List UInt8)), ⟨hq4.2.1, hq4.2.2⟩⟩)
  ·skip
   have h3d := B.ef h3
   refine R0 ?_
   refine WX.cases 34 rfl (fun h4 => ?_) (fun h4 => ?_)
   ·skip
    have h4d := B.et h4
    refine R0 ?_
    refine WX.bld ttOk rfl rfl rfl rfl rfl rfl rfl ?_
    intro p3
    refine WX.turn [] 21 rfl (fun h hs => one_sep (⟨(), _, emp, _, rfl, emp_le _, Le.refl _, emp_dj _, trivial, ⟨(), _, emp, _, rfl, emp_le _, Le.refl _, emp_dj _, trivial, ⟨(), _, emp, _, rfl, emp_le _, Le.refl _, emp_dj _, trivial, ⟨(), _, emp, _, rfl, emp_le _, Le.refl _, emp_dj _, trivial, rfl⟩⟩⟩⟩ : OwL _ _ ([0, 1, 128, 255] : List Int))) (gs := [MF.ol [.int .i64 (0), .int .i64 (1), .int .i64 (128), .int .i64 (255)] ([0, 1, 128, 255] : List Int)]) rfl ?_
    refine WX.seal 38 21 22 rfl rfl rfl rfl rfl ?_
    obtain ⟨⟨u13, u14, u15⟩, hu5⟩ : ∃ r_, spec_l1Int c_b u2 u3 ([0, 1, 128, 255]) = r_ := ⟨_, rfl⟩
    refine WX.callP (ds := fun _ => [])  999 24 rfl (fun _ _ _ => All.nil) (fun _ f hf => by cases hf) rfl rfl rfl rfl rfl (fun _ => rfl) rfl (fun w G bs H hI hH hs hΓ => f68 w n (by omega) H hH (bs 999) c_b K0 M0 (hΓ.get 0 rfl) u2 u3 ([0, 1, 128, 255]) p3 4 (hΓ.get 22 rfl) hs hokc_b hq1.2.1 hq1.2.2 (by first | assumption | omega | (simp; done) | (simp; omega)) (okl_mk (by simp; omega) (all_cons (α := Int) (show I64 0 from (by unfold I64; omega)) (all_cons (α := Int) (show I64 1 from (by unfold I64; omega)) (all_cons (α := Int) (show I64 128 from (by unfold I64; omega)) (all_cons (α := Int) (show I64 255 from (by unfold I64; omega)) (fun a ha => by cases ha))))) : GoT.ok n ([0, 1, 128, 255] : List Int)) u13 u14 u15 hu5) (fun _ => rfl) (fun _ => rfl) ?_
    rintro ⟨⟩ hq5
    refine WX.see rfl rfl rfl (fun _ hΓ => looks_toU8 ttOk rfl rfl rfl rfl rfl rfl) ?_
    refine WX.bld ttOk rfl rfl rfl rfl rfl rfl rfl ?_
    intro p4
    refine WX.turn [] 25 rfl (fun h hs => ol_one (α := UInt8) (a := (toU8 u13)) (x := ()) hs) (gs := [MF.ol [.int .u8 ((toU8 u13).toNat : Nat)] ([(toU8 u13)] : List UInt8)]) rfl ?_
    have r5 : -9223372036854775808 ≤ u13 ∧ u13 ≤ 9223372036854775807 := hq5.1
    refine WX.know (fun G hΓ => (hΓ.get 25 rfl : OwL _ _ _).rd.one) ?_
    intro ho1
    refine WX.appR1 6 41 ((b ++ [(toU8 u13)]) : List UInt8).length ttOk rfl rfl rfl rfl rfl rfl rfl rfl rfl rfl rfl rfl rfl ho1 (by simp) (by simp; omega) (by simp; omega) (fun _ _ => rfl) ?_
    intro p5 c2
    refine WX.turn [5, 25] 26 rfl (fun h hs => ol_app hs) (gs := [MF.ol (([] ++ ys1) ++ [.int .u8 ((toU8 u13).toNat : Nat)]) ((b ++ [(toU8 u13)]) : List UInt8)]) rfl ?_
    refine R0 ?_
    refine WX.seal 6 26 27 rfl rfl rfl rfl rfl ?_
    have hP4 : spec_l1Bent c_b c_i c_h b = (b ++ [(toU8 u13)], u14, u15) := by simp only [spec_l1Bent, hu1, h1, h3, h4, hu5, ct, cf]
    have hz1 := hP4.symm.trans hres
    obtain ⟨hz1, hz2⟩ := Prod.mk.inj hz1
    obtain ⟨hz2, hz3⟩ := Prod.mk.inj hz2
    subst hz1
    subst hz2
    subst hz3
    refine R1 ?_
    intro w1 G bs hI hΓ
    exact Post.ofL 999 [28] (p5, c2) hI hΓ rfl rfl rfl (by rw [hI.pin _ rfl]; first | done | rfl) (⟨(okl_mk (by simp; omega) (fun _ _ => trivial) : GoT.ok (n + 1) ((b ++ [(toU8 u13)]) : List UInt8)), ⟨hq5.2.1, hq5.2.2⟩⟩)
   ·skip
    have h4d := B.ef h4
    refine R0 ?_
    refine WX.seal 6 5 29 rfl rfl rfl rfl rfl ?_
    have hP5 : spec_l1Bent c_b c_i c_h b = (b, u2, u3) := by simp only [spec_l1Bent, hu1, h1, h3, h4, ct, cf]
    have hz1 := hP5.symm.trans hres
    obtain ⟨hz1, hz2⟩ := Prod.mk.inj hz1
    obtain ⟨hz2, hz3⟩ := Prod.mk.inj hz2
    subst hz1
    subst hz2
    subst hz3
    refine R1 ?_
    intro w1 G bs hI hΓ
    exact Post.ofL 999 [30] (p2, c1) hI hΓ rfl rfl rfl (by rw [hI.pin _ rfl]; first | done | rfl) (⟨(okl_mk (by omega) (fun _ _ => trivial) : GoT.ok (n + 1) (b : List UInt8)), ⟨hq1.2.1, hq1.2.2⟩⟩)
end Go.Proofs.Ytdimfabadjfkiaa

namespace Go.Stp
set_option linter.unusedVariables false
set_option linter.unusedSimpArgs false
instance ctlInh27 {α β : Type} [Inhabited α] : Inhabited (Ctl α β) := ⟨.ret default⟩
theorem sh7 (x : Int) : Int.fdiv x (2 ^ (min (Int.toNat (7 : Int)) 64)) = x / 128 := by
  rw [show ((2 : Int) ^ (min (Int.toNat (7 : Int)) 64)) = 128 by decide, Int.fdiv_eq_ediv_of_nonneg _ (by decide)]
def avI (n : Int) (k : Nat) : Prop := 0 ≤ n ∧ ((k = 0 ∧ n ≤ 1000000000000) ∨ (k = 1 ∧ n ≤ 7812500000) ∨ (k = 2 ∧ n ≤ 61035156) ∨ (k = 3 ∧ n ≤ 476837) ∨ (k = 4 ∧ n ≤ 3725) ∨ (k = 5 ∧ n ≤ 29))
theorem avI_0 {n : Int} (h : 0 ≤ n ∧ n ≤ 1000000000000) : avI n 0 := ⟨h.1, .inl ⟨rfl, h.2⟩⟩
theorem avI_len {n : Int} {k : Nat} (h : avI n k) : k ≤ 5 := by unfold avI at h; omega
theorem avI_rng {n : Int} {k : Nat} (h : avI n k) : 0 ≤ n ∧ n ≤ 1000000000000 := by unfold avI at h; omega
theorem avI_step {n : Int} {k : Nat} (h : avI n k) (hn : n ≥ 128) : avI (n / 128) (k + 1) := by unfold avI at h ⊢; omega
theorem avI_next {n : Int} {k k' : Nat} (h : avI n k) (hn : n ≥ 128) (hk : k' = k + 1) : avI (n / 128) k' := hk ▸ avI_step h hn
theorem inR_implP {n a b : Int} (h : impl_InRange n a b = true) : a ≤ n ∧ n ≤ b := by
  unfold impl_InRange at h
  cases hd : decide (a ≤ n)
  · exact absurd (show false = true by rw [show decide (a ≤ n) = false from hd] at h; exact h) Bool.false_ne_true
  · rw [show decide (a ≤ n) = true from hd] at h
    exact ⟨of_decide_eq_true hd, of_decide_eq_true (show decide (n ≤ b) = true from h)⟩
theorem inR_specP {n a b : Int} (h : spec_l1In n a b = true) : a ≤ n ∧ n ≤ b := by
  unfold spec_l1In at h
  cases hd : decide (a ≤ n)
  · exact absurd (show false = true by rw [show decide (a ≤ n) = false from hd] at h; exact h) Bool.false_ne_true
  · rw [show decide (a ≤ n) = true from hd] at h
    exact ⟨of_decide_eq_true hd, of_decide_eq_true (show decide (n ≤ b) = true from h)⟩

def impl_AppendVarint_L1 (n_2 : Int) (out : List UInt8) : Int × (List UInt8) :=
  if n_2 ≥ 128 then
    impl_AppendVarint_L1 (Int.fdiv n_2 (2 ^ (min (Int.toNat (7 : Int)) 64))) (((out ++ [((toU8 n_2) ||| (128 : UInt8))])) : List UInt8)
  else
    (n_2, ((out) : List UInt8))
termination_by n_2.toNat
decreasing_by all_goals (rw [sh7]; omega)
def impl_AppendVarint (b : (List UInt8)) (n_ : Int) : (List UInt8) :=
  bif (!(impl_InRange n_ 0 1000000000000)) then
    b
  else
    match impl_AppendVarint_L1 n_ (b : List UInt8) with
      | (n_2, out) =>
        (out ++ [(toU8 n_2)])
def spec_AppendVarint_L1 (n_2 : Int) (out : List UInt8) : Int × (List UInt8) :=
  if n_2 > 127 then
    spec_AppendVarint_L1 (Int.fdiv n_2 (2 ^ (min (Int.toNat (7 : Int)) 64))) (((out ++ [(toU8 (bitO .or (bitO .and n_2 127) 128))])) : List UInt8)
  else
    (n_2, ((out) : List UInt8))
termination_by n_2.toNat
decreasing_by all_goals (rw [sh7]; omega)
def spec_AppendVarint (b : (List UInt8)) (n_ : Int) : (List UInt8) :=
  bif (!(spec_l1In n_ 0 1000000000000)) then
    b
  else
    match spec_AppendVarint_L1 n_ (b : List UInt8) with
      | (n_2, out) =>
        (out ++ [(toU8 n_2)])
theorem len_implAVL : ∀ (m : Nat) (n : Int) (out : List UInt8) (k : Nat), avI n k → 5 - k = m → (impl_AppendVarint_L1 n out).2.length ≤ out.length + m
  | 0, n, out, k, h, hm => by
    have := avI_len h
    rw [impl_AppendVarint_L1, if_neg (show ¬ n ≥ 128 by unfold avI at h; omega)]
    exact Nat.le_refl _
  | m + 1, n, out, k, h, hm => by
    rw [impl_AppendVarint_L1]
    by_cases hn : n ≥ 128
    · rw [if_pos hn, sh7]
      have := len_implAVL m (n / 128) (out ++ [(toU8 n) ||| (128 : UInt8)]) (k + 1) (avI_step h (by omega)) (by omega)
      rw [List.length_append, List.length_cons, List.length_nil] at this
      omega
    · rw [if_neg hn]
      show out.length ≤ _
      omega
theorem len_implAV (b : List UInt8) (n_ : Int) : (impl_AppendVarint b n_).length ≤ b.length + 6 := by
  unfold impl_AppendVarint
  cases hr : impl_InRange n_ 0 1000000000000
  · show b.length ≤ _
    omega
  · have h := len_implAVL 5 n_ b 0 (avI_0 (inR_implP hr)) rfl
    simp only [Bool.not_true, cond_false, List.length_append, List.length_cons, List.length_nil]
    omega
theorem len_specAVL : ∀ (m : Nat) (n : Int) (out : List UInt8) (k : Nat), avI n k → 5 - k = m → (spec_AppendVarint_L1 n out).2.length ≤ out.length + m
  | 0, n, out, k, h, hm => by
    have := avI_len h
    rw [spec_AppendVarint_L1, if_neg (show ¬ n > 127 by unfold avI at h; omega)]
    exact Nat.le_refl _
  | m + 1, n, out, k, h, hm => by
    rw [spec_AppendVarint_L1]
    by_cases hn : n > 127
    · rw [if_pos hn, sh7]
      have := len_specAVL m (n / 128) (out ++ [toU8 (bitO .or (bitO .and n 127) 128)]) (k + 1) (avI_step h (by omega)) (by omega)
      rw [List.length_append, List.length_cons, List.length_nil] at this
      omega
    · rw [if_neg hn]
      show out.length ≤ _
      omega
theorem len_specAV (b : List UInt8) (n_ : Int) : (spec_AppendVarint b n_).length ≤ b.length + 6 := by
  unfold spec_AppendVarint
  cases hr : spec_l1In n_ 0 1000000000000
  · show b.length ≤ _
    omega
  · have h := len_specAVL 5 n_ b 0 (avI_0 (inR_specP hr)) rfl
    simp only [Bool.not_true, cond_false, List.length_append, List.length_cons, List.length_nil]
    omega
def impl_AppendBytes (b : (List UInt8)) (s : (List UInt8)) : (List UInt8) :=
  ((impl_AppendVarint b (((s).length : Nat) : Int)) ++ s)
def spec_AppendBytes (b : (List UInt8)) (s : (List UInt8)) : (List UInt8) :=
  ((spec_AppendVarint b (((s).length : Nat) : Int)) ++ s)
theorem len_implAB (b s : List UInt8) : (impl_AppendBytes b s).length ≤ b.length + s.length + 6 := by
  have := len_implAV b ((s.length : Nat) : Int)
  unfold impl_AppendBytes
  rw [List.length_append]
  omega
theorem len_specAB (b s : List UInt8) : (spec_AppendBytes b s).length ≤ b.length + s.length + 6 := by
  have := len_specAV b ((s.length : Nat) : Int)
  unfold spec_AppendBytes
  rw [List.length_append]
  omega
def NTb (o : Option Bool) : Prop := o = none ∨ o = some false
theorem ntb {c : Bool} {a b : Option Bool} (ha : NTb a) (hb : NTb b) : NTb (bif c then a else b) := by
  cases c
  · exact hb
  · exact ha
theorem vpL_impl : ∀ (l : List UInt8), NTb (impl_ValidPart_L1 l)
  | [] => .inl rfl
  | x :: l => by
    have ih := vpL_impl l
    simp only [impl_ValidPart_L1]
    repeat' (first | exact ih | exact .inr rfl | refine ntb ?_ ?_)
theorem vpB_impl {s : Str} (h : impl_ValidPart s = true) : s.size ≤ 8 := by
  unfold impl_ValidPart at h
  rcases vpL_impl ((s).data.toList) with h1 | h1 <;> rw [h1] at h
  · have := inR_implP h
    omega
  · cases h
theorem vpB_spec {s : Str} (h : spec_ValidPart s = true) : s.size ≤ 8 := by
  unfold spec_ValidPart at h
  cases hr : spec_l1In (((s).size : Nat) : Int) 1 8
  · rw [hr] at h; cases h
  · have := inR_specP hr
    omega
theorem ixS : ∀ (f : Str → Bool) (l : List Str) (i : Nat), (slices_IndexFunc_string_L1 f l i = none ∧ ∀ a ∈ l, f a = false) ∨ ∃ j : Nat, slices_IndexFunc_string_L1 f l i = some (j : Int)
  | f, [], i => .inl ⟨rfl, fun a ha => by cases ha⟩
  | f, x :: l, i => by
    simp only [slices_IndexFunc_string_L1]
    cases hx : f x
    · rcases ixS f l (i + 1) with ⟨h1, h2⟩ | h
      · exact .inl ⟨h1, fun a ha => (List.mem_cons.1 ha).elim (fun e => e ▸ hx) (h2 a)⟩
      · exact .inr h
    · exact .inr ⟨i, rfl⟩
theorem vnB_impl {n_ : Name} (h : impl_ValidName n_ = true) : n_.parts.length ≤ 6 ∧ ∀ p ∈ n_.parts, p.size ≤ 8 := by
  unfold impl_ValidName at h
  cases hd : decide ((((n_.parts).length : Nat) : Int) ≤ 6)
  · rw [hd] at h; cases h
  · rw [hd, cond_true] at h
    have := of_decide_eq_true hd
    refine ⟨by omega, fun p hp => ?_⟩
    unfold slices_ContainsFunc_string slices_IndexFunc_string at h
    rcases ixS (fun e0_ => (impl_ValidName_c1 e0_)) n_.parts 0 with ⟨h1, h2⟩ | ⟨j, h1⟩
    · have h3 := h2 p hp
      exact vpB_impl (by simpa [impl_ValidName_c1] using h3)
    · rw [h1] at h
      have h4 : decide (((j : Nat) : Int) ≥ 0) = true := decide_eq_true (by omega)
      rw [h4] at h; cases h
theorem vnL_spec : ∀ (l : List Str), (spec_ValidName_L1 l = none ∧ ∀ p ∈ l, p.size ≤ 8) ∨ spec_ValidName_L1 l = some false
  | [] => .inl ⟨rfl, fun p hp => by cases hp⟩
  | x :: l => by
    simp only [spec_ValidName_L1]
    cases hx : spec_ValidPart x
    · exact .inr rfl
    · rcases vnL_spec l with ⟨h1, h2⟩ | h
      · exact .inl ⟨h1, fun p hp => (List.mem_cons.1 hp).elim (fun e => e ▸ vpB_spec hx) (h2 p)⟩
      · exact .inr h
theorem vnB_spec {n_ : Name} (h : spec_ValidName n_ = true) : n_.parts.length ≤ 6 ∧ ∀ p ∈ n_.parts, p.size ≤ 8 := by
  unfold spec_ValidName at h
  rcases vnL_spec n_.parts with ⟨h1, h2⟩ | h1 <;> rw [h1] at h
  · have := of_decide_eq_true h
    exact ⟨by omega, h2⟩
  · cases h
def impl_AppendName_L1 : List Str → (List UInt8) → (List UInt8)
  | [], out => ((out) : List UInt8)
  | e1 :: rest_, out =>
    impl_AppendName_L1 rest_ (((impl_AppendBytes out ((e1).data.toList))) : List UInt8)
def impl_AppendName (b : (List UInt8)) (n_ : Name) : (List UInt8) :=
  bif (!(impl_ValidName n_)) then
    b
  else
    match impl_AppendName_L1 n_.parts ((impl_AppendVarint b (((n_.parts).length : Nat) : Int)) : List UInt8) with
      | out =>
        out
def spec_AppendName_L1 : List Str → (List UInt8) → (List UInt8)
  | [], out => ((out) : List UInt8)
  | e1 :: rest_, out =>
    spec_AppendName_L1 rest_ (((spec_AppendBytes out ((e1).data.toList))) : List UInt8)
def spec_AppendName (b : (List UInt8)) (n_ : Name) : (List UInt8) :=
  bif (!(spec_ValidName n_)) then
    b
  else
    match spec_AppendName_L1 n_.parts ((spec_AppendVarint b (((n_.parts).length : Nat) : Int)) : List UInt8) with
      | out =>
        out
theorem len_implANL : ∀ (l : List Str) (out : List UInt8), (∀ p ∈ l, p.size ≤ 8) → (impl_AppendName_L1 l out).length ≤ out.length + 14 * l.length
  | [], out, _ => by simp [impl_AppendName_L1]
  | x :: l, out, h => by
    have h1 := len_implANL l (impl_AppendBytes out ((x).data.toList)) (fun p hp => h p (List.mem_cons_of_mem _ hp))
    have h2 := len_implAB out ((x).data.toList)
    have h3 := h x List.mem_cons_self
    have h4 : ((x).data.toList).length = (x).size := rfl
    rw [List.length_cons]
    simp only [impl_AppendName_L1]
    omega
theorem len_implAN (b : List UInt8) (n_ : Name) : (impl_AppendName b n_).length ≤ b.length + 90 := by
  unfold impl_AppendName
  cases hv : impl_ValidName n_
  · show b.length ≤ _
    omega
  · have h1 := vnB_impl hv
    have h2 := len_implANL n_.parts (impl_AppendVarint b (((n_.parts).length : Nat) : Int)) h1.2
    have h3 := len_implAV b (((n_.parts).length : Nat) : Int)
    show (impl_AppendName_L1 n_.parts (impl_AppendVarint b (((n_.parts).length : Nat) : Int))).length ≤ _
    omega
theorem len_specANL : ∀ (l : List Str) (out : List UInt8), (∀ p ∈ l, p.size ≤ 8) → (spec_AppendName_L1 l out).length ≤ out.length + 14 * l.length
  | [], out, _ => by simp [spec_AppendName_L1]
  | x :: l, out, h => by
    have h1 := len_specANL l (spec_AppendBytes out ((x).data.toList)) (fun p hp => h p (List.mem_cons_of_mem _ hp))
    have h2 := len_specAB out ((x).data.toList)
    have h3 := h x List.mem_cons_self
    have h4 : ((x).data.toList).length = (x).size := rfl
    rw [List.length_cons]
    simp only [spec_AppendName_L1]
    omega
theorem len_specAN (b : List UInt8) (n_ : Name) : (spec_AppendName b n_).length ≤ b.length + 90 := by
  unfold spec_AppendName
  cases hv : spec_ValidName n_
  · show b.length ≤ _
    omega
  · have h1 := vnB_spec hv
    have h2 := len_specANL n_.parts (spec_AppendVarint b (((n_.parts).length : Nat) : Int)) h1.2
    have h3 := len_specAV b (((n_.parts).length : Nat) : Int)
    show (spec_AppendName_L1 n_.parts (spec_AppendVarint b (((n_.parts).length : Nat) : Int))).length ≤ _
    omega
def impl_ReadVarint_L1 (b : (List UInt8)) : Nat → Nat → Int → Int → Ctl (Int × Int × Bool) (Int × Int)
  | 0, i, at_2, n_ => (Ctl.nxt (at_2, n_))
  | m_ + 1, i, at_2, n_ =>
    bif decide (at_2 < (((b).length : Nat) : Int)) then
      match (b)[(at_2).toNat]? with
        | none => default
        | some e1 =>
          bif decide (((e1).toNat : Int) < 128) then
            bif (((e1).toNat : Int) == 0) then
              bif decide (((i : Nat) : Int) > 0) then
                (Ctl.ret (0, 0, false))
              else
                bif decide (bitO .or n_ (IntKind.i64.wrap ((bitO .and ((e1).toNat : Int) 127) * 2 ^ (min (Int.toNat (7 * ((i : Nat) : Int))) 64))) > 1000000000000) then
                  (Ctl.ret (0, 0, false))
                else
                  (Ctl.ret ((bitO .or n_ (IntKind.i64.wrap ((bitO .and ((e1).toNat : Int) 127) * 2 ^ (min (Int.toNat (7 * ((i : Nat) : Int))) 64)))), (at_2 + 1), true))
            else
              bif decide (bitO .or n_ (IntKind.i64.wrap ((bitO .and ((e1).toNat : Int) 127) * 2 ^ (min (Int.toNat (7 * ((i : Nat) : Int))) 64))) > 1000000000000) then
                (Ctl.ret (0, 0, false))
              else
                (Ctl.ret ((bitO .or n_ (IntKind.i64.wrap ((bitO .and ((e1).toNat : Int) 127) * 2 ^ (min (Int.toNat (7 * ((i : Nat) : Int))) 64)))), (at_2 + 1), true))
          else
            impl_ReadVarint_L1 b m_ (i + 1) (at_2 + 1) (bitO .or n_ (IntKind.i64.wrap ((bitO .and ((e1).toNat : Int) 127) * 2 ^ (min (Int.toNat (7 * ((i : Nat) : Int))) 64))))
    else
      (Ctl.nxt (at_2, n_))
def impl_ReadVarint (b : (List UInt8)) (at_ : Int) : Int × Int × Bool :=
  bif decide (at_ < 0) then
    (0, 0, false)
  else
    match impl_ReadVarint_L1 b 6 0 at_ 0 with
      | .ret r_ => r_
      | .nxt (at_2, n_) =>
        (0, 0, false)
def spec_ReadVarint_L1 (b : (List UInt8)) (at_ : Int) : Nat → Nat → Int → Ctl (Int × Int × Bool) (Int)
  | 0, i, n_ => (Ctl.nxt n_)
  | m_ + 1, i, n_ =>
    bif decide (at_ < 0) then
      (Ctl.ret (0, 0, false))
    else
      bif decide (at_ ≥ (((b).length : Nat) : Int) - ((i : Nat) : Int)) then
        (Ctl.ret (0, 0, false))
      else
        match (b)[(at_ + ((i : Nat) : Int)).toNat]? with
          | none => default
          | some e1 =>
            bif decide (((e1).toNat : Int) < 128) then
              bif (((e1).toNat : Int) == 0) then
                bif decide (((i : Nat) : Int) > 0) then
                  (Ctl.ret (0, 0, false))
                else
                  bif decide (bitO .or n_ (IntKind.i64.wrap ((bitO .and ((e1).toNat : Int) 127) * 2 ^ (min (Int.toNat (7 * ((i : Nat) : Int))) 64))) > 1000000000000) then
                    (Ctl.ret (0, 0, false))
                  else
                    (Ctl.ret ((bitO .or n_ (IntKind.i64.wrap ((bitO .and ((e1).toNat : Int) 127) * 2 ^ (min (Int.toNat (7 * ((i : Nat) : Int))) 64)))), ((at_ + ((i : Nat) : Int)) + 1), true))
              else
                bif decide (bitO .or n_ (IntKind.i64.wrap ((bitO .and ((e1).toNat : Int) 127) * 2 ^ (min (Int.toNat (7 * ((i : Nat) : Int))) 64))) > 1000000000000) then
                  (Ctl.ret (0, 0, false))
                else
                  (Ctl.ret ((bitO .or n_ (IntKind.i64.wrap ((bitO .and ((e1).toNat : Int) 127) * 2 ^ (min (Int.toNat (7 * ((i : Nat) : Int))) 64)))), ((at_ + ((i : Nat) : Int)) + 1), true))
            else
              spec_ReadVarint_L1 b at_ m_ (i + 1) (bitO .or n_ (IntKind.i64.wrap ((bitO .and ((e1).toNat : Int) 127) * 2 ^ (min (Int.toNat (7 * ((i : Nat) : Int))) 64))))
def spec_ReadVarint (b : (List UInt8)) (at_ : Int) : Int × Int × Bool :=
  match spec_ReadVarint_L1 b at_ 6 0 0 with
    | .ret r_ => r_
    | .nxt n_ =>
      (0, 0, false)
theorem i64w {x : Int} (h : -9223372036854775808 ≤ x ∧ x ≤ 9223372036854775807) : IntKind.i64.wrap x = x := by
  simp [IntKind.wrap, IntKind.bits, IntKind.signed]
  omega
theorem ofI64 {x : Int} (h : 0 ≤ x ∧ x ≤ 9223372036854775807) : (BitVec.ofInt 64 x).toNat = x.toNat := by
  rw [BitVec.toNat_ofInt]
  omega
theorem bitOr_nn {x y : Int} (hx : 0 ≤ x ∧ x ≤ 9223372036854775807) (hy : 0 ≤ y ∧ y ≤ 9223372036854775807) : 0 ≤ bitO .or x y := by
  have h : x.toNat ||| y.toNat < 2 ^ 63 := Nat.or_lt_two_pow (by omega) (by omega)
  simp only [bitO, BitVec.toNat_or, ofI64 hx, ofI64 hy]
  rw [i64w (by omega)]
  omega
theorem bitAnd127 {x : Int} (hx : 0 ≤ x ∧ x ≤ 9223372036854775807) : 0 ≤ bitO .and x 127 ∧ bitO .and x 127 ≤ 127 := by
  have h : x.toNat &&& 127 ≤ 127 := Nat.and_le_right
  have h2 : (BitVec.ofInt 64 (127 : Int)).toNat = 127 := by decide
  simp only [bitO, BitVec.toNat_and, ofI64 hx, h2]
  rw [i64w (by omega)]
  omega
theorem shN {x : Int} {i : Nat} (hx : 0 ≤ x ∧ x ≤ 127) (hi : i < 6) : 0 ≤ IntKind.i64.wrap (x * 2 ^ (min (Int.toNat (7 * ((i : Nat) : Int))) 64)) ∧ IntKind.i64.wrap (x * 2 ^ (min (Int.toNat (7 * ((i : Nat) : Int))) 64)) ≤ 9223372036854775807 := by
  have e : ∀ k : Nat, k ≤ 35 → IntKind.i64.wrap (x * 2 ^ k) = x * 2 ^ k := fun k hk => by
    have h1 : (2 : Int) ^ k ≤ 2 ^ 35 := by exact_mod_cast Nat.pow_le_pow_right (by decide : 0 < 2) hk
    have h0 : (0 : Int) ≤ 2 ^ k := by exact_mod_cast Nat.zero_le (2 ^ k)
    have h2 : x * 2 ^ k ≤ 127 * 2 ^ 35 := Int.mul_le_mul hx.2 h1 h0 (by decide)
    have h3 : 0 ≤ x * 2 ^ k := Int.mul_nonneg hx.1 h0
    exact i64w ⟨by omega, by omega⟩
  have hk : min (Int.toNat (7 * ((i : Nat) : Int))) 64 ≤ 35 := by omega
  rw [e _ hk]
  have h1 : (2 : Int) ^ (min (Int.toNat (7 * ((i : Nat) : Int))) 64) ≤ 2 ^ 35 := by exact_mod_cast Nat.pow_le_pow_right (by decide : 0 < 2) hk
  have h0 : (0 : Int) ≤ 2 ^ (min (Int.toNat (7 * ((i : Nat) : Int))) 64) := by exact_mod_cast Nat.zero_le _
  have h2 : x * 2 ^ (min (Int.toNat (7 * ((i : Nat) : Int))) 64) ≤ 127 * 2 ^ 35 := Int.mul_le_mul hx.2 h1 h0 (by decide)
  exact ⟨Int.mul_nonneg hx.1 h0, by omega⟩
theorem u8n (e : UInt8) : 0 ≤ ((e.toNat : Nat) : Int) ∧ ((e.toNat : Nat) : Int) ≤ 9223372036854775807 := by
  have := UInt8.toNat_lt e
  omega
def rvQ (b : List UInt8) (r : Int × Int × Bool) : Prop := r.2.2 = true → 0 ≤ r.1 ∧ r.1 ≤ 1000000000000 ∧ 0 ≤ r.2.1 ∧ r.2.1 ≤ ((b.length : Nat) : Int)
def rvR {σ : Type} (b : List UInt8) : Ctl (Int × Int × Bool) σ → Prop
  | .ret r => rvQ b r
  | .nxt _ => True
theorem rvC {σ : Type} {b : List UInt8} {c : Bool} {x y : Ctl (Int × Int × Bool) σ} (hx : c = true → rvR b x) (hy : c = false → rvR b y) : rvR b (bif c then x else y) := by
  cases c
  · exact hy rfl
  · exact hx rfl
theorem rvF {σ : Type} {b : List UInt8} : rvR (σ := σ) b (.ret (0, 0, false)) := fun h => by cases h
theorem rvL_impl (b : List UInt8) : ∀ (m i : Nat) (a n_ : Int), i + m ≤ 6 → 0 ≤ a → (0 ≤ n_ ∧ n_ ≤ 9223372036854775807) → rvR b (impl_ReadVarint_L1 b m i a n_)
  | 0, i, a, n_, _, _, _ => trivial
  | m + 1, i, a, n_, hi, ha, hn => by
    simp only [impl_ReadVarint_L1]
    refine rvC (fun h => ?_) (fun _ => trivial)
    have h1 := of_decide_eq_true h
    cases b[(a).toNat]? with
    | none => exact rvF
    | some e1 =>
      dsimp only
      have hb := bitOr_nn hn (shN (bitAnd127 (u8n e1)) (show i < 6 by omega))
      have hc := bitO_I64 .or n_ (IntKind.i64.wrap ((bitO .and ((e1).toNat : Int) 127) * 2 ^ (min (Int.toNat (7 * ((i : Nat) : Int))) 64)))
      unfold I64 at hc
      generalize bitO .or n_ (IntKind.i64.wrap ((bitO .and ((e1).toNat : Int) 127) * 2 ^ (min (Int.toNat (7 * ((i : Nat) : Int))) 64))) = v at hb hc ⊢
      have fin : decide (v > 1000000000000) = false → rvR (σ := Int × Int) b (.ret (v, a + 1, true)) := fun h _ => by
        have := of_decide_eq_false h
        dsimp only
        omega
      cases decide (((e1).toNat : Int) < 128)
      · simp only [cond_false]
        exact rvL_impl b m (i + 1) (a + 1) _ (by omega) (by omega) ⟨hb, hc.2⟩
      · simp only [cond_true]
        cases (((e1).toNat : Int) == 0)
        · simp only [cond_false]
          cases hD : decide (v > 1000000000000)
          · simp only [cond_false]; exact fin hD
          · simp only [cond_true]; exact rvF
        · simp only [cond_true]
          cases decide (((i : Nat) : Int) > 0)
          · simp only [cond_false]
            cases hD : decide (v > 1000000000000)
            · simp only [cond_false]; exact fin hD
            · simp only [cond_true]; exact rvF
          · simp only [cond_true]; exact rvF
theorem rv_impl (b : List UInt8) (at_ : Int) : rvQ b (impl_ReadVarint b at_) := by
  unfold impl_ReadVarint
  cases hd : decide (at_ < 0)
  · have := of_decide_eq_false hd
    have h := rvL_impl b 6 0 at_ 0 (by omega) (by omega) (by omega)
    simp only [cond_false]
    revert h
    cases impl_ReadVarint_L1 b 6 0 at_ 0 with
    | ret r => exact fun h => h
    | nxt x => exact fun _ h => by cases h
  · exact fun h => by cases h
theorem rvL_spec (b : List UInt8) (at_ : Int) : ∀ (m i : Nat) (n_ : Int), i + m ≤ 6 → (0 ≤ n_ ∧ n_ ≤ 9223372036854775807) → rvR b (spec_ReadVarint_L1 b at_ m i n_)
  | 0, i, n_, _, _ => trivial
  | m + 1, i, n_, hi, hn => by
    simp only [spec_ReadVarint_L1]
    refine rvC (fun _ => rvF) (fun h0 => rvC (fun _ => rvF) (fun h => ?_))
    have h1 := of_decide_eq_false h
    have h2 := of_decide_eq_false h0
    cases b[(at_ + ((i : Nat) : Int)).toNat]? with
    | none => exact rvF
    | some e1 =>
      dsimp only
      have hb := bitOr_nn hn (shN (bitAnd127 (u8n e1)) (show i < 6 by omega))
      have hc := bitO_I64 .or n_ (IntKind.i64.wrap ((bitO .and ((e1).toNat : Int) 127) * 2 ^ (min (Int.toNat (7 * ((i : Nat) : Int))) 64)))
      unfold I64 at hc
      generalize bitO .or n_ (IntKind.i64.wrap ((bitO .and ((e1).toNat : Int) 127) * 2 ^ (min (Int.toNat (7 * ((i : Nat) : Int))) 64))) = v at hb hc ⊢
      have fin : decide (v > 1000000000000) = false → rvR (σ := Int) b (.ret (v, at_ + ((i : Nat) : Int) + 1, true)) := fun h _ => by
        have := of_decide_eq_false h
        dsimp only
        omega
      cases decide (((e1).toNat : Int) < 128)
      · simp only [cond_false]
        exact rvL_spec b at_ m (i + 1) _ (by omega) ⟨hb, hc.2⟩
      · simp only [cond_true]
        cases (((e1).toNat : Int) == 0)
        · simp only [cond_false]
          cases hD : decide (v > 1000000000000)
          · simp only [cond_false]; exact fin hD
          · simp only [cond_true]; exact rvF
        · simp only [cond_true]
          cases decide (((i : Nat) : Int) > 0)
          · simp only [cond_false]
            cases hD : decide (v > 1000000000000)
            · simp only [cond_false]; exact fin hD
            · simp only [cond_true]; exact rvF
          · simp only [cond_true]; exact rvF
theorem rv_spec (b : List UInt8) (at_ : Int) : rvQ b (spec_ReadVarint b at_) := by
  unfold spec_ReadVarint
  have h := rvL_spec b at_ 6 0 0 (by omega) (by omega)
  revert h
  cases spec_ReadVarint_L1 b at_ 6 0 0 with
  | ret r => exact fun h => h
  | nxt x => exact fun _ h => by cases h
def impl_ReadBytes (b : (List UInt8)) (at_ : Int) (most : Int) : (List UInt8) × Int × Bool :=
  bif (!((impl_ReadVarint b at_).2.2)) then
    (([] : List UInt8), 0, false)
  else
    bif decide ((impl_ReadVarint b at_).1 > most) then
      (([] : List UInt8), 0, false)
    else
      bif decide ((impl_ReadVarint b at_).1 > (((b).length : Nat) : Int) - ((impl_ReadVarint b at_).2.1)) then
        (([] : List UInt8), 0, false)
      else
        ((List.take ((Int.toNat (((impl_ReadVarint b at_).2.1) + ((impl_ReadVarint b at_).1))) - (Int.toNat ((impl_ReadVarint b at_).2.1))) (List.drop (Int.toNat ((impl_ReadVarint b at_).2.1)) b)), (((impl_ReadVarint b at_).2.1) + ((impl_ReadVarint b at_).1)), true)
def spec_ReadBytes (b : (List UInt8)) (at_ : Int) (most : Int) : (List UInt8) × Int × Bool :=
  bif (!((spec_ReadVarint b at_).2.2)) then
    (([]), 0, false)
  else
    bif decide ((spec_ReadVarint b at_).1 > most) then
      (([]), 0, false)
    else
      bif decide ((spec_ReadVarint b at_).1 > (((b).length : Nat) : Int) - ((spec_ReadVarint b at_).2.1)) then
        (([]), 0, false)
      else
        ((List.take ((Int.toNat (((spec_ReadVarint b at_).2.1) + ((spec_ReadVarint b at_).1))) - (Int.toNat ((spec_ReadVarint b at_).2.1))) (List.drop (Int.toNat ((spec_ReadVarint b at_).2.1)) b)), (((spec_ReadVarint b at_).2.1) + ((spec_ReadVarint b at_).1)), true)
def impl_ReadName_L1 (b : (List UInt8)) : Nat → Int → (List Str) → Ctl (Name × Int × Bool) (Int × (List Str))
  | 0, next, n_ => (Ctl.nxt (next, ((n_) : List Str)))
  | m_ + 1, next, n_ =>
    bif (!((impl_ReadBytes b next 8).2.2)) then
      (Ctl.ret ((Name.mk ([])), 0, false))
    else
      impl_ReadName_L1 b m_ ((impl_ReadBytes b next 8).2.1) (((n_ ++ [(bstr ((impl_ReadBytes b next 8).1))])) : List Str)
def impl_ReadName (b : (List UInt8)) (at_ : Int) : Name × Int × Bool :=
  bif (!((impl_ReadVarint b at_).2.2)) then
    ((Name.mk ([])), 0, false)
  else
    bif decide ((impl_ReadVarint b at_).1 > 6) then
      ((Name.mk ([])), 0, false)
    else
      match impl_ReadName_L1 b (((impl_ReadVarint b at_).1).toNat) ((impl_ReadVarint b at_).2.1) ([] : List Str) with
        | .ret r_ => r_
        | .nxt (next, n_) =>
          bif (!(impl_ValidName (Name.mk n_))) then
            ((Name.mk ([])), 0, false)
          else
            ((Name.mk n_), next, true)
def spec_ReadName_L1 (b : (List UInt8)) : Nat → Int → (List Str) → Ctl (Name × Int × Bool) (Int × (List Str))
  | 0, next, n_ => (Ctl.nxt (next, ((n_) : List Str)))
  | m_ + 1, next, n_ =>
    bif (!((spec_ReadBytes b next 8).2.2)) then
      (Ctl.ret ((Name.mk ([])), 0, false))
    else
      spec_ReadName_L1 b m_ ((spec_ReadBytes b next 8).2.1) (((n_ ++ [(bstr ((spec_ReadBytes b next 8).1))])) : List Str)
def spec_ReadName (b : (List UInt8)) (at_ : Int) : Name × Int × Bool :=
  bif (!((spec_ReadVarint b at_).2.2)) then
    ((Name.mk ([])), 0, false)
  else
    bif decide ((spec_ReadVarint b at_).1 > 6) then
      ((Name.mk ([])), 0, false)
    else
      match spec_ReadName_L1 b (((spec_ReadVarint b at_).1).toNat) ((spec_ReadVarint b at_).2.1) ([] : List Str) with
        | .ret r_ => r_
        | .nxt (next, n_) =>
          bif (!(spec_ValidName (Name.mk n_))) then
            ((Name.mk ([])), 0, false)
          else
            ((Name.mk n_), next, true)
end Go.Stp

