/-
  What the proof of one law needs: rules of the program logic, functions as Lean functions, contracts. No condition but what each says. Written by a program (pack.py) out of my own texts.
-/
import Derived.Test.YtolepebgdfdciaaGreatKFnGroups5
namespace Go.Proofs.YtolepebgdfdciaaGreat
open Go.Stp
set_option linter.unusedVariables false
set_option linter.unusedSimpArgs false
theorem f111 (w : World) (n : Nat) (hn : n + 0 ≤ 9) (H : GH) (hH : Le H (hp w)) (bc_ : Nat) (c_b : (List UInt8)) (K0 : Option Addr) (M0 : Nat) (N0 : RdSl (cut (hp w) H) K0 M0 c_b) (c_i : Int) (c_h : Int) (n_ : Int) (hown : Sep H [MF.bx bc_ 182 [.slice K0 ((c_b).length) M0, .int .i64 (c_i), .int .i64 (c_h)]]) (hokc_b : GoT.ok n c_b) (hokc_i : NN c_i) (hokc_h : GoT.ok n c_h) (hokn_ : GoT.ok n n_) (o0_ : Bool) (o1_ : Int) (o2_ : Int) (hres : a33 c_b c_i c_h n_ = (o0_, o1_, o2_)) :
 Does Tryz.prog 111 #[.pointer (some ⟨bc_, 0, none⟩), .int .i64 (n_)] w H (Post w H (fun _ : Unit => .bool o0_) (fun _ => [MF.bx bc_ 182 [.slice K0 ((c_b).length) M0, .int .i64 (o1_), .int .i64 (o2_)]]) (NN (o1_) ∧ I64 (o2_))) := by
 have hbP := bd_pos n
 have hbB := bd_big (n := n) (by omega)
 have hc_bz : (c_b).length ≤ bd n := (okl hokc_b).1
 refine WX.enterP (tt := tt) (Γ := [(0, MF.rs .stb K0 M0 c_b)]) 1 Tryz.func111 Z J Z (allS_cons Z N0 allS_nil) hH hown (fun f hf => by cases hf) Z ?_
 refine R0 ?_
 obtain ⟨⟨u1, u2, u3⟩, hu1⟩ : ∃ r_, a08 c_b c_i c_h n_ = r_ := ⟨_, rfl⟩
 refine WX.callP (ds := fun _ => []) 999 2 Z (fun _ _ _ => All.nil) (fun _ f hf => by cases hf) Z Z Z Z Z O Z (fun w G bs H hI hH hs hΓ => f84 w n (by omega) H hH (bs 999) c_b K0 M0 (hΓ.get 0 Z) c_i c_h n_ hs hokc_b hokc_i hokc_h hokn_ u1 u2 u3 hu1) O O ?_
 rintro ⟨⟩ hq1
 have q1 := l1Below_rng c_b c_i c_h n_
 rw [hu1] at q1
 try dsimp only at q1
 refine R0 ?_
 have hP1 : a33 c_b c_i c_h n_ = (u1 == 0, u2, u3) := by simp only [a33, hu1, ct, cf]
 have hz1 := hP1.symm.trans hres
 obtain ⟨hz1, hz2⟩ := Prod.mk.inj hz1
 obtain ⟨hz2, hz3⟩ := Prod.mk.inj hz2
 subst hz1
 subst hz2
 subst hz3
 refine R1 ?_
 intro w1 G bs hI hΓ
 exact Post.ofL 999 [] () hI hΓ Z Z Z (by rw [hI.pin _ rfl]; first | done | rfl) (⟨hq1.2.1, hq1.2.2⟩)
theorem f107 (w : World) (n : Nat) (hn : n + 0 ≤ 9) (H : GH) (hH : Le H (hp w)) (bc_ : Nat) (c_b : (List UInt8)) (K0 : Option Addr) (M0 : Nat) (N0 : RdSl (cut (hp w) H) K0 M0 c_b) (c_i : Int) (c_h : Int) (list : (List Int)) (K1 : Option Addr) (M1 : Nat) (N1 : RdSl (cut (hp w) H) K1 M1 list) (hown : Sep H [MF.bx bc_ 182 [.slice K0 ((c_b).length) M0, .int .i64 (c_i), .int .i64 (c_h)]]) (hokc_b : GoT.ok n c_b) (hokc_i : NN c_i) (hokc_h : GoT.ok n c_h) (hq0 : 0 < list.length) (hoklist : GoT.ok n list) (o0_ : Int) (o1_ : Int) (o2_ : Int) (hres : a1w c_b c_i c_h list = (o0_, o1_, o2_)) :
 Does Tryz.prog 107 #[.pointer (some ⟨bc_, 0, none⟩), .slice K1 ((list).length) M1] w H (Post w H (fun _ : Unit => .int .i64 (o0_)) (fun _ => [MF.bx bc_ 182 [.slice K0 ((c_b).length) M0, .int .i64 (o1_), .int .i64 (o2_)]]) (GoT.ok n (o0_ : Int) ∧ NN (o1_) ∧ I64 (o2_))) := by
 have hbP := bd_pos n
 have hbB := bd_big (n := n) (by omega)
 have hc_bz : (c_b).length ≤ bd n := (okl hokc_b).1
 refine WX.enterP (tt := tt) (Γ := [(0, MF.rs .stb K0 M0 c_b), (1, MF.rs .stb K1 M1 list)]) 2 Tryz.func107 Z J Z (allS_cons Z N0 (allS_cons Z N1 allS_nil)) hH hown (fun f hf => by cases hf) Z ?_
 refine R0 ?_
 have r1 : (list).length ≤ bd n := (okl hoklist).1
 obtain ⟨⟨u1, u2, u3⟩, hu1⟩ : ∃ r_, a08 c_b c_i c_h (((list).length : Nat) : Int) = r_ := ⟨_, rfl⟩
 refine WX.callP (ds := fun _ => []) 999 3 Z (fun _ _ _ => All.nil) (fun _ f hf => by cases hf) Z Z Z Z Z O Z (fun w G bs H hI hH hs hΓ => f84 w n (by omega) H hH (bs 999) c_b K0 M0 (hΓ.get 0 Z) c_i c_h (((list).length : Nat) : Int) hs hokc_b hokc_i hokc_h (show I64 (((list).length : Nat) : Int) from (by unfold I64; omega)) u1 u2 u3 hu1) O O ?_
 rintro ⟨⟩ hq1
 have q1 := l1Below_rng c_b c_i c_h (((list).length : Nat) : Int)
 rw [hu1] at q1
 try dsimp only at q1
 have r2 : -9223372036854775808 ≤ u1 ∧ u1 ≤ 9223372036854775807 := hq1.1
 refine WX.slot 9 (y := .v (.int .i64 (((u1).toNat : Nat) : Int))) Z (fun _ => congrArg (Value.int .i64) (show u1 = (((u1).toNat : Nat) : Int) from by omega)) ?_
 have e1i : (u1).toNat < (list).length := (by omega)
 obtain ⟨e1, e1h⟩ : ∃ e1, (list)[(u1).toNat]? = some e1 := ⟨_, List.getElem?_eq_getElem e1i⟩
 have ok1 : GoT.ok n e1 := (okl hoklist).2 _ (List.mem_of_getElem? e1h)
 refine WX.idx 1 ((u1).toNat) ttOk Z Z Z Z Z Z Z Z Z Z e1i ?_
 rintro ad1 rfl
 refine WX.ldE 1 4 e1 ttOk Z Z Z Z Z Z Z Z e1h O O ?_
 rintro ⟨⟩
 refine R0 ?_
 have hP1 : a1w c_b c_i c_h list = (e1, u2, u3) := by simp only [a1w, hu1, e1h, ct, cf]
 have hz1 := hP1.symm.trans hres
 obtain ⟨hz1, hz2⟩ := Prod.mk.inj hz1
 obtain ⟨hz2, hz3⟩ := Prod.mk.inj hz2
 subst hz1
 subst hz2
 subst hz3
 refine R1 ?_
 intro w1 G bs hI hΓ
 exact Post.ofL 999 [] () hI hΓ Z Z Z (by rw [hI.pin _ rfl]; first | done | rfl) (⟨ok1, ⟨hq1.2.1, hq1.2.2⟩⟩)
theorem f110 (w : World) (n : Nat) (hn : n + 0 ≤ 9) (H : GH) (hH : Le H (hp w)) (bc_ : Nat) (c_b : (List UInt8)) (K0 : Option Addr) (M0 : Nat) (N0 : RdSl (cut (hp w) H) K0 M0 c_b) (c_i : Int) (c_h : Int) (list : (List Str)) (K1 : Option Addr) (M1 : Nat) (N1 : RdSl (cut (hp w) H) K1 M1 list) (hown : Sep H [MF.bx bc_ 182 [.slice K0 ((c_b).length) M0, .int .i64 (c_i), .int .i64 (c_h)]]) (hokc_b : GoT.ok n c_b) (hokc_i : NN c_i) (hokc_h : GoT.ok n c_h) (hq0 : 0 < list.length) (hoklist : GoT.ok n list) (o0_ : Str) (o1_ : Int) (o2_ : Int) (hres : a1o c_b c_i c_h list = (o0_, o1_, o2_)) :
 Does Tryz.prog 110 #[.pointer (some ⟨bc_, 0, none⟩), .slice K1 ((list).length) M1] w H (Post w H (fun _ : Unit => .string o0_) (fun _ => [MF.bx bc_ 182 [.slice K0 ((c_b).length) M0, .int .i64 (o1_), .int .i64 (o2_)]]) (GoT.ok n (o0_ : Str) ∧ NN (o1_) ∧ I64 (o2_))) := by
 have hbP := bd_pos n
 have hbB := bd_big (n := n) (by omega)
 have hc_bz : (c_b).length ≤ bd n := (okl hokc_b).1
 refine WX.enterP (tt := tt) (Γ := [(0, MF.rs .stb K0 M0 c_b), (1, MF.rs .stb K1 M1 list)]) 2 Tryz.func110 Z J Z (allS_cons Z N0 (allS_cons Z N1 allS_nil)) hH hown (fun f hf => by cases hf) Z ?_
 refine R0 ?_
 have r1 : (list).length ≤ bd n := (okl hoklist).1
 obtain ⟨⟨u1, u2, u3⟩, hu1⟩ : ∃ r_, a08 c_b c_i c_h (((list).length : Nat) : Int) = r_ := ⟨_, rfl⟩
 refine WX.callP (ds := fun _ => []) 999 3 Z (fun _ _ _ => All.nil) (fun _ f hf => by cases hf) Z Z Z Z Z O Z (fun w G bs H hI hH hs hΓ => f84 w n (by omega) H hH (bs 999) c_b K0 M0 (hΓ.get 0 Z) c_i c_h (((list).length : Nat) : Int) hs hokc_b hokc_i hokc_h (show I64 (((list).length : Nat) : Int) from (by unfold I64; omega)) u1 u2 u3 hu1) O O ?_
 rintro ⟨⟩ hq1
 have q1 := l1Below_rng c_b c_i c_h (((list).length : Nat) : Int)
 rw [hu1] at q1
 try dsimp only at q1
 have r2 : -9223372036854775808 ≤ u1 ∧ u1 ≤ 9223372036854775807 := hq1.1
 refine WX.slot 9 (y := .v (.int .i64 (((u1).toNat : Nat) : Int))) Z (fun _ => congrArg (Value.int .i64) (show u1 = (((u1).toNat : Nat) : Int) from by omega)) ?_
 have e1i : (u1).toNat < (list).length := (by omega)
 obtain ⟨e1, e1h⟩ : ∃ e1, (list)[(u1).toNat]? = some e1 := ⟨_, List.getElem?_eq_getElem e1i⟩
 have ok1 : GoT.ok n e1 := (okl hoklist).2 _ (List.mem_of_getElem? e1h)
 refine WX.idx 1 ((u1).toNat) ttOk Z Z Z Z Z Z Z Z Z Z e1i ?_
 rintro ad1 rfl
 refine WX.ldE 1 4 e1 ttOk Z Z Z Z Z Z Z Z e1h O O ?_
 rintro ⟨⟩
 refine R0 ?_
 have hP1 : a1o c_b c_i c_h list = (e1, u2, u3) := by simp only [a1o, hu1, e1h, ct, cf]
 have hz1 := hP1.symm.trans hres
 obtain ⟨hz1, hz2⟩ := Prod.mk.inj hz1
 obtain ⟨hz2, hz3⟩ := Prod.mk.inj hz2
 subst hz1
 subst hz2
 subst hz3
 refine R1 ?_
 intro w1 G bs hI hΓ
 exact Post.ofL 999 [] () hI hΓ Z Z Z (by rw [hI.pin _ rfl]; first | done | rfl) (⟨ok1, ⟨hq1.2.1, hq1.2.2⟩⟩)
theorem f106 (w : World) (n : Nat) (hn : n + 0 ≤ 9) (H : GH) (hH : Le H (hp w)) (bc_ : Nat) (c_b : (List UInt8)) (K0 : Option Addr) (M0 : Nat) (N0 : RdSl (cut (hp w) H) K0 M0 c_b) (c_i : Int) (c_h : Int) (n_ : Int) (hown : Sep H [MF.bx bc_ 182 [.slice K0 ((c_b).length) M0, .int .i64 (c_i), .int .i64 (c_h)]]) (hokc_b : GoT.ok n c_b) (hokc_i : NN c_i) (hokc_h : GoT.ok n c_h) (hq0 : n_ ≤ 1048576) (hokn_ : GoT.ok n n_) (o0_ : (List UInt8)) (o1_ : Int) (o2_ : Int) (hres : a19 c_b c_i c_h n_ = (o0_, o1_, o2_)) :
 Does Tryz.prog 106 #[.pointer (some ⟨bc_, 0, none⟩), .int .i64 (n_)] w H (Post w H (fun x : GoT.X ((List UInt8)) => (GoT.sh (o0_ : (List UInt8)) x).headD undef) (fun x => MF.bx bc_ 182 [.slice K0 ((c_b).length) M0, .int .i64 (o1_), .int .i64 (o2_)] :: GoT.oa (o0_ : (List UInt8)) x) (GoT.ok n (o0_ : (List UInt8)) ∧ NN (o1_) ∧ I64 (o2_))) := by
 have hbP := bd_pos n
 have hbB := bd_big (n := n) (by omega)
 have hc_bz : (c_b).length ≤ bd n := (okl hokc_b).1
 refine WX.enterP (tt := tt) (Γ := [(0, MF.rs .stb K0 M0 c_b)]) 1 Tryz.func106 Z J Z (allS_cons Z N0 allS_nil) hH hown (fun f hf => by cases hf) Z ?_
 refine R0 ?_
 refine WX.bld ttOk Z Z Z Z Z Z Z ?_
 intro p1
 refine R0 ?_
 refine WX.free 2 (MF.ol [] ([] : List UInt8)) Z ?_
 have r1 : -9223372036854775808 ≤ n_ ∧ n_ ≤ 9223372036854775807 := hokn_
 refine WX.loop (ι := (Option Addr) × Nat × (List Value) × (List UInt8) × Nat × Int × Int) ⟨fun | (pout, cout, xsout, out, i, u999_i, u999_h) => (i ≤ (n_).toNat) ∧ (∀ z_ ∈ out, GoT.ok n z_) ∧ (NN u999_i) ∧ (-9223372036854775808 ≤ u999_h ∧ u999_h ≤ 9223372036854775807) ∧ (out.length ≤ i) ∧ (a30 c_b ((n_).toNat) ([] : List UInt8) c_i c_h = a30 c_b ((n_).toNat - i) out u999_i u999_h), fun | (pout, cout, xsout, out, i, u999_i, u999_h) => (n_).toNat - i, fun | (pout, cout, xsout, out, i, u999_i, u999_h) => [(5, .v (.slice pout ((out).length) cout)), (6, .v (.int .i64 (((i : Nat) : Int)))), (0, .p 999 0), (1, .v (.int .i64 (n_)))], fun | (pout, cout, xsout, out, i, u999_i, u999_h) => [(999, ⟨182, [.slice K0 ((c_b).length) M0, .int .i64 (u999_i), .int .i64 (u999_h)]⟩)], fun | (pout, cout, xsout, out, i, u999_i, u999_h) => [(7, ⟨1, pout, (out).length, cout, xsout⟩)], fun | (pout, cout, xsout, out, i, u999_i, u999_h) => [(0, MF.rs .stb K0 M0 c_b), (2, MF.ol xsout (out : List UInt8))]⟩ (p1, 0, [], ([] : List UInt8), 0, c_i, c_h) ⟨(Nat.zero_le _), (fun a ha => by cases ha), hokc_i, hokc_h, (by simp), Z⟩
  (.cons Z (.cons Z (.cons Z (.cons Z (.nil))))) (.cons Z (.nil)) (.cons Z (.nil)) [0, 2] Z ?_
 rintro ⟨pout, cout, xsout, out, i, u999_i, u999_h⟩ hpre
 have hpre_ : (i ≤ (n_).toNat) ∧ (∀ z_ ∈ out, GoT.ok n z_) ∧ (NN u999_i) ∧ (-9223372036854775808 ≤ u999_h ∧ u999_h ≤ 9223372036854775807) ∧ (out.length ≤ i) ∧ (a30 c_b ((n_).toNat) ([] : List UInt8) c_i c_h = a30 c_b ((n_).toNat - i) out u999_i u999_h) := hpre
 clear hpre
 obtain ⟨v1, v2, v3, v4, v5, v6⟩ := hpre_
 refine R0 ?_
 refine WX.cases 10 Z (fun h1 => ?_) (fun h1 => ?_)
 ·skip
  have h1d := B.dt h1
  refine R0 ?_
  obtain ⟨⟨u1, u2, u3⟩, hu1⟩ : ∃ r_, a1h c_b u999_i u999_h = r_ := ⟨_, rfl⟩
  refine WX.callP (ds := fun _ => []) 999 3 Z (fun _ _ _ => All.nil) (fun _ f hf => by cases hf) Z Z Z Z Z O Z (fun w G bs H hI hH hs hΓ => f172 w n (by omega) H hH (bs 999) c_b K0 M0 (hΓ.get 0 Z) u999_i u999_h hs hokc_b v3 v4 u1 u2 u3 hu1) O O ?_
  rintro ⟨⟩ hq1
  have q1 := l1Byte_rng c_b u999_i u999_h
  rw [hu1] at q1
  try dsimp only at q1
  refine WX.see Z Z Z (fun _ hΓ => looks_toU8 ttOk Z Z Z Z Z Z) ?_
  refine WX.bld ttOk Z Z Z Z Z Z Z ?_
  intro p2
  refine WX.turn [] 4 Z (fun h hs => ol_one (α := UInt8) (a := (toU8 u1)) (x := ()) hs) (gs := [MF.ol [.int .u8 ((toU8 u1).toNat : Nat)] ([(toU8 u1)] : List UInt8)]) Z ?_
  have r2 : -9223372036854775808 ≤ u1 ∧ u1 ≤ 9223372036854775807 := hq1.1
  refine WX.know (fun G hΓ => (hΓ.get 4 Z : OwL _ _ _).rd.one) ?_
  intro ho1
  refine WX.appR1 7 17 ((out ++ [(toU8 u1)]) : List UInt8).length ttOk Z Z Z Z Z Z Z Z Z Z Z Z Z ho1 (by simp) (by simp; omega) (by simp; omega) (fun _ _ => Z) ?_
  intro p3 c1
  refine WX.turn [2, 4] 5 Z (fun h hs => ol_app hs) (gs := [MF.ol (xsout ++ [.int .u8 ((toU8 u1).toNat : Nat)]) ((out ++ [(toU8 u1)]) : List UInt8)]) Z ?_
  refine R0 ?_
  refine WX.see Z Z Z (fun _ hΓ => looks_arith Z Z Z Z (by unfold I64; first | omega | (simp only [List.length_take] at *; omega))) ?_
  refine R0 ?_
  refine WX.turn [5] 2 Z (fun _ h => h) Z ?_
  exact WX.iter (p3, c1, (xsout ++ [.int .u8 ((toU8 u1).toNat : Nat)]), ((out ++ [(toU8 u1)]) : List UInt8), i + 1, u2, u3) ⟨(by omega), (fun _ _ => trivial), hq1.2.1, hq1.2.2, (by first | assumption | omega | (simp; omega)), (by rw [v6, show (n_).toNat - i = ((n_).toNat - (i + 1)) + 1 by omega]; simp only [a30, hu1, ct, cf])⟩ (by first | (dsimp only; omega) | omega) (.cons Z (.cons Z (.cons Z (.cons Z (.nil))))) (.cons Z (.nil)) (.cons Z (.nil)) [0, 2] Z
 have h1d := B.df h1
 refine R0 ?_
 have hX1 : a30 c_b ((n_).toNat) ([] : List UInt8) c_i c_h = (((out) : List UInt8), u999_i, u999_h) := by rw [v6, show (n_).toNat - i = 0 by omega]; simp only [a30, ct, cf]
 refine WX.seal 7 2 6 Z Z Z Z Z ?_
 have hP1 : a19 c_b c_i c_h n_ = (out, u999_i, u999_h) := by simp only [a19, hX1, ct, cf]
 have hz1 := hP1.symm.trans hres
 obtain ⟨hz1, hz2⟩ := Prod.mk.inj hz1
 obtain ⟨hz2, hz3⟩ := Prod.mk.inj hz2
 subst hz1
 subst hz2
 subst hz3
 refine R1 ?_
 intro w1 G bs hI hΓ
 exact Post.ofL 999 [7] (pout, cout) hI hΓ Z Z Z (by rw [hI.pin _ rfl]; first | done | rfl) (⟨(okl_mk (by omega) (fun _ _ => trivial) : GoT.ok n (out : List UInt8)), ⟨v3, v4⟩⟩)
theorem f225 (w : World) (n : Nat) (hn : n + 1 ≤ 9) (s : Str) (by_ : UInt8) (hoks : GoT.ok n s) :
 Does Tryz.prog 225 #[.string s, .int .u8 ((by_).toNat : Nat)] w emp (Post w emp (fun x : GoT.X ((List Str)) => (GoT.sh ((a12 s by_) : (List Str)) x).headD undef) (fun x => GoT.oa ((a12 s by_) : (List Str)) x) (GoT.ok (n + 1) ((a12 s by_) : (List Str)))) := by
 have hbP := bd_pos n
 have hbS0 : bd (n + 1) = 4 * bd (n) := bd_succ (n := n) (by omega)
 have hbB := bd_big (n := (n + 1)) (by omega)
 have hbM := bd_mono (show n ≤ n + 1 by omega)
 refine WX.enter (tt := tt) (Γ := []) Tryz.func225 Z J Z allS_nil ?_
 refine R0 ?_
 refine WX.bld ttOk Z Z Z Z Z Z Z ?_
 intro p1
 refine R0 ?_
 refine WX.free 0 (MF.ol [] ([] : List Str)) Z ?_
 have hs0 : s.size ≤ bd n := hoks
 refine WX.loop (ι := (Option Addr) × Nat × (List Value) × (List Str) × Int × Nat) ⟨fun | (pout, cout, xsout, out, from_, i) => (∀ z_ ∈ out, GoT.ok n z_) ∧ (-9223372036854775808 ≤ from_ ∧ from_ ≤ 9223372036854775807) ∧ (0 ≤ from_ ∧ from_ ≤ ((i : Nat) : Int)) ∧ (i ≤ (s).size + 1) ∧ (out.length ≤ i) ∧ (a1i s by_ 0 ([] : List Str) 0 = a1i s by_ i out from_), fun | (pout, cout, xsout, out, from_, i) => (s).size + 1 - i, fun | (pout, cout, xsout, out, from_, i) => [(5, .v (.slice pout ((out).length) cout)), (6, .v (.int .i64 (from_))), (7, .v (.int .i64 (((i : Nat) : Int)))), (0, .v (.string s)), (1, .v (.int .u8 ((by_).toNat : Nat)))], fun | (pout, cout, xsout, out, from_, i) => [], fun | (pout, cout, xsout, out, from_, i) => [(8, ⟨1, pout, (out).length, cout, xsout⟩)], fun | (pout, cout, xsout, out, from_, i) => [(0, MF.ol xsout (out : List Str))]⟩ (p1, 0, [], ([] : List Str), 0, 0) ⟨(fun a ha => by cases ha), (by first | assumption | omega), (by omega), (by omega), (by simp), Z⟩
  (.cons Z (.cons Z (.cons Z (.cons Z (.cons Z (.nil)))))) .nil (.cons Z (.nil)) [0] Z ?_
 rintro ⟨pout, cout, xsout, out, from_, i⟩ hpre
 have hpre_ : (∀ z_ ∈ out, GoT.ok n z_) ∧ (-9223372036854775808 ≤ from_ ∧ from_ ≤ 9223372036854775807) ∧ (0 ≤ from_ ∧ from_ ≤ ((i : Nat) : Int)) ∧ (i ≤ (s).size + 1) ∧ (out.length ≤ i) ∧ (a1i s by_ 0 ([] : List Str) 0 = a1i s by_ i out from_) := hpre
 clear hpre
 obtain ⟨v1, v2, v3, v4, v5, v6⟩ := hpre_
 refine R0 ?_
 refine WX.cases 12 Z (fun h1 => ?_) (fun h1 => ?_)
 ·skip
  have h1d := B.dt h1
  refine R0 ?_
  refine WX.cases 19 Z (fun h2 => ?_) (fun h2 => ?_)
  ·skip
   have h2d := B.et h2
   refine R0 ?_
   have r1 : (s).size ≤ bd n := hoks
   refine WX.see Z Z Z (fun _ hΓ => looks_strB (Int.toNat from_) i ttOk Z Z Z Z Z Z (show from_ = (((Int.toNat from_) : Nat) : Int) from (by omega)) (show ((i : Nat) : Int) = ((i : Nat) : Int) from Z) (show (Int.toNat from_) ≤ i from (by omega)) (show i ≤ (s).size from (by omega))) ?_
   have r2 : (((s).extract (Int.toNat from_) i)).size = i - (Int.toNat from_) := by rw [ByteArray.size_extract]; have z_ := (show i ≤ (s).size from (by omega)); omega
   refine WX.bld ttOk Z Z Z Z Z Z Z ?_
   intro p2
   refine WX.turn [] 1 Z (fun h hs => ol_one (α := Str) (a := ((s).extract (Int.toNat from_) i)) (x := ()) hs) (gs := [MF.ol [.string ((s).extract (Int.toNat from_) i)] ([((s).extract (Int.toNat from_) i)] : List Str)]) Z ?_
   refine WX.know (fun G hΓ => (hΓ.get 1 Z : OwL _ _ _).rd.one) ?_
   intro ho1
   refine WX.appR1 8 31 ((out ++ [((s).extract (Int.toNat from_) i)]) : List Str).length ttOk Z Z Z Z Z Z Z Z Z Z Z Z Z ho1 (by simp) (by simp; omega) (by simp; omega) (fun _ _ => Z) ?_
   intro p3 c1
   refine WX.turn [0, 1] 2 Z (fun h hs => ol_app hs) (gs := [MF.ol (xsout ++ [.string ((s).extract (Int.toNat from_) i)]) ((out ++ [((s).extract (Int.toNat from_) i)]) : List Str)]) Z ?_
   refine R0 ?_
   refine WX.see Z Z Z (fun _ hΓ => looks_arith Z Z Z Z (by unfold I64; first | omega | (simp only [List.length_take] at *; omega))) ?_
   refine R0 ?_
   refine WX.see Z Z Z (fun _ hΓ => looks_arith Z Z Z Z (by unfold I64; first | omega | (simp only [List.length_take] at *; omega))) ?_
   refine R0 ?_
   refine WX.turn [2] 0 Z (fun _ h => h) Z ?_
   exact WX.iter (p3, c1, (xsout ++ [.string ((s).extract (Int.toNat from_) i)]), ((out ++ [((s).extract (Int.toNat from_) i)]) : List Str), ((i : Nat) : Int) + 1, i + 1) ⟨(all_app v1 (all_cons (α := Str) (show (((s).extract (Int.toNat from_) i)).size ≤ bd n from (by first | omega | (simp; omega))) (fun a ha => by cases ha))), (by first | assumption | omega), (by omega), (by omega), (by first | assumption | omega | (simp; omega)), (by rw [v6]; rw [a1i]; simp only [h1, h1d, h2, ct, cf, ↓reduceIte, Bool.false_eq_true])⟩ (by first | (dsimp only; omega) | omega) (.cons Z (.cons Z (.cons Z (.cons Z (.cons Z (.nil)))))) .nil (.cons Z (.nil)) [0] Z
  have h2d := B.ef h2
  refine R0 ?_
  have e1i : i < ((s).data.toList).length := (by rw [show ((s).data.toList).length = (s).size from by simp]; omega)
  obtain ⟨e1, e1h⟩ : ∃ e1, ((s).data.toList)[i]? = some e1 := ⟨_, List.getElem?_eq_getElem e1i⟩
  refine WX.see Z Z Z (fun _ hΓ => looks_strIdx ttOk Z Z Z Z Z e1h) ?_
  refine R0 ?_
  refine WX.cases 25 Z (fun h3 => ?_) (fun h3 => ?_)
  ·skip
   have h3d := B.et h3
   refine R0 ?_
   have r3 : (s).size ≤ bd n := hoks
   refine WX.see Z Z Z (fun _ hΓ => looks_strB (Int.toNat from_) i ttOk Z Z Z Z Z Z (show from_ = (((Int.toNat from_) : Nat) : Int) from (by omega)) (show ((i : Nat) : Int) = ((i : Nat) : Int) from Z) (show (Int.toNat from_) ≤ i from (by omega)) (show i ≤ (s).size from (by omega))) ?_
   have r4 : (((s).extract (Int.toNat from_) i)).size = i - (Int.toNat from_) := by rw [ByteArray.size_extract]; have z_ := (show i ≤ (s).size from (by omega)); omega
   refine WX.bld ttOk Z Z Z Z Z Z Z ?_
   intro p4
   refine WX.turn [] 3 Z (fun h hs => ol_one (α := Str) (a := ((s).extract (Int.toNat from_) i)) (x := ()) hs) (gs := [MF.ol [.string ((s).extract (Int.toNat from_) i)] ([((s).extract (Int.toNat from_) i)] : List Str)]) Z ?_
   refine WX.know (fun G hΓ => (hΓ.get 3 Z : OwL _ _ _).rd.one) ?_
   intro ho2
   refine WX.appR1 8 31 ((out ++ [((s).extract (Int.toNat from_) i)]) : List Str).length ttOk Z Z Z Z Z Z Z Z Z Z Z Z Z ho2 (by simp) (by simp; omega) (by simp; omega) (fun _ _ => Z) ?_
   intro p5 c2
   refine WX.turn [0, 3] 4 Z (fun h hs => ol_app hs) (gs := [MF.ol (xsout ++ [.string ((s).extract (Int.toNat from_) i)]) ((out ++ [((s).extract (Int.toNat from_) i)]) : List Str)]) Z ?_
   refine R0 ?_
   refine WX.see Z Z Z (fun _ hΓ => looks_arith Z Z Z Z (by unfold I64; first | omega | (simp only [List.length_take] at *; omega))) ?_
   refine R0 ?_
   refine WX.see Z Z Z (fun _ hΓ => looks_arith Z Z Z Z (by unfold I64; first | omega | (simp only [List.length_take] at *; omega))) ?_
   refine R0 ?_
   refine WX.turn [4] 0 Z (fun _ h => h) Z ?_
   exact WX.iter (p5, c2, (xsout ++ [.string ((s).extract (Int.toNat from_) i)]), ((out ++ [((s).extract (Int.toNat from_) i)]) : List Str), ((i : Nat) : Int) + 1, i + 1) ⟨(all_app v1 (all_cons (α := Str) (show (((s).extract (Int.toNat from_) i)).size ≤ bd n from (by first | omega | (simp; omega))) (fun a ha => by cases ha))), (by first | assumption | omega), (by omega), (by omega), (by first | assumption | omega | (simp; omega)), (by rw [v6]; rw [a1i]; simp only [h1, h1d, h2, e1h, h3, ct, cf, ↓reduceIte, Bool.false_eq_true])⟩ (by first | (dsimp only; omega) | omega) (.cons Z (.cons Z (.cons Z (.cons Z (.cons Z (.nil)))))) .nil (.cons Z (.nil)) [0] Z
  have h3d := B.ef h3
  refine R0 ?_
  refine WX.see Z Z Z (fun _ hΓ => looks_arith Z Z Z Z (by unfold I64; first | omega | (simp only [List.length_take] at *; omega))) ?_
  refine R0 ?_
  exact WX.iter (pout, cout, xsout, (out : List Str), from_, i + 1) ⟨v1, v2, (by omega), (by omega), (by first | assumption | omega | (simp; omega)), (by rw [v6]; rw [a1i]; simp only [h1, h1d, h2, e1h, h3, ct, cf, ↓reduceIte, Bool.false_eq_true])⟩ (by first | (dsimp only; omega) | omega) (.cons Z (.cons Z (.cons Z (.cons Z (.cons Z (.nil)))))) .nil (.cons Z (.nil)) [0] Z
 have h1d := B.df h1
 refine R0 ?_
 have hX1 : a1i s by_ 0 ([] : List Str) 0 = (i, ((out) : List Str), from_) := by rw [v6]; rw [a1i]; simp only [h1, h1d, ct, cf, ↓reduceIte, Bool.false_eq_true]
 refine WX.seal 8 0 5 Z Z Z Z Z ?_
 have hP1 : a12 s by_ = out := by simp only [a12, hX1, ct, cf]
 refine R1 ?_
 intro w1 G bs hI hΓ
 rw [hP1]
 exact Post.of [6] (pout, cout) hI hΓ Z Z Z (okl_mk (by omega) (fun a ha => GoT.okm (by omega) (v1 a ha)) : GoT.ok (n + 1) (out : List Str))
theorem f183 (w : World) (n : Nat) (hn : n + 1 ≤ 9) (s : Str) (hoks : GoT.ok n s) :
 Does Tryz.prog 183 #[.string s] w emp (Post w emp (fun x : GoT.X (Name) => .tuple #[.agg ⟨GoT.sh ((a20 s).1 : Name) x⟩, .bool ((a20 s).2)]) (fun x => GoT.oa ((a20 s).1 : Name) x) (GoT.ok (n + 1) ((a20 s).1 : Name))) := by
 have hbP := bd_pos n
 have hbS0 : bd (n + 1) = 4 * bd (n) := bd_succ (n := n) (by omega)
 have hbB := bd_big (n := (n + 1)) (by omega)
 have hbM := bd_mono (show n ≤ n + 1 by omega)
 refine WX.enter (tt := tt) (Γ := []) Tryz.func183 Z J Z allS_nil ?_
 refine R0 ?_
 refine WX.cases 7 Z (fun h1 => ?_) (fun h1 => ?_)
 ·skip
  have h1d := B.et h1
  refine R0 ?_
  refine WX.free 0 (MF.os none 0 ([] : List Str)) (owSl_nil _ _) ?_
  have hP1 : a20 s = (Name.mk ([]), true) := by simp only [a20, h1, ct, cf]
  refine R1 ?_
  intro w1 G bs hI hΓ
  rw [hP1]
  exact Post.of [0] (none, 0) hI hΓ Z Z Z (ok_nil (α := Str))
 have h1d := B.ef h1
 refine R0 ?_
 refine WX.callF 1 (fun _ _ h => GoT.ow_rd h) (fun _ f hf => GoT.fak f hf) Z Z Z Z Z O Z (fun w G bs hI hΓ => f225 w n (by omega) s (47 : UInt8) hoks) O O ?_
 rintro ⟨p1, c1⟩ hq1
 have q1 := len_l4Split s (47 : UInt8)
 refine R0 ?_
 have r1 : (s).size ≤ bd n := hoks
 have r2 : (a12 s (47 : UInt8)).length ≤ bd (n + 1) := (okl hq1).1
 refine WX.see Z Z Z (fun _ hΓ => looks_slL 1 ttOk Z Z Z Z (by simp) (show 1 ≤ ((a12 s (47 : UInt8))).length from (by omega))) ?_
 refine WX.slot 12 (y := .v (.slice (offP p1 c1 1 1) (((List.drop 1 (a12 s (47 : UInt8)))).length) (c1 - 1))) Z (fun _ => by rw [show ((List.drop 1 (a12 s (47 : UInt8)))).length = (((a12 s (47 : UInt8))).length) - 1 from (by simp only [List.length_drop])]) ?_
 refine WX.der 3 (MF.rs .der (offP p1 c1 1 1) (c1 - 1) (List.drop 1 (a12 s (47 : UInt8)))) Z (fun _ hΓ => RdSl.suf (hΓ.get 1 Z : RdSl _ _ _ _) 1) ?_
 refine R0 ?_
 refine WX.cases 17 Z (fun h2 => ?_) (fun h2 => ?_)
 ·skip
  have h2d := B.dt h2
  refine R0 ?_
  refine WX.free 4 (MF.os none 0 ([] : List Str)) (owSl_nil _ _) ?_
  have hP2 : a20 s = (Name.mk ([]), false) := by simp only [a20, h1, h2, ct, cf]
  refine R1 ?_
  intro w1 G bs hI hΓ
  rw [hP2]
  exact Post.of [4] (none, 0) hI hΓ Z Z Z (ok_nil (α := Str))
 have h2d := B.df h2
 refine R0 ?_
 have e1i : 0 < ((a12 s (47 : UInt8))).length := (by first | assumption | omega)
 obtain ⟨e1, e1h⟩ : ∃ e1, ((a12 s (47 : UInt8)))[0]? = some e1 := ⟨_, List.getElem?_eq_getElem e1i⟩
 have ok1 : GoT.ok (n + 1) e1 := (okl hq1).2 _ (List.mem_of_getElem? e1h)
 refine WX.idx 1 0 ttOk Z Z Z Z Z Z Z Z Z Z e1i ?_
 rintro ad1 rfl
 refine WX.ldE 1 5 e1 ttOk Z Z Z Z Z Z Z Z e1h O O ?_
 rintro ⟨⟩
 refine R0 ?_
 refine WX.cases 23 Z (fun h3 => ?_) (fun h3 => ?_)
 ·skip
  have h3d := B.ef (B.nt h3)
  refine R0 ?_
  refine WX.free 5 (MF.os none 0 ([] : List Str)) (owSl_nil _ _) ?_
  have hP3 : a20 s = (Name.mk ([]), false) := by simp only [a20, h1, h2, e1h, h3, ct, cf]
  refine R1 ?_
  intro w1 G bs hI hΓ
  rw [hP3]
  exact Post.of [5] (none, 0) hI hΓ Z Z Z (ok_nil (α := Str))
 have h3d := B.et (B.nf h3)
 refine R0 ?_
 refine WX.callV Z Z Z Z Z O Z (fun w G bs hI hΓ => f100 w (n + 1) (by omega) (Name.mk (List.drop 1 (a12 s (47 : UInt8)))) (offP (some ad1) c1 1 1) (c1 - 1) (hΓ.get 3 Z) (okl_mk (by first | assumption | omega | (simp; omega)) (fun a ha => (okl hq1).2 a (List.mem_of_mem_drop ha)) : GoT.ok (n + 1) ((List.drop 1 (a12 s (47 : UInt8))) : List Str))) ?_
 intro hq2
 refine R0 ?_
 refine WX.cases 27 Z (fun h4 => ?_) (fun h4 => ?_)
 ·skip
  have h4d := (B.nt h4)
  refine R0 ?_
  refine WX.free 6 (MF.os none 0 ([] : List Str)) (owSl_nil _ _) ?_
  have hP4 : a20 s = (Name.mk ([]), false) := by simp only [a20, h1, h2, e1h, h3, h4, ct, cf]
  refine R1 ?_
  intro w1 G bs hI hΓ
  rw [hP4]
  exact Post.of [6] (none, 0) hI hΓ Z Z Z (ok_nil (α := Str))
 have h4d := (B.nf h4)
 refine R0 ?_
 refine WX.turn [2] 7 Z (fun h hs => os_suf 1 (show 1 ≤ ((a12 s (47 : UInt8))).length from (by omega)) hs) (gs := [MF.os (offP (some ad1) c1 1 1) (c1 - 1) ((List.drop 1 (a12 s (47 : UInt8))) : List Str)]) Z ?_
 have hP5 : a20 s = (Name.mk (List.drop 1 (a12 s (47 : UInt8))), true) := by simp only [a20, h1, h2, e1h, h3, h4, ct, cf]
 refine R1 ?_
 intro w1 G bs hI hΓ
 rw [hP5]
 exact Post.of [7] ((offP (some ad1) c1 1 1), (c1 - 1)) hI hΓ Z Z Z (okl_mk (by first | assumption | omega | (simp; omega)) (fun a ha => (okl hq1).2 a (List.mem_of_mem_drop ha)) : GoT.ok (n + 1) ((List.drop 1 (a12 s (47 : UInt8))) : List Str))
theorem f109 (w : World) (n : Nat) (hn : n + 1 ≤ 9) (s : Str) (hoks : GoT.ok n s) :
 Does Tryz.prog 109 #[.string s] w emp (Post w emp (fun x : GoT.X (Name) => .agg ⟨GoT.sh ((a01 s) : Name) x⟩) (fun x => GoT.oa ((a01 s) : Name) x) (GoT.ok (n + 1) ((a01 s) : Name))) := by
 have hbP := bd_pos n
 have hbS0 : bd (n + 1) = 4 * bd (n) := bd_succ (n := n) (by omega)
 have hbB := bd_big (n := (n + 1)) (by omega)
 have hbM := bd_mono (show n ≤ n + 1 by omega)
 refine WX.enter (tt := tt) (Γ := []) Tryz.func109 Z J Z allS_nil ?_
 refine R0 ?_
 refine WX.callF 0 (fun _ _ h => GoT.ow_rd h) (fun _ f hf => GoT.fak f hf) Z Z Z Z Z O Z (fun w G bs hI hΓ => f183 w n (by omega) s hoks) O O ?_
 rintro ⟨p1, c1⟩ hq1
 refine R0 ?_
 have hP1 : a01 s = ((a20 s).1) := by simp only [a01, ct, cf]
 refine R1 ?_
 intro w1 G bs hI hΓ
 rw [hP1]
 exact Post.of [1] (p1, c1) hI hΓ Z Z Z hq1
theorem f231 (w : World) (n : Nat) (hn : n + 1 ≤ 9) (n_ : Name) (K0 : Option Addr) (M0 : Nat) (N0 : RdSl (hp w) K0 M0 n_.parts) (s : Str) (hokn_ : GoT.ok n n_) (hoks : GoT.ok n s) :
 Does Tryz.prog 231 #[.agg #[.slice K0 ((n_.parts).length) M0], .string s] w emp (Post w emp (fun x : GoT.X (Name) => .tuple #[.agg ⟨GoT.sh ((a0p n_ s).1 : Name) x⟩, .bool ((a0p n_ s).2)]) (fun x => GoT.oa ((a0p n_ s).1 : Name) x) (GoT.ok (n + 1) ((a0p n_ s).1 : Name))) := by
 have hbP := bd_pos n
 have hbS0 : bd (n + 1) = 4 * bd (n) := bd_succ (n := n) (by omega)
 have hbB := bd_big (n := (n + 1)) (by omega)
 have hbM := bd_mono (show n ≤ n + 1 by omega)
 refine WX.enter (tt := tt) (Γ := [(0, MF.rs .stb K0 M0 n_.parts)]) Tryz.func231 Z J Z (allS_cons Z N0 allS_nil) ?_
 refine R0 ?_
 refine WX.bld ttOk Z Z Z Z Z Z Z ?_
 intro p1
 refine R0 ?_
 refine WX.free 1 (MF.ol [] ([] : List Str)) Z ?_
 have r1 : (n_.parts).length ≤ bd n := (okl (ok_Name hokn_)).1
 refine WX.appG1 7 0 2 (n_.parts : List Str).length ttOk Z Z Z Z Z Z Z Z Z Z Z Z Z (by first | (simp; done) | (simp; omega)) (by omega) (by omega) (fun _ _ _ => Z) ?_
 intro ys1 p2 c1
 refine WX.know (fun G hΓ => (hΓ.get 2 Z : RdL _ _ _).flat) ?_
 intro hf1
 refine WX.turn [1] 3 Z (fun h hs => ol_flat hs hf1) (gs := [MF.ol ([] ++ ys1) (n_.parts : List Str)]) Z ?_
 refine R0 ?_
 refine WX.bld ttOk Z Z Z Z Z Z Z ?_
 intro p3
 refine WX.turn [] 4 Z (fun h hs => ol_one (α := Str) (a := s) (x := ()) hs) (gs := [MF.ol [.string s] ([s] : List Str)]) Z ?_
 have r2 : (s).size ≤ bd n := hoks
 refine WX.know (fun G hΓ => (hΓ.get 4 Z : OwL _ _ _).rd.one) ?_
 intro ho1
 refine WX.appR1 7 12 ((n_.parts ++ [s]) : List Str).length ttOk Z Z Z Z Z Z Z Z Z Z Z Z Z ho1 (by simp) (by simp; omega) (by simp; omega) (fun _ _ => Z) ?_
 intro p4 c2
 refine WX.turn [3, 4] 5 Z (fun h hs => ol_app hs) (gs := [MF.ol (([] ++ ys1) ++ [.string s]) ((n_.parts ++ [s]) : List Str)]) Z ?_
 refine R0 ?_
 refine WX.seal 7 5 6 Z Z Z Z Z ?_
 refine WX.callV Z Z Z Z Z O Z (fun w G bs hI hΓ => f100 w (n + 1) (by omega) (Name.mk (n_.parts ++ [s])) p4 c2 (hΓ.get 6 Z) (okl_mk (by simp; omega) (fun a ha => GoT.okm (show n ≤ (n + 1) by omega) ((all_app (okl (ok_Name hokn_)).2 (all_cons (α := Str) hoks (fun a ha => by cases ha))) a ha)) : GoT.ok (n + 1) ((n_.parts ++ [s]) : List Str))) ?_
 intro hq1
 refine R0 ?_
 refine WX.cases 17 Z (fun h1 => ?_) (fun h1 => ?_)
 ·skip
  have h1d := (B.nt h1)
  refine R0 ?_
  refine WX.callF 8 (fun _ _ h => GoT.ow_rd h) (fun _ f hf => GoT.fak f hf) Z Z Z Z Z O Z (fun w G bs hI hΓ => f118 w n (by omega) n_ K0 M0 (hΓ.get 0 Z) hokn_) O O ?_
  rintro ⟨p5, c3⟩ hq2
  refine R0 ?_
  have hP1 : a0p n_ s = (a02 n_, false) := by simp only [a0p, h1, ct, cf]
  refine R1 ?_
  intro w1 G bs hI hΓ
  rw [hP1]
  exact Post.of [9] (p5, c3) hI hΓ Z Z Z (GoT.okm (α := List Str) (by omega) (ok_Name hq2))
 have h1d := (B.nf h1)
 refine R0 ?_
 have hP2 : a0p n_ s = (Name.mk (n_.parts ++ [s]), true) := by simp only [a0p, h1, ct, cf]
 refine R1 ?_
 intro w1 G bs hI hΓ
 rw [hP2]
 exact Post.of [7] (p4, c2) hI hΓ Z Z Z (okl_mk (by simp; omega) (fun a ha => GoT.okm (show n ≤ (n + 1) by omega) ((all_app (okl (ok_Name hokn_)).2 (all_cons (α := Str) hoks (fun a ha => by cases ha))) a ha)) : GoT.ok (n + 1) ((n_.parts ++ [s]) : List Str))
theorem f198 (w : World) (n : Nat) (hn : n + 1 ≤ 9) (H : GH) (hH : Le H (hp w)) (bc_ : Nat) (c_b : (List UInt8)) (K0 : Option Addr) (M0 : Nat) (N0 : RdSl (cut (hp w) H) K0 M0 c_b) (c_i : Int) (c_h : Int) (hown : Sep H [MF.bx bc_ 182 [.slice K0 ((c_b).length) M0, .int .i64 (c_i), .int .i64 (c_h)]]) (hokc_b : GoT.ok n c_b) (hokc_i : NN c_i) (hokc_h : GoT.ok n c_h) (o0_ : Name) (o1_ : Int) (o2_ : Int) (hres : a3n c_b c_i c_h = (o0_, o1_, o2_)) :
 Does Tryz.prog 198 #[.pointer (some ⟨bc_, 0, none⟩)] w H (Post w H (fun x : GoT.X (Name) => .agg ⟨GoT.sh (o0_ : Name) x⟩) (fun x => MF.bx bc_ 182 [.slice K0 ((c_b).length) M0, .int .i64 (o1_), .int .i64 (o2_)] :: GoT.oa (o0_ : Name) x) (GoT.ok n (o0_ : Name) ∧ NN (o1_) ∧ I64 (o2_))) := by
 have hbP := bd_pos n
 have hbS0 : bd (n + 1) = 4 * bd (n) := bd_succ (n := n) (by omega)
 have hbB := bd_big (n := (n + 1)) (by omega)
 have hbM := bd_mono (show n ≤ n + 1 by omega)
 have hc_bz : (c_b).length ≤ bd n := (okl hokc_b).1
 refine WX.enterP (tt := tt) (Γ := [(0, MF.rs .stb K0 M0 c_b)]) 1 Tryz.func198 Z J Z (allS_cons Z N0 allS_nil) hH hown (fun f hf => by cases hf) Z ?_
 refine R0 ?_
 obtain ⟨⟨u1, u2, u3⟩, hu1⟩ : ∃ r_, a08 c_b c_i c_h 4 = r_ := ⟨_, rfl⟩
 refine WX.callP (ds := fun _ => []) 999 2 Z (fun _ _ _ => All.nil) (fun _ f hf => by cases hf) Z Z Z Z Z O Z (fun w G bs H hI hH hs hΓ => f84 w n (by omega) H hH (bs 999) c_b K0 M0 (hΓ.get 0 Z) c_i c_h 4 hs hokc_b hokc_i hokc_h (show I64 4 from (by unfold I64; omega)) u1 u2 u3 hu1) O O ?_
 rintro ⟨⟩ hq1
 have q1 := l1Below_rng c_b c_i c_h 4
 rw [hu1] at q1
 try dsimp only at q1
 refine R0 ?_
 refine WX.free 4 (MF.os none 0 ([] : List Str)) (owSl_nil _ _) ?_
 refine WX.der 3 (MF.rs .der none 0 ([] : List Str)) Z (fun _ hΓ => (hΓ.get 4 Z : OwSl _ _ _ _).rd) ?_
 refine WX.loop (ι := Int × (Option Addr) × Nat × (List Str) × Int × Int) ⟨fun | (i, pn_, cn_, n_, u999_i, u999_h) => (-9223372036854775808 ≤ i ∧ i ≤ 9223372036854775807) ∧ (n_.length ≤ bd n ∧ ∀ z_ ∈ n_, GoT.ok n z_) ∧ (NN u999_i) ∧ (-9223372036854775808 ≤ u999_h ∧ u999_h ≤ 9223372036854775807) ∧ (n_.length + i.toNat ≤ 3) ∧ (a1q c_b u1 (([] : List Str) : List Str) u2 u3 = a1q c_b i n_ u999_i u999_h), fun | (i, pn_, cn_, n_, u999_i, u999_h) => i.toNat, fun | (i, pn_, cn_, n_, u999_i, u999_h) => [(4, .v (.int .i64 (i))), (3, .p 3 0), (2, .p 2 0), (0, .p 999 0)], fun | (i, pn_, cn_, n_, u999_i, u999_h) => [(3, ⟨30, [.slice pn_ ((n_).length) cn_]⟩), (2, ⟨30, [.slice none (0) 0]⟩), (999, ⟨182, [.slice K0 ((c_b).length) M0, .int .i64 (u999_i), .int .i64 (u999_h)]⟩)], fun | (i, pn_, cn_, n_, u999_i, u999_h) => [], fun | (i, pn_, cn_, n_, u999_i, u999_h) => [(0, MF.rs .stb K0 M0 c_b), (4, MF.os pn_ cn_ n_)]⟩ (u1, none, 0, (([] : List Str) : List Str), u2, u3) ⟨hq1.1, (okl_mk (Nat.zero_le _) (fun a ha => by cases ha) : GoT.ok n (([] : List Str) : List Str)), hq1.2.1, hq1.2.2, (by simp; omega), Z⟩
  (.cons Z (.cons Z (.cons Z (.cons Z (.nil))))) (.cons Z (.cons Z (.cons Z (.nil)))) .nil [0, 4] Z ?_
 rintro ⟨i, pn_, cn_, n_, u999_i, u999_h⟩ hpre
 have hpre_ : (-9223372036854775808 ≤ i ∧ i ≤ 9223372036854775807) ∧ (n_.length ≤ bd n ∧ ∀ z_ ∈ n_, GoT.ok n z_) ∧ (NN u999_i) ∧ (-9223372036854775808 ≤ u999_h ∧ u999_h ≤ 9223372036854775807) ∧ (n_.length + i.toNat ≤ 3) ∧ (a1q c_b u1 (([] : List Str) : List Str) u2 u3 = a1q c_b i n_ u999_i u999_h) := hpre
 clear hpre
 obtain ⟨v1, v2, v3, v4, v5, v6⟩ := hpre_
 have v2L := v2.1
 refine R0 ?_
 refine WX.cases 9 Z (fun h1 => ?_) (fun h1 => ?_)
 ·skip
  have h1d := B.dt h1
  refine R0 ?_
  refine WX.der 5 (MF.rs .der pn_ cn_ n_) Z (fun _ hΓ => (hΓ.get 4 Z : OwSl _ _ _ _).rd) ?_
  refine WX.draw [0, 3, 4, 5, 6, 7, 8] mixed ?_
  intro bs G0 hΓ0
  refine DX.takes (fuel := 8) ttOk [(1, true)] J Z ?_
  refine DX.toTX ?_
  intro S_
  refine TX.all2 0 2 J ?_ ?_
  ·skip
   refine TS.op 0 Z J ?_
   refine R0 ?_
   refine WX.back0 ?_
   refine TX.all1 2 J ?_
   refine TS.op 2 Z J ?_
   refine WX.bld ttOk Z Z Z Z Z Z Z ?_
   intro p1
   refine R0 ?_
   refine WX.back0 ?_
   refine TX.all1 3 J ?_
   refine TS.op 3 Z J ?_
   refine WX.turn [] 6 Z (fun h hs => one_sep (⟨(), _, emp, _, Z, emp_le _, Le.refl _, emp_dj _, trivial, ⟨(), _, emp, _, Z, emp_le _, Le.refl _, emp_dj _, trivial, ⟨(), _, emp, _, Z, emp_le _, Le.refl _, emp_dj _, trivial, ⟨(), _, emp, _, Z, emp_le _, Le.refl _, emp_dj _, trivial, ⟨(), _, emp, _, Z, emp_le _, Le.refl _, emp_dj _, trivial, ⟨(), _, emp, _, Z, emp_le _, Le.refl _, emp_dj _, trivial, Z⟩⟩⟩⟩⟩⟩ : OwL _ _ ([(⟨#[97]⟩ : Str), (⟨#[98]⟩ : Str), (⟨#[110, 101, 119, 115]⟩ : Str), (⟨#[120, 45, 49]⟩ : Str), (⟨#[49]⟩ : Str), (⟨#[107, 101, 121]⟩ : Str)] : List Str))) (gs := [MF.ol [.string (⟨#[97]⟩ : Str), .string (⟨#[98]⟩ : Str), .string (⟨#[110, 101, 119, 115]⟩ : Str), .string (⟨#[120, 45, 49]⟩ : Str), .string (⟨#[49]⟩ : Str), .string (⟨#[107, 101, 121]⟩ : Str)] ([(⟨#[97]⟩ : Str), (⟨#[98]⟩ : Str), (⟨#[110, 101, 119, 115]⟩ : Str), (⟨#[120, 45, 49]⟩ : Str), (⟨#[49]⟩ : Str), (⟨#[107, 101, 121]⟩ : Str)] : List Str)]) Z ?_
   refine WX.seal 15 6 7 Z Z Z Z Z ?_
   have r1 : (⟨#[97]⟩ : Str).size = 1 := rfl
   have r2 : (⟨#[98]⟩ : Str).size = 1 := rfl
   have r3 : (⟨#[110, 101, 119, 115]⟩ : Str).size = 4 := rfl
   have r4 : (⟨#[120, 45, 49]⟩ : Str).size = 3 := rfl
   have r5 : (⟨#[49]⟩ : Str).size = 1 := rfl
   have r6 : (⟨#[107, 101, 121]⟩ : Str).size = 3 := rfl
   obtain ⟨⟨u4, u5, u6⟩, hu2⟩ : ∃ r_, a1o c_b u999_i u999_h ([(⟨#[97]⟩ : Str), (⟨#[98]⟩ : Str), (⟨#[110, 101, 119, 115]⟩ : Str), (⟨#[120, 45, 49]⟩ : Str), (⟨#[49]⟩ : Str), (⟨#[107, 101, 121]⟩ : Str)]) = r_ := ⟨_, rfl⟩
   refine WX.callP (ds := fun _ => []) 999 9 Z (fun _ _ _ => All.nil) (fun _ f hf => by cases hf) Z Z Z Z Z O Z (fun w G bs H hI hH hs hΓ => f110 w n (by omega) H hH (bs 999) c_b K0 M0 (hΓ.get 0 Z) u999_i u999_h ([(⟨#[97]⟩ : Str), (⟨#[98]⟩ : Str), (⟨#[110, 101, 119, 115]⟩ : Str), (⟨#[120, 45, 49]⟩ : Str), (⟨#[49]⟩ : Str), (⟨#[107, 101, 121]⟩ : Str)]) p1 6 (hΓ.get 7 Z) hs hokc_b v3 v4 (by first | assumption | omega | (simp; done) | (simp; omega)) (okl_mk (by simp; omega) (all_cons (α := Str) (Nat.le_trans (by decide) (bd_pos _)) (all_cons (α := Str) (Nat.le_trans (by decide) (bd_pos _)) (all_cons (α := Str) (Nat.le_trans (by decide) (bd_pos _)) (all_cons (α := Str) (Nat.le_trans (by decide) (bd_pos _)) (all_cons (α := Str) (Nat.le_trans (by decide) (bd_pos _)) (all_cons (α := Str) (Nat.le_trans (by decide) (bd_pos _)) (fun a ha => by cases ha))))))) : GoT.ok n ([(⟨#[97]⟩ : Str), (⟨#[98]⟩ : Str), (⟨#[110, 101, 119, 115]⟩ : Str), (⟨#[120, 45, 49]⟩ : Str), (⟨#[49]⟩ : Str), (⟨#[107, 101, 121]⟩ : Str)] : List Str)) u4 u5 u6 hu2) O O ?_
   rintro ⟨⟩ hq2
   refine R0 ?_
   refine WX.back0 ?_
   refine TX.all1 4 J ?_
   refine TS.der 10 (MF.rs .der pn_ cn_ n_) Z (fun _ hΓ => (hΓ.get 4 Z : OwSl _ _ _ _).rd) ?_
   refine TS.callF 4 11 (fun _ _ h => GoT.ow_rd h) (fun _ f hf => GoT.fak f hf) Z Z Z Z Z Z O Z (fun w G bs hI hΓ => f231 w n (by omega) (Name.mk n_) pn_ cn_ (hΓ.get 10 Z) u4 (okl_of v2) hq2.1) O O ?_
   rintro ⟨p2, c1⟩ hq3
   have q2 := aP_len (Name.mk n_) u4
   try dsimp only at q2
   have hfx1 := aP_els (k := n) (Name.mk n_) u4 v2.2 hq2.1
   refine TX.all1 5 J ?_
   refine TS.op 5 Z J ?_
   refine R0 ?_
   refine WX.back0 ?_
   refine TX.all2 6 7 J ?_ ?_
   ·skip
    refine TS.op 6 Z J ?_
    refine R0 ?_
    refine WX.back0 ?_
    refine TX.all2 7 8 J ?_ ?_
    ·skip
     refine TS.op 7 Z J ?_
     refine R0 ?_
     refine WX.back0 ?_
     refine TX.tail [8] Z Z J ?_
     refine R0 ?_
     refine WX.see Z Z Z (fun _ hΓ => looks_arith Z Z Z Z (by unfold I64; first | omega | (simp only [List.length_take] at *; omega))) ?_
     refine R0 ?_
     refine WX.turn [12] 4 Z (fun _ h => h) Z ?_
     have r7 : (u4).size ≤ bd n := hq2.1
     have r8 : ((a0p (Name.mk n_) u4).1.parts).length ≤ bd (n + 1) := (okl (ok_Name hq3)).1
     exact WX.iter (i - 1, p2, c1, (a0p (Name.mk n_) u4).1.parts, u5, u6) ⟨(by first | assumption | omega), (okl_mk (by omega) hfx1 : GoT.ok n ((a0p (Name.mk n_) u4).1.parts : List Str)), hq2.2.1, hq2.2.2, (by omega), (by rw [v6]; rw [a1q]; simp only [h1, h1d, hu2, ct, cf, ↓reduceIte, Bool.false_eq_true])⟩ (by first | (dsimp only; omega) | omega) (.cons Z (.cons Z (.cons Z (.cons Z (.nil))))) (.cons Z (.cons Z (.cons Z (.nil)))) .nil [0, 4] Z
    refine TS.op 8 Z J ?_
    refine R0 ?_
    refine WX.back0 ?_
    refine TX.tail [7] Z Z J ?_
    refine R0 ?_
    refine WX.see Z Z Z (fun _ hΓ => looks_arith Z Z Z Z (by unfold I64; first | omega | (simp only [List.length_take] at *; omega))) ?_
    refine R0 ?_
    refine WX.turn [12] 4 Z (fun _ h => h) Z ?_
    have r9 : (u4).size ≤ bd n := hq2.1
    have r10 : ((a0p (Name.mk n_) u4).1.parts).length ≤ bd (n + 1) := (okl (ok_Name hq3)).1
    exact WX.iter (i - 1, p2, c1, (a0p (Name.mk n_) u4).1.parts, u5, u6) ⟨(by first | assumption | omega), (okl_mk (by omega) hfx1 : GoT.ok n ((a0p (Name.mk n_) u4).1.parts : List Str)), hq2.2.1, hq2.2.2, (by omega), (by rw [v6]; rw [a1q]; simp only [h1, h1d, hu2, ct, cf, ↓reduceIte, Bool.false_eq_true])⟩ (by first | (dsimp only; omega) | omega) (.cons Z (.cons Z (.cons Z (.cons Z (.nil))))) (.cons Z (.cons Z (.cons Z (.nil)))) .nil [0, 4] Z
   refine TS.op 7 Z J ?_
   refine R0 ?_
   refine WX.back0 ?_
   refine TX.tail [6, 8] Z Z J ?_
   refine R0 ?_
   refine WX.see Z Z Z (fun _ hΓ => looks_arith Z Z Z Z (by unfold I64; first | omega | (simp only [List.length_take] at *; omega))) ?_
   refine R0 ?_
   refine WX.turn [12] 4 Z (fun _ h => h) Z ?_
   have r11 : (u4).size ≤ bd n := hq2.1
   have r12 : ((a0p (Name.mk n_) u4).1.parts).length ≤ bd (n + 1) := (okl (ok_Name hq3)).1
   exact WX.iter (i - 1, p2, c1, (a0p (Name.mk n_) u4).1.parts, u5, u6) ⟨(by first | assumption | omega), (okl_mk (by omega) hfx1 : GoT.ok n ((a0p (Name.mk n_) u4).1.parts : List Str)), hq2.2.1, hq2.2.2, (by omega), (by rw [v6]; rw [a1q]; simp only [h1, h1d, hu2, ct, cf, ↓reduceIte, Bool.false_eq_true])⟩ (by first | (dsimp only; omega) | omega) (.cons Z (.cons Z (.cons Z (.cons Z (.nil))))) (.cons Z (.cons Z (.cons Z (.nil)))) .nil [0, 4] Z
  refine TS.op 2 Z J ?_
  refine WX.bld ttOk Z Z Z Z Z Z Z ?_
  intro p3
  refine R0 ?_
  refine WX.back0 ?_
  refine TX.all2 0 3 J ?_ ?_
  ·skip
   refine TS.op 0 Z J ?_
   refine R0 ?_
   refine WX.back0 ?_
   refine TX.all1 3 J ?_
   refine TS.op 3 Z J ?_
   refine WX.turn [] 13 Z (fun h hs => one_sep (⟨(), _, emp, _, Z, emp_le _, Le.refl _, emp_dj _, trivial, ⟨(), _, emp, _, Z, emp_le _, Le.refl _, emp_dj _, trivial, ⟨(), _, emp, _, Z, emp_le _, Le.refl _, emp_dj _, trivial, ⟨(), _, emp, _, Z, emp_le _, Le.refl _, emp_dj _, trivial, ⟨(), _, emp, _, Z, emp_le _, Le.refl _, emp_dj _, trivial, ⟨(), _, emp, _, Z, emp_le _, Le.refl _, emp_dj _, trivial, Z⟩⟩⟩⟩⟩⟩ : OwL _ _ ([(⟨#[97]⟩ : Str), (⟨#[98]⟩ : Str), (⟨#[110, 101, 119, 115]⟩ : Str), (⟨#[120, 45, 49]⟩ : Str), (⟨#[49]⟩ : Str), (⟨#[107, 101, 121]⟩ : Str)] : List Str))) (gs := [MF.ol [.string (⟨#[97]⟩ : Str), .string (⟨#[98]⟩ : Str), .string (⟨#[110, 101, 119, 115]⟩ : Str), .string (⟨#[120, 45, 49]⟩ : Str), .string (⟨#[49]⟩ : Str), .string (⟨#[107, 101, 121]⟩ : Str)] ([(⟨#[97]⟩ : Str), (⟨#[98]⟩ : Str), (⟨#[110, 101, 119, 115]⟩ : Str), (⟨#[120, 45, 49]⟩ : Str), (⟨#[49]⟩ : Str), (⟨#[107, 101, 121]⟩ : Str)] : List Str)]) Z ?_
   refine WX.seal 15 13 14 Z Z Z Z Z ?_
   have r13 : (⟨#[97]⟩ : Str).size = 1 := rfl
   have r14 : (⟨#[98]⟩ : Str).size = 1 := rfl
   have r15 : (⟨#[110, 101, 119, 115]⟩ : Str).size = 4 := rfl
   have r16 : (⟨#[120, 45, 49]⟩ : Str).size = 3 := rfl
   have r17 : (⟨#[49]⟩ : Str).size = 1 := rfl
   have r18 : (⟨#[107, 101, 121]⟩ : Str).size = 3 := rfl
   obtain ⟨⟨u7, u8, u9⟩, hu3⟩ : ∃ r_, a1o c_b u999_i u999_h ([(⟨#[97]⟩ : Str), (⟨#[98]⟩ : Str), (⟨#[110, 101, 119, 115]⟩ : Str), (⟨#[120, 45, 49]⟩ : Str), (⟨#[49]⟩ : Str), (⟨#[107, 101, 121]⟩ : Str)]) = r_ := ⟨_, rfl⟩
   refine WX.callP (ds := fun _ => []) 999 16 Z (fun _ _ _ => All.nil) (fun _ f hf => by cases hf) Z Z Z Z Z O Z (fun w G bs H hI hH hs hΓ => f110 w n (by omega) H hH (bs 999) c_b K0 M0 (hΓ.get 0 Z) u999_i u999_h ([(⟨#[97]⟩ : Str), (⟨#[98]⟩ : Str), (⟨#[110, 101, 119, 115]⟩ : Str), (⟨#[120, 45, 49]⟩ : Str), (⟨#[49]⟩ : Str), (⟨#[107, 101, 121]⟩ : Str)]) p3 6 (hΓ.get 14 Z) hs hokc_b v3 v4 (by first | assumption | omega | (simp; done) | (simp; omega)) (okl_mk (by simp; omega) (all_cons (α := Str) (Nat.le_trans (by decide) (bd_pos _)) (all_cons (α := Str) (Nat.le_trans (by decide) (bd_pos _)) (all_cons (α := Str) (Nat.le_trans (by decide) (bd_pos _)) (all_cons (α := Str) (Nat.le_trans (by decide) (bd_pos _)) (all_cons (α := Str) (Nat.le_trans (by decide) (bd_pos _)) (all_cons (α := Str) (Nat.le_trans (by decide) (bd_pos _)) (fun a ha => by cases ha))))))) : GoT.ok n ([(⟨#[97]⟩ : Str), (⟨#[98]⟩ : Str), (⟨#[110, 101, 119, 115]⟩ : Str), (⟨#[120, 45, 49]⟩ : Str), (⟨#[49]⟩ : Str), (⟨#[107, 101, 121]⟩ : Str)] : List Str)) u7 u8 u9 hu3) O O ?_
   rintro ⟨⟩ hq4
   refine R0 ?_
   refine WX.back0 ?_
   refine TX.all1 4 J ?_
   refine TS.der 17 (MF.rs .der pn_ cn_ n_) Z (fun _ hΓ => (hΓ.get 4 Z : OwSl _ _ _ _).rd) ?_
   refine TS.callF 4 18 (fun _ _ h => GoT.ow_rd h) (fun _ f hf => GoT.fak f hf) Z Z Z Z Z Z O Z (fun w G bs hI hΓ => f231 w n (by omega) (Name.mk n_) pn_ cn_ (hΓ.get 17 Z) u7 (okl_of v2) hq4.1) O O ?_
   rintro ⟨p4, c2⟩ hq5
   have q3 := aP_len (Name.mk n_) u7
   try dsimp only at q3
   have hfx2 := aP_els (k := n) (Name.mk n_) u7 v2.2 hq4.1
   refine TX.all1 5 J ?_
   refine TS.op 5 Z J ?_
   refine R0 ?_
   refine WX.back0 ?_
   refine TX.all2 6 7 J ?_ ?_
   ·skip
    refine TS.op 6 Z J ?_
    refine R0 ?_
    refine WX.back0 ?_
    refine TX.all2 7 8 J ?_ ?_
    ·skip
     refine TS.op 7 Z J ?_
     refine R0 ?_
     refine WX.back0 ?_
     refine TX.tail [8] Z Z J ?_
     refine R0 ?_
     refine WX.see Z Z Z (fun _ hΓ => looks_arith Z Z Z Z (by unfold I64; first | omega | (simp only [List.length_take] at *; omega))) ?_
     refine R0 ?_
     refine WX.turn [19] 4 Z (fun _ h => h) Z ?_
     have r19 : (u7).size ≤ bd n := hq4.1
     have r20 : ((a0p (Name.mk n_) u7).1.parts).length ≤ bd (n + 1) := (okl (ok_Name hq5)).1
     exact WX.iter (i - 1, p4, c2, (a0p (Name.mk n_) u7).1.parts, u8, u9) ⟨(by first | assumption | omega), (okl_mk (by omega) hfx2 : GoT.ok n ((a0p (Name.mk n_) u7).1.parts : List Str)), hq4.2.1, hq4.2.2, (by omega), (by rw [v6]; rw [a1q]; simp only [h1, h1d, hu3, ct, cf, ↓reduceIte, Bool.false_eq_true])⟩ (by first | (dsimp only; omega) | omega) (.cons Z (.cons Z (.cons Z (.cons Z (.nil))))) (.cons Z (.cons Z (.cons Z (.nil)))) .nil [0, 4] Z
    refine TS.op 8 Z J ?_
    refine R0 ?_
    refine WX.back0 ?_
    refine TX.tail [7] Z Z J ?_
    refine R0 ?_
    refine WX.see Z Z Z (fun _ hΓ => looks_arith Z Z Z Z (by unfold I64; first | omega | (simp only [List.length_take] at *; omega))) ?_
    refine R0 ?_
    refine WX.turn [19] 4 Z (fun _ h => h) Z ?_
    have r21 : (u7).size ≤ bd n := hq4.1
    have r22 : ((a0p (Name.mk n_) u7).1.parts).length ≤ bd (n + 1) := (okl (ok_Name hq5)).1
    exact WX.iter (i - 1, p4, c2, (a0p (Name.mk n_) u7).1.parts, u8, u9) ⟨(by first | assumption | omega), (okl_mk (by omega) hfx2 : GoT.ok n ((a0p (Name.mk n_) u7).1.parts : List Str)), hq4.2.1, hq4.2.2, (by omega), (by rw [v6]; rw [a1q]; simp only [h1, h1d, hu3, ct, cf, ↓reduceIte, Bool.false_eq_true])⟩ (by first | (dsimp only; omega) | omega) (.cons Z (.cons Z (.cons Z (.cons Z (.nil))))) (.cons Z (.cons Z (.cons Z (.nil)))) .nil [0, 4] Z
   refine TS.op 7 Z J ?_
   refine R0 ?_
   refine WX.back0 ?_
   refine TX.tail [6, 8] Z Z J ?_
   refine R0 ?_
   refine WX.see Z Z Z (fun _ hΓ => looks_arith Z Z Z Z (by unfold I64; first | omega | (simp only [List.length_take] at *; omega))) ?_
   refine R0 ?_
   refine WX.turn [19] 4 Z (fun _ h => h) Z ?_
   have r23 : (u7).size ≤ bd n := hq4.1
   have r24 : ((a0p (Name.mk n_) u7).1.parts).length ≤ bd (n + 1) := (okl (ok_Name hq5)).1
   exact WX.iter (i - 1, p4, c2, (a0p (Name.mk n_) u7).1.parts, u8, u9) ⟨(by first | assumption | omega), (okl_mk (by omega) hfx2 : GoT.ok n ((a0p (Name.mk n_) u7).1.parts : List Str)), hq4.2.1, hq4.2.2, (by omega), (by rw [v6]; rw [a1q]; simp only [h1, h1d, hu3, ct, cf, ↓reduceIte, Bool.false_eq_true])⟩ (by first | (dsimp only; omega) | omega) (.cons Z (.cons Z (.cons Z (.cons Z (.nil))))) (.cons Z (.cons Z (.cons Z (.nil)))) .nil [0, 4] Z
  refine TS.op 3 Z J ?_
  refine WX.turn [] 20 Z (fun h hs => one_sep (⟨(), _, emp, _, Z, emp_le _, Le.refl _, emp_dj _, trivial, ⟨(), _, emp, _, Z, emp_le _, Le.refl _, emp_dj _, trivial, ⟨(), _, emp, _, Z, emp_le _, Le.refl _, emp_dj _, trivial, ⟨(), _, emp, _, Z, emp_le _, Le.refl _, emp_dj _, trivial, ⟨(), _, emp, _, Z, emp_le _, Le.refl _, emp_dj _, trivial, ⟨(), _, emp, _, Z, emp_le _, Le.refl _, emp_dj _, trivial, Z⟩⟩⟩⟩⟩⟩ : OwL _ _ ([(⟨#[97]⟩ : Str), (⟨#[98]⟩ : Str), (⟨#[110, 101, 119, 115]⟩ : Str), (⟨#[120, 45, 49]⟩ : Str), (⟨#[49]⟩ : Str), (⟨#[107, 101, 121]⟩ : Str)] : List Str))) (gs := [MF.ol [.string (⟨#[97]⟩ : Str), .string (⟨#[98]⟩ : Str), .string (⟨#[110, 101, 119, 115]⟩ : Str), .string (⟨#[120, 45, 49]⟩ : Str), .string (⟨#[49]⟩ : Str), .string (⟨#[107, 101, 121]⟩ : Str)] ([(⟨#[97]⟩ : Str), (⟨#[98]⟩ : Str), (⟨#[110, 101, 119, 115]⟩ : Str), (⟨#[120, 45, 49]⟩ : Str), (⟨#[49]⟩ : Str), (⟨#[107, 101, 121]⟩ : Str)] : List Str)]) Z ?_
  refine WX.seal 15 20 21 Z Z Z Z Z ?_
  have r25 : (⟨#[97]⟩ : Str).size = 1 := rfl
  have r26 : (⟨#[98]⟩ : Str).size = 1 := rfl
  have r27 : (⟨#[110, 101, 119, 115]⟩ : Str).size = 4 := rfl
  have r28 : (⟨#[120, 45, 49]⟩ : Str).size = 3 := rfl
  have r29 : (⟨#[49]⟩ : Str).size = 1 := rfl
  have r30 : (⟨#[107, 101, 121]⟩ : Str).size = 3 := rfl
  obtain ⟨⟨u10, u11, u12⟩, hu4⟩ : ∃ r_, a1o c_b u999_i u999_h ([(⟨#[97]⟩ : Str), (⟨#[98]⟩ : Str), (⟨#[110, 101, 119, 115]⟩ : Str), (⟨#[120, 45, 49]⟩ : Str), (⟨#[49]⟩ : Str), (⟨#[107, 101, 121]⟩ : Str)]) = r_ := ⟨_, rfl⟩
  refine WX.callP (ds := fun _ => []) 999 23 Z (fun _ _ _ => All.nil) (fun _ f hf => by cases hf) Z Z Z Z Z O Z (fun w G bs H hI hH hs hΓ => f110 w n (by omega) H hH (bs 999) c_b K0 M0 (hΓ.get 0 Z) u999_i u999_h ([(⟨#[97]⟩ : Str), (⟨#[98]⟩ : Str), (⟨#[110, 101, 119, 115]⟩ : Str), (⟨#[120, 45, 49]⟩ : Str), (⟨#[49]⟩ : Str), (⟨#[107, 101, 121]⟩ : Str)]) p3 6 (hΓ.get 21 Z) hs hokc_b v3 v4 (by first | assumption | omega | (simp; done) | (simp; omega)) (okl_mk (by simp; omega) (all_cons (α := Str) (Nat.le_trans (by decide) (bd_pos _)) (all_cons (α := Str) (Nat.le_trans (by decide) (bd_pos _)) (all_cons (α := Str) (Nat.le_trans (by decide) (bd_pos _)) (all_cons (α := Str) (Nat.le_trans (by decide) (bd_pos _)) (all_cons (α := Str) (Nat.le_trans (by decide) (bd_pos _)) (all_cons (α := Str) (Nat.le_trans (by decide) (bd_pos _)) (fun a ha => by cases ha))))))) : GoT.ok n ([(⟨#[97]⟩ : Str), (⟨#[98]⟩ : Str), (⟨#[110, 101, 119, 115]⟩ : Str), (⟨#[120, 45, 49]⟩ : Str), (⟨#[49]⟩ : Str), (⟨#[107, 101, 121]⟩ : Str)] : List Str)) u10 u11 u12 hu4) O O ?_
  rintro ⟨⟩ hq6
  refine R0 ?_
  refine WX.back0 ?_
  refine TX.all1 0 J ?_
  refine TS.op 0 Z J ?_
  refine R0 ?_
  refine WX.back0 ?_
  refine TX.all1 4 J ?_
  refine TS.der 24 (MF.rs .der pn_ cn_ n_) Z (fun _ hΓ => (hΓ.get 4 Z : OwSl _ _ _ _).rd) ?_
  refine TS.callF 4 25 (fun _ _ h => GoT.ow_rd h) (fun _ f hf => GoT.fak f hf) Z Z Z Z Z Z O Z (fun w G bs hI hΓ => f231 w n (by omega) (Name.mk n_) pn_ cn_ (hΓ.get 24 Z) u10 (okl_of v2) hq6.1) O O ?_
  rintro ⟨p5, c3⟩ hq7
  have q4 := aP_len (Name.mk n_) u10
  try dsimp only at q4
  have hfx3 := aP_els (k := n) (Name.mk n_) u10 v2.2 hq6.1
  refine TX.all1 5 J ?_
  refine TS.op 5 Z J ?_
  refine R0 ?_
  refine WX.back0 ?_
  refine TX.all2 6 7 J ?_ ?_
  ·skip
   refine TS.op 6 Z J ?_
   refine R0 ?_
   refine WX.back0 ?_
   refine TX.all2 7 8 J ?_ ?_
   ·skip
    refine TS.op 7 Z J ?_
    refine R0 ?_
    refine WX.back0 ?_
    refine TX.tail [8] Z Z J ?_
    refine R0 ?_
    refine WX.see Z Z Z (fun _ hΓ => looks_arith Z Z Z Z (by unfold I64; first | omega | (simp only [List.length_take] at *; omega))) ?_
    refine R0 ?_
    refine WX.turn [26] 4 Z (fun _ h => h) Z ?_
    have r31 : (u10).size ≤ bd n := hq6.1
    have r32 : ((a0p (Name.mk n_) u10).1.parts).length ≤ bd (n + 1) := (okl (ok_Name hq7)).1
    exact WX.iter (i - 1, p5, c3, (a0p (Name.mk n_) u10).1.parts, u11, u12) ⟨(by first | assumption | omega), (okl_mk (by omega) hfx3 : GoT.ok n ((a0p (Name.mk n_) u10).1.parts : List Str)), hq6.2.1, hq6.2.2, (by omega), (by rw [v6]; rw [a1q]; simp only [h1, h1d, hu4, ct, cf, ↓reduceIte, Bool.false_eq_true])⟩ (by first | (dsimp only; omega) | omega) (.cons Z (.cons Z (.cons Z (.cons Z (.nil))))) (.cons Z (.cons Z (.cons Z (.nil)))) .nil [0, 4] Z
   refine TS.op 8 Z J ?_
   refine R0 ?_
   refine WX.back0 ?_
   refine TX.tail [7] Z Z J ?_
   refine R0 ?_
   refine WX.see Z Z Z (fun _ hΓ => looks_arith Z Z Z Z (by unfold I64; first | omega | (simp only [List.length_take] at *; omega))) ?_
   refine R0 ?_
   refine WX.turn [26] 4 Z (fun _ h => h) Z ?_
   have r33 : (u10).size ≤ bd n := hq6.1
   have r34 : ((a0p (Name.mk n_) u10).1.parts).length ≤ bd (n + 1) := (okl (ok_Name hq7)).1
   exact WX.iter (i - 1, p5, c3, (a0p (Name.mk n_) u10).1.parts, u11, u12) ⟨(by first | assumption | omega), (okl_mk (by omega) hfx3 : GoT.ok n ((a0p (Name.mk n_) u10).1.parts : List Str)), hq6.2.1, hq6.2.2, (by omega), (by rw [v6]; rw [a1q]; simp only [h1, h1d, hu4, ct, cf, ↓reduceIte, Bool.false_eq_true])⟩ (by first | (dsimp only; omega) | omega) (.cons Z (.cons Z (.cons Z (.cons Z (.nil))))) (.cons Z (.cons Z (.cons Z (.nil)))) .nil [0, 4] Z
  refine TS.op 7 Z J ?_
  refine R0 ?_
  refine WX.back0 ?_
  refine TX.tail [6, 8] Z Z J ?_
  refine R0 ?_
  refine WX.see Z Z Z (fun _ hΓ => looks_arith Z Z Z Z (by unfold I64; first | omega | (simp only [List.length_take] at *; omega))) ?_
  refine R0 ?_
  refine WX.turn [26] 4 Z (fun _ h => h) Z ?_
  have r35 : (u10).size ≤ bd n := hq6.1
  have r36 : ((a0p (Name.mk n_) u10).1.parts).length ≤ bd (n + 1) := (okl (ok_Name hq7)).1
  exact WX.iter (i - 1, p5, c3, (a0p (Name.mk n_) u10).1.parts, u11, u12) ⟨(by first | assumption | omega), (okl_mk (by omega) hfx3 : GoT.ok n ((a0p (Name.mk n_) u10).1.parts : List Str)), hq6.2.1, hq6.2.2, (by omega), (by rw [v6]; rw [a1q]; simp only [h1, h1d, hu4, ct, cf, ↓reduceIte, Bool.false_eq_true])⟩ (by first | (dsimp only; omega) | omega) (.cons Z (.cons Z (.cons Z (.cons Z (.nil))))) (.cons Z (.cons Z (.cons Z (.nil)))) .nil [0, 4] Z
 have h1d := B.df h1
 refine R0 ?_
 have hX1 : a1q c_b u1 (([] : List Str) : List Str) u2 u3 = (i, ((n_) : List Str), u999_i, u999_h) := by rw [v6]; rw [a1q]; simp only [h1, h1d, ct, cf, ↓reduceIte, Bool.false_eq_true]
 have hP1 : a3n c_b c_i c_h = (Name.mk n_, u999_i, u999_h) := by simp only [a3n, hu1, hX1, ct, cf]
 have hz1 := hP1.symm.trans hres
 obtain ⟨hz1, hz2⟩ := Prod.mk.inj hz1
 obtain ⟨hz2, hz3⟩ := Prod.mk.inj hz2
 subst hz1
 subst hz2
 subst hz3
 refine R1 ?_
 intro w1 G bs hI hΓ
 exact Post.ofL 999 [4] (pn_, cn_) hI hΓ Z Z Z (by rw [hI.pin _ rfl]; first | done | rfl) (⟨(okl_of v2), ⟨v3, v4⟩⟩)
theorem f123 (w : World) (n : Nat) (hn : n + 1 ≤ 9) (H : GH) (hH : Le H (hp w)) (bc_ : Nat) (c_b : (List UInt8)) (K0 : Option Addr) (M0 : Nat) (N0 : RdSl (cut (hp w) H) K0 M0 c_b) (c_i : Int) (c_h : Int) (hown : Sep H [MF.bx bc_ 182 [.slice K0 ((c_b).length) M0, .int .i64 (c_i), .int .i64 (c_h)]]) (hokc_b : GoT.ok n c_b) (hokc_i : NN c_i) (hokc_h : GoT.ok n c_h) (o0_ : Name) (o1_ : Int) (o2_ : Int) (hres : a0r c_b c_i c_h = (o0_, o1_, o2_)) :
 Does Tryz.prog 123 #[.pointer (some ⟨bc_, 0, none⟩)] w H (Post w H (fun x : GoT.X (Name) => .agg ⟨GoT.sh (o0_ : Name) x⟩) (fun x => MF.bx bc_ 182 [.slice K0 ((c_b).length) M0, .int .i64 (o1_), .int .i64 (o2_)] :: GoT.oa (o0_ : Name) x) (GoT.ok n (o0_ : Name) ∧ NN (o1_) ∧ I64 (o2_))) := by
 have hbP := bd_pos n
 have hbS0 : bd (n + 1) = 4 * bd (n) := bd_succ (n := n) (by omega)
 have hbB := bd_big (n := (n + 1)) (by omega)
 have hbM := bd_mono (show n ≤ n + 1 by omega)
 have hc_bz : (c_b).length ≤ bd n := (okl hokc_b).1
 refine WX.enterP (tt := tt) (Γ := [(0, MF.rs .stb K0 M0 c_b)]) 1 Tryz.func123 Z J Z (allS_cons Z N0 allS_nil) hH hown (fun f hf => by cases hf) Z ?_
 refine R0 ?_
 obtain ⟨⟨u1, u2, u3⟩, hu1⟩ : ∃ r_, a3n c_b c_i c_h = r_ := ⟨_, rfl⟩
 refine WX.callP 999 2 Z (fun _ _ h => GoT.ow_rd h) (fun _ f hf => GoT.fak f hf) Z Z Z Z Z O Z (fun w G bs H hI hH hs hΓ => f198 w n (by omega) H hH (bs 999) c_b K0 M0 (hΓ.get 0 Z) c_i c_h hs hokc_b hokc_i hokc_h u1 u2 u3 hu1) O O ?_
 rintro ⟨p1, c1⟩ hq1
 have q1 := l4Name_len c_b c_i c_h
 rw [hu1] at q1
 try dsimp only at q1
 refine R0 ?_
 obtain ⟨⟨u4, u5, u6⟩, hu2⟩ : ∃ r_, a08 c_b u2 u3 8 = r_ := ⟨_, rfl⟩
 refine WX.callP (ds := fun _ => []) 999 4 Z (fun _ _ _ => All.nil) (fun _ f hf => by cases hf) Z Z Z Z Z O Z (fun w G bs H hI hH hs hΓ => f84 w n (by omega) H hH (bs 999) c_b K0 M0 (hΓ.get 0 Z) u2 u3 8 hs hokc_b hq1.2.1 hq1.2.2 (show I64 8 from (by unfold I64; omega)) u4 u5 u6 hu2) O O ?_
 rintro ⟨⟩ hq2
 have q2 := l1Below_rng c_b u2 u3 8
 rw [hu2] at q2
 try dsimp only at q2
 refine R0 ?_
 refine WX.cases 8 Z (fun h1 => ?_) (fun h1 => ?_)
 ·skip
  have h1d := B.et h1
  refine R0 ?_
  refine WX.draw [1, 4, 6, 7, 8] mixed ?_
  intro bs G0 hΓ0
  refine DX.takes (fuel := 7) ttOk [(0, true), (2, true)] J Z ?_
  refine DX.toTX ?_
  intro S_
  refine TX.all2 1 3 J ?_ ?_
  ·skip
   refine TS.op 1 Z J ?_
   refine R0 ?_
   refine WX.back0 ?_
   refine TX.tail [3, 4, 5, 6, 7, 8] Z Z J ?_
   refine WX.bld ttOk Z Z Z Z Z Z Z ?_
   intro p2
   refine WX.turn [] 5 Z (fun h hs => one_sep (⟨(), _, emp, _, Z, emp_le _, Le.refl _, emp_dj _, trivial, ⟨(), _, emp, _, Z, emp_le _, Le.refl _, emp_dj _, trivial, ⟨(), _, emp, _, Z, emp_le _, Le.refl _, emp_dj _, trivial, ⟨(), _, emp, _, Z, emp_le _, Le.refl _, emp_dj _, trivial, ⟨(), _, emp, _, Z, emp_le _, Le.refl _, emp_dj _, trivial, ⟨(), _, emp, _, Z, emp_le _, Le.refl _, emp_dj _, trivial, Z⟩⟩⟩⟩⟩⟩ : OwL _ _ ([(⟨#[]⟩ : Str), (⟨#[65]⟩ : Str), (⟨#[116, 111, 111, 108, 111, 110, 103, 120, 120]⟩ : Str), (⟨#[97, 47, 98]⟩ : Str), (⟨#[32]⟩ : Str), (⟨#[101, 105, 103, 104, 116, 56, 56, 56]⟩ : Str)] : List Str))) (gs := [MF.ol [.string (⟨#[]⟩ : Str), .string (⟨#[65]⟩ : Str), .string (⟨#[116, 111, 111, 108, 111, 110, 103, 120, 120]⟩ : Str), .string (⟨#[97, 47, 98]⟩ : Str), .string (⟨#[32]⟩ : Str), .string (⟨#[101, 105, 103, 104, 116, 56, 56, 56]⟩ : Str)] ([(⟨#[]⟩ : Str), (⟨#[65]⟩ : Str), (⟨#[116, 111, 111, 108, 111, 110, 103, 120, 120]⟩ : Str), (⟨#[97, 47, 98]⟩ : Str), (⟨#[32]⟩ : Str), (⟨#[101, 105, 103, 104, 116, 56, 56, 56]⟩ : Str)] : List Str)]) Z ?_
   refine WX.seal 13 5 6 Z Z Z Z Z ?_
   have r1 : (⟨#[]⟩ : Str).size = 0 := rfl
   have r2 : (⟨#[65]⟩ : Str).size = 1 := rfl
   have r3 : (⟨#[116, 111, 111, 108, 111, 110, 103, 120, 120]⟩ : Str).size = 9 := rfl
   have r4 : (⟨#[97, 47, 98]⟩ : Str).size = 3 := rfl
   have r5 : (⟨#[32]⟩ : Str).size = 1 := rfl
   have r6 : (⟨#[101, 105, 103, 104, 116, 56, 56, 56]⟩ : Str).size = 8 := rfl
   obtain ⟨⟨u7, u8, u9⟩, hu3⟩ : ∃ r_, a1o c_b u5 u6 ([(⟨#[]⟩ : Str), (⟨#[65]⟩ : Str), (⟨#[116, 111, 111, 108, 111, 110, 103, 120, 120]⟩ : Str), (⟨#[97, 47, 98]⟩ : Str), (⟨#[32]⟩ : Str), (⟨#[101, 105, 103, 104, 116, 56, 56, 56]⟩ : Str)]) = r_ := ⟨_, rfl⟩
   refine WX.callP (ds := fun _ => []) 999 8 Z (fun _ _ _ => All.nil) (fun _ f hf => by cases hf) Z Z Z Z Z O Z (fun w G bs H hI hH hs hΓ => f110 w n (by omega) H hH (bs 999) c_b K0 M0 (hΓ.get 0 Z) u5 u6 ([(⟨#[]⟩ : Str), (⟨#[65]⟩ : Str), (⟨#[116, 111, 111, 108, 111, 110, 103, 120, 120]⟩ : Str), (⟨#[97, 47, 98]⟩ : Str), (⟨#[32]⟩ : Str), (⟨#[101, 105, 103, 104, 116, 56, 56, 56]⟩ : Str)]) p2 6 (hΓ.get 6 Z) hs hokc_b hq2.2.1 hq2.2.2 (by first | assumption | omega | (simp; done) | (simp; omega)) (okl_mk (by simp; omega) (all_cons (α := Str) (Nat.le_trans (by decide) (bd_pos _)) (all_cons (α := Str) (Nat.le_trans (by decide) (bd_pos _)) (all_cons (α := Str) (Nat.le_trans (by decide) (bd_pos _)) (all_cons (α := Str) (Nat.le_trans (by decide) (bd_pos _)) (all_cons (α := Str) (Nat.le_trans (by decide) (bd_pos _)) (all_cons (α := Str) (Nat.le_trans (by decide) (bd_pos _)) (fun a ha => by cases ha))))))) : GoT.ok n ([(⟨#[]⟩ : Str), (⟨#[65]⟩ : Str), (⟨#[116, 111, 111, 108, 111, 110, 103, 120, 120]⟩ : Str), (⟨#[97, 47, 98]⟩ : Str), (⟨#[32]⟩ : Str), (⟨#[101, 105, 103, 104, 116, 56, 56, 56]⟩ : Str)] : List Str)) u7 u8 u9 hu3) O O ?_
   rintro ⟨⟩ hq3
   refine WX.bld ttOk Z Z Z Z Z Z Z ?_
   intro p3
   refine WX.opn (kk := 1) 501 3 9 Z Z Z ?_
   intro xs1 hx1
   refine WX.turn [] 10 Z (fun h hs => ol_one (α := Str) (a := u7) (x := ()) hs) (gs := [MF.ol [.string u7] ([u7] : List Str)]) Z ?_
   have r7 : (u1.parts).length ≤ bd n := (okl (ok_Name hq1.1)).1
   have r8 : (u7).size ≤ bd n := hq3.1
   refine WX.know (fun G hΓ => (hΓ.get 10 Z : OwL _ _ _).rd.one) ?_
   intro ho1
   refine WX.appR1 501 15 ((u1.parts ++ [u7]) : List Str).length ttOk Z Z Z Z Z Z Z Z Z Z Z Z Z ho1 (by simp) (by simp; omega) (by simp; omega) (fun _ _ => Z) ?_
   intro p4 c2
   refine WX.turn [9, 10] 11 Z (fun h hs => ol_app hs) (gs := [MF.ol (xs1 ++ [.string u7]) ((u1.parts ++ [u7]) : List Str)]) Z ?_
   refine R0 ?_
   refine WX.seal 501 11 12 Z Z Z Z Z ?_
   have hP1 : a0r c_b c_i c_h = (Name.mk (u1.parts ++ [u7]), u8, u9) := by simp only [a0r, hu1, hu2, h1, hu3, ct, cf]
   have hz1 := hP1.symm.trans hres
   obtain ⟨hz1, hz2⟩ := Prod.mk.inj hz1
   obtain ⟨hz2, hz3⟩ := Prod.mk.inj hz2
   subst hz1
   subst hz2
   subst hz3
   refine R1 ?_
   intro w1 G bs hI hΓ
   exact Post.ofL 999 [13] (p4, c2) hI hΓ Z Z Z (by rw [hI.pin _ rfl]; first | done | rfl) (⟨(okl_mk (by simp; omega) (all_app (okl (ok_Name hq1.1)).2 (all_cons (α := Str) hq3.1 (fun a ha => by cases ha))) : GoT.ok n ((u1.parts ++ [u7]) : List Str)), ⟨hq3.2.1, hq3.2.2⟩⟩)
  refine TS.op 3 Z J ?_
  refine WX.bld ttOk Z Z Z Z Z Z Z ?_
  intro p5
  refine R0 ?_
  refine WX.back0 ?_
  refine TX.all2 1 4 J ?_ ?_
  ·skip
   refine TS.op 1 Z J ?_
   refine R0 ?_
   refine WX.back0 ?_
   refine TX.tail [4, 5, 6, 7, 8] Z Z J ?_
   refine WX.turn [] 14 Z (fun h hs => one_sep (⟨(), _, emp, _, Z, emp_le _, Le.refl _, emp_dj _, trivial, ⟨(), _, emp, _, Z, emp_le _, Le.refl _, emp_dj _, trivial, ⟨(), _, emp, _, Z, emp_le _, Le.refl _, emp_dj _, trivial, ⟨(), _, emp, _, Z, emp_le _, Le.refl _, emp_dj _, trivial, ⟨(), _, emp, _, Z, emp_le _, Le.refl _, emp_dj _, trivial, ⟨(), _, emp, _, Z, emp_le _, Le.refl _, emp_dj _, trivial, Z⟩⟩⟩⟩⟩⟩ : OwL _ _ ([(⟨#[]⟩ : Str), (⟨#[65]⟩ : Str), (⟨#[116, 111, 111, 108, 111, 110, 103, 120, 120]⟩ : Str), (⟨#[97, 47, 98]⟩ : Str), (⟨#[32]⟩ : Str), (⟨#[101, 105, 103, 104, 116, 56, 56, 56]⟩ : Str)] : List Str))) (gs := [MF.ol [.string (⟨#[]⟩ : Str), .string (⟨#[65]⟩ : Str), .string (⟨#[116, 111, 111, 108, 111, 110, 103, 120, 120]⟩ : Str), .string (⟨#[97, 47, 98]⟩ : Str), .string (⟨#[32]⟩ : Str), .string (⟨#[101, 105, 103, 104, 116, 56, 56, 56]⟩ : Str)] ([(⟨#[]⟩ : Str), (⟨#[65]⟩ : Str), (⟨#[116, 111, 111, 108, 111, 110, 103, 120, 120]⟩ : Str), (⟨#[97, 47, 98]⟩ : Str), (⟨#[32]⟩ : Str), (⟨#[101, 105, 103, 104, 116, 56, 56, 56]⟩ : Str)] : List Str)]) Z ?_
   refine WX.seal 13 14 15 Z Z Z Z Z ?_
   have r9 : (⟨#[]⟩ : Str).size = 0 := rfl
   have r10 : (⟨#[65]⟩ : Str).size = 1 := rfl
   have r11 : (⟨#[116, 111, 111, 108, 111, 110, 103, 120, 120]⟩ : Str).size = 9 := rfl
   have r12 : (⟨#[97, 47, 98]⟩ : Str).size = 3 := rfl
   have r13 : (⟨#[32]⟩ : Str).size = 1 := rfl
   have r14 : (⟨#[101, 105, 103, 104, 116, 56, 56, 56]⟩ : Str).size = 8 := rfl
   obtain ⟨⟨u10, u11, u12⟩, hu4⟩ : ∃ r_, a1o c_b u5 u6 ([(⟨#[]⟩ : Str), (⟨#[65]⟩ : Str), (⟨#[116, 111, 111, 108, 111, 110, 103, 120, 120]⟩ : Str), (⟨#[97, 47, 98]⟩ : Str), (⟨#[32]⟩ : Str), (⟨#[101, 105, 103, 104, 116, 56, 56, 56]⟩ : Str)]) = r_ := ⟨_, rfl⟩
   refine WX.callP (ds := fun _ => []) 999 17 Z (fun _ _ _ => All.nil) (fun _ f hf => by cases hf) Z Z Z Z Z O Z (fun w G bs H hI hH hs hΓ => f110 w n (by omega) H hH (bs 999) c_b K0 M0 (hΓ.get 0 Z) u5 u6 ([(⟨#[]⟩ : Str), (⟨#[65]⟩ : Str), (⟨#[116, 111, 111, 108, 111, 110, 103, 120, 120]⟩ : Str), (⟨#[97, 47, 98]⟩ : Str), (⟨#[32]⟩ : Str), (⟨#[101, 105, 103, 104, 116, 56, 56, 56]⟩ : Str)]) p5 6 (hΓ.get 15 Z) hs hokc_b hq2.2.1 hq2.2.2 (by first | assumption | omega | (simp; done) | (simp; omega)) (okl_mk (by simp; omega) (all_cons (α := Str) (Nat.le_trans (by decide) (bd_pos _)) (all_cons (α := Str) (Nat.le_trans (by decide) (bd_pos _)) (all_cons (α := Str) (Nat.le_trans (by decide) (bd_pos _)) (all_cons (α := Str) (Nat.le_trans (by decide) (bd_pos _)) (all_cons (α := Str) (Nat.le_trans (by decide) (bd_pos _)) (all_cons (α := Str) (Nat.le_trans (by decide) (bd_pos _)) (fun a ha => by cases ha))))))) : GoT.ok n ([(⟨#[]⟩ : Str), (⟨#[65]⟩ : Str), (⟨#[116, 111, 111, 108, 111, 110, 103, 120, 120]⟩ : Str), (⟨#[97, 47, 98]⟩ : Str), (⟨#[32]⟩ : Str), (⟨#[101, 105, 103, 104, 116, 56, 56, 56]⟩ : Str)] : List Str)) u10 u11 u12 hu4) O O ?_
   rintro ⟨⟩ hq4
   refine WX.bld ttOk Z Z Z Z Z Z Z ?_
   intro p6
   refine WX.opn (kk := 1) 502 3 18 Z Z Z ?_
   intro xs2 hx2
   refine WX.turn [] 19 Z (fun h hs => ol_one (α := Str) (a := u10) (x := ()) hs) (gs := [MF.ol [.string u10] ([u10] : List Str)]) Z ?_
   have r15 : (u1.parts).length ≤ bd n := (okl (ok_Name hq1.1)).1
   have r16 : (u10).size ≤ bd n := hq4.1
   refine WX.know (fun G hΓ => (hΓ.get 19 Z : OwL _ _ _).rd.one) ?_
   intro ho2
   refine WX.appR1 502 15 ((u1.parts ++ [u10]) : List Str).length ttOk Z Z Z Z Z Z Z Z Z Z Z Z Z ho2 (by simp) (by simp; omega) (by simp; omega) (fun _ _ => Z) ?_
   intro p7 c3
   refine WX.turn [18, 19] 20 Z (fun h hs => ol_app hs) (gs := [MF.ol (xs2 ++ [.string u10]) ((u1.parts ++ [u10]) : List Str)]) Z ?_
   refine R0 ?_
   refine WX.seal 502 20 21 Z Z Z Z Z ?_
   have hP2 : a0r c_b c_i c_h = (Name.mk (u1.parts ++ [u10]), u11, u12) := by simp only [a0r, hu1, hu2, h1, hu4, ct, cf]
   have hz1 := hP2.symm.trans hres
   obtain ⟨hz1, hz2⟩ := Prod.mk.inj hz1
   obtain ⟨hz2, hz3⟩ := Prod.mk.inj hz2
   subst hz1
   subst hz2
   subst hz3
   refine R1 ?_
   intro w1 G bs hI hΓ
   exact Post.ofL 999 [22] (p7, c3) hI hΓ Z Z Z (by rw [hI.pin _ rfl]; first | done | rfl) (⟨(okl_mk (by simp; omega) (all_app (okl (ok_Name hq1.1)).2 (all_cons (α := Str) hq4.1 (fun a ha => by cases ha))) : GoT.ok n ((u1.parts ++ [u10]) : List Str)), ⟨hq4.2.1, hq4.2.2⟩⟩)
  refine TS.op 4 Z J ?_
  refine WX.turn [] 23 Z (fun h hs => one_sep (⟨(), _, emp, _, Z, emp_le _, Le.refl _, emp_dj _, trivial, ⟨(), _, emp, _, Z, emp_le _, Le.refl _, emp_dj _, trivial, ⟨(), _, emp, _, Z, emp_le _, Le.refl _, emp_dj _, trivial, ⟨(), _, emp, _, Z, emp_le _, Le.refl _, emp_dj _, trivial, ⟨(), _, emp, _, Z, emp_le _, Le.refl _, emp_dj _, trivial, ⟨(), _, emp, _, Z, emp_le _, Le.refl _, emp_dj _, trivial, Z⟩⟩⟩⟩⟩⟩ : OwL _ _ ([(⟨#[]⟩ : Str), (⟨#[65]⟩ : Str), (⟨#[116, 111, 111, 108, 111, 110, 103, 120, 120]⟩ : Str), (⟨#[97, 47, 98]⟩ : Str), (⟨#[32]⟩ : Str), (⟨#[101, 105, 103, 104, 116, 56, 56, 56]⟩ : Str)] : List Str))) (gs := [MF.ol [.string (⟨#[]⟩ : Str), .string (⟨#[65]⟩ : Str), .string (⟨#[116, 111, 111, 108, 111, 110, 103, 120, 120]⟩ : Str), .string (⟨#[97, 47, 98]⟩ : Str), .string (⟨#[32]⟩ : Str), .string (⟨#[101, 105, 103, 104, 116, 56, 56, 56]⟩ : Str)] ([(⟨#[]⟩ : Str), (⟨#[65]⟩ : Str), (⟨#[116, 111, 111, 108, 111, 110, 103, 120, 120]⟩ : Str), (⟨#[97, 47, 98]⟩ : Str), (⟨#[32]⟩ : Str), (⟨#[101, 105, 103, 104, 116, 56, 56, 56]⟩ : Str)] : List Str)]) Z ?_
  refine WX.seal 13 23 24 Z Z Z Z Z ?_
  have r17 : (⟨#[]⟩ : Str).size = 0 := rfl
  have r18 : (⟨#[65]⟩ : Str).size = 1 := rfl
  have r19 : (⟨#[116, 111, 111, 108, 111, 110, 103, 120, 120]⟩ : Str).size = 9 := rfl
  have r20 : (⟨#[97, 47, 98]⟩ : Str).size = 3 := rfl
  have r21 : (⟨#[32]⟩ : Str).size = 1 := rfl
  have r22 : (⟨#[101, 105, 103, 104, 116, 56, 56, 56]⟩ : Str).size = 8 := rfl
  obtain ⟨⟨u13, u14, u15⟩, hu5⟩ : ∃ r_, a1o c_b u5 u6 ([(⟨#[]⟩ : Str), (⟨#[65]⟩ : Str), (⟨#[116, 111, 111, 108, 111, 110, 103, 120, 120]⟩ : Str), (⟨#[97, 47, 98]⟩ : Str), (⟨#[32]⟩ : Str), (⟨#[101, 105, 103, 104, 116, 56, 56, 56]⟩ : Str)]) = r_ := ⟨_, rfl⟩
  refine WX.callP (ds := fun _ => []) 999 26 Z (fun _ _ _ => All.nil) (fun _ f hf => by cases hf) Z Z Z Z Z O Z (fun w G bs H hI hH hs hΓ => f110 w n (by omega) H hH (bs 999) c_b K0 M0 (hΓ.get 0 Z) u5 u6 ([(⟨#[]⟩ : Str), (⟨#[65]⟩ : Str), (⟨#[116, 111, 111, 108, 111, 110, 103, 120, 120]⟩ : Str), (⟨#[97, 47, 98]⟩ : Str), (⟨#[32]⟩ : Str), (⟨#[101, 105, 103, 104, 116, 56, 56, 56]⟩ : Str)]) p5 6 (hΓ.get 24 Z) hs hokc_b hq2.2.1 hq2.2.2 (by first | assumption | omega | (simp; done) | (simp; omega)) (okl_mk (by simp; omega) (all_cons (α := Str) (Nat.le_trans (by decide) (bd_pos _)) (all_cons (α := Str) (Nat.le_trans (by decide) (bd_pos _)) (all_cons (α := Str) (Nat.le_trans (by decide) (bd_pos _)) (all_cons (α := Str) (Nat.le_trans (by decide) (bd_pos _)) (all_cons (α := Str) (Nat.le_trans (by decide) (bd_pos _)) (all_cons (α := Str) (Nat.le_trans (by decide) (bd_pos _)) (fun a ha => by cases ha))))))) : GoT.ok n ([(⟨#[]⟩ : Str), (⟨#[65]⟩ : Str), (⟨#[116, 111, 111, 108, 111, 110, 103, 120, 120]⟩ : Str), (⟨#[97, 47, 98]⟩ : Str), (⟨#[32]⟩ : Str), (⟨#[101, 105, 103, 104, 116, 56, 56, 56]⟩ : Str)] : List Str)) u13 u14 u15 hu5) O O ?_
  rintro ⟨⟩ hq5
  refine R0 ?_
  refine WX.back0 ?_
  refine TX.all2 1 5 J ?_ ?_
  ·skip
   refine TS.op 1 Z J ?_
   refine R0 ?_
   refine WX.back0 ?_
   refine TX.tail [5, 6, 7, 8] Z Z J ?_
   refine WX.bld ttOk Z Z Z Z Z Z Z ?_
   intro p8
   refine WX.opn (kk := 1) 503 3 27 Z Z Z ?_
   intro xs3 hx3
   refine WX.turn [] 28 Z (fun h hs => ol_one (α := Str) (a := u13) (x := ()) hs) (gs := [MF.ol [.string u13] ([u13] : List Str)]) Z ?_
   have r23 : (u1.parts).length ≤ bd n := (okl (ok_Name hq1.1)).1
   have r24 : (u13).size ≤ bd n := hq5.1
   refine WX.know (fun G hΓ => (hΓ.get 28 Z : OwL _ _ _).rd.one) ?_
   intro ho3
   refine WX.appR1 503 15 ((u1.parts ++ [u13]) : List Str).length ttOk Z Z Z Z Z Z Z Z Z Z Z Z Z ho3 (by simp) (by simp; omega) (by simp; omega) (fun _ _ => Z) ?_
   intro p9 c4
   refine WX.turn [27, 28] 29 Z (fun h hs => ol_app hs) (gs := [MF.ol (xs3 ++ [.string u13]) ((u1.parts ++ [u13]) : List Str)]) Z ?_
   refine R0 ?_
   refine WX.seal 503 29 30 Z Z Z Z Z ?_
   have hP3 : a0r c_b c_i c_h = (Name.mk (u1.parts ++ [u13]), u14, u15) := by simp only [a0r, hu1, hu2, h1, hu5, ct, cf]
   have hz1 := hP3.symm.trans hres
   obtain ⟨hz1, hz2⟩ := Prod.mk.inj hz1
   obtain ⟨hz2, hz3⟩ := Prod.mk.inj hz2
   subst hz1
   subst hz2
   subst hz3
   refine R1 ?_
   intro w1 G bs hI hΓ
   exact Post.ofL 999 [31] (p9, c4) hI hΓ Z Z Z (by rw [hI.pin _ rfl]; first | done | rfl) (⟨(okl_mk (by simp; omega) (all_app (okl (ok_Name hq1.1)).2 (all_cons (α := Str) hq5.1 (fun a ha => by cases ha))) : GoT.ok n ((u1.parts ++ [u13]) : List Str)), ⟨hq5.2.1, hq5.2.2⟩⟩)
  refine TS.op 5 Z J ?_
  refine WX.bld ttOk Z Z Z Z Z Z Z ?_
  intro p10
  refine R0 ?_
  refine WX.back0 ?_
  refine TX.tail [1, 6, 7, 8] Z Z J ?_
  refine R0 ?_
  refine WX.opn (kk := 1) 504 3 32 Z Z Z ?_
  intro xs4 hx4
  refine WX.turn [] 33 Z (fun h hs => ol_one (α := Str) (a := u13) (x := ()) hs) (gs := [MF.ol [.string u13] ([u13] : List Str)]) Z ?_
  have r25 : (u1.parts).length ≤ bd n := (okl (ok_Name hq1.1)).1
  have r26 : (u13).size ≤ bd n := hq5.1
  refine WX.know (fun G hΓ => (hΓ.get 33 Z : OwL _ _ _).rd.one) ?_
  intro ho4
  refine WX.appR1 504 15 ((u1.parts ++ [u13]) : List Str).length ttOk Z Z Z Z Z Z Z Z Z Z Z Z Z ho4 (by simp) (by simp; omega) (by simp; omega) (fun _ _ => Z) ?_
  intro p11 c5
  refine WX.turn [32, 33] 34 Z (fun h hs => ol_app hs) (gs := [MF.ol (xs4 ++ [.string u13]) ((u1.parts ++ [u13]) : List Str)]) Z ?_
  refine R0 ?_
  refine WX.seal 504 34 35 Z Z Z Z Z ?_
  have hP4 : a0r c_b c_i c_h = (Name.mk (u1.parts ++ [u13]), u14, u15) := by simp only [a0r, hu1, hu2, h1, hu5, ct, cf]
  have hz1 := hP4.symm.trans hres
  obtain ⟨hz1, hz2⟩ := Prod.mk.inj hz1
  obtain ⟨hz2, hz3⟩ := Prod.mk.inj hz2
  subst hz1
  subst hz2
  subst hz3
  refine R1 ?_
  intro w1 G bs hI hΓ
  exact Post.ofL 999 [36] (p11, c5) hI hΓ Z Z Z (by rw [hI.pin _ rfl]; first | done | rfl) (⟨(okl_mk (by simp; omega) (all_app (okl (ok_Name hq1.1)).2 (all_cons (α := Str) hq5.1 (fun a ha => by cases ha))) : GoT.ok n ((u1.parts ++ [u13]) : List Str)), ⟨hq5.2.1, hq5.2.2⟩⟩)
 have h1d := B.ef h1
 refine R0 ?_
 refine WX.cases 18 Z (fun h2 => ?_) (fun h2 => ?_)
 ·skip
  have h2d := B.et h2
  refine R0 ?_
  refine WX.loop (ι := (Option Addr) × Nat × (List Str) × Int × Int) ⟨fun | (pn_, cn_, n_, u999_i, u999_h) => (n_.length ≤ bd n ∧ ∀ z_ ∈ n_, GoT.ok n z_) ∧ (NN u999_i) ∧ (-9223372036854775808 ≤ u999_h ∧ u999_h ≤ 9223372036854775807) ∧ (n_.length ≤ 7) ∧ (a1a c_b (u1.parts : List Str) u5 u6 = a1a c_b n_ u999_i u999_h), fun | (pn_, cn_, n_, u999_i, u999_h) => 7 - n_.length, fun | (pn_, cn_, n_, u999_i, u999_h) => [(3, .p 3 0), (2, .p 2 0), (0, .p 999 0)], fun | (pn_, cn_, n_, u999_i, u999_h) => [(3, ⟨30, [.slice pn_ ((n_).length) cn_]⟩), (2, ⟨30, [.slice none (0) 0]⟩), (999, ⟨182, [.slice K0 ((c_b).length) M0, .int .i64 (u999_i), .int .i64 (u999_h)]⟩)], fun | (pn_, cn_, n_, u999_i, u999_h) => [], fun | (pn_, cn_, n_, u999_i, u999_h) => [(0, MF.rs .stb K0 M0 c_b), (3, MF.os pn_ cn_ n_)]⟩ (p1, c1, (u1.parts : List Str), u5, u6) ⟨(ok_Name hq1.1), hq2.2.1, hq2.2.2, (by omega), Z⟩
   (.cons Z (.cons Z (.cons Z (.nil)))) (.cons Z (.cons Z (.cons Z (.nil)))) .nil [0, 3] Z ?_
  rintro ⟨pn_, cn_, n_, u999_i, u999_h⟩ hpre
  have hpre_ : (n_.length ≤ bd n ∧ ∀ z_ ∈ n_, GoT.ok n z_) ∧ (NN u999_i) ∧ (-9223372036854775808 ≤ u999_h ∧ u999_h ≤ 9223372036854775807) ∧ (n_.length ≤ 7) ∧ (a1a c_b (u1.parts : List Str) u5 u6 = a1a c_b n_ u999_i u999_h) := hpre
  clear hpre
  obtain ⟨v1, v2, v3, v4, v5⟩ := hpre_
  have v1L := v1.1
  refine R0 ?_
  refine WX.der 37 (MF.rs .der pn_ cn_ n_) Z (fun _ hΓ => (hΓ.get 3 Z : OwSl _ _ _ _).rd) ?_
  refine WX.draw [1, 2, 4, 5, 6] mixed ?_
  intro bs G0 hΓ0
  refine DX.takes (fuel := 5) ttOk [(0, true), (3, true)] J Z ?_
  refine DX.toTX ?_
  intro S_
  refine TX.all2 1 4 J ?_ ?_
  ·skip
   refine TS.op 1 Z J ?_
   refine R0 ?_
   refine WX.back0 ?_
   refine TX.all2 2 4 J ?_ ?_
   ·skip
    refine TS.op 2 Z J ?_
    refine R0 ?_
    refine WX.back0 ?_
    refine TX.tail [4, 5, 6] Z Z J ?_
    obtain ⟨⟨u16, u17, u18⟩, hu6⟩ : ∃ r_, a08 c_b u999_i u999_h 3 = r_ := ⟨_, rfl⟩
    refine WX.callP (ds := fun _ => []) 999 38 Z (fun _ _ _ => All.nil) (fun _ f hf => by cases hf) Z Z Z Z Z O Z (fun w G bs H hI hH hs hΓ => f84 w n (by omega) H hH (bs 999) c_b K0 M0 (hΓ.get 0 Z) u999_i u999_h 3 hs hokc_b v2 v3 (show I64 3 from (by unfold I64; omega)) u16 u17 u18 hu6) O O ?_
    rintro ⟨⟩ hq6
    have q3 := l1Below_rng c_b u999_i u999_h 3
    rw [hu6] at q3
    try dsimp only at q3
    have r27 : -9223372036854775808 ≤ u16 ∧ u16 ≤ 9223372036854775807 := hq6.1
    refine WX.see Z Z Z (fun _ hΓ => looks_arith Z Z Z Z (by unfold I64; first | omega | (simp only [List.length_take] at *; omega))) ?_
    refine R0 ?_
    refine WX.cases 26 Z (fun h3 => ?_) (fun h3 => ?_)
    ·skip
     have h3d := B.dt h3
     refine R0 ?_
     refine WX.bld ttOk Z Z Z Z Z Z Z ?_
     intro p12
     refine WX.opn (kk := 1) 505 3 39 Z Z Z ?_
     intro xs5 hx5
     refine WX.turn [] 40 Z (fun h hs => ol_one (α := Str) (a := (⟨#[109]⟩ : Str)) (x := ()) hs) (gs := [MF.ol [.string (⟨#[109]⟩ : Str)] ([(⟨#[109]⟩ : Str)] : List Str)]) Z ?_
     have r28 : (⟨#[109]⟩ : Str).size = 1 := rfl
     refine WX.know (fun G hΓ => (hΓ.get 40 Z : OwL _ _ _).rd.one) ?_
     intro ho5
     refine WX.appR1 505 29 ((n_ ++ [(⟨#[109]⟩ : Str)]) : List Str).length ttOk Z Z Z Z Z Z Z Z Z Z Z Z Z ho5 (by simp) (by simp; omega) (by simp; omega) (fun _ _ => Z) ?_
     intro p13 c6
     refine WX.turn [39, 40] 41 Z (fun h hs => ol_app hs) (gs := [MF.ol (xs5 ++ [.string (⟨#[109]⟩ : Str)]) ((n_ ++ [(⟨#[109]⟩ : Str)]) : List Str)]) Z ?_
     refine R0 ?_
     refine WX.seal 505 41 42 Z Z Z Z Z ?_
     refine WX.turn [43] 3 Z (fun _ h => h) Z ?_
     exact WX.iter (p13, c6, (n_ ++ [(⟨#[109]⟩ : Str)]), u17, u18) ⟨(okl_mk (by simp; omega) (all_app v1.2 (all_cons (α := Str) (Nat.le_trans (by decide) (bd_pos _)) (fun a ha => by cases ha))) : GoT.ok n ((n_ ++ [(⟨#[109]⟩ : Str)]) : List Str)), hq6.2.1, hq6.2.2, (by first | assumption | omega | (simp; omega)), (by rw [v5]; rw [a1a]; simp only [hu6, h3, h3d, ct, cf, ↓reduceIte, Bool.false_eq_true])⟩ (by dsimp only; simp only [List.length_append, List.length_cons, List.length_nil]; omega) (.cons Z (.cons Z (.cons Z (.nil)))) (.cons Z (.cons Z (.cons Z (.nil)))) .nil [0, 3] Z
    have h3d := B.df h3
    refine R0 ?_
    have hX1 : a1a c_b (u1.parts : List Str) u5 u6 = (((n_) : List Str), u17, u18) := by rw [v5]; rw [a1a]; simp only [hu6, h3, h3d, ct, cf, ↓reduceIte, Bool.false_eq_true]
    have hP5 : a0r c_b c_i c_h = (Name.mk n_, u17, u18) := by simp only [a0r, hu1, hu2, h1, h2, hX1, ct, cf]
    have hz1 := hP5.symm.trans hres
    obtain ⟨hz1, hz2⟩ := Prod.mk.inj hz1
    obtain ⟨hz2, hz3⟩ := Prod.mk.inj hz2
    subst hz1
    subst hz2
    subst hz3
    refine R1 ?_
    intro w1 G bs hI hΓ
    exact Post.ofL 999 [3] (pn_, cn_) hI hΓ Z Z Z (by rw [hI.pin _ rfl]; first | done | rfl) (⟨(okl_of v1), ⟨hq6.2.1, hq6.2.2⟩⟩)
   refine TS.op 4 Z J ?_
   obtain ⟨⟨u19, u20, u21⟩, hu7⟩ : ∃ r_, a08 c_b u999_i u999_h 3 = r_ := ⟨_, rfl⟩
   refine WX.callP (ds := fun _ => []) 999 44 Z (fun _ _ _ => All.nil) (fun _ f hf => by cases hf) Z Z Z Z Z O Z (fun w G bs H hI hH hs hΓ => f84 w n (by omega) H hH (bs 999) c_b K0 M0 (hΓ.get 0 Z) u999_i u999_h 3 hs hokc_b v2 v3 (show I64 3 from (by unfold I64; omega)) u19 u20 u21 hu7) O O ?_
   rintro ⟨⟩ hq7
   have q4 := l1Below_rng c_b u999_i u999_h 3
   rw [hu7] at q4
   try dsimp only at q4
   refine R0 ?_
   refine WX.back0 ?_
   refine TX.all2 2 5 J ?_ ?_
   ·skip
    refine TS.op 2 Z J ?_
    refine R0 ?_
    refine WX.back0 ?_
    refine TX.tail [5, 6] Z Z J ?_
    have r29 : -9223372036854775808 ≤ u19 ∧ u19 ≤ 9223372036854775807 := hq7.1
    refine WX.see Z Z Z (fun _ hΓ => looks_arith Z Z Z Z (by unfold I64; first | omega | (simp only [List.length_take] at *; omega))) ?_
    refine R0 ?_
    refine WX.cases 26 Z (fun h4 => ?_) (fun h4 => ?_)
    ·skip
     have h4d := B.dt h4
     refine R0 ?_
     refine WX.bld ttOk Z Z Z Z Z Z Z ?_
     intro p14
     refine WX.opn (kk := 1) 506 3 45 Z Z Z ?_
     intro xs6 hx6
     refine WX.turn [] 46 Z (fun h hs => ol_one (α := Str) (a := (⟨#[109]⟩ : Str)) (x := ()) hs) (gs := [MF.ol [.string (⟨#[109]⟩ : Str)] ([(⟨#[109]⟩ : Str)] : List Str)]) Z ?_
     have r30 : (⟨#[109]⟩ : Str).size = 1 := rfl
     refine WX.know (fun G hΓ => (hΓ.get 46 Z : OwL _ _ _).rd.one) ?_
     intro ho6
     refine WX.appR1 506 29 ((n_ ++ [(⟨#[109]⟩ : Str)]) : List Str).length ttOk Z Z Z Z Z Z Z Z Z Z Z Z Z ho6 (by simp) (by simp; omega) (by simp; omega) (fun _ _ => Z) ?_
     intro p15 c7
     refine WX.turn [45, 46] 47 Z (fun h hs => ol_app hs) (gs := [MF.ol (xs6 ++ [.string (⟨#[109]⟩ : Str)]) ((n_ ++ [(⟨#[109]⟩ : Str)]) : List Str)]) Z ?_
     refine R0 ?_
     refine WX.seal 506 47 48 Z Z Z Z Z ?_
     refine WX.turn [49] 3 Z (fun _ h => h) Z ?_
     exact WX.iter (p15, c7, (n_ ++ [(⟨#[109]⟩ : Str)]), u20, u21) ⟨(okl_mk (by simp; omega) (all_app v1.2 (all_cons (α := Str) (Nat.le_trans (by decide) (bd_pos _)) (fun a ha => by cases ha))) : GoT.ok n ((n_ ++ [(⟨#[109]⟩ : Str)]) : List Str)), hq7.2.1, hq7.2.2, (by first | assumption | omega | (simp; omega)), (by rw [v5]; rw [a1a]; simp only [hu7, h4, h4d, ct, cf, ↓reduceIte, Bool.false_eq_true])⟩ (by dsimp only; simp only [List.length_append, List.length_cons, List.length_nil]; omega) (.cons Z (.cons Z (.cons Z (.nil)))) (.cons Z (.cons Z (.cons Z (.nil)))) .nil [0, 3] Z
    have h4d := B.df h4
    refine R0 ?_
    have hX2 : a1a c_b (u1.parts : List Str) u5 u6 = (((n_) : List Str), u20, u21) := by rw [v5]; rw [a1a]; simp only [hu7, h4, h4d, ct, cf, ↓reduceIte, Bool.false_eq_true]
    have hP6 : a0r c_b c_i c_h = (Name.mk n_, u20, u21) := by simp only [a0r, hu1, hu2, h1, h2, hX2, ct, cf]
    have hz1 := hP6.symm.trans hres
    obtain ⟨hz1, hz2⟩ := Prod.mk.inj hz1
    obtain ⟨hz2, hz3⟩ := Prod.mk.inj hz2
    subst hz1
    subst hz2
    subst hz3
    refine R1 ?_
    intro w1 G bs hI hΓ
    exact Post.ofL 999 [3] (pn_, cn_) hI hΓ Z Z Z (by rw [hI.pin _ rfl]; first | done | rfl) (⟨(okl_of v1), ⟨hq7.2.1, hq7.2.2⟩⟩)
   refine TS.op 5 Z J ?_
   have r31 : -9223372036854775808 ≤ u19 ∧ u19 ≤ 9223372036854775807 := hq7.1
   refine WX.see Z Z Z (fun _ hΓ => looks_arith Z Z Z Z (by unfold I64; first | omega | (simp only [List.length_take] at *; omega))) ?_
   refine R0 ?_
   refine WX.back0 ?_
   refine TX.tail [2, 6] Z Z J ?_
   refine R0 ?_
   refine WX.cases 26 Z (fun h5 => ?_) (fun h5 => ?_)
   ·skip
    have h5d := B.dt h5
    refine R0 ?_
    refine WX.bld ttOk Z Z Z Z Z Z Z ?_
    intro p16
    refine WX.opn (kk := 1) 507 3 50 Z Z Z ?_
    intro xs7 hx7
    refine WX.turn [] 51 Z (fun h hs => ol_one (α := Str) (a := (⟨#[109]⟩ : Str)) (x := ()) hs) (gs := [MF.ol [.string (⟨#[109]⟩ : Str)] ([(⟨#[109]⟩ : Str)] : List Str)]) Z ?_
    have r32 : (⟨#[109]⟩ : Str).size = 1 := rfl
    refine WX.know (fun G hΓ => (hΓ.get 51 Z : OwL _ _ _).rd.one) ?_
    intro ho7
    refine WX.appR1 507 29 ((n_ ++ [(⟨#[109]⟩ : Str)]) : List Str).length ttOk Z Z Z Z Z Z Z Z Z Z Z Z Z ho7 (by simp) (by simp; omega) (by simp; omega) (fun _ _ => Z) ?_
    intro p17 c8
    refine WX.turn [50, 51] 52 Z (fun h hs => ol_app hs) (gs := [MF.ol (xs7 ++ [.string (⟨#[109]⟩ : Str)]) ((n_ ++ [(⟨#[109]⟩ : Str)]) : List Str)]) Z ?_
    refine R0 ?_
    refine WX.seal 507 52 53 Z Z Z Z Z ?_
    refine WX.turn [54] 3 Z (fun _ h => h) Z ?_
    exact WX.iter (p17, c8, (n_ ++ [(⟨#[109]⟩ : Str)]), u20, u21) ⟨(okl_mk (by simp; omega) (all_app v1.2 (all_cons (α := Str) (Nat.le_trans (by decide) (bd_pos _)) (fun a ha => by cases ha))) : GoT.ok n ((n_ ++ [(⟨#[109]⟩ : Str)]) : List Str)), hq7.2.1, hq7.2.2, (by first | assumption | omega | (simp; omega)), (by rw [v5]; rw [a1a]; simp only [hu7, h5, h5d, ct, cf, ↓reduceIte, Bool.false_eq_true])⟩ (by dsimp only; simp only [List.length_append, List.length_cons, List.length_nil]; omega) (.cons Z (.cons Z (.cons Z (.nil)))) (.cons Z (.cons Z (.cons Z (.nil)))) .nil [0, 3] Z
   have h5d := B.df h5
   refine R0 ?_
   have hX3 : a1a c_b (u1.parts : List Str) u5 u6 = (((n_) : List Str), u20, u21) := by rw [v5]; rw [a1a]; simp only [hu7, h5, h5d, ct, cf, ↓reduceIte, Bool.false_eq_true]
   have hP7 : a0r c_b c_i c_h = (Name.mk n_, u20, u21) := by simp only [a0r, hu1, hu2, h1, h2, hX3, ct, cf]
   have hz1 := hP7.symm.trans hres
   obtain ⟨hz1, hz2⟩ := Prod.mk.inj hz1
   obtain ⟨hz2, hz3⟩ := Prod.mk.inj hz2
   subst hz1
   subst hz2
   subst hz3
   refine R1 ?_
   intro w1 G bs hI hΓ
   exact Post.ofL 999 [3] (pn_, cn_) hI hΓ Z Z Z (by rw [hI.pin _ rfl]; first | done | rfl) (⟨(okl_of v1), ⟨hq7.2.1, hq7.2.2⟩⟩)
  refine TS.op 4 Z J ?_
  obtain ⟨⟨u22, u23, u24⟩, hu8⟩ : ∃ r_, a08 c_b u999_i u999_h 3 = r_ := ⟨_, rfl⟩
  refine WX.callP (ds := fun _ => []) 999 55 Z (fun _ _ _ => All.nil) (fun _ f hf => by cases hf) Z Z Z Z Z O Z (fun w G bs H hI hH hs hΓ => f84 w n (by omega) H hH (bs 999) c_b K0 M0 (hΓ.get 0 Z) u999_i u999_h 3 hs hokc_b v2 v3 (show I64 3 from (by unfold I64; omega)) u22 u23 u24 hu8) O O ?_
  rintro ⟨⟩ hq8
  have q5 := l1Below_rng c_b u999_i u999_h 3
  rw [hu8] at q5
  try dsimp only at q5
  refine R0 ?_
  refine WX.back0 ?_
  refine TX.all2 1 5 J ?_ ?_
  ·skip
   refine TS.op 1 Z J ?_
   refine R0 ?_
   refine WX.back0 ?_
   refine TX.all2 2 5 J ?_ ?_
   ·skip
    refine TS.op 2 Z J ?_
    refine R0 ?_
    refine WX.back0 ?_
    refine TX.tail [5, 6] Z Z J ?_
    have r33 : -9223372036854775808 ≤ u22 ∧ u22 ≤ 9223372036854775807 := hq8.1
    refine WX.see Z Z Z (fun _ hΓ => looks_arith Z Z Z Z (by unfold I64; first | omega | (simp only [List.length_take] at *; omega))) ?_
    refine R0 ?_
    refine WX.cases 26 Z (fun h6 => ?_) (fun h6 => ?_)
    ·skip
     have h6d := B.dt h6
     refine R0 ?_
     refine WX.bld ttOk Z Z Z Z Z Z Z ?_
     intro p18
     refine WX.opn (kk := 1) 508 3 56 Z Z Z ?_
     intro xs8 hx8
     refine WX.turn [] 57 Z (fun h hs => ol_one (α := Str) (a := (⟨#[109]⟩ : Str)) (x := ()) hs) (gs := [MF.ol [.string (⟨#[109]⟩ : Str)] ([(⟨#[109]⟩ : Str)] : List Str)]) Z ?_
     have r34 : (⟨#[109]⟩ : Str).size = 1 := rfl
     refine WX.know (fun G hΓ => (hΓ.get 57 Z : OwL _ _ _).rd.one) ?_
     intro ho8
     refine WX.appR1 508 29 ((n_ ++ [(⟨#[109]⟩ : Str)]) : List Str).length ttOk Z Z Z Z Z Z Z Z Z Z Z Z Z ho8 (by simp) (by simp; omega) (by simp; omega) (fun _ _ => Z) ?_
     intro p19 c9
     refine WX.turn [56, 57] 58 Z (fun h hs => ol_app hs) (gs := [MF.ol (xs8 ++ [.string (⟨#[109]⟩ : Str)]) ((n_ ++ [(⟨#[109]⟩ : Str)]) : List Str)]) Z ?_
     refine R0 ?_
     refine WX.seal 508 58 59 Z Z Z Z Z ?_
     refine WX.turn [60] 3 Z (fun _ h => h) Z ?_
     exact WX.iter (p19, c9, (n_ ++ [(⟨#[109]⟩ : Str)]), u23, u24) ⟨(okl_mk (by simp; omega) (all_app v1.2 (all_cons (α := Str) (Nat.le_trans (by decide) (bd_pos _)) (fun a ha => by cases ha))) : GoT.ok n ((n_ ++ [(⟨#[109]⟩ : Str)]) : List Str)), hq8.2.1, hq8.2.2, (by first | assumption | omega | (simp; omega)), (by rw [v5]; rw [a1a]; simp only [hu8, h6, h6d, ct, cf, ↓reduceIte, Bool.false_eq_true])⟩ (by dsimp only; simp only [List.length_append, List.length_cons, List.length_nil]; omega) (.cons Z (.cons Z (.cons Z (.nil)))) (.cons Z (.cons Z (.cons Z (.nil)))) .nil [0, 3] Z
    have h6d := B.df h6
    refine R0 ?_
    have hX4 : a1a c_b (u1.parts : List Str) u5 u6 = (((n_) : List Str), u23, u24) := by rw [v5]; rw [a1a]; simp only [hu8, h6, h6d, ct, cf, ↓reduceIte, Bool.false_eq_true]
    have hP8 : a0r c_b c_i c_h = (Name.mk n_, u23, u24) := by simp only [a0r, hu1, hu2, h1, h2, hX4, ct, cf]
    have hz1 := hP8.symm.trans hres
    obtain ⟨hz1, hz2⟩ := Prod.mk.inj hz1
    obtain ⟨hz2, hz3⟩ := Prod.mk.inj hz2
    subst hz1
    subst hz2
    subst hz3
    refine R1 ?_
    intro w1 G bs hI hΓ
    exact Post.ofL 999 [3] (pn_, cn_) hI hΓ Z Z Z (by rw [hI.pin _ rfl]; first | done | rfl) (⟨(okl_of v1), ⟨hq8.2.1, hq8.2.2⟩⟩)
   refine TS.op 5 Z J ?_
   have r35 : -9223372036854775808 ≤ u22 ∧ u22 ≤ 9223372036854775807 := hq8.1
   refine WX.see Z Z Z (fun _ hΓ => looks_arith Z Z Z Z (by unfold I64; first | omega | (simp only [List.length_take] at *; omega))) ?_
   refine R0 ?_
   refine WX.back0 ?_
   refine TX.tail [2, 6] Z Z J ?_
   refine R0 ?_
   refine WX.cases 26 Z (fun h7 => ?_) (fun h7 => ?_)
   ·skip
    have h7d := B.dt h7
    refine R0 ?_
    refine WX.bld ttOk Z Z Z Z Z Z Z ?_
    intro p20
    refine WX.opn (kk := 1) 509 3 61 Z Z Z ?_
    intro xs9 hx9
    refine WX.turn [] 62 Z (fun h hs => ol_one (α := Str) (a := (⟨#[109]⟩ : Str)) (x := ()) hs) (gs := [MF.ol [.string (⟨#[109]⟩ : Str)] ([(⟨#[109]⟩ : Str)] : List Str)]) Z ?_
    have r36 : (⟨#[109]⟩ : Str).size = 1 := rfl
    refine WX.know (fun G hΓ => (hΓ.get 62 Z : OwL _ _ _).rd.one) ?_
    intro ho9
    refine WX.appR1 509 29 ((n_ ++ [(⟨#[109]⟩ : Str)]) : List Str).length ttOk Z Z Z Z Z Z Z Z Z Z Z Z Z ho9 (by simp) (by simp; omega) (by simp; omega) (fun _ _ => Z) ?_
    intro p21 c10
    refine WX.turn [61, 62] 63 Z (fun h hs => ol_app hs) (gs := [MF.ol (xs9 ++ [.string (⟨#[109]⟩ : Str)]) ((n_ ++ [(⟨#[109]⟩ : Str)]) : List Str)]) Z ?_
    refine R0 ?_
    refine WX.seal 509 63 64 Z Z Z Z Z ?_
    refine WX.turn [65] 3 Z (fun _ h => h) Z ?_
    exact WX.iter (p21, c10, (n_ ++ [(⟨#[109]⟩ : Str)]), u23, u24) ⟨(okl_mk (by simp; omega) (all_app v1.2 (all_cons (α := Str) (Nat.le_trans (by decide) (bd_pos _)) (fun a ha => by cases ha))) : GoT.ok n ((n_ ++ [(⟨#[109]⟩ : Str)]) : List Str)), hq8.2.1, hq8.2.2, (by first | assumption | omega | (simp; omega)), (by rw [v5]; rw [a1a]; simp only [hu8, h7, h7d, ct, cf, ↓reduceIte, Bool.false_eq_true])⟩ (by dsimp only; simp only [List.length_append, List.length_cons, List.length_nil]; omega) (.cons Z (.cons Z (.cons Z (.nil)))) (.cons Z (.cons Z (.cons Z (.nil)))) .nil [0, 3] Z
   have h7d := B.df h7
   refine R0 ?_
   have hX5 : a1a c_b (u1.parts : List Str) u5 u6 = (((n_) : List Str), u23, u24) := by rw [v5]; rw [a1a]; simp only [hu8, h7, h7d, ct, cf, ↓reduceIte, Bool.false_eq_true]
   have hP9 : a0r c_b c_i c_h = (Name.mk n_, u23, u24) := by simp only [a0r, hu1, hu2, h1, h2, hX5, ct, cf]
   have hz1 := hP9.symm.trans hres
   obtain ⟨hz1, hz2⟩ := Prod.mk.inj hz1
   obtain ⟨hz2, hz3⟩ := Prod.mk.inj hz2
   subst hz1
   subst hz2
   subst hz3
   refine R1 ?_
   intro w1 G bs hI hΓ
   exact Post.ofL 999 [3] (pn_, cn_) hI hΓ Z Z Z (by rw [hI.pin _ rfl]; first | done | rfl) (⟨(okl_of v1), ⟨hq8.2.1, hq8.2.2⟩⟩)
  refine TS.op 5 Z J ?_
  have r37 : -9223372036854775808 ≤ u22 ∧ u22 ≤ 9223372036854775807 := hq8.1
  refine WX.see Z Z Z (fun _ hΓ => looks_arith Z Z Z Z (by unfold I64; first | omega | (simp only [List.length_take] at *; omega))) ?_
  refine R0 ?_
  refine WX.back0 ?_
  refine TX.tail [1, 2, 6] Z Z J ?_
  refine R0 ?_
  refine WX.cases 26 Z (fun h8 => ?_) (fun h8 => ?_)
  ·skip
   have h8d := B.dt h8
   refine R0 ?_
   refine WX.bld ttOk Z Z Z Z Z Z Z ?_
   intro p22
   refine WX.opn (kk := 1) 510 3 66 Z Z Z ?_
   intro xs10 hx10
   refine WX.turn [] 67 Z (fun h hs => ol_one (α := Str) (a := (⟨#[109]⟩ : Str)) (x := ()) hs) (gs := [MF.ol [.string (⟨#[109]⟩ : Str)] ([(⟨#[109]⟩ : Str)] : List Str)]) Z ?_
   have r38 : (⟨#[109]⟩ : Str).size = 1 := rfl
   refine WX.know (fun G hΓ => (hΓ.get 67 Z : OwL _ _ _).rd.one) ?_
   intro ho10
   refine WX.appR1 510 29 ((n_ ++ [(⟨#[109]⟩ : Str)]) : List Str).length ttOk Z Z Z Z Z Z Z Z Z Z Z Z Z ho10 (by simp) (by simp; omega) (by simp; omega) (fun _ _ => Z) ?_
   intro p23 c11
   refine WX.turn [66, 67] 68 Z (fun h hs => ol_app hs) (gs := [MF.ol (xs10 ++ [.string (⟨#[109]⟩ : Str)]) ((n_ ++ [(⟨#[109]⟩ : Str)]) : List Str)]) Z ?_
   refine R0 ?_
   refine WX.seal 510 68 69 Z Z Z Z Z ?_
   refine WX.turn [70] 3 Z (fun _ h => h) Z ?_
   exact WX.iter (p23, c11, (n_ ++ [(⟨#[109]⟩ : Str)]), u23, u24) ⟨(okl_mk (by simp; omega) (all_app v1.2 (all_cons (α := Str) (Nat.le_trans (by decide) (bd_pos _)) (fun a ha => by cases ha))) : GoT.ok n ((n_ ++ [(⟨#[109]⟩ : Str)]) : List Str)), hq8.2.1, hq8.2.2, (by first | assumption | omega | (simp; omega)), (by rw [v5]; rw [a1a]; simp only [hu8, h8, h8d, ct, cf, ↓reduceIte, Bool.false_eq_true])⟩ (by dsimp only; simp only [List.length_append, List.length_cons, List.length_nil]; omega) (.cons Z (.cons Z (.cons Z (.nil)))) (.cons Z (.cons Z (.cons Z (.nil)))) .nil [0, 3] Z
  have h8d := B.df h8
  refine R0 ?_
  have hX6 : a1a c_b (u1.parts : List Str) u5 u6 = (((n_) : List Str), u23, u24) := by rw [v5]; rw [a1a]; simp only [hu8, h8, h8d, ct, cf, ↓reduceIte, Bool.false_eq_true]
  have hP10 : a0r c_b c_i c_h = (Name.mk n_, u23, u24) := by simp only [a0r, hu1, hu2, h1, h2, hX6, ct, cf]
  have hz1 := hP10.symm.trans hres
  obtain ⟨hz1, hz2⟩ := Prod.mk.inj hz1
  obtain ⟨hz2, hz3⟩ := Prod.mk.inj hz2
  subst hz1
  subst hz2
  subst hz3
  refine R1 ?_
  intro w1 G bs hI hΓ
  exact Post.ofL 999 [3] (pn_, cn_) hI hΓ Z Z Z (by rw [hI.pin _ rfl]; first | done | rfl) (⟨(okl_of v1), ⟨hq8.2.1, hq8.2.2⟩⟩)
 have h2d := B.ef h2
 refine R0 ?_
 have hP11 : a0r c_b c_i c_h = (u1, u5, u6) := by simp only [a0r, hu1, hu2, h1, h2, ct, cf]
 have hz1 := hP11.symm.trans hres
 obtain ⟨hz1, hz2⟩ := Prod.mk.inj hz1
 obtain ⟨hz2, hz3⟩ := Prod.mk.inj hz2
 subst hz1
 subst hz2
 subst hz3
 refine R1 ?_
 intro w1 G bs hI hΓ
 exact Post.ofL 999 [3] (p1, c1) hI hΓ Z Z Z (by rw [hI.pin _ rfl]; first | done | rfl) (⟨hq1.1, ⟨hq2.2.1, hq2.2.2⟩⟩)
end Go.Proofs.YtolepebgdfdciaaGreat

namespace Go.Stp
set_option linter.unusedVariables false
set_option linter.unusedSimpArgs false
instance ctlInh27 {α β : Type} [Inhabited α] : Inhabited (Ctl α β) := ⟨.ret default⟩
end Go.Stp

namespace Go.Stp
set_option linter.unusedVariables false
set_option linter.unusedSimpArgs false
def a2e : List TableEntry → (List TableEntry) → (List TableEntry)
 | [], out => ((out) : List TableEntry)
 | e1 :: rest_, out =>
  bif decide (e1.value > (a11 (StateVector.mk out) e1.name)) then
   a2e rest_ (((a0x out e1.name e1.value).1) : List TableEntry)
  else
   a2e rest_ ((out) : List TableEntry)
def a34 (a : StateVector) (b : StateVector) : StateVector :=
 match a2e b.entries ((a0a a.entries) : List TableEntry) with
  | out =>
   (StateVector.mk out)
end Go.Stp

namespace Go.Proofs.YtolepebgdfdciaaGreat
open Go.Stp
set_option linter.unusedVariables false
set_option linter.unusedSimpArgs false
theorem f59 (w : World) (n : Nat) (hn : n + 2 ≤ 9) (a : StateVector) (pa : Option Addr) (ca : Nat) (N0 : RdSl (hp w) pa ca a.entries) (b : StateVector) (pb : Option Addr) (cb : Nat) (N1 : RdSl (hp w) pb cb b.entries) (hoka : GoT.ok n a) (hokb : GoT.ok n b) :
 Does Tryz.prog 59 #[.agg #[.slice pa ((a.entries).length) ca], .agg #[.slice pb ((b.entries).length) cb]] w emp (Post w emp (fun x : GoT.X (StateVector) => .agg ⟨GoT.sh ((a34 a b) : StateVector) x⟩) (fun x => GoT.oa ((a34 a b) : StateVector) x) (GoT.ok (n + 1) ((a34 a b) : StateVector))) := by
 have hbP := bd_pos n
 have hbS0 : bd (n + 1) = 4 * bd (n) := bd_succ (n := n) (by omega)
 have hbS1 : bd (n + 2) = 4 * bd (n + 1) := bd_succ (n := n + 1) (by omega)
 have hbB := bd_big (n := (n + 2)) (by omega)
 have hbM := bd_mono (show n ≤ n + 2 by omega)
 refine WX.enter (tt := tt) (Γ := [(0, MF.rs .stb pa ca a.entries), (1, MF.rs .stb pb cb b.entries)]) Tryz.func59 Z J Z (allS_cons Z N0 (allS_cons Z N1 allS_nil)) ?_
 refine R0 ?_
 refine WX.callF 2 (fun _ _ h => GoT.ow_rd h) (fun _ f hf => GoT.fak f hf) Z Z Z Z Z O Z (fun w G bs hI hΓ => f137 w n (by omega) a.entries pa ca (hΓ.get 0 Z) (ok_StateVector hoka)) O O ?_
 rintro ⟨p1, c1⟩ hq1
 have q1 := len_copyTable a.entries
 refine R0 ?_
 have r1 : (b.entries).length ≤ bd n := (okl (ok_StateVector hokb)).1
 have hA0 : a.entries.length ≤ bd n := (okl (ok_StateVector hoka)).1
 refine WX.loop (ι := Nat × (Option Addr) × Nat × (List TableEntry)) ⟨fun | (i, pout, cout, out) => (i ≤ (b.entries).length) ∧ (out.length ≤ bd (n + 1) ∧ ∀ z_ ∈ out, GoT.ok (n + 1) z_) ∧ (out.length ≤ i + ((a0a a.entries)).length) ∧ (a2e b.entries ((a0a a.entries) : List TableEntry) = a2e ((b.entries).drop i) out), fun | (i, pout, cout, out) => (b.entries).length - i, fun | (i, pout, cout, out) => [(15, .v (.int .i64 (((i : Nat) : Int)))), (14, .v (.int .i64 ((((b.entries).length : Nat) : Int)))), (13, .v (.slice pb ((b.entries).length) cb)), (5, .p 5 0), (4, .p 4 0)], fun | (i, pout, cout, out) => [(5, ⟨57, [.slice pout ((out).length) cout]⟩), (4, ⟨57, [.slice none (0) 0]⟩)], fun | (i, pout, cout, out) => [], fun | (i, pout, cout, out) => [(0, MF.rs .stb pa ca a.entries), (1, MF.rs .stb pb cb b.entries), (3, MF.os pout cout out)]⟩ (0, p1, c1, ((a0a a.entries) : List TableEntry)) ⟨(Nat.zero_le _), (GoT.okm (α := List TableEntry) (by omega) hq1), (by simp), Z⟩
  (.cons Z (.cons Z (.cons Z (.cons Z (.cons Z (.nil)))))) (.cons Z (.cons Z (.nil))) .nil [0, 1, 3] Z ?_
 rintro ⟨i, pout, cout, out⟩ hpre
 have hpre_ : (i ≤ (b.entries).length) ∧ (out.length ≤ bd (n + 1) ∧ ∀ z_ ∈ out, GoT.ok (n + 1) z_) ∧ (out.length ≤ i + ((a0a a.entries)).length) ∧ (a2e b.entries ((a0a a.entries) : List TableEntry) = a2e ((b.entries).drop i) out) := hpre
 clear hpre
 obtain ⟨v1, v2, v3, v4⟩ := hpre_
 have v2L := v2.1
 refine R0 ?_
 refine WX.cases 16 Z (fun h1 => ?_) (fun h1 => ?_)
 ·skip
  have h1d := B.dt h1
  have e1i : i < (b.entries).length := (by omega)
  obtain ⟨e1, e1h⟩ : ∃ e1, (b.entries)[i]? = some e1 := ⟨_, List.getElem?_eq_getElem e1i⟩
  have ok1 : GoT.ok n e1 := (okl (ok_StateVector hokb)).2 _ (List.mem_of_getElem? e1h)
  refine R0 ?_
  refine WX.idx 1 i ttOk Z Z Z Z Z Z Z Z Z Z e1i ?_
  rintro ad1 rfl
  refine WX.ldE 1 4 e1 ttOk Z Z Z Z Z Z Z Z e1h O O ?_
  rintro ⟨⟨p2, c2⟩, ⟨⟩⟩
  refine R0 ?_
  refine WX.der 5 (MF.rs .der pout cout out) Z (fun _ hΓ => (hΓ.get 3 Z : OwSl _ _ _ _).rd) ?_
  refine WX.draw [] mixed ?_
  intro bs G0 hΓ0
  refine DX.takes (fuel := 2) ttOk [(0, true), (1, false), (2, false), (3, true), (4, false)] J Z ?_
  refine DX.callV 5 Z J Z Z Z Z Z Z O Z (fun w G bs hI hΓ => f60 w (n + 1) (by omega) (StateVector.mk out) pout cout (hΓ.get 5 Z) e1.name p2 c2 (hΓ.get 4 Z) (okl_of v2) (GoT.okm (α := List Str) (by omega) (ok_Name (ok_TableEntry ok1).1))) ?_
  intro hq2
  refine DX.takes (fuel := 0) ttOk [(6, true)] J Z ?_
  refine DX.tail2 [] Z Z J ?_
  refine R0 ?_
  refine WX.cases 25 Z (fun h2 => ?_) (fun h2 => ?_)
  ·skip
   have h2d := B.dt h2
   refine R0 ?_
   refine WX.callF 6 (fun _ _ h => GoT.ow_rd h) (fun _ f hf => GoT.fak f hf) Z Z Z Z Z O Z (fun w G bs hI hΓ => f115 w (n + 1) (by omega) out pout cout (hΓ.get 5 Z) e1.name p2 c2 (hΓ.get 4 Z) e1.value (okl_of v2) (GoT.okm (α := List Str) (by omega) (ok_Name (ok_TableEntry ok1).1)) ((ok_TableEntry ok1).2)) O O ?_
   rintro ⟨p3, c3⟩ hq3
   have q2 := (put_impl out e1.name e1.value).len
   have hfx1 := (put_impl out e1.name e1.value).els (k := (n + 1)) v2.2 (GoT.okm (α := List Str) (by omega) (ok_Name (ok_TableEntry ok1).1)) (ok_TableEntry ok1).2
   refine R0 ?_
   refine WX.see Z Z Z (fun _ hΓ => looks_arith Z Z Z Z (by unfold I64; first | omega | (simp only [List.length_take] at *; omega))) ?_
   refine R0 ?_
   refine WX.turn [7] 3 Z (fun _ h => h) Z ?_
   have r2 : -9223372036854775808 ≤ e1.value ∧ e1.value ≤ 9223372036854775807 := (ok_TableEntry ok1).2
   have r3 : ((a0x out e1.name e1.value).1).length ≤ bd (n + 2) := (okl hq3).1
   exact WX.iter (i + 1, p3, c3, (a0x out e1.name e1.value).1) ⟨(by omega), (okl_mk (by omega) hfx1 : GoT.ok (n + 1) ((a0x out e1.name e1.value).1 : List TableEntry)), (by first | assumption | omega | (simp; omega)), (by rw [v4, drop_get e1h]; simp only [a2e, h2, ct, cf])⟩ (by first | (dsimp only; omega) | omega) (.cons Z (.cons Z (.cons Z (.cons Z (.cons Z (.nil)))))) (.cons Z (.cons Z (.nil))) .nil [0, 1, 3] Z
  have h2d := B.df h2
  refine R0 ?_
  refine WX.see Z Z Z (fun _ hΓ => looks_arith Z Z Z Z (by unfold I64; first | omega | (simp only [List.length_take] at *; omega))) ?_
  refine R0 ?_
  exact WX.iter (i + 1, pout, cout, out) ⟨(by omega), (okl_of v2), (by first | assumption | omega | (simp; omega)), (by rw [v4, drop_get e1h]; simp only [a2e, h2, ct, cf])⟩ (by first | (dsimp only; omega) | omega) (.cons Z (.cons Z (.cons Z (.cons Z (.cons Z (.nil)))))) (.cons Z (.cons Z (.nil))) .nil [0, 1, 3] Z
 have h1d := B.df h1
 refine R0 ?_
 have hX1 : a2e b.entries ((a0a a.entries) : List TableEntry) = ((out) : List TableEntry) := by rw [v4, List.drop_eq_nil_of_le (show (b.entries).length ≤ i by omega)]; simp only [a2e, ct, cf]
 have hP1 : a34 a b = (StateVector.mk out) := by simp only [a34, hX1, ct, cf]
 refine R1 ?_
 intro w1 G bs hI hΓ
 rw [hP1]
 exact Post.of [3] (pout, cout) hI hΓ Z Z Z (okl_of v2)
end Go.Proofs.YtolepebgdfdciaaGreat

namespace Go.Stp
set_option linter.unusedVariables false
set_option linter.unusedSimpArgs false
def a2p (b : (List Str)) : List Str → Nat → Option (Bool)
 | [], i => none
 | e1 :: rest_, i =>
  match (b)[i]? with
   | none => default
   | some e2 =>
    bif (!((e1).toList == (e2).toList)) then
     (some false)
    else
     a2p b rest_ (i + 1)
def a35 (a : (List Str)) (b : (List Str)) : Bool :=
 bif ((((a).length : Nat) : Int) != (((b).length : Nat) : Int)) then
  false
 else
  match a2p b a 0 with
   | some r_ => r_
   | none =>
    true
def a3h (a : Name) (b : Name) : Bool :=
 (a35 a.parts b.parts)
def a26 (b : (List TableEntry)) : List TableEntry → Nat → Option (Bool)
 | [], i => none
 | e1 :: rest_, i =>
  match (b)[i]? with
   | none => default
   | some e2 =>
    bif (e1.value != e2.value) then
     (some false)
    else
     bif (!(a3h e1.name e2.name)) then
      (some false)
     else
      a26 b rest_ (i + 1)
def a2b (a : (List TableEntry)) (b : (List TableEntry)) : Bool :=
 bif ((((a).length : Nat) : Int) != (((b).length : Nat) : Int)) then
  false
 else
  match a26 b a 0 with
   | some r_ => r_
   | none =>
    true
def a2f (b : (List UInt8)) : List UInt8 → Nat → Option (Bool)
 | [], i => none
 | e1 :: rest_, i =>
  match (b)[i]? with
   | none => default
   | some e2 =>
    bif (((e1).toNat : Int) != ((e2).toNat : Int)) then
     (some false)
    else
     a2f b rest_ (i + 1)
def a2q (a : (List UInt8)) (b : (List UInt8)) : Bool :=
 bif ((((a).length : Nat) : Int) != (((b).length : Nat) : Int)) then
  false
 else
  match a2f b a 0 with
   | some r_ => r_
   | none =>
    true
end Go.Stp

namespace Go.Proofs.YtolepebgdfdciaaGreat
open Go.Stp
set_option linter.unusedVariables false
set_option linter.unusedSimpArgs false
theorem f199 (w : World) (n : Nat) (hn : n + 0 ≤ 9) (a : (List Str)) (pa : Option Addr) (ca : Nat) (N0 : RdSl (hp w) pa ca a) (b : (List Str)) (pb : Option Addr) (cb : Nat) (N1 : RdSl (hp w) pb cb b) (hoka : GoT.ok n a) (hokb : GoT.ok n b) :
 Does Tryz.prog 199 #[.slice pa ((a).length) ca, .slice pb ((b).length) cb] w emp (fun (rv : Value) (_ : World) => rv = .bool (a35 a b) ∧ True) := by
 have hbP := bd_pos n
 have hbB := bd_big (n := n) (by omega)
 refine WX.enter (tt := tt) (Γ := [(0, MF.rs .stb pa ca a), (1, MF.rs .stb pb cb b)]) Tryz.func199 Z J Z (allS_cons Z N0 (allS_cons Z N1 allS_nil)) ?_
 refine R0 ?_
 refine WX.cases 10 Z (fun h1 => ?_) (fun h1 => ?_)
 ·skip
  have h1d := B.nt' h1
  refine R0 ?_
  have hP1 : a35 a b = false := by simp only [a35, h1, ct, cf]
  exact R3 hP1
 have h1d := B.nf' h1
 refine R0 ?_
 have r1 : (a).length ≤ bd n := (okl hoka).1
 refine WX.loop (ι := Nat) ⟨fun i => (i ≤ (a).length) ∧ (a2p b a 0 = a2p b ((a).drop i) i), fun i => (a).length - i, fun i => [(5, .v (.int .i64 (((i : Nat) : Int)))), (0, .v (.slice pa ((a).length) ca)), (1, .v (.slice pb ((b).length) cb))], fun i => [], fun i => [], fun i => [(0, MF.rs .stb pa ca a), (1, MF.rs .stb pb cb b)]⟩ 0 ⟨(Nat.zero_le _), Z⟩
  (.cons Z (.cons Z (.cons Z (.nil)))) .nil .nil [0, 1] Z ?_
 rintro i hpre
 have hpre_ : (i ≤ (a).length) ∧ (a2p b a 0 = a2p b ((a).drop i) i) := hpre
 clear hpre
 obtain ⟨v1, v2⟩ := hpre_
 refine R0 ?_
 refine WX.cases 14 Z (fun h2 => ?_) (fun h2 => ?_)
 ·skip
  have h2d := B.dt h2
  have e1i : i < (a).length := (by omega)
  obtain ⟨e1, e1h⟩ : ∃ e1, (a)[i]? = some e1 := ⟨_, List.getElem?_eq_getElem e1i⟩
  have ok1 : GoT.ok n e1 := (okl hoka).2 _ (List.mem_of_getElem? e1h)
  refine R0 ?_
  refine WX.draw [] mixed ?_
  intro bs G0 hΓ0
  refine DX.takes (fuel := 7) ttOk [(0, true), (1, true)] J Z ?_
  refine DX.idx 2 0 i ttOk hΓ0 J Z Z Z Z Z Z Z Z Z Z Z e1i ?_
  rintro ad1 rfl
  refine DX.ldE 3 0 2 e1 ttOk hΓ0 J Z Z Z Z Z Z Z Z e1h O O ?_
  rintro ⟨⟩
  refine DX.takes (fuel := 3) ttOk [(4, true), (5, true)] J Z ?_
  have e2i : i < (b).length := (by first | assumption | omega)
  obtain ⟨e2, e2h⟩ : ∃ e2, (b)[i]? = some e2 := ⟨_, List.getElem?_eq_getElem e2i⟩
  have ok2 : GoT.ok n e2 := (okl hokb).2 _ (List.mem_of_getElem? e2h)
  refine DX.idx 6 1 i ttOk hΓ0 J Z Z Z Z Z Z Z Z Z Z Z e2i ?_
  rintro ad2 rfl
  refine DX.ldE 7 1 2 e2 ttOk hΓ0 J Z Z Z Z Z Z Z Z e2h O O ?_
  rintro ⟨⟩
  refine DX.takes (fuel := 0) ttOk [(8, true)] J Z ?_
  refine DX.tail2 [] Z Z J ?_
  refine R0 ?_
  refine WX.cases 25 Z (fun h3 => ?_) (fun h3 => ?_)
  ·skip
   have h3d := B.ef (B.nt h3)
   refine R0 ?_
   have hP2 : a2p b a 0 = (some false) := by rw [v2, drop_get e1h]; simp only [a2p, e2h, h3, ct, cf]
   have hP3 : a35 a b = false := by simp only [a35, h1, hP2, ct, cf]
   exact R3 hP3
  have h3d := B.et (B.nf h3)
  refine R0 ?_
  refine WX.see Z Z Z (fun _ hΓ => looks_arith Z Z Z Z (by unfold I64; first | omega | (simp only [List.length_take] at *; omega))) ?_
  refine R0 ?_
  exact WX.iter (i + 1) ⟨(by omega), (by rw [v2, drop_get e1h]; simp only [a2p, e2h, h3, ct, cf])⟩ (by first | (dsimp only; omega) | omega) (.cons Z (.cons Z (.cons Z (.nil)))) .nil .nil [0, 1] Z
 have h2d := B.df h2
 refine R0 ?_
 have hX1 : a2p b a 0 = none := by rw [v2, List.drop_eq_nil_of_le (show (a).length ≤ i by omega)]; simp only [a2p, ct, cf]
 have hP4 : a35 a b = true := by simp only [a35, h1, hX1, ct, cf]
 exact R3 hP4
theorem f124 (w : World) (n : Nat) (hn : n + 0 ≤ 9) (a : Name) (pa : Option Addr) (ca : Nat) (N0 : RdSl (hp w) pa ca a.parts) (b : Name) (pb : Option Addr) (cb : Nat) (N1 : RdSl (hp w) pb cb b.parts) (hoka : GoT.ok n a) (hokb : GoT.ok n b) :
 Does Tryz.prog 124 #[.agg #[.slice pa ((a.parts).length) ca], .agg #[.slice pb ((b.parts).length) cb]] w emp (fun (rv : Value) (_ : World) => rv = .bool (a3h a b) ∧ True) := by
 have hbP := bd_pos n
 have hbB := bd_big (n := n) (by omega)
 refine WX.enter (tt := tt) (Γ := [(0, MF.rs .stb pa ca a.parts), (1, MF.rs .stb pb cb b.parts)]) Tryz.func124 Z J Z (allS_cons Z N0 (allS_cons Z N1 allS_nil)) ?_
 refine R0 ?_
 refine WX.callV Z Z Z Z Z O Z (fun w G bs hI hΓ => f199 w n (by omega) a.parts pa ca (hΓ.get 0 Z) b.parts pb cb (hΓ.get 1 Z) (ok_Name hoka) (ok_Name hokb)) ?_
 intro hq1
 refine R0 ?_
 have hP1 : a3h a b = (a35 a.parts b.parts) := by simp only [a3h, ct, cf]
 exact R3 hP1
theorem f52 (w : World) (n : Nat) (hn : n + 0 ≤ 9) (a : (List TableEntry)) (pa : Option Addr) (ca : Nat) (N0 : RdSl (hp w) pa ca a) (b : (List TableEntry)) (pb : Option Addr) (cb : Nat) (N1 : RdSl (hp w) pb cb b) (hoka : GoT.ok n a) (hokb : GoT.ok n b) :
 Does Tryz.prog 52 #[.slice pa ((a).length) ca, .slice pb ((b).length) cb] w emp (fun (rv : Value) (_ : World) => rv = .bool (a2b a b) ∧ True) := by
 have hbP := bd_pos n
 have hbB := bd_big (n := n) (by omega)
 refine WX.enter (tt := tt) (Γ := [(0, MF.rs .stb pa ca a), (1, MF.rs .stb pb cb b)]) Tryz.func52 Z J Z (allS_cons Z N0 (allS_cons Z N1 allS_nil)) ?_
 refine R0 ?_
 refine WX.cases 10 Z (fun h1 => ?_) (fun h1 => ?_)
 ·skip
  have h1d := B.nt' h1
  refine R0 ?_
  have hP1 : a2b a b = false := by simp only [a2b, h1, ct, cf]
  exact R3 hP1
 have h1d := B.nf' h1
 refine R0 ?_
 have r1 : (a).length ≤ bd n := (okl hoka).1
 refine WX.loop (ι := Nat) ⟨fun i => (i ≤ (a).length) ∧ (a26 b a 0 = a26 b ((a).drop i) i), fun i => (a).length - i, fun i => [(5, .v (.int .i64 (((i : Nat) : Int)))), (0, .v (.slice pa ((a).length) ca)), (1, .v (.slice pb ((b).length) cb))], fun i => [], fun i => [], fun i => [(0, MF.rs .stb pa ca a), (1, MF.rs .stb pb cb b)]⟩ 0 ⟨(Nat.zero_le _), Z⟩
  (.cons Z (.cons Z (.cons Z (.nil)))) .nil .nil [0, 1] Z ?_
 rintro i hpre
 have hpre_ : (i ≤ (a).length) ∧ (a26 b a 0 = a26 b ((a).drop i) i) := hpre
 clear hpre
 obtain ⟨v1, v2⟩ := hpre_
 refine R0 ?_
 refine WX.cases 14 Z (fun h2 => ?_) (fun h2 => ?_)
 ·skip
  have h2d := B.dt h2
  have e1i : i < (a).length := (by omega)
  obtain ⟨e1, e1h⟩ : ∃ e1, (a)[i]? = some e1 := ⟨_, List.getElem?_eq_getElem e1i⟩
  have ok1 : GoT.ok n e1 := (okl hoka).2 _ (List.mem_of_getElem? e1h)
  refine R0 ?_
  refine WX.draw [] mixed ?_
  intro bs G0 hΓ0
  refine DX.takes (fuel := 23) ttOk [(0, true), (1, true)] J Z ?_
  refine DX.idx 2 0 i ttOk hΓ0 J Z Z Z Z Z Z Z Z Z Z Z e1i ?_
  rintro ad1 rfl
  refine DX.takes (fuel := 21) ttOk [(3, true)] J Z ?_
  refine DX.ldE 4 0 2 e1 ttOk hΓ0 J Z Z Z Z Z Z Z Z e1h O O ?_
  rintro ⟨⟨p1, c1⟩, ⟨⟩⟩
  refine DX.takes (fuel := 18) ttOk [(5, true), (6, true)] J Z ?_
  have e2i : i < (b).length := (by first | assumption | omega)
  obtain ⟨e2, e2h⟩ : ∃ e2, (b)[i]? = some e2 := ⟨_, List.getElem?_eq_getElem e2i⟩
  have ok2 : GoT.ok n e2 := (okl hokb).2 _ (List.mem_of_getElem? e2h)
  refine DX.idx 7 1 i ttOk hΓ0 J Z Z Z Z Z Z Z Z Z Z Z e2i ?_
  rintro ad2 rfl
  refine DX.takes (fuel := 16) ttOk [(8, true)] J Z ?_
  refine DX.ldE 9 1 3 e2 ttOk hΓ0 J Z Z Z Z Z Z Z Z e2h O O ?_
  rintro ⟨⟨p2, c2⟩, ⟨⟩⟩
  refine DX.takes (fuel := 13) ttOk [(10, true), (11, true)] J Z ?_
  refine DX.cases 28 Z (fun h3 => ?_) (fun h3 => ?_)
  ·skip
   have h3d := B.nt' h3
   refine DX.takes (fuel := 0) ttOk [(12, true), (13, true), (14, true), (15, true), (16, true), (17, true), (18, true), (19, true), (20, true), (21, true), (22, true), (23, true), (24, true)] J Z ?_
   refine DX.tail2 [] Z Z J ?_
   refine R0 ?_
   have hP2 : a26 b a 0 = (some false) := by rw [v2, drop_get e1h]; simp only [a26, e2h, h3, ct, cf]
   have hP3 : a2b a b = false := by simp only [a2b, h1, hP2, ct, cf]
   exact R3 hP3
  have h3d := B.nf' h3
  refine DX.takes (fuel := 11) ttOk [(12, true), (13, true)] J Z ?_
  refine DX.idx 14 0 i ttOk hΓ0 J Z Z Z Z Z Z Z Z Z Z Z e1i ?_
  rintro ad3 ⟨⟩
  refine DX.takes (fuel := 9) ttOk [(15, true)] J Z ?_
  refine DX.ldE 16 0 4 e1 ttOk hΓ0 J Z Z Z Z Z Z Z Z e1h O O ?_
  rintro ⟨⟨p3, c3⟩, ⟨⟩⟩
  refine DX.takes (fuel := 6) ttOk [(17, true), (18, true)] J Z ?_
  refine DX.idx 19 1 i ttOk hΓ0 J Z Z Z Z Z Z Z Z Z Z Z e2i ?_
  rintro ad4 ⟨⟩
  refine DX.takes (fuel := 4) ttOk [(20, true)] J Z ?_
  refine DX.ldE 21 1 5 e2 ttOk hΓ0 J Z Z Z Z Z Z Z Z e2h O O ?_
  rintro ⟨⟨p4, c4⟩, ⟨⟩⟩
  refine DX.callV 22 Z J Z Z Z Z Z Z O Z (fun w G bs hI hΓ => f124 w n (by omega) e1.name p3 c3 (hΓ.get 4 Z) e2.name p4 c4 (hΓ.get 5 Z) ((ok_TableEntry ok1).1) ((ok_TableEntry ok2).1)) ?_
  intro hq1
  refine DX.takes (fuel := 0) ttOk [(23, true), (24, true)] J Z ?_
  refine DX.tail2 [] Z Z J ?_
  refine R0 ?_
  refine WX.cases 41 Z (fun h4 => ?_) (fun h4 => ?_)
  ·skip
   have h4d := (B.nt h4)
   refine R0 ?_
   have hP4 : a26 b a 0 = (some false) := by rw [v2, drop_get e1h]; simp only [a26, e2h, h3, h4, ct, cf]
   have hP5 : a2b a b = false := by simp only [a2b, h1, hP4, ct, cf]
   exact R3 hP5
  have h4d := (B.nf h4)
  refine R0 ?_
  refine WX.see Z Z Z (fun _ hΓ => looks_arith Z Z Z Z (by unfold I64; first | omega | (simp only [List.length_take] at *; omega))) ?_
  refine R0 ?_
  exact WX.iter (i + 1) ⟨(by omega), (by rw [v2, drop_get e1h]; simp only [a26, e2h, h3, h4, ct, cf])⟩ (by first | (dsimp only; omega) | omega) (.cons Z (.cons Z (.cons Z (.nil)))) .nil .nil [0, 1] Z
 have h2d := B.df h2
 refine R0 ?_
 have hX1 : a26 b a 0 = none := by rw [v2, List.drop_eq_nil_of_le (show (a).length ≤ i by omega)]; simp only [a26, ct, cf]
 have hP6 : a2b a b = true := by simp only [a2b, h1, hX1, ct, cf]
 exact R3 hP6
theorem f51 (w : World) (n : Nat) (hn : n + 0 ≤ 9) (a : (List UInt8)) (pa : Option Addr) (ca : Nat) (N0 : RdSl (hp w) pa ca a) (b : (List UInt8)) (pb : Option Addr) (cb : Nat) (N1 : RdSl (hp w) pb cb b) (hoka : GoT.ok n a) (hokb : GoT.ok n b) :
 Does Tryz.prog 51 #[.slice pa ((a).length) ca, .slice pb ((b).length) cb] w emp (fun (rv : Value) (_ : World) => rv = .bool (a2q a b) ∧ True) := by
 have hbP := bd_pos n
 have hbB := bd_big (n := n) (by omega)
 refine WX.enter (tt := tt) (Γ := [(0, MF.rs .stb pa ca a), (1, MF.rs .stb pb cb b)]) Tryz.func51 Z J Z (allS_cons Z N0 (allS_cons Z N1 allS_nil)) ?_
 refine R0 ?_
 refine WX.cases 10 Z (fun h1 => ?_) (fun h1 => ?_)
 ·skip
  have h1d := B.nt' h1
  refine R0 ?_
  have hP1 : a2q a b = false := by simp only [a2q, h1, ct, cf]
  exact R3 hP1
 have h1d := B.nf' h1
 refine R0 ?_
 have r1 : (a).length ≤ bd n := (okl hoka).1
 refine WX.loop (ι := Nat) ⟨fun i => (i ≤ (a).length) ∧ (a2f b a 0 = a2f b ((a).drop i) i), fun i => (a).length - i, fun i => [(5, .v (.int .i64 (((i : Nat) : Int)))), (0, .v (.slice pa ((a).length) ca)), (1, .v (.slice pb ((b).length) cb))], fun i => [], fun i => [], fun i => [(0, MF.rs .stb pa ca a), (1, MF.rs .stb pb cb b)]⟩ 0 ⟨(Nat.zero_le _), Z⟩
  (.cons Z (.cons Z (.cons Z (.nil)))) .nil .nil [0, 1] Z ?_
 rintro i hpre
 have hpre_ : (i ≤ (a).length) ∧ (a2f b a 0 = a2f b ((a).drop i) i) := hpre
 clear hpre
 obtain ⟨v1, v2⟩ := hpre_
 refine R0 ?_
 refine WX.cases 14 Z (fun h2 => ?_) (fun h2 => ?_)
 ·skip
  have h2d := B.dt h2
  have e1i : i < (a).length := (by omega)
  obtain ⟨e1, e1h⟩ : ∃ e1, (a)[i]? = some e1 := ⟨_, List.getElem?_eq_getElem e1i⟩
  refine R0 ?_
  refine WX.draw [] mixed ?_
  intro bs G0 hΓ0
  refine DX.takes (fuel := 7) ttOk [(0, true), (1, true)] J Z ?_
  refine DX.idx 2 0 i ttOk hΓ0 J Z Z Z Z Z Z Z Z Z Z Z e1i ?_
  rintro ad1 rfl
  refine DX.ldE 3 0 2 e1 ttOk hΓ0 J Z Z Z Z Z Z Z Z e1h O O ?_
  rintro ⟨⟩
  refine DX.takes (fuel := 3) ttOk [(4, true), (5, true)] J Z ?_
  have e2i : i < (b).length := (by first | assumption | omega)
  obtain ⟨e2, e2h⟩ : ∃ e2, (b)[i]? = some e2 := ⟨_, List.getElem?_eq_getElem e2i⟩
  refine DX.idx 6 1 i ttOk hΓ0 J Z Z Z Z Z Z Z Z Z Z Z e2i ?_
  rintro ad2 rfl
  refine DX.ldE 7 1 2 e2 ttOk hΓ0 J Z Z Z Z Z Z Z Z e2h O O ?_
  rintro ⟨⟩
  refine DX.takes (fuel := 0) ttOk [(8, true)] J Z ?_
  refine DX.tail2 [] Z Z J ?_
  refine R0 ?_
  refine WX.cases 25 Z (fun h3 => ?_) (fun h3 => ?_)
  ·skip
   have h3d := B.nt' h3
   refine R0 ?_
   have hP2 : a2f b a 0 = (some false) := by rw [v2, drop_get e1h]; simp only [a2f, e2h, h3, ct, cf]
   have hP3 : a2q a b = false := by simp only [a2q, h1, hP2, ct, cf]
   exact R3 hP3
  have h3d := B.nf' h3
  refine R0 ?_
  refine WX.see Z Z Z (fun _ hΓ => looks_arith Z Z Z Z (by unfold I64; first | omega | (simp only [List.length_take] at *; omega))) ?_
  refine R0 ?_
  exact WX.iter (i + 1) ⟨(by omega), (by rw [v2, drop_get e1h]; simp only [a2f, e2h, h3, ct, cf])⟩ (by first | (dsimp only; omega) | omega) (.cons Z (.cons Z (.cons Z (.nil)))) .nil .nil [0, 1] Z
 have h2d := B.df h2
 refine R0 ?_
 have hX1 : a2f b a 0 = none := by rw [v2, List.drop_eq_nil_of_le (show (a).length ≤ i by omega)]; simp only [a2f, ct, cf]
 have hP4 : a2q a b = true := by simp only [a2q, h1, hX1, ct, cf]
 exact R3 hP4
end Go.Proofs.YtolepebgdfdciaaGreat

namespace Go.Stp
set_option linter.unusedVariables false
set_option linter.unusedSimpArgs false
def a0l (c_b : (List UInt8)) (i : Int) (v : List TableEntry) (u999_i : Int) (u999_h : Int) : Int × (List TableEntry) × Int × Int :=
 if i > 0 then
  match a1o c_b u999_i u999_h ([(⟨#[47, 97]⟩ : Str), (⟨#[47, 98]⟩ : Str), (⟨#[47, 110, 101, 119, 115]⟩ : Str), (⟨#[47, 97, 47, 98]⟩ : Str), (⟨#[47, 99]⟩ : Str)]) with
   | (u4, u5, u6) =>
    match a08 c_b u5 u6 5 with
     | (u7, u8, u9) =>
      a0l c_b (i - 1) (((a03 v (a01 u4) (1 + u7)).1) : List TableEntry) u8 u9
 else
  (i, ((v) : List TableEntry), u999_i, u999_h)
termination_by i.toNat
decreasing_by all_goals (simp_wf; omega)
def a3o (c_b : (List UInt8)) (c_i : Int) (c_h : Int) : StateVector × Int × Int :=
 match a08 c_b c_i c_h 5 with
  | (u1, u2, u3) =>
   match a0l c_b u1 (([] : List TableEntry) : List TableEntry) u2 u3 with
    | (i, v, u999_i, u999_h) =>
     ((StateVector.mk v), u999_i, u999_h)
theorem l27DrawL (b : List UInt8) : ∀ (m : Nat) (i : Int) (v : List TableEntry) (a h : Int), i.toNat = m → v.length + m ≤ 4 → (a0l b i v a h).2.1.length ≤ 4
 | 0, i, v, a, h, hm, hl => by
  rw [a0l, if_neg (by omega)]
  exact hl
 | m + 1, i, v, a, h, hm, hl => by
  rw [a0l, if_pos (by omega)]
  rcases a1o b a h ([(⟨#[47, 97]⟩ : Str), (⟨#[47, 98]⟩ : Str), (⟨#[47, 110, 101, 119, 115]⟩ : Str), (⟨#[47, 97, 47, 98]⟩ : Str), (⟨#[47, 99]⟩ : Str)]) with ⟨x, j, k⟩
  dsimp only
  rcases a08 b j k 5 with ⟨y, j2, k2⟩
  dsimp only
  have := (put_spec v (a01 x) (1 + y)).len
  exact l27DrawL b m _ _ _ _ (by omega) (by omega)
theorem l27Draw_len (b : List UInt8) (i h : Int) : (a3o b i h).1.entries.length ≤ 4 := by
 unfold a3o
 have h1 := l1Below_rng b i h 5
 rcases e : a08 b i h 5 with ⟨x, j, k⟩
 rw [e] at h1
 dsimp only at h1 ⊢
 exact l27DrawL b _ x [] j k rfl (by simp; omega)
def a0s (c_b : (List UInt8)) (c_i : Int) (c_h : Int) : StateVector × Int × Int :=
 match a3o c_b c_i c_h with
  | (u1, u2, u3) =>
   match a08 c_b u2 u3 10 with
    | (u4, u5, u6) =>
     bif (u4 == 0) then
      match a0r c_b u5 u6 with
       | (u7, u8, u9) =>
        match a1w c_b u8 u9 ([0, 1, 1000, 1001, (-1)]) with
         | (u10, u11, u12) =>
          ((StateVector.mk (u1.entries ++ [(TableEntry.mk u7 u10)])), u11, u12)
     else
      bif (u4 == 1) then
       ((StateVector.mk (u1.entries ++ (a00 u1.entries))), u5, u6)
      else
       (u1, u5, u6)
theorem l27Any_len (b : List UInt8) (i h : Int) : (a0s b i h).1.entries.length ≤ 8 := by
 unfold a0s
 have h1 := l27Draw_len b i h
 rcases e : a3o b i h with ⟨x, j, k⟩
 rw [e] at h1
 dsimp only at h1 ⊢
 rcases a08 b j k 10 with ⟨x2, j2, k2⟩
 dsimp only
 cases (x2 == 0)
 ·simp only [cond_false]
  cases (x2 == 1)
  ·simp only [cond_false]; omega
  ·simp only [cond_true, List.length_append, len_l6Copy]; omega
 ·simp only [cond_true]
  rcases a0r b j2 k2 with ⟨x3, j3, k3⟩
  dsimp only
  rcases a1w b j3 k3 [0, 1, 1000, 1001, (-1)] with ⟨x4, j4, k4⟩
  simp only [List.length_append, List.length_cons, List.length_nil]
  omega
end Go.Stp

